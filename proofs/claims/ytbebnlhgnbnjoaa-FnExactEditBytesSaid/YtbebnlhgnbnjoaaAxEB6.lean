import Derived.Test.YtbebnlhgnbnjoaaAxSeat
set_option linter.unusedVariables false
set_option linter.unusedSimpArgs false
namespace Go.AX
open Go.Proofs

/-- The marks that are written: n, n + 1, .. -/
def marks (n : Int) (k : Nat) : List Int := (List.range k).map fun (j : Nat) => IntKind.u8.wrap (n + j)
theorem marks_len (n : Int) (k : Nat) : (marks n k).length = k := by simp [marks]
def mkSo (n : Int) (xs : List Int) (i : Nat) : List Int := marks n i ++ xs.drop i
theorem mkSo_len {n : Int} {xs : List Int} {i : Nat} (h : i ≤ xs.length) : (mkSo n xs i).length = xs.length := by simp [mkSo, marks_len]; omega
theorem mkSo_set {n : Int} {xs : List Int} {i : Nat} (h : i < xs.length) : (mkSo n xs i).set i (IntKind.u8.wrap (n + i)) = mkSo n xs (i + 1) := by
  have e : xs.drop i = xs[i] :: xs.drop (i + 1) := List.drop_eq_getElem_cons h
  unfold mkSo
  rw [e, List.set_append_right _ _ (by rw [marks_len]; exact Nat.le_refl _), marks_len, Nat.sub_self, List.set_cons_zero]
  simp [marks, List.range_succ]
theorem mkSo_zero (n : Int) (xs : List Int) : mkSo n xs 0 = xs := by simp [mkSo, marks]
theorem mkSo_all (n : Int) (xs : List Int) : mkSo n xs xs.length = marks n xs.length := by simp [mkSo]

set_option maxHeartbeats 2000000 in
set_option maxRecDepth 20000 in
theorem mark_ok (xs : List Int) (n : Int) (h0 : 0 ≤ n) (h1 : n ≤ 1048576) (hx : xs.length ≤ 1073741824) : FnMu Try.prog 24 false [] [] [(false, [dI n])] 5 1 (bD xs) (bD (marks n xs.length)) (.int .i64 (n + xs.length)) := by
  refine FnMu_body Try.func24 rfl rfl bD_ok fun u => ?_
  repeat' (first
    | refine WO_cons rfl ?_
    | (refine gate 0 rfl ?_; first
      | refine mv_v rfl rfl rfl rfl rfl ?_
      | refine mv_sl rfl rfl rfl rfl rfl ?_
      | refine mv_vw rfl rfl rfl rfl rfl ?_
      | refine mv_nl rfl rfl rfl rfl rfl ?_
      | refine mv_p rfl rfl rfl rfl rfl ?_
      | refine mv_bp rfl rfl rfl rfl rfl ?_
      | refine mv_vp rfl rfl rfl rfl rfl ?_)
    | (refine gate 12 rfl ?_; first
      | refine op_faddr_bp rfl rfl rfl rfl rfl rfl ?_
      | refine op_faddr_p rfl rfl rfl rfl rfl rfl ?_)
    | (refine gate 1 rfl ?_; first
      | refine ld_v rfl rfl rfl rfl rfl rfl rfl rfl rfl ?_
      | refine ld_sl rfl rfl rfl rfl rfl rfl rfl rfl rfl ?_
      | refine ld_vw rfl rfl rfl rfl rfl rfl rfl rfl rfl ?_
      | refine ld_nl rfl rfl rfl rfl rfl rfl rfl rfl rfl ?_
      | refine ld_bp rfl rfl rfl rfl rfl rfl rfl rfl rfl ?_
      | refine ld_p rfl rfl rfl rfl rfl rfl rfl rfl rfl ?_
      | refine op_load_agg rfl rfl rfl rfl rfl rfl rfl rfl (Nat.le_of_ble_eq_true rfl) ?_
      | refine op_load_p rfl rfl rfl rfl rfl rfl rfl ?_)
    | (refine gate 2 rfl ?_; refine op_bin rfl rfl rfl rfl rfl rfl rfl ?_)
    | (refine gate 3 rfl ?_; first
      | refine op_shift rfl rfl rfl rfl rfl rfl (by decide) (Or.inl ⟨rfl, rfl⟩) ?_
      | refine op_shift rfl rfl rfl rfl rfl rfl (by decide) (Or.inr ⟨rfl, rfl⟩) ?_)
    | (refine gate 4 rfl ?_; refine op_not rfl rfl rfl rfl rfl ?_)
    | (refine gate 5 rfl ?_; refine op_conv rfl rfl rfl rfl rfl rfl rfl ?_)
    | (refine gate 6 rfl ?_; refine op_len rfl rfl rfl rfl rfl rfl rfl ?_)
    | (refine gate 7 rfl ?_; first
      | refine pk_t rfl rfl rfl rfl rfl (by first | assumption | rfl) rfl ?_
      | refine pk_f rfl rfl rfl rfl rfl (by first | assumption | rfl) rfl ?_)
    | (refine gate 8 rfl ?_; first
      | refine op_box rfl rfl rfl rfl rfl rfl rfl rfl ?_
      | refine op_alloc rfl rfl rfl rfl rfl rfl rfl ?_)
    | (refine gate 9 rfl ?_; first
      | refine op_build rfl rfl rfl rfl rfl rfl rfl rfl rfl ?_
      | refine op_buildSlice rfl rfl rfl rfl rfl rfl rfl rfl rfl rfl rfl rfl ?_)
    | (refine gate 17 rfl ?_; first
      | refine op_append_ov rfl rfl rfl rfl rfl rfl rfl rfl rfl rfl rfl rfl rfl rfl (.inr bD_v) bD_row ?_ ?_ ?_
      | refine op_append_oo rfl rfl rfl rfl rfl rfl rfl rfl rfl rfl rfl rfl rfl (.inr bD_v) bD_row ?_ ?_ ?_
      | refine op_append_nl rfl rfl rfl rfl rfl rfl rfl rfl rfl rfl rfl rfl rfl (.inr bD_v) bD_row ?_ ?_ ?_)
    | (refine gate 10 rfl ?_; refine op_extract rfl rfl rfl rfl rfl rfl ?_)
    | (refine gate 11 rfl ?_; refine op_store rfl rfl rfl rfl rfl rfl rfl rfl (Nat.le_of_ble_eq_true rfl) (Nat.le_of_ble_eq_true rfl) rfl ?_)
    | (refine gate 16 rfl ?_; first
      | fail
      )
    | refine WO_nil ?_
    | refine W_seq ?_
    | refine W_region ?_
    | refine W_draw0 rfl rfl ?_
    | refine W_drawA rfl ?_
    | refine W_blockN ?_
    | refine W_skip ?_
    | refine W_exit ?_
    | exact over_put
    | exact over_box
    | exact over_st
    | refine W_ret ?_
    | refine W_condT rfl (by first | assumption | rfl) ?_
    | refine W_condF rfl (by first | assumption | rfl) ?_
    | (refine W_cond rfl ?_ ?_ <;> intro hq)
    | refine WO_gT rfl rfl rfl rfl (by first | assumption | rfl) ?_
    | refine WO_gF rfl rfl rfl rfl (by first | assumption | rfl) rfl rfl rfl ?_
    | (refine WO_gs rfl rfl rfl ?_ ?_ <;> intro hq)
    | refine RW_nil ?_ rfl rfl
    | (refine gateR 17 rfl ?_; first
      | refine RW_apOw rfl rfl rfl rfl rfl rfl rfl rfl rfl rfl rfl rfl rfl rfl rfl (.inr bD_v) bD_row ?_ ?_ ?_
      | refine RW_apVw rfl rfl rfl rfl rfl rfl rfl rfl rfl rfl rfl rfl rfl rfl rfl rfl rfl (.inr bD_v) bD_row ?_ ?_ ?_
      | refine RW_apOw rfl rfl rfl rfl rfl rfl rfl rfl rfl rfl rfl rfl rfl rfl rfl ?_ ?_ ?_ ?_ ?_
      | refine RW_apVw rfl rfl rfl rfl rfl rfl rfl rfl rfl rfl rfl rfl rfl rfl rfl rfl rfl ?_ ?_ ?_ ?_ ?_)
    | refine RW_op (us := ?_) (ub := ?_) rfl (fun s0 b0 => ?_) ?_
    | refine RW_opT (us := ?_) (ub := ?_) rfl rfl rfl rfl (by first | assumption | rfl) (fun s0 b0 => ?_) ?_
    | refine RW_opF rfl rfl rfl rfl (by first | assumption | rfl) rfl rfl rfl ?_
    | (refine RW_gs rfl rfl rfl ?_ ?_ <;> intro hq)
    | refine end_v rfl rfl rfl ?_
    )
  refine W_loopT (fun i : Nat => St.tmpl 20 [(0, .one (.ow ⟨5, some u⟩ 1 0 (bD (mkSo n xs i)))), (1, rI (n + i)), (5, rI i)] []) (fun i => i ≤ xs.length) (fun i => xs.length - i) 0 (Nat.zero_le _) ?_ ?_
  · refine Wk_tmpl ⟨?_, ?_, rfl, trivial⟩ trivial rfl
    · exact congrArg (fun r => SV.one (.ow ⟨5, some u⟩ 1 0 (bD r))) (mkSo_zero n xs).symm
    · exact congrArg (fun z : Int => rI z) (by simp)
  · intro i hi
    have hml := mkSo_len (n := n) hi
    by_cases hlt : i < xs.length
    · have c1 : decide ((i : Int) < ((bD (mkSo n xs i)).length : Int)) = true := by rw [bD_len, hml]; simp; exact hlt
      repeat' (first
        | refine WO_cons rfl ?_
        | (refine gate 0 rfl ?_; first
          | refine mv_v rfl rfl rfl rfl rfl ?_
          | refine mv_sl rfl rfl rfl rfl rfl ?_
          | refine mv_vw rfl rfl rfl rfl rfl ?_
          | refine mv_nl rfl rfl rfl rfl rfl ?_
          | refine mv_p rfl rfl rfl rfl rfl ?_
          | refine mv_bp rfl rfl rfl rfl rfl ?_
          | refine mv_vp rfl rfl rfl rfl rfl ?_)
        | (refine gate 12 rfl ?_; first
          | refine op_faddr_bp rfl rfl rfl rfl rfl rfl ?_
          | refine op_faddr_p rfl rfl rfl rfl rfl rfl ?_)
        | (refine gate 1 rfl ?_; first
          | refine ld_v rfl rfl rfl rfl rfl rfl rfl rfl rfl ?_
          | refine ld_sl rfl rfl rfl rfl rfl rfl rfl rfl rfl ?_
          | refine ld_vw rfl rfl rfl rfl rfl rfl rfl rfl rfl ?_
          | refine ld_nl rfl rfl rfl rfl rfl rfl rfl rfl rfl ?_
          | refine ld_bp rfl rfl rfl rfl rfl rfl rfl rfl rfl ?_
          | refine ld_p rfl rfl rfl rfl rfl rfl rfl rfl rfl ?_
          | refine op_load_agg rfl rfl rfl rfl rfl rfl rfl rfl (Nat.le_of_ble_eq_true rfl) ?_
          | refine op_load_p rfl rfl rfl rfl rfl rfl rfl ?_)
        | (refine gate 2 rfl ?_; refine op_bin rfl rfl rfl rfl rfl rfl rfl ?_)
        | (refine gate 3 rfl ?_; first
          | refine op_shift rfl rfl rfl rfl rfl rfl (by decide) (Or.inl ⟨rfl, rfl⟩) ?_
          | refine op_shift rfl rfl rfl rfl rfl rfl (by decide) (Or.inr ⟨rfl, rfl⟩) ?_)
        | (refine gate 4 rfl ?_; refine op_not rfl rfl rfl rfl rfl ?_)
        | (refine gate 5 rfl ?_; refine op_conv rfl rfl rfl rfl rfl rfl rfl ?_)
        | (refine gate 6 rfl ?_; refine op_len rfl rfl rfl rfl rfl rfl rfl ?_)
        | (refine gate 7 rfl ?_; first
          | refine pk_t rfl rfl rfl rfl rfl (by first | assumption | rfl) rfl ?_
          | refine pk_f rfl rfl rfl rfl rfl (by first | assumption | rfl) rfl ?_)
        | (refine gate 8 rfl ?_; first
          | refine op_box rfl rfl rfl rfl rfl rfl rfl rfl ?_
          | refine op_alloc rfl rfl rfl rfl rfl rfl rfl ?_)
        | (refine gate 9 rfl ?_; first
          | refine op_build rfl rfl rfl rfl rfl rfl rfl rfl rfl ?_
          | refine op_buildSlice rfl rfl rfl rfl rfl rfl rfl rfl rfl rfl rfl rfl ?_)
        | (refine gate 17 rfl ?_; first
          | refine op_append_ov rfl rfl rfl rfl rfl rfl rfl rfl rfl rfl rfl rfl rfl rfl (.inr bD_v) bD_row ?_ ?_ ?_
          | refine op_append_oo rfl rfl rfl rfl rfl rfl rfl rfl rfl rfl rfl rfl rfl (.inr bD_v) bD_row ?_ ?_ ?_
          | refine op_append_nl rfl rfl rfl rfl rfl rfl rfl rfl rfl rfl rfl rfl rfl (.inr bD_v) bD_row ?_ ?_ ?_)
        | (refine gate 10 rfl ?_; refine op_extract rfl rfl rfl rfl rfl rfl ?_)
        | (refine gate 11 rfl ?_; refine op_store rfl rfl rfl rfl rfl rfl rfl rfl (Nat.le_of_ble_eq_true rfl) (Nat.le_of_ble_eq_true rfl) rfl ?_)
        | (refine gate 16 rfl ?_; first
          | fail
          )
        | refine WO_nil ?_
        | refine W_seq ?_
        | refine W_region ?_
        | refine W_draw0 rfl rfl ?_
        | refine W_drawA rfl ?_
        | refine W_blockN ?_
        | refine W_skip ?_
        | refine W_exit ?_
        | exact over_put
        | exact over_box
        | exact over_st
        | refine W_ret ?_
        | refine W_condT rfl (by first | assumption | rfl) ?_
        | refine W_condF rfl (by first | assumption | rfl) ?_
        | (refine W_cond rfl ?_ ?_ <;> intro hq)
        | refine WO_gT rfl rfl rfl rfl (by first | assumption | rfl) ?_
        | refine WO_gF rfl rfl rfl rfl (by first | assumption | rfl) rfl rfl rfl ?_
        | (refine WO_gs rfl rfl rfl ?_ ?_ <;> intro hq)
        | refine RW_nil ?_ rfl rfl
        | (refine gateR 17 rfl ?_; first
          | refine RW_apOw rfl rfl rfl rfl rfl rfl rfl rfl rfl rfl rfl rfl rfl rfl rfl (.inr bD_v) bD_row ?_ ?_ ?_
          | refine RW_apVw rfl rfl rfl rfl rfl rfl rfl rfl rfl rfl rfl rfl rfl rfl rfl rfl rfl (.inr bD_v) bD_row ?_ ?_ ?_
          | refine RW_apOw rfl rfl rfl rfl rfl rfl rfl rfl rfl rfl rfl rfl rfl rfl rfl ?_ ?_ ?_ ?_ ?_
          | refine RW_apVw rfl rfl rfl rfl rfl rfl rfl rfl rfl rfl rfl rfl rfl rfl rfl rfl rfl ?_ ?_ ?_ ?_ ?_)
        | refine RW_op (us := ?_) (ub := ?_) rfl (fun s0 b0 => ?_) ?_
        | refine RW_opT (us := ?_) (ub := ?_) rfl rfl rfl rfl (by first | assumption | rfl) (fun s0 b0 => ?_) ?_
        | refine RW_opF rfl rfl rfl rfl (by first | assumption | rfl) rfl rfl rfl ?_
        | (refine RW_gs rfl rfl rfl ?_ ?_ <;> intro hq)
        | refine end_v rfl rfl rfl ?_
        | (refine gate 13 rfl ?_; refine op_index_ep rfl rfl rfl rfl rfl rfl rfl rfl rfl (Int.natCast_nonneg _) (by rw [bD_len, hml]; exact Int.ofNat_lt.2 hlt) ?_)
        | refine op_store_b rfl rfl rfl rfl rfl rfl rfl (by rw [hml]; exact hlt) ?_
        )
      refine ⟨i + 1, hlt, by omega, Wk_tmpl ⟨?_, ?_, ?_, trivial⟩ trivial rfl⟩
      · exact congrArg (fun r => SV.one (.ow ⟨5, some u⟩ 1 0 (bD r))) (mkSo_set hlt)
      · exact congrArg (fun z : Int => rI z) (by rw [wrap64 (by omega) (by omega)]; push_cast; omega)
      · exact congrArg (fun z : Int => rI z) (by rw [wrap64 (by omega) (by omega)]; rfl)
    · have he : i = xs.length := by omega
      have c1 : decide ((i : Int) < ((bD (mkSo n xs i)).length : Int)) = false := by rw [bD_len, hml]; simp; omega
      repeat' (first
        | refine WO_cons rfl ?_
        | (refine gate 0 rfl ?_; first
          | refine mv_v rfl rfl rfl rfl rfl ?_
          | refine mv_sl rfl rfl rfl rfl rfl ?_
          | refine mv_vw rfl rfl rfl rfl rfl ?_
          | refine mv_nl rfl rfl rfl rfl rfl ?_
          | refine mv_p rfl rfl rfl rfl rfl ?_
          | refine mv_bp rfl rfl rfl rfl rfl ?_
          | refine mv_vp rfl rfl rfl rfl rfl ?_)
        | (refine gate 12 rfl ?_; first
          | refine op_faddr_bp rfl rfl rfl rfl rfl rfl ?_
          | refine op_faddr_p rfl rfl rfl rfl rfl rfl ?_)
        | (refine gate 1 rfl ?_; first
          | refine ld_v rfl rfl rfl rfl rfl rfl rfl rfl rfl ?_
          | refine ld_sl rfl rfl rfl rfl rfl rfl rfl rfl rfl ?_
          | refine ld_vw rfl rfl rfl rfl rfl rfl rfl rfl rfl ?_
          | refine ld_nl rfl rfl rfl rfl rfl rfl rfl rfl rfl ?_
          | refine ld_bp rfl rfl rfl rfl rfl rfl rfl rfl rfl ?_
          | refine ld_p rfl rfl rfl rfl rfl rfl rfl rfl rfl ?_
          | refine op_load_agg rfl rfl rfl rfl rfl rfl rfl rfl (Nat.le_of_ble_eq_true rfl) ?_
          | refine op_load_p rfl rfl rfl rfl rfl rfl rfl ?_)
        | (refine gate 2 rfl ?_; refine op_bin rfl rfl rfl rfl rfl rfl rfl ?_)
        | (refine gate 3 rfl ?_; first
          | refine op_shift rfl rfl rfl rfl rfl rfl (by decide) (Or.inl ⟨rfl, rfl⟩) ?_
          | refine op_shift rfl rfl rfl rfl rfl rfl (by decide) (Or.inr ⟨rfl, rfl⟩) ?_)
        | (refine gate 4 rfl ?_; refine op_not rfl rfl rfl rfl rfl ?_)
        | (refine gate 5 rfl ?_; refine op_conv rfl rfl rfl rfl rfl rfl rfl ?_)
        | (refine gate 6 rfl ?_; refine op_len rfl rfl rfl rfl rfl rfl rfl ?_)
        | (refine gate 7 rfl ?_; first
          | refine pk_t rfl rfl rfl rfl rfl (by first | assumption | rfl) rfl ?_
          | refine pk_f rfl rfl rfl rfl rfl (by first | assumption | rfl) rfl ?_)
        | (refine gate 8 rfl ?_; first
          | refine op_box rfl rfl rfl rfl rfl rfl rfl rfl ?_
          | refine op_alloc rfl rfl rfl rfl rfl rfl rfl ?_)
        | (refine gate 9 rfl ?_; first
          | refine op_build rfl rfl rfl rfl rfl rfl rfl rfl rfl ?_
          | refine op_buildSlice rfl rfl rfl rfl rfl rfl rfl rfl rfl rfl rfl rfl ?_)
        | (refine gate 17 rfl ?_; first
          | refine op_append_ov rfl rfl rfl rfl rfl rfl rfl rfl rfl rfl rfl rfl rfl rfl (.inr bD_v) bD_row ?_ ?_ ?_
          | refine op_append_oo rfl rfl rfl rfl rfl rfl rfl rfl rfl rfl rfl rfl rfl (.inr bD_v) bD_row ?_ ?_ ?_
          | refine op_append_nl rfl rfl rfl rfl rfl rfl rfl rfl rfl rfl rfl rfl rfl (.inr bD_v) bD_row ?_ ?_ ?_)
        | (refine gate 10 rfl ?_; refine op_extract rfl rfl rfl rfl rfl rfl ?_)
        | (refine gate 11 rfl ?_; refine op_store rfl rfl rfl rfl rfl rfl rfl rfl (Nat.le_of_ble_eq_true rfl) (Nat.le_of_ble_eq_true rfl) rfl ?_)
        | (refine gate 16 rfl ?_; first
          | fail
          )
        | refine WO_nil ?_
        | refine W_seq ?_
        | refine W_region ?_
        | refine W_draw0 rfl rfl ?_
        | refine W_drawA rfl ?_
        | refine W_blockN ?_
        | refine W_skip ?_
        | refine W_exit ?_
        | exact over_put
        | exact over_box
        | exact over_st
        | refine W_ret ?_
        | refine W_condT rfl (by first | assumption | rfl) ?_
        | refine W_condF rfl (by first | assumption | rfl) ?_
        | (refine W_cond rfl ?_ ?_ <;> intro hq)
        | refine WO_gT rfl rfl rfl rfl (by first | assumption | rfl) ?_
        | refine WO_gF rfl rfl rfl rfl (by first | assumption | rfl) rfl rfl rfl ?_
        | (refine WO_gs rfl rfl rfl ?_ ?_ <;> intro hq)
        | refine RW_nil ?_ rfl rfl
        | (refine gateR 17 rfl ?_; first
          | refine RW_apOw rfl rfl rfl rfl rfl rfl rfl rfl rfl rfl rfl rfl rfl rfl rfl (.inr bD_v) bD_row ?_ ?_ ?_
          | refine RW_apVw rfl rfl rfl rfl rfl rfl rfl rfl rfl rfl rfl rfl rfl rfl rfl rfl rfl (.inr bD_v) bD_row ?_ ?_ ?_
          | refine RW_apOw rfl rfl rfl rfl rfl rfl rfl rfl rfl rfl rfl rfl rfl rfl rfl ?_ ?_ ?_ ?_ ?_
          | refine RW_apVw rfl rfl rfl rfl rfl rfl rfl rfl rfl rfl rfl rfl rfl rfl rfl rfl rfl ?_ ?_ ?_ ?_ ?_)
        | refine RW_op (us := ?_) (ub := ?_) rfl (fun s0 b0 => ?_) ?_
        | refine RW_opT (us := ?_) (ub := ?_) rfl rfl rfl rfl (by first | assumption | rfl) (fun s0 b0 => ?_) ?_
        | refine RW_opF rfl rfl rfl rfl (by first | assumption | rfl) rfl rfl rfl ?_
        | (refine RW_gs rfl rfl rfl ?_ ?_ <;> intro hq)
        | refine end_v rfl rfl rfl ?_
        )
      subst he
      refine ⟨rfl, 4, rfl, rfl, ?_⟩
      exact congrArg (fun r => some (C.ow ⟨5, some u⟩ 1 0 (bD r))) (mkSo_all n xs)

set_option maxHeartbeats 2000000 in
set_option maxRecDepth 20000 in
theorem mark0_ok (n : Int) : FnOK Try.prog 24 false [(false, [.sl (bD [])]), (false, [dI n])] (rI n) := by
  refine FnOK_body Try.func24 rfl rfl ?_
  repeat' (first
    | refine WO_cons rfl ?_
    | (refine gate 0 rfl ?_; first
      | refine mv_v rfl rfl rfl rfl rfl ?_
      | refine mv_sl rfl rfl rfl rfl rfl ?_
      | refine mv_vw rfl rfl rfl rfl rfl ?_
      | refine mv_nl rfl rfl rfl rfl rfl ?_
      | refine mv_p rfl rfl rfl rfl rfl ?_
      | refine mv_bp rfl rfl rfl rfl rfl ?_
      | refine mv_vp rfl rfl rfl rfl rfl ?_)
    | (refine gate 12 rfl ?_; first
      | refine op_faddr_bp rfl rfl rfl rfl rfl rfl ?_
      | refine op_faddr_p rfl rfl rfl rfl rfl rfl ?_)
    | (refine gate 1 rfl ?_; first
      | refine ld_v rfl rfl rfl rfl rfl rfl rfl rfl rfl ?_
      | refine ld_sl rfl rfl rfl rfl rfl rfl rfl rfl rfl ?_
      | refine ld_vw rfl rfl rfl rfl rfl rfl rfl rfl rfl ?_
      | refine ld_nl rfl rfl rfl rfl rfl rfl rfl rfl rfl ?_
      | refine ld_bp rfl rfl rfl rfl rfl rfl rfl rfl rfl ?_
      | refine ld_p rfl rfl rfl rfl rfl rfl rfl rfl rfl ?_
      | refine op_load_agg rfl rfl rfl rfl rfl rfl rfl rfl (Nat.le_of_ble_eq_true rfl) ?_
      | refine op_load_p rfl rfl rfl rfl rfl rfl rfl ?_)
    | (refine gate 2 rfl ?_; refine op_bin rfl rfl rfl rfl rfl rfl rfl ?_)
    | (refine gate 3 rfl ?_; first
      | refine op_shift rfl rfl rfl rfl rfl rfl (by decide) (Or.inl ⟨rfl, rfl⟩) ?_
      | refine op_shift rfl rfl rfl rfl rfl rfl (by decide) (Or.inr ⟨rfl, rfl⟩) ?_)
    | (refine gate 4 rfl ?_; refine op_not rfl rfl rfl rfl rfl ?_)
    | (refine gate 5 rfl ?_; refine op_conv rfl rfl rfl rfl rfl rfl rfl ?_)
    | (refine gate 6 rfl ?_; refine op_len rfl rfl rfl rfl rfl rfl rfl ?_)
    | (refine gate 7 rfl ?_; first
      | refine pk_t rfl rfl rfl rfl rfl (by first | assumption | rfl) rfl ?_
      | refine pk_f rfl rfl rfl rfl rfl (by first | assumption | rfl) rfl ?_)
    | (refine gate 8 rfl ?_; first
      | refine op_box rfl rfl rfl rfl rfl rfl rfl rfl ?_
      | refine op_alloc rfl rfl rfl rfl rfl rfl rfl ?_)
    | (refine gate 9 rfl ?_; first
      | refine op_build rfl rfl rfl rfl rfl rfl rfl rfl rfl ?_
      | refine op_buildSlice rfl rfl rfl rfl rfl rfl rfl rfl rfl rfl rfl rfl ?_)
    | (refine gate 17 rfl ?_; first
      | refine op_append_ov rfl rfl rfl rfl rfl rfl rfl rfl rfl rfl rfl rfl rfl rfl (.inr bD_v) bD_row ?_ ?_ ?_
      | refine op_append_oo rfl rfl rfl rfl rfl rfl rfl rfl rfl rfl rfl rfl rfl (.inr bD_v) bD_row ?_ ?_ ?_
      | refine op_append_nl rfl rfl rfl rfl rfl rfl rfl rfl rfl rfl rfl rfl rfl (.inr bD_v) bD_row ?_ ?_ ?_)
    | (refine gate 10 rfl ?_; refine op_extract rfl rfl rfl rfl rfl rfl ?_)
    | (refine gate 11 rfl ?_; refine op_store rfl rfl rfl rfl rfl rfl rfl rfl (Nat.le_of_ble_eq_true rfl) (Nat.le_of_ble_eq_true rfl) rfl ?_)
    | (refine gate 16 rfl ?_; first
      | fail
      )
    | refine WO_nil ?_
    | refine W_seq ?_
    | refine W_region ?_
    | refine W_draw0 rfl rfl ?_
    | refine W_drawA rfl ?_
    | refine W_blockN ?_
    | refine W_skip ?_
    | refine W_exit ?_
    | exact over_put
    | exact over_box
    | exact over_st
    | refine W_ret ?_
    | refine W_condT rfl (by first | assumption | rfl) ?_
    | refine W_condF rfl (by first | assumption | rfl) ?_
    | (refine W_cond rfl ?_ ?_ <;> intro hq)
    | refine WO_gT rfl rfl rfl rfl (by first | assumption | rfl) ?_
    | refine WO_gF rfl rfl rfl rfl (by first | assumption | rfl) rfl rfl rfl ?_
    | (refine WO_gs rfl rfl rfl ?_ ?_ <;> intro hq)
    | refine RW_nil ?_ rfl rfl
    | (refine gateR 17 rfl ?_; first
      | refine RW_apOw rfl rfl rfl rfl rfl rfl rfl rfl rfl rfl rfl rfl rfl rfl rfl (.inr bD_v) bD_row ?_ ?_ ?_
      | refine RW_apVw rfl rfl rfl rfl rfl rfl rfl rfl rfl rfl rfl rfl rfl rfl rfl rfl rfl (.inr bD_v) bD_row ?_ ?_ ?_
      | refine RW_apOw rfl rfl rfl rfl rfl rfl rfl rfl rfl rfl rfl rfl rfl rfl rfl ?_ ?_ ?_ ?_ ?_
      | refine RW_apVw rfl rfl rfl rfl rfl rfl rfl rfl rfl rfl rfl rfl rfl rfl rfl rfl rfl ?_ ?_ ?_ ?_ ?_)
    | refine RW_op (us := ?_) (ub := ?_) rfl (fun s0 b0 => ?_) ?_
    | refine RW_opT (us := ?_) (ub := ?_) rfl rfl rfl rfl (by first | assumption | rfl) (fun s0 b0 => ?_) ?_
    | refine RW_opF rfl rfl rfl rfl (by first | assumption | rfl) rfl rfl rfl ?_
    | (refine RW_gs rfl rfl rfl ?_ ?_ <;> intro hq)
    | refine end_v rfl rfl rfl ?_
    )
  refine W_loopT (fun _ : Unit => St.tmpl 20 [(0, .one (.d (.sl (bD [])))), (1, rI n), (5, rI 0)] []) (fun _ => True) (fun _ => 0) () trivial ?_ ?_
  · exact Wk_tmpl ⟨rfl, rfl, rfl, trivial⟩ trivial rfl
  · intro i hi
    have c1 : decide ((0 : Int) < ((bD []).length : Int)) = false := by simp [bD]
    repeat' (first
      | refine WO_cons rfl ?_
      | (refine gate 0 rfl ?_; first
        | refine mv_v rfl rfl rfl rfl rfl ?_
        | refine mv_sl rfl rfl rfl rfl rfl ?_
        | refine mv_vw rfl rfl rfl rfl rfl ?_
        | refine mv_nl rfl rfl rfl rfl rfl ?_
        | refine mv_p rfl rfl rfl rfl rfl ?_
        | refine mv_bp rfl rfl rfl rfl rfl ?_
        | refine mv_vp rfl rfl rfl rfl rfl ?_)
      | (refine gate 12 rfl ?_; first
        | refine op_faddr_bp rfl rfl rfl rfl rfl rfl ?_
        | refine op_faddr_p rfl rfl rfl rfl rfl rfl ?_)
      | (refine gate 1 rfl ?_; first
        | refine ld_v rfl rfl rfl rfl rfl rfl rfl rfl rfl ?_
        | refine ld_sl rfl rfl rfl rfl rfl rfl rfl rfl rfl ?_
        | refine ld_vw rfl rfl rfl rfl rfl rfl rfl rfl rfl ?_
        | refine ld_nl rfl rfl rfl rfl rfl rfl rfl rfl rfl ?_
        | refine ld_bp rfl rfl rfl rfl rfl rfl rfl rfl rfl ?_
        | refine ld_p rfl rfl rfl rfl rfl rfl rfl rfl rfl ?_
        | refine op_load_agg rfl rfl rfl rfl rfl rfl rfl rfl (Nat.le_of_ble_eq_true rfl) ?_
        | refine op_load_p rfl rfl rfl rfl rfl rfl rfl ?_)
      | (refine gate 2 rfl ?_; refine op_bin rfl rfl rfl rfl rfl rfl rfl ?_)
      | (refine gate 3 rfl ?_; first
        | refine op_shift rfl rfl rfl rfl rfl rfl (by decide) (Or.inl ⟨rfl, rfl⟩) ?_
        | refine op_shift rfl rfl rfl rfl rfl rfl (by decide) (Or.inr ⟨rfl, rfl⟩) ?_)
      | (refine gate 4 rfl ?_; refine op_not rfl rfl rfl rfl rfl ?_)
      | (refine gate 5 rfl ?_; refine op_conv rfl rfl rfl rfl rfl rfl rfl ?_)
      | (refine gate 6 rfl ?_; refine op_len rfl rfl rfl rfl rfl rfl rfl ?_)
      | (refine gate 7 rfl ?_; first
        | refine pk_t rfl rfl rfl rfl rfl (by first | assumption | rfl) rfl ?_
        | refine pk_f rfl rfl rfl rfl rfl (by first | assumption | rfl) rfl ?_)
      | (refine gate 8 rfl ?_; first
        | refine op_box rfl rfl rfl rfl rfl rfl rfl rfl ?_
        | refine op_alloc rfl rfl rfl rfl rfl rfl rfl ?_)
      | (refine gate 9 rfl ?_; first
        | refine op_build rfl rfl rfl rfl rfl rfl rfl rfl rfl ?_
        | refine op_buildSlice rfl rfl rfl rfl rfl rfl rfl rfl rfl rfl rfl rfl ?_)
      | (refine gate 17 rfl ?_; first
        | refine op_append_ov rfl rfl rfl rfl rfl rfl rfl rfl rfl rfl rfl rfl rfl rfl (.inr bD_v) bD_row ?_ ?_ ?_
        | refine op_append_oo rfl rfl rfl rfl rfl rfl rfl rfl rfl rfl rfl rfl rfl (.inr bD_v) bD_row ?_ ?_ ?_
        | refine op_append_nl rfl rfl rfl rfl rfl rfl rfl rfl rfl rfl rfl rfl rfl (.inr bD_v) bD_row ?_ ?_ ?_)
      | (refine gate 10 rfl ?_; refine op_extract rfl rfl rfl rfl rfl rfl ?_)
      | (refine gate 11 rfl ?_; refine op_store rfl rfl rfl rfl rfl rfl rfl rfl (Nat.le_of_ble_eq_true rfl) (Nat.le_of_ble_eq_true rfl) rfl ?_)
      | (refine gate 16 rfl ?_; first
        | fail
        )
      | refine WO_nil ?_
      | refine W_seq ?_
      | refine W_region ?_
      | refine W_draw0 rfl rfl ?_
      | refine W_drawA rfl ?_
      | refine W_blockN ?_
      | refine W_skip ?_
      | refine W_exit ?_
      | exact over_put
      | exact over_box
      | exact over_st
      | refine W_ret ?_
      | refine W_condT rfl (by first | assumption | rfl) ?_
      | refine W_condF rfl (by first | assumption | rfl) ?_
      | (refine W_cond rfl ?_ ?_ <;> intro hq)
      | refine WO_gT rfl rfl rfl rfl (by first | assumption | rfl) ?_
      | refine WO_gF rfl rfl rfl rfl (by first | assumption | rfl) rfl rfl rfl ?_
      | (refine WO_gs rfl rfl rfl ?_ ?_ <;> intro hq)
      | refine RW_nil ?_ rfl rfl
      | (refine gateR 17 rfl ?_; first
        | refine RW_apOw rfl rfl rfl rfl rfl rfl rfl rfl rfl rfl rfl rfl rfl rfl rfl (.inr bD_v) bD_row ?_ ?_ ?_
        | refine RW_apVw rfl rfl rfl rfl rfl rfl rfl rfl rfl rfl rfl rfl rfl rfl rfl rfl rfl (.inr bD_v) bD_row ?_ ?_ ?_
        | refine RW_apOw rfl rfl rfl rfl rfl rfl rfl rfl rfl rfl rfl rfl rfl rfl rfl ?_ ?_ ?_ ?_ ?_
        | refine RW_apVw rfl rfl rfl rfl rfl rfl rfl rfl rfl rfl rfl rfl rfl rfl rfl rfl rfl ?_ ?_ ?_ ?_ ?_)
      | refine RW_op (us := ?_) (ub := ?_) rfl (fun s0 b0 => ?_) ?_
      | refine RW_opT (us := ?_) (ub := ?_) rfl rfl rfl rfl (by first | assumption | rfl) (fun s0 b0 => ?_) ?_
      | refine RW_opF rfl rfl rfl rfl (by first | assumption | rfl) rfl rfl rfl ?_
      | (refine RW_gs rfl rfl rfl ?_ ?_ <;> intro hq)
      | refine end_v rfl rfl rfl ?_
      )
    rfl

set_option maxHeartbeats 2000000 in
set_option maxRecDepth 20000 in
theorem held_ok (xs : List Int) (n : Int) (h0 : 0 ≤ n) (h1 : n ≤ 1048576) (hx : xs.length ≤ 1073741824) (hm : xs = marks n xs.length) : FnOK Try.prog 25 false [(false, [.sl (bD xs)]), (false, [dI n])] (rI (n + xs.length)) := by
  refine FnOK_body Try.func25 rfl rfl ?_
  repeat' (first
    | refine WO_cons rfl ?_
    | (refine gate 0 rfl ?_; first
      | refine mv_v rfl rfl rfl rfl rfl ?_
      | refine mv_sl rfl rfl rfl rfl rfl ?_
      | refine mv_vw rfl rfl rfl rfl rfl ?_
      | refine mv_nl rfl rfl rfl rfl rfl ?_
      | refine mv_p rfl rfl rfl rfl rfl ?_
      | refine mv_bp rfl rfl rfl rfl rfl ?_
      | refine mv_vp rfl rfl rfl rfl rfl ?_)
    | (refine gate 12 rfl ?_; first
      | refine op_faddr_bp rfl rfl rfl rfl rfl rfl ?_
      | refine op_faddr_p rfl rfl rfl rfl rfl rfl ?_)
    | (refine gate 1 rfl ?_; first
      | refine ld_v rfl rfl rfl rfl rfl rfl rfl rfl rfl ?_
      | refine ld_sl rfl rfl rfl rfl rfl rfl rfl rfl rfl ?_
      | refine ld_vw rfl rfl rfl rfl rfl rfl rfl rfl rfl ?_
      | refine ld_nl rfl rfl rfl rfl rfl rfl rfl rfl rfl ?_
      | refine ld_bp rfl rfl rfl rfl rfl rfl rfl rfl rfl ?_
      | refine ld_p rfl rfl rfl rfl rfl rfl rfl rfl rfl ?_
      | refine op_load_agg rfl rfl rfl rfl rfl rfl rfl rfl (Nat.le_of_ble_eq_true rfl) ?_
      | refine op_load_p rfl rfl rfl rfl rfl rfl rfl ?_)
    | (refine gate 2 rfl ?_; refine op_bin rfl rfl rfl rfl rfl rfl rfl ?_)
    | (refine gate 3 rfl ?_; first
      | refine op_shift rfl rfl rfl rfl rfl rfl (by decide) (Or.inl ⟨rfl, rfl⟩) ?_
      | refine op_shift rfl rfl rfl rfl rfl rfl (by decide) (Or.inr ⟨rfl, rfl⟩) ?_)
    | (refine gate 4 rfl ?_; refine op_not rfl rfl rfl rfl rfl ?_)
    | (refine gate 5 rfl ?_; refine op_conv rfl rfl rfl rfl rfl rfl rfl ?_)
    | (refine gate 6 rfl ?_; refine op_len rfl rfl rfl rfl rfl rfl rfl ?_)
    | (refine gate 7 rfl ?_; first
      | refine pk_t rfl rfl rfl rfl rfl (by first | assumption | rfl) rfl ?_
      | refine pk_f rfl rfl rfl rfl rfl (by first | assumption | rfl) rfl ?_)
    | (refine gate 8 rfl ?_; first
      | refine op_box rfl rfl rfl rfl rfl rfl rfl rfl ?_
      | refine op_alloc rfl rfl rfl rfl rfl rfl rfl ?_)
    | (refine gate 9 rfl ?_; first
      | refine op_build rfl rfl rfl rfl rfl rfl rfl rfl rfl ?_
      | refine op_buildSlice rfl rfl rfl rfl rfl rfl rfl rfl rfl rfl rfl rfl ?_)
    | (refine gate 17 rfl ?_; first
      | refine op_append_ov rfl rfl rfl rfl rfl rfl rfl rfl rfl rfl rfl rfl rfl rfl (.inr bD_v) bD_row ?_ ?_ ?_
      | refine op_append_oo rfl rfl rfl rfl rfl rfl rfl rfl rfl rfl rfl rfl rfl (.inr bD_v) bD_row ?_ ?_ ?_
      | refine op_append_nl rfl rfl rfl rfl rfl rfl rfl rfl rfl rfl rfl rfl rfl (.inr bD_v) bD_row ?_ ?_ ?_)
    | (refine gate 10 rfl ?_; refine op_extract rfl rfl rfl rfl rfl rfl ?_)
    | (refine gate 11 rfl ?_; refine op_store rfl rfl rfl rfl rfl rfl rfl rfl (Nat.le_of_ble_eq_true rfl) (Nat.le_of_ble_eq_true rfl) rfl ?_)
    | (refine gate 16 rfl ?_; first
      | fail
      )
    | refine WO_nil ?_
    | refine W_seq ?_
    | refine W_region ?_
    | refine W_draw0 rfl rfl ?_
    | refine W_drawA rfl ?_
    | refine W_blockN ?_
    | refine W_skip ?_
    | refine W_exit ?_
    | exact over_put
    | exact over_box
    | exact over_st
    | refine W_ret ?_
    | refine W_condT rfl (by first | assumption | rfl) ?_
    | refine W_condF rfl (by first | assumption | rfl) ?_
    | (refine W_cond rfl ?_ ?_ <;> intro hq)
    | refine WO_gT rfl rfl rfl rfl (by first | assumption | rfl) ?_
    | refine WO_gF rfl rfl rfl rfl (by first | assumption | rfl) rfl rfl rfl ?_
    | (refine WO_gs rfl rfl rfl ?_ ?_ <;> intro hq)
    | refine RW_nil ?_ rfl rfl
    | (refine gateR 17 rfl ?_; first
      | refine RW_apOw rfl rfl rfl rfl rfl rfl rfl rfl rfl rfl rfl rfl rfl rfl rfl (.inr bD_v) bD_row ?_ ?_ ?_
      | refine RW_apVw rfl rfl rfl rfl rfl rfl rfl rfl rfl rfl rfl rfl rfl rfl rfl rfl rfl (.inr bD_v) bD_row ?_ ?_ ?_
      | refine RW_apOw rfl rfl rfl rfl rfl rfl rfl rfl rfl rfl rfl rfl rfl rfl rfl ?_ ?_ ?_ ?_ ?_
      | refine RW_apVw rfl rfl rfl rfl rfl rfl rfl rfl rfl rfl rfl rfl rfl rfl rfl rfl rfl ?_ ?_ ?_ ?_ ?_)
    | refine RW_op (us := ?_) (ub := ?_) rfl (fun s0 b0 => ?_) ?_
    | refine RW_opT (us := ?_) (ub := ?_) rfl rfl rfl rfl (by first | assumption | rfl) (fun s0 b0 => ?_) ?_
    | refine RW_opF rfl rfl rfl rfl (by first | assumption | rfl) rfl rfl rfl ?_
    | (refine RW_gs rfl rfl rfl ?_ ?_ <;> intro hq)
    | refine end_v rfl rfl rfl ?_
    )
  refine W_loopT (fun i : Nat => St.tmpl 22 [(0, .one (.d (.sl (bD xs)))), (1, rI (n + i)), (5, rI i)] []) (fun i => i ≤ xs.length) (fun i => xs.length - i) 0 (Nat.zero_le _) ?_ ?_
  · refine Wk_tmpl ⟨rfl, ?_, rfl, trivial⟩ trivial rfl
    exact congrArg (fun z : Int => rI z) (by simp)
  · intro i hi
    by_cases hlt : i < xs.length
    · have c1 : decide ((i : Int) < ((bD xs).length : Int)) = true := by rw [bD_len]; simp; exact hlt
      have c2 : (xs.getD i 0 != IntKind.u8.wrap (n + i)) = false := by
        have hg : xs[i]? = some (IntKind.u8.wrap (n + i)) := by
          rw [hm]; simp [marks, hlt]
        simp [List.getD_eq_getElem?_getD, hg]
      repeat' (first
        | refine WO_cons rfl ?_
        | (refine gate 0 rfl ?_; first
          | refine mv_v rfl rfl rfl rfl rfl ?_
          | refine mv_sl rfl rfl rfl rfl rfl ?_
          | refine mv_vw rfl rfl rfl rfl rfl ?_
          | refine mv_nl rfl rfl rfl rfl rfl ?_
          | refine mv_p rfl rfl rfl rfl rfl ?_
          | refine mv_bp rfl rfl rfl rfl rfl ?_
          | refine mv_vp rfl rfl rfl rfl rfl ?_)
        | (refine gate 12 rfl ?_; first
          | refine op_faddr_bp rfl rfl rfl rfl rfl rfl ?_
          | refine op_faddr_p rfl rfl rfl rfl rfl rfl ?_)
        | (refine gate 1 rfl ?_; first
          | refine ld_v rfl rfl rfl rfl rfl rfl rfl rfl rfl ?_
          | refine ld_sl rfl rfl rfl rfl rfl rfl rfl rfl rfl ?_
          | refine ld_vw rfl rfl rfl rfl rfl rfl rfl rfl rfl ?_
          | refine ld_nl rfl rfl rfl rfl rfl rfl rfl rfl rfl ?_
          | refine ld_bp rfl rfl rfl rfl rfl rfl rfl rfl rfl ?_
          | refine ld_p rfl rfl rfl rfl rfl rfl rfl rfl rfl ?_
          | refine op_load_agg rfl rfl rfl rfl rfl rfl rfl rfl (Nat.le_of_ble_eq_true rfl) ?_
          | refine op_load_p rfl rfl rfl rfl rfl rfl rfl ?_)
        | (refine gate 2 rfl ?_; refine op_bin rfl rfl rfl rfl rfl rfl rfl ?_)
        | (refine gate 3 rfl ?_; first
          | refine op_shift rfl rfl rfl rfl rfl rfl (by decide) (Or.inl ⟨rfl, rfl⟩) ?_
          | refine op_shift rfl rfl rfl rfl rfl rfl (by decide) (Or.inr ⟨rfl, rfl⟩) ?_)
        | (refine gate 4 rfl ?_; refine op_not rfl rfl rfl rfl rfl ?_)
        | (refine gate 5 rfl ?_; refine op_conv rfl rfl rfl rfl rfl rfl rfl ?_)
        | (refine gate 6 rfl ?_; refine op_len rfl rfl rfl rfl rfl rfl rfl ?_)
        | (refine gate 7 rfl ?_; first
          | refine pk_t rfl rfl rfl rfl rfl (by first | assumption | rfl) rfl ?_
          | refine pk_f rfl rfl rfl rfl rfl (by first | assumption | rfl) rfl ?_)
        | (refine gate 8 rfl ?_; first
          | refine op_box rfl rfl rfl rfl rfl rfl rfl rfl ?_
          | refine op_alloc rfl rfl rfl rfl rfl rfl rfl ?_)
        | (refine gate 9 rfl ?_; first
          | refine op_build rfl rfl rfl rfl rfl rfl rfl rfl rfl ?_
          | refine op_buildSlice rfl rfl rfl rfl rfl rfl rfl rfl rfl rfl rfl rfl ?_)
        | (refine gate 17 rfl ?_; first
          | refine op_append_ov rfl rfl rfl rfl rfl rfl rfl rfl rfl rfl rfl rfl rfl rfl (.inr bD_v) bD_row ?_ ?_ ?_
          | refine op_append_oo rfl rfl rfl rfl rfl rfl rfl rfl rfl rfl rfl rfl rfl (.inr bD_v) bD_row ?_ ?_ ?_
          | refine op_append_nl rfl rfl rfl rfl rfl rfl rfl rfl rfl rfl rfl rfl rfl (.inr bD_v) bD_row ?_ ?_ ?_)
        | (refine gate 10 rfl ?_; refine op_extract rfl rfl rfl rfl rfl rfl ?_)
        | (refine gate 11 rfl ?_; refine op_store rfl rfl rfl rfl rfl rfl rfl rfl (Nat.le_of_ble_eq_true rfl) (Nat.le_of_ble_eq_true rfl) rfl ?_)
        | (refine gate 16 rfl ?_; first
          | fail
          )
        | refine WO_nil ?_
        | refine W_seq ?_
        | refine W_region ?_
        | refine W_draw0 rfl rfl ?_
        | refine W_drawA rfl ?_
        | refine W_blockN ?_
        | refine W_skip ?_
        | refine W_exit ?_
        | exact over_put
        | exact over_box
        | exact over_st
        | refine W_ret ?_
        | refine W_condT rfl (by first | assumption | rfl) ?_
        | refine W_condF rfl (by first | assumption | rfl) ?_
        | (refine W_cond rfl ?_ ?_ <;> intro hq)
        | refine WO_gT rfl rfl rfl rfl (by first | assumption | rfl) ?_
        | refine WO_gF rfl rfl rfl rfl (by first | assumption | rfl) rfl rfl rfl ?_
        | (refine WO_gs rfl rfl rfl ?_ ?_ <;> intro hq)
        | refine RW_nil ?_ rfl rfl
        | (refine gateR 17 rfl ?_; first
          | refine RW_apOw rfl rfl rfl rfl rfl rfl rfl rfl rfl rfl rfl rfl rfl rfl rfl (.inr bD_v) bD_row ?_ ?_ ?_
          | refine RW_apVw rfl rfl rfl rfl rfl rfl rfl rfl rfl rfl rfl rfl rfl rfl rfl rfl rfl (.inr bD_v) bD_row ?_ ?_ ?_
          | refine RW_apOw rfl rfl rfl rfl rfl rfl rfl rfl rfl rfl rfl rfl rfl rfl rfl ?_ ?_ ?_ ?_ ?_
          | refine RW_apVw rfl rfl rfl rfl rfl rfl rfl rfl rfl rfl rfl rfl rfl rfl rfl rfl rfl ?_ ?_ ?_ ?_ ?_)
        | refine RW_op (us := ?_) (ub := ?_) rfl (fun s0 b0 => ?_) ?_
        | refine RW_opT (us := ?_) (ub := ?_) rfl rfl rfl rfl (by first | assumption | rfl) (fun s0 b0 => ?_) ?_
        | refine RW_opF rfl rfl rfl rfl (by first | assumption | rfl) rfl rfl rfl ?_
        | (refine RW_gs rfl rfl rfl ?_ ?_ <;> intro hq)
        | refine end_v rfl rfl rfl ?_
        | (refine gate 13 rfl ?_; refine op_index_b rfl rfl rfl rfl rfl rfl rfl rfl (Int.natCast_nonneg _) (Int.ofNat_lt.2 hlt) ?_)
        )
      refine ⟨i + 1, hlt, by omega, Wk_tmpl ⟨rfl, ?_, ?_, trivial⟩ trivial rfl⟩
      · exact congrArg (fun z : Int => rI z) (by rw [wrap64 (by omega) (by omega)]; push_cast; omega)
      · exact congrArg (fun z : Int => rI z) (by rw [wrap64 (by omega) (by omega)]; rfl)
    · have he : i = xs.length := by omega
      have c1 : decide ((i : Int) < ((bD xs).length : Int)) = false := by rw [bD_len]; simp; omega
      repeat' (first
        | refine WO_cons rfl ?_
        | (refine gate 0 rfl ?_; first
          | refine mv_v rfl rfl rfl rfl rfl ?_
          | refine mv_sl rfl rfl rfl rfl rfl ?_
          | refine mv_vw rfl rfl rfl rfl rfl ?_
          | refine mv_nl rfl rfl rfl rfl rfl ?_
          | refine mv_p rfl rfl rfl rfl rfl ?_
          | refine mv_bp rfl rfl rfl rfl rfl ?_
          | refine mv_vp rfl rfl rfl rfl rfl ?_)
        | (refine gate 12 rfl ?_; first
          | refine op_faddr_bp rfl rfl rfl rfl rfl rfl ?_
          | refine op_faddr_p rfl rfl rfl rfl rfl rfl ?_)
        | (refine gate 1 rfl ?_; first
          | refine ld_v rfl rfl rfl rfl rfl rfl rfl rfl rfl ?_
          | refine ld_sl rfl rfl rfl rfl rfl rfl rfl rfl rfl ?_
          | refine ld_vw rfl rfl rfl rfl rfl rfl rfl rfl rfl ?_
          | refine ld_nl rfl rfl rfl rfl rfl rfl rfl rfl rfl ?_
          | refine ld_bp rfl rfl rfl rfl rfl rfl rfl rfl rfl ?_
          | refine ld_p rfl rfl rfl rfl rfl rfl rfl rfl rfl ?_
          | refine op_load_agg rfl rfl rfl rfl rfl rfl rfl rfl (Nat.le_of_ble_eq_true rfl) ?_
          | refine op_load_p rfl rfl rfl rfl rfl rfl rfl ?_)
        | (refine gate 2 rfl ?_; refine op_bin rfl rfl rfl rfl rfl rfl rfl ?_)
        | (refine gate 3 rfl ?_; first
          | refine op_shift rfl rfl rfl rfl rfl rfl (by decide) (Or.inl ⟨rfl, rfl⟩) ?_
          | refine op_shift rfl rfl rfl rfl rfl rfl (by decide) (Or.inr ⟨rfl, rfl⟩) ?_)
        | (refine gate 4 rfl ?_; refine op_not rfl rfl rfl rfl rfl ?_)
        | (refine gate 5 rfl ?_; refine op_conv rfl rfl rfl rfl rfl rfl rfl ?_)
        | (refine gate 6 rfl ?_; refine op_len rfl rfl rfl rfl rfl rfl rfl ?_)
        | (refine gate 7 rfl ?_; first
          | refine pk_t rfl rfl rfl rfl rfl (by first | assumption | rfl) rfl ?_
          | refine pk_f rfl rfl rfl rfl rfl (by first | assumption | rfl) rfl ?_)
        | (refine gate 8 rfl ?_; first
          | refine op_box rfl rfl rfl rfl rfl rfl rfl rfl ?_
          | refine op_alloc rfl rfl rfl rfl rfl rfl rfl ?_)
        | (refine gate 9 rfl ?_; first
          | refine op_build rfl rfl rfl rfl rfl rfl rfl rfl rfl ?_
          | refine op_buildSlice rfl rfl rfl rfl rfl rfl rfl rfl rfl rfl rfl rfl ?_)
        | (refine gate 17 rfl ?_; first
          | refine op_append_ov rfl rfl rfl rfl rfl rfl rfl rfl rfl rfl rfl rfl rfl rfl (.inr bD_v) bD_row ?_ ?_ ?_
          | refine op_append_oo rfl rfl rfl rfl rfl rfl rfl rfl rfl rfl rfl rfl rfl (.inr bD_v) bD_row ?_ ?_ ?_
          | refine op_append_nl rfl rfl rfl rfl rfl rfl rfl rfl rfl rfl rfl rfl rfl (.inr bD_v) bD_row ?_ ?_ ?_)
        | (refine gate 10 rfl ?_; refine op_extract rfl rfl rfl rfl rfl rfl ?_)
        | (refine gate 11 rfl ?_; refine op_store rfl rfl rfl rfl rfl rfl rfl rfl (Nat.le_of_ble_eq_true rfl) (Nat.le_of_ble_eq_true rfl) rfl ?_)
        | (refine gate 16 rfl ?_; first
          | fail
          )
        | refine WO_nil ?_
        | refine W_seq ?_
        | refine W_region ?_
        | refine W_draw0 rfl rfl ?_
        | refine W_drawA rfl ?_
        | refine W_blockN ?_
        | refine W_skip ?_
        | refine W_exit ?_
        | exact over_put
        | exact over_box
        | exact over_st
        | refine W_ret ?_
        | refine W_condT rfl (by first | assumption | rfl) ?_
        | refine W_condF rfl (by first | assumption | rfl) ?_
        | (refine W_cond rfl ?_ ?_ <;> intro hq)
        | refine WO_gT rfl rfl rfl rfl (by first | assumption | rfl) ?_
        | refine WO_gF rfl rfl rfl rfl (by first | assumption | rfl) rfl rfl rfl ?_
        | (refine WO_gs rfl rfl rfl ?_ ?_ <;> intro hq)
        | refine RW_nil ?_ rfl rfl
        | (refine gateR 17 rfl ?_; first
          | refine RW_apOw rfl rfl rfl rfl rfl rfl rfl rfl rfl rfl rfl rfl rfl rfl rfl (.inr bD_v) bD_row ?_ ?_ ?_
          | refine RW_apVw rfl rfl rfl rfl rfl rfl rfl rfl rfl rfl rfl rfl rfl rfl rfl rfl rfl (.inr bD_v) bD_row ?_ ?_ ?_
          | refine RW_apOw rfl rfl rfl rfl rfl rfl rfl rfl rfl rfl rfl rfl rfl rfl rfl ?_ ?_ ?_ ?_ ?_
          | refine RW_apVw rfl rfl rfl rfl rfl rfl rfl rfl rfl rfl rfl rfl rfl rfl rfl rfl rfl ?_ ?_ ?_ ?_ ?_)
        | refine RW_op (us := ?_) (ub := ?_) rfl (fun s0 b0 => ?_) ?_
        | refine RW_opT (us := ?_) (ub := ?_) rfl rfl rfl rfl (by first | assumption | rfl) (fun s0 b0 => ?_) ?_
        | refine RW_opF rfl rfl rfl rfl (by first | assumption | rfl) rfl rfl rfl ?_
        | (refine RW_gs rfl rfl rfl ?_ ?_ <;> intro hq)
        | refine end_v rfl rfl rfl ?_
        )
      rw [he]

set_option maxHeartbeats 2000000 in
set_option maxRecDepth 20000 in
theorem markEdit_ok (a b : Int) (p : List Int) (n : Int) (h0 : 0 ≤ n) (h1 : n ≤ 1048576) (hx : p.length ≤ 1073741824) : FnMu Try.prog 23 true [dI a, dI b] [] [(false, [dI n])] 5 1 (bD p) (bD (marks n p.length)) (.int .i64 (n + p.length)) := by
  refine FnMu_body Try.func23 rfl rfl bD_ok fun u => ?_
  repeat' (first
    | refine WO_cons rfl ?_
    | (refine gate 0 rfl ?_; first
      | refine mv_v rfl rfl rfl rfl rfl ?_
      | refine mv_sl rfl rfl rfl rfl rfl ?_
      | refine mv_vw rfl rfl rfl rfl rfl ?_
      | refine mv_nl rfl rfl rfl rfl rfl ?_
      | refine mv_p rfl rfl rfl rfl rfl ?_
      | refine mv_bp rfl rfl rfl rfl rfl ?_
      | refine mv_vp rfl rfl rfl rfl rfl ?_)
    | (refine gate 12 rfl ?_; first
      | refine op_faddr_bp rfl rfl rfl rfl rfl rfl ?_
      | refine op_faddr_p rfl rfl rfl rfl rfl rfl ?_)
    | (refine gate 1 rfl ?_; first
      | refine ld_v rfl rfl rfl rfl rfl rfl rfl rfl rfl ?_
      | refine ld_sl rfl rfl rfl rfl rfl rfl rfl rfl rfl ?_
      | refine ld_vw rfl rfl rfl rfl rfl rfl rfl rfl rfl ?_
      | refine ld_nl rfl rfl rfl rfl rfl rfl rfl rfl rfl ?_
      | refine ld_bp rfl rfl rfl rfl rfl rfl rfl rfl rfl ?_
      | refine ld_p rfl rfl rfl rfl rfl rfl rfl rfl rfl ?_
      | refine op_load_agg rfl rfl rfl rfl rfl rfl rfl rfl (Nat.le_of_ble_eq_true rfl) ?_
      | refine op_load_p rfl rfl rfl rfl rfl rfl rfl ?_)
    | (refine gate 2 rfl ?_; refine op_bin rfl rfl rfl rfl rfl rfl rfl ?_)
    | (refine gate 3 rfl ?_; first
      | refine op_shift rfl rfl rfl rfl rfl rfl (by decide) (Or.inl ⟨rfl, rfl⟩) ?_
      | refine op_shift rfl rfl rfl rfl rfl rfl (by decide) (Or.inr ⟨rfl, rfl⟩) ?_)
    | (refine gate 4 rfl ?_; refine op_not rfl rfl rfl rfl rfl ?_)
    | (refine gate 5 rfl ?_; refine op_conv rfl rfl rfl rfl rfl rfl rfl ?_)
    | (refine gate 6 rfl ?_; refine op_len rfl rfl rfl rfl rfl rfl rfl ?_)
    | (refine gate 7 rfl ?_; first
      | refine pk_t rfl rfl rfl rfl rfl (by first | assumption | rfl) rfl ?_
      | refine pk_f rfl rfl rfl rfl rfl (by first | assumption | rfl) rfl ?_)
    | (refine gate 8 rfl ?_; first
      | refine op_box rfl rfl rfl rfl rfl rfl rfl rfl ?_
      | refine op_alloc rfl rfl rfl rfl rfl rfl rfl ?_)
    | (refine gate 9 rfl ?_; first
      | refine op_build rfl rfl rfl rfl rfl rfl rfl rfl rfl ?_
      | refine op_buildSlice rfl rfl rfl rfl rfl rfl rfl rfl rfl rfl rfl rfl ?_)
    | (refine gate 17 rfl ?_; first
      | refine op_append_ov rfl rfl rfl rfl rfl rfl rfl rfl rfl rfl rfl rfl rfl rfl (.inr bD_v) bD_row ?_ ?_ ?_
      | refine op_append_oo rfl rfl rfl rfl rfl rfl rfl rfl rfl rfl rfl rfl rfl (.inr bD_v) bD_row ?_ ?_ ?_
      | refine op_append_nl rfl rfl rfl rfl rfl rfl rfl rfl rfl rfl rfl rfl rfl (.inr bD_v) bD_row ?_ ?_ ?_)
    | (refine gate 10 rfl ?_; refine op_extract rfl rfl rfl rfl rfl rfl ?_)
    | (refine gate 11 rfl ?_; refine op_store rfl rfl rfl rfl rfl rfl rfl rfl (Nat.le_of_ble_eq_true rfl) (Nat.le_of_ble_eq_true rfl) rfl ?_)
    | (refine gate 16 rfl ?_; first
      | refine op_call_mu (p := ⟨false, 0, 2⟩) (e := ⟨5, some u⟩) (size := 1) (rs' := bD (marks n p.length)) rfl rfl rfl rfl rfl rfl rfl rfl rfl rfl rfl rfl rfl (by rw [bD_len, bD_len, marks_len]) rfl (mark_ok p n h0 h1 hx) ?_
      )
    | refine WO_nil ?_
    | refine W_seq ?_
    | refine W_region ?_
    | refine W_draw0 rfl rfl ?_
    | refine W_drawA rfl ?_
    | refine W_blockN ?_
    | refine W_skip ?_
    | refine W_exit ?_
    | exact over_put
    | exact over_box
    | exact over_st
    | refine W_ret ?_
    | refine W_condT rfl (by first | assumption | rfl) ?_
    | refine W_condF rfl (by first | assumption | rfl) ?_
    | (refine W_cond rfl ?_ ?_ <;> intro hq)
    | refine WO_gT rfl rfl rfl rfl (by first | assumption | rfl) ?_
    | refine WO_gF rfl rfl rfl rfl (by first | assumption | rfl) rfl rfl rfl ?_
    | (refine WO_gs rfl rfl rfl ?_ ?_ <;> intro hq)
    | refine RW_nil ?_ rfl rfl
    | (refine gateR 17 rfl ?_; first
      | refine RW_apOw rfl rfl rfl rfl rfl rfl rfl rfl rfl rfl rfl rfl rfl rfl rfl (.inr bD_v) bD_row ?_ ?_ ?_
      | refine RW_apVw rfl rfl rfl rfl rfl rfl rfl rfl rfl rfl rfl rfl rfl rfl rfl rfl rfl (.inr bD_v) bD_row ?_ ?_ ?_
      | refine RW_apOw rfl rfl rfl rfl rfl rfl rfl rfl rfl rfl rfl rfl rfl rfl rfl ?_ ?_ ?_ ?_ ?_
      | refine RW_apVw rfl rfl rfl rfl rfl rfl rfl rfl rfl rfl rfl rfl rfl rfl rfl rfl rfl ?_ ?_ ?_ ?_ ?_)
    | refine RW_op (us := ?_) (ub := ?_) rfl (fun s0 b0 => ?_) ?_
    | refine RW_opT (us := ?_) (ub := ?_) rfl rfl rfl rfl (by first | assumption | rfl) (fun s0 b0 => ?_) ?_
    | refine RW_opF rfl rfl rfl rfl (by first | assumption | rfl) rfl rfl rfl ?_
    | (refine RW_gs rfl rfl rfl ?_ ?_ <;> intro hq)
    | refine end_v rfl rfl rfl ?_
    )
  exact ⟨rfl, 4, rfl, rfl, rfl⟩

set_option maxHeartbeats 2000000 in
set_option maxRecDepth 20000 in
theorem toEdit_ok (a b : Int) (p : List Int) (hl : p.length ≤ 1048576) (ht : FnOK Try.prog 27 false [(false, [.sl (bD p)])] (.one (.ow 5 1 0 (bD p)))) : FnOK Try.prog 19 false [aEd a b p] (.ag [.d (dI a), .d (dI b), .ow 5 1 0 (bD p)]) := by
  refine FnOK_body Try.func19 rfl rfl ?_
  repeat' (first
    | refine WO_cons rfl ?_
    | (refine gate 0 rfl ?_; first
      | refine mv_v rfl rfl rfl rfl rfl ?_
      | refine mv_sl rfl rfl rfl rfl rfl ?_
      | refine mv_vw rfl rfl rfl rfl rfl ?_
      | refine mv_nl rfl rfl rfl rfl rfl ?_
      | refine mv_p rfl rfl rfl rfl rfl ?_
      | refine mv_bp rfl rfl rfl rfl rfl ?_
      | refine mv_vp rfl rfl rfl rfl rfl ?_)
    | (refine gate 12 rfl ?_; first
      | refine op_faddr_bp rfl rfl rfl rfl rfl rfl ?_
      | refine op_faddr_p rfl rfl rfl rfl rfl rfl ?_)
    | (refine gate 1 rfl ?_; first
      | refine ld_v rfl rfl rfl rfl rfl rfl rfl rfl rfl ?_
      | refine ld_sl rfl rfl rfl rfl rfl rfl rfl rfl rfl ?_
      | refine ld_vw rfl rfl rfl rfl rfl rfl rfl rfl rfl ?_
      | refine ld_nl rfl rfl rfl rfl rfl rfl rfl rfl rfl ?_
      | refine ld_bp rfl rfl rfl rfl rfl rfl rfl rfl rfl ?_
      | refine ld_p rfl rfl rfl rfl rfl rfl rfl rfl rfl ?_
      | refine op_load_agg rfl rfl rfl rfl rfl rfl rfl rfl (Nat.le_of_ble_eq_true rfl) ?_
      | refine op_load_p rfl rfl rfl rfl rfl rfl rfl ?_)
    | (refine gate 2 rfl ?_; refine op_bin rfl rfl rfl rfl rfl rfl rfl ?_)
    | (refine gate 3 rfl ?_; first
      | refine op_shift rfl rfl rfl rfl rfl rfl (by decide) (Or.inl ⟨rfl, rfl⟩) ?_
      | refine op_shift rfl rfl rfl rfl rfl rfl (by decide) (Or.inr ⟨rfl, rfl⟩) ?_)
    | (refine gate 4 rfl ?_; refine op_not rfl rfl rfl rfl rfl ?_)
    | (refine gate 5 rfl ?_; refine op_conv rfl rfl rfl rfl rfl rfl rfl ?_)
    | (refine gate 6 rfl ?_; refine op_len rfl rfl rfl rfl rfl rfl rfl ?_)
    | (refine gate 7 rfl ?_; first
      | refine pk_t rfl rfl rfl rfl rfl (by first | assumption | rfl) rfl ?_
      | refine pk_f rfl rfl rfl rfl rfl (by first | assumption | rfl) rfl ?_)
    | (refine gate 8 rfl ?_; first
      | refine op_box rfl rfl rfl rfl rfl rfl rfl rfl ?_
      | refine op_alloc rfl rfl rfl rfl rfl rfl rfl ?_)
    | (refine gate 9 rfl ?_; first
      | refine op_build rfl rfl rfl rfl rfl rfl rfl rfl rfl ?_
      | refine op_buildSlice rfl rfl rfl rfl rfl rfl rfl rfl rfl rfl rfl rfl ?_)
    | (refine gate 17 rfl ?_; first
      | refine op_append_ov rfl rfl rfl rfl rfl rfl rfl rfl rfl rfl rfl rfl rfl rfl (.inr bD_v) bD_row ?_ ?_ ?_
      | refine op_append_oo rfl rfl rfl rfl rfl rfl rfl rfl rfl rfl rfl rfl rfl (.inr bD_v) bD_row ?_ ?_ ?_
      | refine op_append_nl rfl rfl rfl rfl rfl rfl rfl rfl rfl rfl rfl rfl rfl (.inr bD_v) bD_row ?_ ?_ ?_)
    | (refine gate 10 rfl ?_; refine op_extract rfl rfl rfl rfl rfl rfl ?_)
    | (refine gate 11 rfl ?_; refine op_store rfl rfl rfl rfl rfl rfl rfl rfl (Nat.le_of_ble_eq_true rfl) (Nat.le_of_ble_eq_true rfl) rfl ?_)
    | (refine gate 16 rfl ?_; first
      | refine op_call rfl rfl rfl rfl rfl rfl rfl rfl ht ?_
      )
    | refine WO_nil ?_
    | refine W_seq ?_
    | refine W_region ?_
    | refine W_draw0 rfl rfl ?_
    | refine W_drawA rfl ?_
    | refine W_blockN ?_
    | refine W_skip ?_
    | refine W_exit ?_
    | exact over_put
    | exact over_box
    | exact over_st
    | refine W_ret ?_
    | refine W_condT rfl (by first | assumption | rfl) ?_
    | refine W_condF rfl (by first | assumption | rfl) ?_
    | (refine W_cond rfl ?_ ?_ <;> intro hq)
    | refine WO_gT rfl rfl rfl rfl (by first | assumption | rfl) ?_
    | refine WO_gF rfl rfl rfl rfl (by first | assumption | rfl) rfl rfl rfl ?_
    | (refine WO_gs rfl rfl rfl ?_ ?_ <;> intro hq)
    | refine RW_nil ?_ rfl rfl
    | (refine gateR 17 rfl ?_; first
      | refine RW_apOw rfl rfl rfl rfl rfl rfl rfl rfl rfl rfl rfl rfl rfl rfl rfl (.inr bD_v) bD_row ?_ ?_ ?_
      | refine RW_apVw rfl rfl rfl rfl rfl rfl rfl rfl rfl rfl rfl rfl rfl rfl rfl rfl rfl (.inr bD_v) bD_row ?_ ?_ ?_
      | refine RW_apOw rfl rfl rfl rfl rfl rfl rfl rfl rfl rfl rfl rfl rfl rfl rfl ?_ ?_ ?_ ?_ ?_
      | refine RW_apVw rfl rfl rfl rfl rfl rfl rfl rfl rfl rfl rfl rfl rfl rfl rfl rfl rfl ?_ ?_ ?_ ?_ ?_)
    | refine RW_op (us := ?_) (ub := ?_) rfl (fun s0 b0 => ?_) ?_
    | refine RW_opT (us := ?_) (ub := ?_) rfl rfl rfl rfl (by first | assumption | rfl) (fun s0 b0 => ?_) ?_
    | refine RW_opF rfl rfl rfl rfl (by first | assumption | rfl) rfl rfl rfl ?_
    | (refine RW_gs rfl rfl rfl ?_ ?_ <;> intro hq)
    | refine end_v rfl rfl rfl ?_
    )
  refine ⟨_, Wk_give (p := ⟨false, 12, 0⟩) (q := ⟨true, 2, 2⟩) rfl rfl, end_cell (cs := [.d (dI a), .d (dI b), .ow 5 1 0 (bD p)]) rfl rfl rfl rfl rfl rfl rfl ?_ rfl⟩
  intro c hc
  simp only [List.mem_cons, List.not_mem_nil, or_false] at hc
  rcases hc with rfl | rfl | rfl
  · exact .inr ⟨_, rfl⟩
  · exact .inr ⟨_, rfl⟩
  · exact ⟨.inr bD_ok, rfl⟩
end Go.AX
