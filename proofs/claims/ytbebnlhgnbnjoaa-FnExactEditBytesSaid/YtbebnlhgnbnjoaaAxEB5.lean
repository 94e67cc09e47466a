import Derived.Test.YtbebnlhgnbnjoaaAxSeat
set_option linter.unusedVariables false
set_option linter.unusedSimpArgs false
namespace Go.AX
open Go.Proofs

set_option maxHeartbeats 2000000 in
set_option maxRecDepth 20000 in
theorem szByteS_ok (xs : List Int) (n : Int) (h0 : 0 ≤ n) (h1 : n ≤ 1048576) (hx : xs.length ≤ 9223372036854775807) : FnOK Try.prog 45 false [(false, [.sl (bD xs)]), (false, [dI n])] (rI (if n - xs.length < 0 then -1 else n - xs.length)) := by
  have w1 : IntKind.i64.wrap (n - ((bD xs).length : Int)) = n - xs.length := by rw [bD_len, wrap64 (by omega) (by omega)]
  refine FnOK_body Try.func45 rfl rfl ?_
  repeat' (first
    | refine WO_cons rfl ?_
    | (refine gate 0 rfl ?_; first
      | refine mv_v rfl rfl rfl rfl rfl ?_
      | refine mv_sl rfl rfl rfl rfl rfl ?_
      | refine mv_vw rfl rfl rfl rfl rfl ?_
      | refine mv_nl rfl rfl rfl rfl rfl ?_
      | refine mv_p rfl rfl rfl rfl rfl ?_
      | refine mv_bp rfl rfl rfl rfl rfl ?_
      | refine mv_vp rfl rfl rfl rfl rfl ?_)
    | (refine gate 12 rfl ?_; first
      | refine op_faddr_bp rfl rfl rfl rfl rfl rfl ?_
      | refine op_faddr_p rfl rfl rfl rfl rfl rfl ?_)
    | (refine gate 1 rfl ?_; first
      | refine ld_v rfl rfl rfl rfl rfl rfl rfl rfl rfl ?_
      | refine ld_sl rfl rfl rfl rfl rfl rfl rfl rfl rfl ?_
      | refine ld_vw rfl rfl rfl rfl rfl rfl rfl rfl rfl ?_
      | refine ld_nl rfl rfl rfl rfl rfl rfl rfl rfl rfl ?_
      | refine ld_bp rfl rfl rfl rfl rfl rfl rfl rfl rfl ?_
      | refine ld_p rfl rfl rfl rfl rfl rfl rfl rfl rfl ?_
      | refine op_load_agg rfl rfl rfl rfl rfl rfl rfl rfl (Nat.le_of_ble_eq_true rfl) ?_
      | refine op_load_p rfl rfl rfl rfl rfl rfl rfl ?_)
    | (refine gate 2 rfl ?_; refine op_bin rfl rfl rfl rfl rfl rfl rfl ?_)
    | (refine gate 3 rfl ?_; first
      | refine op_shift rfl rfl rfl rfl rfl rfl (by decide) (Or.inl ⟨rfl, rfl⟩) ?_
      | refine op_shift rfl rfl rfl rfl rfl rfl (by decide) (Or.inr ⟨rfl, rfl⟩) ?_)
    | (refine gate 4 rfl ?_; refine op_not rfl rfl rfl rfl rfl ?_)
    | (refine gate 5 rfl ?_; refine op_conv rfl rfl rfl rfl rfl rfl rfl ?_)
    | (refine gate 6 rfl ?_; refine op_len rfl rfl rfl rfl rfl rfl rfl ?_)
    | (refine gate 7 rfl ?_; first
      | refine pk_t rfl rfl rfl rfl rfl (by first | assumption | rfl) rfl ?_
      | refine pk_f rfl rfl rfl rfl rfl (by first | assumption | rfl) rfl ?_)
    | (refine gate 8 rfl ?_; first
      | refine op_box rfl rfl rfl rfl rfl rfl rfl rfl ?_
      | refine op_alloc rfl rfl rfl rfl rfl rfl rfl ?_)
    | (refine gate 9 rfl ?_; first
      | refine op_build rfl rfl rfl rfl rfl rfl rfl rfl rfl ?_
      | refine op_buildSlice rfl rfl rfl rfl rfl rfl rfl rfl rfl rfl rfl rfl ?_)
    | (refine gate 17 rfl ?_; first
      | refine op_append_ov rfl rfl rfl rfl rfl rfl rfl rfl rfl rfl rfl rfl rfl rfl (.inr bD_v) bD_row ?_ ?_ ?_
      | refine op_append_oo rfl rfl rfl rfl rfl rfl rfl rfl rfl rfl rfl rfl rfl (.inr bD_v) bD_row ?_ ?_ ?_
      | refine op_append_nl rfl rfl rfl rfl rfl rfl rfl rfl rfl rfl rfl rfl rfl (.inr bD_v) bD_row ?_ ?_ ?_)
    | (refine gate 10 rfl ?_; refine op_extract rfl rfl rfl rfl rfl rfl ?_)
    | (refine gate 11 rfl ?_; refine op_store rfl rfl rfl rfl rfl rfl rfl rfl (Nat.le_of_ble_eq_true rfl) (Nat.le_of_ble_eq_true rfl) rfl ?_)
    | (refine gate 16 rfl ?_; first
      | fail
      )
    | refine WO_nil ?_
    | refine W_seq ?_
    | refine W_region ?_
    | refine W_draw0 rfl rfl ?_
    | refine W_drawA rfl ?_
    | refine W_blockN ?_
    | refine W_skip ?_
    | refine W_exit ?_
    | exact over_put
    | exact over_box
    | exact over_st
    | refine W_ret ?_
    | refine W_condT rfl (by first | assumption | rfl) ?_
    | refine W_condF rfl (by first | assumption | rfl) ?_
    | (refine W_cond rfl ?_ ?_ <;> intro hq)
    | refine WO_gT rfl rfl rfl rfl (by first | assumption | rfl) ?_
    | refine WO_gF rfl rfl rfl rfl (by first | assumption | rfl) rfl rfl rfl ?_
    | (refine WO_gs rfl rfl rfl ?_ ?_ <;> intro hq)
    | refine RW_nil ?_ rfl rfl
    | (refine gateR 17 rfl ?_; first
      | refine RW_apOw rfl rfl rfl rfl rfl rfl rfl rfl rfl rfl rfl rfl rfl rfl rfl (.inr bD_v) bD_row ?_ ?_ ?_
      | refine RW_apVw rfl rfl rfl rfl rfl rfl rfl rfl rfl rfl rfl rfl rfl rfl rfl rfl rfl (.inr bD_v) bD_row ?_ ?_ ?_
      | refine RW_apOw rfl rfl rfl rfl rfl rfl rfl rfl rfl rfl rfl rfl rfl rfl rfl ?_ ?_ ?_ ?_ ?_
      | refine RW_apVw rfl rfl rfl rfl rfl rfl rfl rfl rfl rfl rfl rfl rfl rfl rfl rfl rfl ?_ ?_ ?_ ?_ ?_)
    | refine RW_op (us := ?_) (ub := ?_) rfl (fun s0 b0 => ?_) ?_
    | refine RW_opT (us := ?_) (ub := ?_) rfl rfl rfl rfl (by first | assumption | rfl) (fun s0 b0 => ?_) ?_
    | refine RW_opF rfl rfl rfl rfl (by first | assumption | rfl) rfl rfl rfl ?_
    | (refine RW_gs rfl rfl rfl ?_ ?_ <;> intro hq)
    | refine end_v rfl rfl rfl ?_
    )
  all_goals (rw [w1] at hq)
  · simp at hq; rw [if_pos (by omega)]
  · simp at hq; rw [if_neg (by omega), w1]

set_option maxHeartbeats 2000000 in
set_option maxRecDepth 20000 in
theorem eqByteS_ok (xs ys : List Int) (hx : xs.length ≤ 1073741824) (hy : ys.length ≤ 1073741824) : FnOK Try.prog 21 false [(false, [.sl (bD xs)]), (false, [.sl (bD ys)])] (rB (decide (xs = ys))) := by
  by_cases hl : xs.length = ys.length
  · have c0 : (((bD xs).length : Int) != ((bD ys).length : Int)) = false := by rw [bD_len, bD_len, hl]; simp
    refine FnOK_body Try.func21 rfl rfl ?_
    repeat' (first
      | refine WO_cons rfl ?_
      | (refine gate 0 rfl ?_; first
        | refine mv_v rfl rfl rfl rfl rfl ?_
        | refine mv_sl rfl rfl rfl rfl rfl ?_
        | refine mv_vw rfl rfl rfl rfl rfl ?_
        | refine mv_nl rfl rfl rfl rfl rfl ?_
        | refine mv_p rfl rfl rfl rfl rfl ?_
        | refine mv_bp rfl rfl rfl rfl rfl ?_
        | refine mv_vp rfl rfl rfl rfl rfl ?_)
      | (refine gate 12 rfl ?_; first
        | refine op_faddr_bp rfl rfl rfl rfl rfl rfl ?_
        | refine op_faddr_p rfl rfl rfl rfl rfl rfl ?_)
      | (refine gate 1 rfl ?_; first
        | refine ld_v rfl rfl rfl rfl rfl rfl rfl rfl rfl ?_
        | refine ld_sl rfl rfl rfl rfl rfl rfl rfl rfl rfl ?_
        | refine ld_vw rfl rfl rfl rfl rfl rfl rfl rfl rfl ?_
        | refine ld_nl rfl rfl rfl rfl rfl rfl rfl rfl rfl ?_
        | refine ld_bp rfl rfl rfl rfl rfl rfl rfl rfl rfl ?_
        | refine ld_p rfl rfl rfl rfl rfl rfl rfl rfl rfl ?_
        | refine op_load_agg rfl rfl rfl rfl rfl rfl rfl rfl (Nat.le_of_ble_eq_true rfl) ?_
        | refine op_load_p rfl rfl rfl rfl rfl rfl rfl ?_)
      | (refine gate 2 rfl ?_; refine op_bin rfl rfl rfl rfl rfl rfl rfl ?_)
      | (refine gate 3 rfl ?_; first
        | refine op_shift rfl rfl rfl rfl rfl rfl (by decide) (Or.inl ⟨rfl, rfl⟩) ?_
        | refine op_shift rfl rfl rfl rfl rfl rfl (by decide) (Or.inr ⟨rfl, rfl⟩) ?_)
      | (refine gate 4 rfl ?_; refine op_not rfl rfl rfl rfl rfl ?_)
      | (refine gate 5 rfl ?_; refine op_conv rfl rfl rfl rfl rfl rfl rfl ?_)
      | (refine gate 6 rfl ?_; refine op_len rfl rfl rfl rfl rfl rfl rfl ?_)
      | (refine gate 7 rfl ?_; first
        | refine pk_t rfl rfl rfl rfl rfl (by first | assumption | rfl) rfl ?_
        | refine pk_f rfl rfl rfl rfl rfl (by first | assumption | rfl) rfl ?_)
      | (refine gate 8 rfl ?_; first
        | refine op_box rfl rfl rfl rfl rfl rfl rfl rfl ?_
        | refine op_alloc rfl rfl rfl rfl rfl rfl rfl ?_)
      | (refine gate 9 rfl ?_; first
        | refine op_build rfl rfl rfl rfl rfl rfl rfl rfl rfl ?_
        | refine op_buildSlice rfl rfl rfl rfl rfl rfl rfl rfl rfl rfl rfl rfl ?_)
      | (refine gate 17 rfl ?_; first
        | refine op_append_ov rfl rfl rfl rfl rfl rfl rfl rfl rfl rfl rfl rfl rfl rfl (.inr bD_v) bD_row ?_ ?_ ?_
        | refine op_append_oo rfl rfl rfl rfl rfl rfl rfl rfl rfl rfl rfl rfl rfl (.inr bD_v) bD_row ?_ ?_ ?_
        | refine op_append_nl rfl rfl rfl rfl rfl rfl rfl rfl rfl rfl rfl rfl rfl (.inr bD_v) bD_row ?_ ?_ ?_)
      | (refine gate 10 rfl ?_; refine op_extract rfl rfl rfl rfl rfl rfl ?_)
      | (refine gate 11 rfl ?_; refine op_store rfl rfl rfl rfl rfl rfl rfl rfl (Nat.le_of_ble_eq_true rfl) (Nat.le_of_ble_eq_true rfl) rfl ?_)
      | (refine gate 16 rfl ?_; first
        | fail
        )
      | refine WO_nil ?_
      | refine W_seq ?_
      | refine W_region ?_
      | refine W_draw0 rfl rfl ?_
      | refine W_drawA rfl ?_
      | refine W_blockN ?_
      | refine W_skip ?_
      | refine W_exit ?_
      | exact over_put
      | exact over_box
      | exact over_st
      | refine W_ret ?_
      | refine W_condT rfl (by first | assumption | rfl) ?_
      | refine W_condF rfl (by first | assumption | rfl) ?_
      | (refine W_cond rfl ?_ ?_ <;> intro hq)
      | refine WO_gT rfl rfl rfl rfl (by first | assumption | rfl) ?_
      | refine WO_gF rfl rfl rfl rfl (by first | assumption | rfl) rfl rfl rfl ?_
      | (refine WO_gs rfl rfl rfl ?_ ?_ <;> intro hq)
      | refine RW_nil ?_ rfl rfl
      | (refine gateR 17 rfl ?_; first
        | refine RW_apOw rfl rfl rfl rfl rfl rfl rfl rfl rfl rfl rfl rfl rfl rfl rfl (.inr bD_v) bD_row ?_ ?_ ?_
        | refine RW_apVw rfl rfl rfl rfl rfl rfl rfl rfl rfl rfl rfl rfl rfl rfl rfl rfl rfl (.inr bD_v) bD_row ?_ ?_ ?_
        | refine RW_apOw rfl rfl rfl rfl rfl rfl rfl rfl rfl rfl rfl rfl rfl rfl rfl ?_ ?_ ?_ ?_ ?_
        | refine RW_apVw rfl rfl rfl rfl rfl rfl rfl rfl rfl rfl rfl rfl rfl rfl rfl rfl rfl ?_ ?_ ?_ ?_ ?_)
      | refine RW_op (us := ?_) (ub := ?_) rfl (fun s0 b0 => ?_) ?_
      | refine RW_opT (us := ?_) (ub := ?_) rfl rfl rfl rfl (by first | assumption | rfl) (fun s0 b0 => ?_) ?_
      | refine RW_opF rfl rfl rfl rfl (by first | assumption | rfl) rfl rfl rfl ?_
      | (refine RW_gs rfl rfl rfl ?_ ?_ <;> intro hq)
      | refine end_v rfl rfl rfl ?_
      )
    refine W_loopT (fun i : Nat => St.tmpl 26 [(0, .one (.d (.sl (bD xs)))), (1, .one (.d (.sl (bD ys)))), (5, rI i)] []) (fun i => i ≤ xs.length ∧ xs.take i = ys.take i) (fun i => xs.length - i) 0 ⟨Nat.zero_le _, by simp⟩ ?_ ?_
    · exact Wk_tmpl ⟨rfl, rfl, rfl, trivial⟩ trivial rfl
    · rintro i ⟨hi, hpre⟩
      by_cases hlt : i < xs.length
      · have hlt2 : i < ys.length := by omega
        have c1 : decide ((i : Int) < ((bD xs).length : Int)) = true := by rw [bD_len]; simp; exact hlt
        repeat' (first
          | refine WO_cons rfl ?_
          | (refine gate 0 rfl ?_; first
            | refine mv_v rfl rfl rfl rfl rfl ?_
            | refine mv_sl rfl rfl rfl rfl rfl ?_
            | refine mv_vw rfl rfl rfl rfl rfl ?_
            | refine mv_nl rfl rfl rfl rfl rfl ?_
            | refine mv_p rfl rfl rfl rfl rfl ?_
            | refine mv_bp rfl rfl rfl rfl rfl ?_
            | refine mv_vp rfl rfl rfl rfl rfl ?_)
          | (refine gate 12 rfl ?_; first
            | refine op_faddr_bp rfl rfl rfl rfl rfl rfl ?_
            | refine op_faddr_p rfl rfl rfl rfl rfl rfl ?_)
          | (refine gate 1 rfl ?_; first
            | refine ld_v rfl rfl rfl rfl rfl rfl rfl rfl rfl ?_
            | refine ld_sl rfl rfl rfl rfl rfl rfl rfl rfl rfl ?_
            | refine ld_vw rfl rfl rfl rfl rfl rfl rfl rfl rfl ?_
            | refine ld_nl rfl rfl rfl rfl rfl rfl rfl rfl rfl ?_
            | refine ld_bp rfl rfl rfl rfl rfl rfl rfl rfl rfl ?_
            | refine ld_p rfl rfl rfl rfl rfl rfl rfl rfl rfl ?_
            | refine op_load_agg rfl rfl rfl rfl rfl rfl rfl rfl (Nat.le_of_ble_eq_true rfl) ?_
            | refine op_load_p rfl rfl rfl rfl rfl rfl rfl ?_)
          | (refine gate 2 rfl ?_; refine op_bin rfl rfl rfl rfl rfl rfl rfl ?_)
          | (refine gate 3 rfl ?_; first
            | refine op_shift rfl rfl rfl rfl rfl rfl (by decide) (Or.inl ⟨rfl, rfl⟩) ?_
            | refine op_shift rfl rfl rfl rfl rfl rfl (by decide) (Or.inr ⟨rfl, rfl⟩) ?_)
          | (refine gate 4 rfl ?_; refine op_not rfl rfl rfl rfl rfl ?_)
          | (refine gate 5 rfl ?_; refine op_conv rfl rfl rfl rfl rfl rfl rfl ?_)
          | (refine gate 6 rfl ?_; refine op_len rfl rfl rfl rfl rfl rfl rfl ?_)
          | (refine gate 7 rfl ?_; first
            | refine pk_t rfl rfl rfl rfl rfl (by first | assumption | rfl) rfl ?_
            | refine pk_f rfl rfl rfl rfl rfl (by first | assumption | rfl) rfl ?_)
          | (refine gate 8 rfl ?_; first
            | refine op_box rfl rfl rfl rfl rfl rfl rfl rfl ?_
            | refine op_alloc rfl rfl rfl rfl rfl rfl rfl ?_)
          | (refine gate 9 rfl ?_; first
            | refine op_build rfl rfl rfl rfl rfl rfl rfl rfl rfl ?_
            | refine op_buildSlice rfl rfl rfl rfl rfl rfl rfl rfl rfl rfl rfl rfl ?_)
          | (refine gate 17 rfl ?_; first
            | refine op_append_ov rfl rfl rfl rfl rfl rfl rfl rfl rfl rfl rfl rfl rfl rfl (.inr bD_v) bD_row ?_ ?_ ?_
            | refine op_append_oo rfl rfl rfl rfl rfl rfl rfl rfl rfl rfl rfl rfl rfl (.inr bD_v) bD_row ?_ ?_ ?_
            | refine op_append_nl rfl rfl rfl rfl rfl rfl rfl rfl rfl rfl rfl rfl rfl (.inr bD_v) bD_row ?_ ?_ ?_)
          | (refine gate 10 rfl ?_; refine op_extract rfl rfl rfl rfl rfl rfl ?_)
          | (refine gate 11 rfl ?_; refine op_store rfl rfl rfl rfl rfl rfl rfl rfl (Nat.le_of_ble_eq_true rfl) (Nat.le_of_ble_eq_true rfl) rfl ?_)
          | (refine gate 16 rfl ?_; first
            | fail
            )
          | refine WO_nil ?_
          | refine W_seq ?_
          | refine W_region ?_
          | refine W_draw0 rfl rfl ?_
          | refine W_drawA rfl ?_
          | refine W_blockN ?_
          | refine W_skip ?_
          | refine W_exit ?_
          | exact over_put
          | exact over_box
          | exact over_st
          | refine W_ret ?_
          | refine W_condT rfl (by first | assumption | rfl) ?_
          | refine W_condF rfl (by first | assumption | rfl) ?_
          | (refine W_cond rfl ?_ ?_ <;> intro hq)
          | refine WO_gT rfl rfl rfl rfl (by first | assumption | rfl) ?_
          | refine WO_gF rfl rfl rfl rfl (by first | assumption | rfl) rfl rfl rfl ?_
          | (refine WO_gs rfl rfl rfl ?_ ?_ <;> intro hq)
          | refine RW_nil ?_ rfl rfl
          | (refine gateR 17 rfl ?_; first
            | refine RW_apOw rfl rfl rfl rfl rfl rfl rfl rfl rfl rfl rfl rfl rfl rfl rfl (.inr bD_v) bD_row ?_ ?_ ?_
            | refine RW_apVw rfl rfl rfl rfl rfl rfl rfl rfl rfl rfl rfl rfl rfl rfl rfl rfl rfl (.inr bD_v) bD_row ?_ ?_ ?_
            | refine RW_apOw rfl rfl rfl rfl rfl rfl rfl rfl rfl rfl rfl rfl rfl rfl rfl ?_ ?_ ?_ ?_ ?_
            | refine RW_apVw rfl rfl rfl rfl rfl rfl rfl rfl rfl rfl rfl rfl rfl rfl rfl rfl rfl ?_ ?_ ?_ ?_ ?_)
          | refine RW_op (us := ?_) (ub := ?_) rfl (fun s0 b0 => ?_) ?_
          | refine RW_opT (us := ?_) (ub := ?_) rfl rfl rfl rfl (by first | assumption | rfl) (fun s0 b0 => ?_) ?_
          | refine RW_opF rfl rfl rfl rfl (by first | assumption | rfl) rfl rfl rfl ?_
          | (refine RW_gs rfl rfl rfl ?_ ?_ <;> intro hq)
          | refine end_v rfl rfl rfl ?_
          | (refine gate 13 rfl ?_; first | refine op_index_b rfl rfl rfl rfl rfl rfl rfl rfl (Int.natCast_nonneg _) (Int.ofNat_lt.2 hlt) ?_ | refine op_index_b rfl rfl rfl rfl rfl rfl rfl rfl (Int.natCast_nonneg _) (Int.ofNat_lt.2 hlt2) ?_)
          )
        · have : xs ≠ ys := fun h => by subst h; simp at hq
          simp [this]
        · have hg : xs.getD i 0 = ys.getD i 0 := by simpa using hq
          refine ⟨i + 1, ⟨hlt, ?_⟩, by omega, Wk_tmpl ⟨rfl, rfl, ?_, trivial⟩ trivial rfl⟩
          · rw [List.take_add_one, List.take_add_one, hpre]
            congr 2
            rw [List.getElem?_eq_getElem hlt, List.getElem?_eq_getElem hlt2]
            simp [hlt, hlt2] at hg
            rw [hg]
          · exact congrArg (fun z : Int => rI z) (by rw [wrap64 (by omega) (by omega)]; rfl)
      · have he : i = xs.length := by omega
        have c1 : decide ((i : Int) < ((bD xs).length : Int)) = false := by rw [bD_len]; simp; omega
        repeat' (first
          | refine WO_cons rfl ?_
          | (refine gate 0 rfl ?_; first
            | refine mv_v rfl rfl rfl rfl rfl ?_
            | refine mv_sl rfl rfl rfl rfl rfl ?_
            | refine mv_vw rfl rfl rfl rfl rfl ?_
            | refine mv_nl rfl rfl rfl rfl rfl ?_
            | refine mv_p rfl rfl rfl rfl rfl ?_
            | refine mv_bp rfl rfl rfl rfl rfl ?_
            | refine mv_vp rfl rfl rfl rfl rfl ?_)
          | (refine gate 12 rfl ?_; first
            | refine op_faddr_bp rfl rfl rfl rfl rfl rfl ?_
            | refine op_faddr_p rfl rfl rfl rfl rfl rfl ?_)
          | (refine gate 1 rfl ?_; first
            | refine ld_v rfl rfl rfl rfl rfl rfl rfl rfl rfl ?_
            | refine ld_sl rfl rfl rfl rfl rfl rfl rfl rfl rfl ?_
            | refine ld_vw rfl rfl rfl rfl rfl rfl rfl rfl rfl ?_
            | refine ld_nl rfl rfl rfl rfl rfl rfl rfl rfl rfl ?_
            | refine ld_bp rfl rfl rfl rfl rfl rfl rfl rfl rfl ?_
            | refine ld_p rfl rfl rfl rfl rfl rfl rfl rfl rfl ?_
            | refine op_load_agg rfl rfl rfl rfl rfl rfl rfl rfl (Nat.le_of_ble_eq_true rfl) ?_
            | refine op_load_p rfl rfl rfl rfl rfl rfl rfl ?_)
          | (refine gate 2 rfl ?_; refine op_bin rfl rfl rfl rfl rfl rfl rfl ?_)
          | (refine gate 3 rfl ?_; first
            | refine op_shift rfl rfl rfl rfl rfl rfl (by decide) (Or.inl ⟨rfl, rfl⟩) ?_
            | refine op_shift rfl rfl rfl rfl rfl rfl (by decide) (Or.inr ⟨rfl, rfl⟩) ?_)
          | (refine gate 4 rfl ?_; refine op_not rfl rfl rfl rfl rfl ?_)
          | (refine gate 5 rfl ?_; refine op_conv rfl rfl rfl rfl rfl rfl rfl ?_)
          | (refine gate 6 rfl ?_; refine op_len rfl rfl rfl rfl rfl rfl rfl ?_)
          | (refine gate 7 rfl ?_; first
            | refine pk_t rfl rfl rfl rfl rfl (by first | assumption | rfl) rfl ?_
            | refine pk_f rfl rfl rfl rfl rfl (by first | assumption | rfl) rfl ?_)
          | (refine gate 8 rfl ?_; first
            | refine op_box rfl rfl rfl rfl rfl rfl rfl rfl ?_
            | refine op_alloc rfl rfl rfl rfl rfl rfl rfl ?_)
          | (refine gate 9 rfl ?_; first
            | refine op_build rfl rfl rfl rfl rfl rfl rfl rfl rfl ?_
            | refine op_buildSlice rfl rfl rfl rfl rfl rfl rfl rfl rfl rfl rfl rfl ?_)
          | (refine gate 17 rfl ?_; first
            | refine op_append_ov rfl rfl rfl rfl rfl rfl rfl rfl rfl rfl rfl rfl rfl rfl (.inr bD_v) bD_row ?_ ?_ ?_
            | refine op_append_oo rfl rfl rfl rfl rfl rfl rfl rfl rfl rfl rfl rfl rfl (.inr bD_v) bD_row ?_ ?_ ?_
            | refine op_append_nl rfl rfl rfl rfl rfl rfl rfl rfl rfl rfl rfl rfl rfl (.inr bD_v) bD_row ?_ ?_ ?_)
          | (refine gate 10 rfl ?_; refine op_extract rfl rfl rfl rfl rfl rfl ?_)
          | (refine gate 11 rfl ?_; refine op_store rfl rfl rfl rfl rfl rfl rfl rfl (Nat.le_of_ble_eq_true rfl) (Nat.le_of_ble_eq_true rfl) rfl ?_)
          | (refine gate 16 rfl ?_; first
            | fail
            )
          | refine WO_nil ?_
          | refine W_seq ?_
          | refine W_region ?_
          | refine W_draw0 rfl rfl ?_
          | refine W_drawA rfl ?_
          | refine W_blockN ?_
          | refine W_skip ?_
          | refine W_exit ?_
          | exact over_put
          | exact over_box
          | exact over_st
          | refine W_ret ?_
          | refine W_condT rfl (by first | assumption | rfl) ?_
          | refine W_condF rfl (by first | assumption | rfl) ?_
          | (refine W_cond rfl ?_ ?_ <;> intro hq)
          | refine WO_gT rfl rfl rfl rfl (by first | assumption | rfl) ?_
          | refine WO_gF rfl rfl rfl rfl (by first | assumption | rfl) rfl rfl rfl ?_
          | (refine WO_gs rfl rfl rfl ?_ ?_ <;> intro hq)
          | refine RW_nil ?_ rfl rfl
          | (refine gateR 17 rfl ?_; first
            | refine RW_apOw rfl rfl rfl rfl rfl rfl rfl rfl rfl rfl rfl rfl rfl rfl rfl (.inr bD_v) bD_row ?_ ?_ ?_
            | refine RW_apVw rfl rfl rfl rfl rfl rfl rfl rfl rfl rfl rfl rfl rfl rfl rfl rfl rfl (.inr bD_v) bD_row ?_ ?_ ?_
            | refine RW_apOw rfl rfl rfl rfl rfl rfl rfl rfl rfl rfl rfl rfl rfl rfl rfl ?_ ?_ ?_ ?_ ?_
            | refine RW_apVw rfl rfl rfl rfl rfl rfl rfl rfl rfl rfl rfl rfl rfl rfl rfl rfl rfl ?_ ?_ ?_ ?_ ?_)
          | refine RW_op (us := ?_) (ub := ?_) rfl (fun s0 b0 => ?_) ?_
          | refine RW_opT (us := ?_) (ub := ?_) rfl rfl rfl rfl (by first | assumption | rfl) (fun s0 b0 => ?_) ?_
          | refine RW_opF rfl rfl rfl rfl (by first | assumption | rfl) rfl rfl rfl ?_
          | (refine RW_gs rfl rfl rfl ?_ ?_ <;> intro hq)
          | refine end_v rfl rfl rfl ?_
          )
        have : xs = ys := by
          rw [he, List.take_length] at hpre
          rw [hpre, hl, List.take_length]
        simp [this]
  · have c0 : (((bD xs).length : Int) != ((bD ys).length : Int)) = true := by rw [bD_len, bD_len]; simp; omega
    refine FnOK_body Try.func21 rfl rfl ?_
    repeat' (first
      | refine WO_cons rfl ?_
      | (refine gate 0 rfl ?_; first
        | refine mv_v rfl rfl rfl rfl rfl ?_
        | refine mv_sl rfl rfl rfl rfl rfl ?_
        | refine mv_vw rfl rfl rfl rfl rfl ?_
        | refine mv_nl rfl rfl rfl rfl rfl ?_
        | refine mv_p rfl rfl rfl rfl rfl ?_
        | refine mv_bp rfl rfl rfl rfl rfl ?_
        | refine mv_vp rfl rfl rfl rfl rfl ?_)
      | (refine gate 12 rfl ?_; first
        | refine op_faddr_bp rfl rfl rfl rfl rfl rfl ?_
        | refine op_faddr_p rfl rfl rfl rfl rfl rfl ?_)
      | (refine gate 1 rfl ?_; first
        | refine ld_v rfl rfl rfl rfl rfl rfl rfl rfl rfl ?_
        | refine ld_sl rfl rfl rfl rfl rfl rfl rfl rfl rfl ?_
        | refine ld_vw rfl rfl rfl rfl rfl rfl rfl rfl rfl ?_
        | refine ld_nl rfl rfl rfl rfl rfl rfl rfl rfl rfl ?_
        | refine ld_bp rfl rfl rfl rfl rfl rfl rfl rfl rfl ?_
        | refine ld_p rfl rfl rfl rfl rfl rfl rfl rfl rfl ?_
        | refine op_load_agg rfl rfl rfl rfl rfl rfl rfl rfl (Nat.le_of_ble_eq_true rfl) ?_
        | refine op_load_p rfl rfl rfl rfl rfl rfl rfl ?_)
      | (refine gate 2 rfl ?_; refine op_bin rfl rfl rfl rfl rfl rfl rfl ?_)
      | (refine gate 3 rfl ?_; first
        | refine op_shift rfl rfl rfl rfl rfl rfl (by decide) (Or.inl ⟨rfl, rfl⟩) ?_
        | refine op_shift rfl rfl rfl rfl rfl rfl (by decide) (Or.inr ⟨rfl, rfl⟩) ?_)
      | (refine gate 4 rfl ?_; refine op_not rfl rfl rfl rfl rfl ?_)
      | (refine gate 5 rfl ?_; refine op_conv rfl rfl rfl rfl rfl rfl rfl ?_)
      | (refine gate 6 rfl ?_; refine op_len rfl rfl rfl rfl rfl rfl rfl ?_)
      | (refine gate 7 rfl ?_; first
        | refine pk_t rfl rfl rfl rfl rfl (by first | assumption | rfl) rfl ?_
        | refine pk_f rfl rfl rfl rfl rfl (by first | assumption | rfl) rfl ?_)
      | (refine gate 8 rfl ?_; first
        | refine op_box rfl rfl rfl rfl rfl rfl rfl rfl ?_
        | refine op_alloc rfl rfl rfl rfl rfl rfl rfl ?_)
      | (refine gate 9 rfl ?_; first
        | refine op_build rfl rfl rfl rfl rfl rfl rfl rfl rfl ?_
        | refine op_buildSlice rfl rfl rfl rfl rfl rfl rfl rfl rfl rfl rfl rfl ?_)
      | (refine gate 17 rfl ?_; first
        | refine op_append_ov rfl rfl rfl rfl rfl rfl rfl rfl rfl rfl rfl rfl rfl rfl (.inr bD_v) bD_row ?_ ?_ ?_
        | refine op_append_oo rfl rfl rfl rfl rfl rfl rfl rfl rfl rfl rfl rfl rfl (.inr bD_v) bD_row ?_ ?_ ?_
        | refine op_append_nl rfl rfl rfl rfl rfl rfl rfl rfl rfl rfl rfl rfl rfl (.inr bD_v) bD_row ?_ ?_ ?_)
      | (refine gate 10 rfl ?_; refine op_extract rfl rfl rfl rfl rfl rfl ?_)
      | (refine gate 11 rfl ?_; refine op_store rfl rfl rfl rfl rfl rfl rfl rfl (Nat.le_of_ble_eq_true rfl) (Nat.le_of_ble_eq_true rfl) rfl ?_)
      | (refine gate 16 rfl ?_; first
        | fail
        )
      | refine WO_nil ?_
      | refine W_seq ?_
      | refine W_region ?_
      | refine W_draw0 rfl rfl ?_
      | refine W_drawA rfl ?_
      | refine W_blockN ?_
      | refine W_skip ?_
      | refine W_exit ?_
      | exact over_put
      | exact over_box
      | exact over_st
      | refine W_ret ?_
      | refine W_condT rfl (by first | assumption | rfl) ?_
      | refine W_condF rfl (by first | assumption | rfl) ?_
      | (refine W_cond rfl ?_ ?_ <;> intro hq)
      | refine WO_gT rfl rfl rfl rfl (by first | assumption | rfl) ?_
      | refine WO_gF rfl rfl rfl rfl (by first | assumption | rfl) rfl rfl rfl ?_
      | (refine WO_gs rfl rfl rfl ?_ ?_ <;> intro hq)
      | refine RW_nil ?_ rfl rfl
      | (refine gateR 17 rfl ?_; first
        | refine RW_apOw rfl rfl rfl rfl rfl rfl rfl rfl rfl rfl rfl rfl rfl rfl rfl (.inr bD_v) bD_row ?_ ?_ ?_
        | refine RW_apVw rfl rfl rfl rfl rfl rfl rfl rfl rfl rfl rfl rfl rfl rfl rfl rfl rfl (.inr bD_v) bD_row ?_ ?_ ?_
        | refine RW_apOw rfl rfl rfl rfl rfl rfl rfl rfl rfl rfl rfl rfl rfl rfl rfl ?_ ?_ ?_ ?_ ?_
        | refine RW_apVw rfl rfl rfl rfl rfl rfl rfl rfl rfl rfl rfl rfl rfl rfl rfl rfl rfl ?_ ?_ ?_ ?_ ?_)
      | refine RW_op (us := ?_) (ub := ?_) rfl (fun s0 b0 => ?_) ?_
      | refine RW_opT (us := ?_) (ub := ?_) rfl rfl rfl rfl (by first | assumption | rfl) (fun s0 b0 => ?_) ?_
      | refine RW_opF rfl rfl rfl rfl (by first | assumption | rfl) rfl rfl rfl ?_
      | (refine RW_gs rfl rfl rfl ?_ ?_ <;> intro hq)
      | refine end_v rfl rfl rfl ?_
      )
    have : xs ≠ ys := fun h => hl (by rw [h])
    simp [this]
set_option maxHeartbeats 2000000 in
set_option maxRecDepth 20000 in
theorem szEdit_ok (a b : Int) (xs : List Int) (n : Int) (h0 : 0 ≤ n) (h1 : n ≤ 1048576) (hx : xs.length ≤ 9223372036854775807) : FnOK Try.prog 17 false [aEd a b xs, (false, [dI n])] (rI (if n - xs.length < 0 then -1 else n - xs.length)) := by
  refine FnOK_body Try.func17 rfl rfl ?_
  repeat' (first
    | refine WO_cons rfl ?_
    | (refine gate 0 rfl ?_; first
      | refine mv_v rfl rfl rfl rfl rfl ?_
      | refine mv_sl rfl rfl rfl rfl rfl ?_
      | refine mv_vw rfl rfl rfl rfl rfl ?_
      | refine mv_nl rfl rfl rfl rfl rfl ?_
      | refine mv_p rfl rfl rfl rfl rfl ?_
      | refine mv_bp rfl rfl rfl rfl rfl ?_
      | refine mv_vp rfl rfl rfl rfl rfl ?_)
    | (refine gate 12 rfl ?_; first
      | refine op_faddr_bp rfl rfl rfl rfl rfl rfl ?_
      | refine op_faddr_p rfl rfl rfl rfl rfl rfl ?_)
    | (refine gate 1 rfl ?_; first
      | refine ld_v rfl rfl rfl rfl rfl rfl rfl rfl rfl ?_
      | refine ld_sl rfl rfl rfl rfl rfl rfl rfl rfl rfl ?_
      | refine ld_vw rfl rfl rfl rfl rfl rfl rfl rfl rfl ?_
      | refine ld_nl rfl rfl rfl rfl rfl rfl rfl rfl rfl ?_
      | refine ld_bp rfl rfl rfl rfl rfl rfl rfl rfl rfl ?_
      | refine ld_p rfl rfl rfl rfl rfl rfl rfl rfl rfl ?_
      | refine op_load_agg rfl rfl rfl rfl rfl rfl rfl rfl (Nat.le_of_ble_eq_true rfl) ?_
      | refine op_load_p rfl rfl rfl rfl rfl rfl rfl ?_)
    | (refine gate 2 rfl ?_; refine op_bin rfl rfl rfl rfl rfl rfl rfl ?_)
    | (refine gate 3 rfl ?_; first
      | refine op_shift rfl rfl rfl rfl rfl rfl (by decide) (Or.inl ⟨rfl, rfl⟩) ?_
      | refine op_shift rfl rfl rfl rfl rfl rfl (by decide) (Or.inr ⟨rfl, rfl⟩) ?_)
    | (refine gate 4 rfl ?_; refine op_not rfl rfl rfl rfl rfl ?_)
    | (refine gate 5 rfl ?_; refine op_conv rfl rfl rfl rfl rfl rfl rfl ?_)
    | (refine gate 6 rfl ?_; refine op_len rfl rfl rfl rfl rfl rfl rfl ?_)
    | (refine gate 7 rfl ?_; first
      | refine pk_t rfl rfl rfl rfl rfl (by first | assumption | rfl) rfl ?_
      | refine pk_f rfl rfl rfl rfl rfl (by first | assumption | rfl) rfl ?_)
    | (refine gate 8 rfl ?_; first
      | refine op_box rfl rfl rfl rfl rfl rfl rfl rfl ?_
      | refine op_alloc rfl rfl rfl rfl rfl rfl rfl ?_)
    | (refine gate 9 rfl ?_; first
      | refine op_build rfl rfl rfl rfl rfl rfl rfl rfl rfl ?_
      | refine op_buildSlice rfl rfl rfl rfl rfl rfl rfl rfl rfl rfl rfl rfl ?_)
    | (refine gate 17 rfl ?_; first
      | refine op_append_ov rfl rfl rfl rfl rfl rfl rfl rfl rfl rfl rfl rfl rfl rfl (.inr bD_v) bD_row ?_ ?_ ?_
      | refine op_append_oo rfl rfl rfl rfl rfl rfl rfl rfl rfl rfl rfl rfl rfl (.inr bD_v) bD_row ?_ ?_ ?_
      | refine op_append_nl rfl rfl rfl rfl rfl rfl rfl rfl rfl rfl rfl rfl rfl (.inr bD_v) bD_row ?_ ?_ ?_)
    | (refine gate 10 rfl ?_; refine op_extract rfl rfl rfl rfl rfl rfl ?_)
    | (refine gate 11 rfl ?_; refine op_store rfl rfl rfl rfl rfl rfl rfl rfl (Nat.le_of_ble_eq_true rfl) (Nat.le_of_ble_eq_true rfl) rfl ?_)
    | (refine gate 16 rfl ?_; first
      | refine op_call rfl rfl rfl rfl rfl rfl rfl rfl (szByteS_ok xs n h0 h1 hx) ?_
      )
    | refine WO_nil ?_
    | refine W_seq ?_
    | refine W_region ?_
    | refine W_draw0 rfl rfl ?_
    | refine W_drawA rfl ?_
    | refine W_blockN ?_
    | refine W_skip ?_
    | refine W_exit ?_
    | exact over_put
    | exact over_box
    | exact over_st
    | refine W_ret ?_
    | refine W_condT rfl (by first | assumption | rfl) ?_
    | refine W_condF rfl (by first | assumption | rfl) ?_
    | (refine W_cond rfl ?_ ?_ <;> intro hq)
    | refine WO_gT rfl rfl rfl rfl (by first | assumption | rfl) ?_
    | refine WO_gF rfl rfl rfl rfl (by first | assumption | rfl) rfl rfl rfl ?_
    | (refine WO_gs rfl rfl rfl ?_ ?_ <;> intro hq)
    | refine RW_nil ?_ rfl rfl
    | (refine gateR 17 rfl ?_; first
      | refine RW_apOw rfl rfl rfl rfl rfl rfl rfl rfl rfl rfl rfl rfl rfl rfl rfl (.inr bD_v) bD_row ?_ ?_ ?_
      | refine RW_apVw rfl rfl rfl rfl rfl rfl rfl rfl rfl rfl rfl rfl rfl rfl rfl rfl rfl (.inr bD_v) bD_row ?_ ?_ ?_
      | refine RW_apOw rfl rfl rfl rfl rfl rfl rfl rfl rfl rfl rfl rfl rfl rfl rfl ?_ ?_ ?_ ?_ ?_
      | refine RW_apVw rfl rfl rfl rfl rfl rfl rfl rfl rfl rfl rfl rfl rfl rfl rfl rfl rfl ?_ ?_ ?_ ?_ ?_)
    | refine RW_op (us := ?_) (ub := ?_) rfl (fun s0 b0 => ?_) ?_
    | refine RW_opT (us := ?_) (ub := ?_) rfl rfl rfl rfl (by first | assumption | rfl) (fun s0 b0 => ?_) ?_
    | refine RW_opF rfl rfl rfl rfl (by first | assumption | rfl) rfl rfl rfl ?_
    | (refine RW_gs rfl rfl rfl ?_ ?_ <;> intro hq)
    | refine end_v rfl rfl rfl ?_
    )
  · have hq' : (if n - (xs.length : Int) < 0 then (-1 : Int) else n - xs.length) < 0 := by simpa using hq
    split at hq'
    · rw [if_pos (by assumption)]
    · omega
  · rfl

set_option maxHeartbeats 2000000 in
set_option maxRecDepth 20000 in
theorem eqEdit_ok (a b a' b' : Int) (p q : List Int) (hx : p.length ≤ 1073741824) (hy : q.length ≤ 1073741824) : FnOK Try.prog 22 false [aEd a b p, aEd a' b' q] (rB (decide (a = a' ∧ b = b' ∧ p = q))) := by
  refine FnOK_body Try.func22 rfl rfl ?_
  repeat' (first
    | refine WO_cons rfl ?_
    | (refine gate 0 rfl ?_; first
      | refine mv_v rfl rfl rfl rfl rfl ?_
      | refine mv_sl rfl rfl rfl rfl rfl ?_
      | refine mv_vw rfl rfl rfl rfl rfl ?_
      | refine mv_nl rfl rfl rfl rfl rfl ?_
      | refine mv_p rfl rfl rfl rfl rfl ?_
      | refine mv_bp rfl rfl rfl rfl rfl ?_
      | refine mv_vp rfl rfl rfl rfl rfl ?_)
    | (refine gate 12 rfl ?_; first
      | refine op_faddr_bp rfl rfl rfl rfl rfl rfl ?_
      | refine op_faddr_p rfl rfl rfl rfl rfl rfl ?_)
    | (refine gate 1 rfl ?_; first
      | refine ld_v rfl rfl rfl rfl rfl rfl rfl rfl rfl ?_
      | refine ld_sl rfl rfl rfl rfl rfl rfl rfl rfl rfl ?_
      | refine ld_vw rfl rfl rfl rfl rfl rfl rfl rfl rfl ?_
      | refine ld_nl rfl rfl rfl rfl rfl rfl rfl rfl rfl ?_
      | refine ld_bp rfl rfl rfl rfl rfl rfl rfl rfl rfl ?_
      | refine ld_p rfl rfl rfl rfl rfl rfl rfl rfl rfl ?_
      | refine op_load_agg rfl rfl rfl rfl rfl rfl rfl rfl (Nat.le_of_ble_eq_true rfl) ?_
      | refine op_load_p rfl rfl rfl rfl rfl rfl rfl ?_)
    | (refine gate 2 rfl ?_; refine op_bin rfl rfl rfl rfl rfl rfl rfl ?_)
    | (refine gate 3 rfl ?_; first
      | refine op_shift rfl rfl rfl rfl rfl rfl (by decide) (Or.inl ⟨rfl, rfl⟩) ?_
      | refine op_shift rfl rfl rfl rfl rfl rfl (by decide) (Or.inr ⟨rfl, rfl⟩) ?_)
    | (refine gate 4 rfl ?_; refine op_not rfl rfl rfl rfl rfl ?_)
    | (refine gate 5 rfl ?_; refine op_conv rfl rfl rfl rfl rfl rfl rfl ?_)
    | (refine gate 6 rfl ?_; refine op_len rfl rfl rfl rfl rfl rfl rfl ?_)
    | (refine gate 7 rfl ?_; first
      | refine pk_t rfl rfl rfl rfl rfl (by first | assumption | rfl) rfl ?_
      | refine pk_f rfl rfl rfl rfl rfl (by first | assumption | rfl) rfl ?_)
    | (refine gate 8 rfl ?_; first
      | refine op_box rfl rfl rfl rfl rfl rfl rfl rfl ?_
      | refine op_alloc rfl rfl rfl rfl rfl rfl rfl ?_)
    | (refine gate 9 rfl ?_; first
      | refine op_build rfl rfl rfl rfl rfl rfl rfl rfl rfl ?_
      | refine op_buildSlice rfl rfl rfl rfl rfl rfl rfl rfl rfl rfl rfl rfl ?_)
    | (refine gate 17 rfl ?_; first
      | refine op_append_ov rfl rfl rfl rfl rfl rfl rfl rfl rfl rfl rfl rfl rfl rfl (.inr bD_v) bD_row ?_ ?_ ?_
      | refine op_append_oo rfl rfl rfl rfl rfl rfl rfl rfl rfl rfl rfl rfl rfl (.inr bD_v) bD_row ?_ ?_ ?_
      | refine op_append_nl rfl rfl rfl rfl rfl rfl rfl rfl rfl rfl rfl rfl rfl (.inr bD_v) bD_row ?_ ?_ ?_)
    | (refine gate 10 rfl ?_; refine op_extract rfl rfl rfl rfl rfl rfl ?_)
    | (refine gate 11 rfl ?_; refine op_store rfl rfl rfl rfl rfl rfl rfl rfl (Nat.le_of_ble_eq_true rfl) (Nat.le_of_ble_eq_true rfl) rfl ?_)
    | (refine gate 16 rfl ?_; first
      | refine op_call rfl rfl rfl rfl rfl rfl rfl rfl (eqByteS_ok p q hx hy) ?_
      )
    | refine WO_nil ?_
    | refine W_seq ?_
    | refine W_region ?_
    | refine W_draw0 rfl rfl ?_
    | refine W_drawA rfl ?_
    | refine W_blockN ?_
    | refine W_skip ?_
    | refine W_exit ?_
    | exact over_put
    | exact over_box
    | exact over_st
    | refine W_ret ?_
    | refine W_condT rfl (by first | assumption | rfl) ?_
    | refine W_condF rfl (by first | assumption | rfl) ?_
    | (refine W_cond rfl ?_ ?_ <;> intro hq)
    | refine WO_gT rfl rfl rfl rfl (by first | assumption | rfl) ?_
    | refine WO_gF rfl rfl rfl rfl (by first | assumption | rfl) rfl rfl rfl ?_
    | (refine WO_gs rfl rfl rfl ?_ ?_ <;> intro hq)
    | refine RW_nil ?_ rfl rfl
    | (refine gateR 17 rfl ?_; first
      | refine RW_apOw rfl rfl rfl rfl rfl rfl rfl rfl rfl rfl rfl rfl rfl rfl rfl (.inr bD_v) bD_row ?_ ?_ ?_
      | refine RW_apVw rfl rfl rfl rfl rfl rfl rfl rfl rfl rfl rfl rfl rfl rfl rfl rfl rfl (.inr bD_v) bD_row ?_ ?_ ?_
      | refine RW_apOw rfl rfl rfl rfl rfl rfl rfl rfl rfl rfl rfl rfl rfl rfl rfl ?_ ?_ ?_ ?_ ?_
      | refine RW_apVw rfl rfl rfl rfl rfl rfl rfl rfl rfl rfl rfl rfl rfl rfl rfl rfl rfl ?_ ?_ ?_ ?_ ?_)
    | refine RW_op (us := ?_) (ub := ?_) rfl (fun s0 b0 => ?_) ?_
    | refine RW_opT (us := ?_) (ub := ?_) rfl rfl rfl rfl (by first | assumption | rfl) (fun s0 b0 => ?_) ?_
    | refine RW_opF rfl rfl rfl rfl (by first | assumption | rfl) rfl rfl rfl ?_
    | (refine RW_gs rfl rfl rfl ?_ ?_ <;> intro hq)
    | refine end_v rfl rfl rfl ?_
    )
  all_goals (first | (simp_all; done) | (simp_all; omega))
end Go.AX
