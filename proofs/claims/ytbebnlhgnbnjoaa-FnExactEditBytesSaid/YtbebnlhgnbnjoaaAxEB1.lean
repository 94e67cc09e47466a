import Derived.Test.YtbebnlhgnbnjoaaAxSeat
set_option linter.unusedVariables false
set_option linter.unusedSimpArgs false
namespace Go.AX
open Go.Proofs

set_option maxHeartbeats 1000000 in
set_option maxRecDepth 20000 in
theorem grow_ok (n : Nat) (h0 : 0 < n) (h1 : n ≤ 16777216) : FnNl Try.prog 78 .i64 n (.one (.ow 5 1 0 [])) := by
  have g1 : decide ((n : Int) < 0) = false := by simp
  have g2 : decide (IntKind.i64.wrap (n - IntKind.i64.wrap (0 - ((0 : Nat) : Int))) > 0) = true := by
    rw [IntKind.wrap_i64, IntKind.wrap_i64]; simp; omega
  refine FnNl_of Try.func78 rfl rfl (W_weakQ (Q := RetQ Try.prog Try.f78 false _) ?_)
  show W Try.prog _ (EndQ Try.prog Try.f78 false (.one (.ow 5 1 0 []))) _
  repeat' (first
    | refine WO_cons rfl ?_
    | (refine gate 0 rfl ?_; first
      | refine mv_v rfl rfl rfl rfl rfl ?_
      | refine mv_sl rfl rfl rfl rfl rfl ?_
      | refine mv_vw rfl rfl rfl rfl rfl ?_
      | refine mv_nl rfl rfl rfl rfl rfl ?_
      | refine mv_p rfl rfl rfl rfl rfl ?_
      | refine mv_bp rfl rfl rfl rfl rfl ?_
      | refine mv_vp rfl rfl rfl rfl rfl ?_)
    | (refine gate 12 rfl ?_; first
      | refine op_faddr_bp rfl rfl rfl rfl rfl rfl ?_
      | refine op_faddr_p rfl rfl rfl rfl rfl rfl ?_)
    | (refine gate 1 rfl ?_; first
      | refine ld_v rfl rfl rfl rfl rfl rfl rfl rfl rfl ?_
      | refine ld_sl rfl rfl rfl rfl rfl rfl rfl rfl rfl ?_
      | refine ld_vw rfl rfl rfl rfl rfl rfl rfl rfl rfl ?_
      | refine ld_nl rfl rfl rfl rfl rfl rfl rfl rfl rfl ?_
      | refine ld_bp rfl rfl rfl rfl rfl rfl rfl rfl rfl ?_
      | refine ld_p rfl rfl rfl rfl rfl rfl rfl rfl rfl ?_
      | refine op_load_agg rfl rfl rfl rfl rfl rfl rfl rfl (Nat.le_of_ble_eq_true rfl) ?_
      | refine op_load_p rfl rfl rfl rfl rfl rfl rfl ?_)
    | (refine gate 2 rfl ?_; refine op_bin rfl rfl rfl rfl rfl rfl rfl ?_)
    | (refine gate 3 rfl ?_; first
      | refine op_shift rfl rfl rfl rfl rfl rfl (by decide) (Or.inl ⟨rfl, rfl⟩) ?_
      | refine op_shift rfl rfl rfl rfl rfl rfl (by decide) (Or.inr ⟨rfl, rfl⟩) ?_)
    | (refine gate 4 rfl ?_; refine op_not rfl rfl rfl rfl rfl ?_)
    | (refine gate 5 rfl ?_; refine op_conv rfl rfl rfl rfl rfl rfl rfl ?_)
    | (refine gate 6 rfl ?_; refine op_len rfl rfl rfl rfl rfl rfl rfl ?_)
    | (refine gate 7 rfl ?_; first
      | refine pk_t rfl rfl rfl rfl rfl (by first | assumption | rfl) rfl ?_
      | refine pk_f rfl rfl rfl rfl rfl (by first | assumption | rfl) rfl ?_)
    | (refine gate 8 rfl ?_; first
      | refine op_box rfl rfl rfl rfl rfl rfl rfl rfl ?_
      | refine op_alloc rfl rfl rfl rfl rfl rfl rfl ?_)
    | (refine gate 9 rfl ?_; first
      | refine op_build rfl rfl rfl rfl rfl rfl rfl rfl rfl ?_
      | refine op_buildSlice rfl rfl rfl rfl rfl rfl rfl rfl rfl rfl rfl rfl ?_)
    | (refine gate 10 rfl ?_; refine op_extract rfl rfl rfl rfl rfl rfl ?_)
    | (refine gate 11 rfl ?_; refine op_store rfl rfl rfl rfl rfl rfl rfl rfl (Nat.le_of_ble_eq_true rfl) (Nat.le_of_ble_eq_true rfl) rfl ?_)
    | (refine gate 16 rfl ?_; first
      | fail
      )
    | refine WO_nil ?_
    | refine W_seq ?_
    | refine W_region ?_
    | refine W_draw rfl ?_
    | exact over_put
    | exact over_box
    | exact over_st
    | refine W_ret ?_
    | refine W_condT rfl (by first | assumption | rfl) ?_
    | refine W_condF rfl (by first | assumption | rfl) ?_
    | (refine W_cond rfl ?_ ?_ <;> intro hq)
    | refine WO_gT rfl rfl rfl rfl (by first | assumption | rfl) ?_
    | refine WO_gF rfl rfl rfl rfl (by first | assumption | rfl) rfl rfl rfl ?_
    | (refine WO_gs rfl rfl rfl ?_ ?_ <;> intro hq)
    | refine RW_nil ?_ rfl rfl
    | (refine gateR 17 rfl ?_; first
      | refine RW_apOw rfl rfl rfl rfl rfl rfl rfl rfl rfl rfl rfl rfl rfl rfl rfl ?_ ?_ ?_ ?_ ?_
      | refine RW_apVw rfl rfl rfl rfl rfl rfl rfl rfl rfl rfl rfl rfl rfl rfl rfl rfl rfl ?_ ?_ ?_ ?_ ?_)
    | refine RW_op rfl (fun s0 b0 => ?_) ?_
    | refine RW_opT rfl rfl rfl rfl (by first | assumption | rfl) (fun s0 b0 => ?_) ?_
    | refine RW_opF rfl rfl rfl rfl (by first | assumption | rfl) rfl rfl rfl ?_
    | (refine RW_gs rfl rfl rfl ?_ ?_ <;> intro hq)
    | refine end_v rfl rfl rfl ?_
    | refine W_blockN ?_
    | refine W_skip ?_
    | refine W_exit ?_
    | refine op_cap_nl rfl rfl rfl rfl rfl rfl ?_
    | refine op_slice_nl rfl rfl rfl rfl rfl rfl rfl rfl rfl rfl rfl ?_
    | refine op_append_mk (n := n) rfl rfl rfl rfl rfl rfl rfl rfl rfl rfl rfl rfl rfl rfl ?_ h0 ?_ ?_ rfl ?_
    | refine op_slice_take rfl rfl rfl rfl rfl rfl rfl rfl ?_ ?_ ?_
    )
  · rw [IntKind.wrap_i64, IntKind.wrap_i64]; simp; omega
  · show n * 1 ≤ _; omega
  · simp only [maxLen]; omega
  · simp
  · simp
  · refine end_vw rfl rfl rfl rfl rfl rfl (.inr (by intro r hr; cases hr)) ?_
    simp

/-- The lengths of the first i. -/
def lens (xss : List (List Int)) (i : Nat) : Nat := (xss.take i).flatten.length
theorem lens_succ {xss : List (List Int)} {i : Nat} (h : i < xss.length) : lens xss (i + 1) = lens xss i + (xss.getD i []).length := by
  simp only [lens, List.take_add_one, List.getElem?_eq_getElem h, Option.toList_some, List.flatten_append, List.length_append]
  simp [h]
theorem lens_le {xss : List (List Int)} (i : Nat) : lens xss i ≤ xss.flatten.length := by
  have h : xss.flatten = (xss.take i).flatten ++ (xss.drop i).flatten := by rw [← List.flatten_append, List.take_append_drop]
  rw [h, List.length_append]
  exact Nat.le_add_right _ _
theorem lens_all (xss : List (List Int)) : lens xss xss.length = xss.flatten.length := by simp [lens]
theorem take_flat_succ {xss : List (List Int)} {i : Nat} (h : i < xss.length) : (xss.take i).flatten ++ xss.getD i [] = (xss.take (i + 1)).flatten := by
  simp only [List.take_add_one, List.getElem?_eq_getElem h, Option.toList_some, List.flatten_append]
  simp [h]

set_option maxHeartbeats 2000000 in
set_option maxRecDepth 20000 in
theorem concat_ok (xss : List (List Int)) (hn : xss.length ≤ 1000000) (h0 : 0 < xss.flatten.length) (h1 : xss.flatten.length ≤ 16777216) : FnOK Try.prog 68 false [(false, [.sl (bbD xss)])] (rBy xss.flatten) := by
  refine FnOK_body Try.func68 rfl rfl ?_
  repeat' (first
    | refine WO_cons rfl ?_
    | (refine gate 0 rfl ?_; first
      | refine mv_v rfl rfl rfl rfl rfl ?_
      | refine mv_sl rfl rfl rfl rfl rfl ?_
      | refine mv_vw rfl rfl rfl rfl rfl ?_
      | refine mv_nl rfl rfl rfl rfl rfl ?_
      | refine mv_p rfl rfl rfl rfl rfl ?_
      | refine mv_bp rfl rfl rfl rfl rfl ?_
      | refine mv_vp rfl rfl rfl rfl rfl ?_)
    | (refine gate 12 rfl ?_; first
      | refine op_faddr_bp rfl rfl rfl rfl rfl rfl ?_
      | refine op_faddr_p rfl rfl rfl rfl rfl rfl ?_)
    | (refine gate 1 rfl ?_; first
      | refine ld_v rfl rfl rfl rfl rfl rfl rfl rfl rfl ?_
      | refine ld_sl rfl rfl rfl rfl rfl rfl rfl rfl rfl ?_
      | refine ld_vw rfl rfl rfl rfl rfl rfl rfl rfl rfl ?_
      | refine ld_nl rfl rfl rfl rfl rfl rfl rfl rfl rfl ?_
      | refine ld_bp rfl rfl rfl rfl rfl rfl rfl rfl rfl ?_
      | refine ld_p rfl rfl rfl rfl rfl rfl rfl rfl rfl ?_
      | refine op_load_agg rfl rfl rfl rfl rfl rfl rfl rfl (Nat.le_of_ble_eq_true rfl) ?_
      | refine op_load_p rfl rfl rfl rfl rfl rfl rfl ?_)
    | (refine gate 2 rfl ?_; refine op_bin rfl rfl rfl rfl rfl rfl rfl ?_)
    | (refine gate 3 rfl ?_; first
      | refine op_shift rfl rfl rfl rfl rfl rfl (by decide) (Or.inl ⟨rfl, rfl⟩) ?_
      | refine op_shift rfl rfl rfl rfl rfl rfl (by decide) (Or.inr ⟨rfl, rfl⟩) ?_)
    | (refine gate 4 rfl ?_; refine op_not rfl rfl rfl rfl rfl ?_)
    | (refine gate 5 rfl ?_; refine op_conv rfl rfl rfl rfl rfl rfl rfl ?_)
    | (refine gate 6 rfl ?_; refine op_len rfl rfl rfl rfl rfl rfl rfl ?_)
    | (refine gate 7 rfl ?_; first
      | refine pk_t rfl rfl rfl rfl rfl (by first | assumption | rfl) rfl ?_
      | refine pk_f rfl rfl rfl rfl rfl (by first | assumption | rfl) rfl ?_)
    | (refine gate 8 rfl ?_; first
      | refine op_box rfl rfl rfl rfl rfl rfl rfl rfl ?_
      | refine op_alloc rfl rfl rfl rfl rfl rfl rfl ?_)
    | (refine gate 9 rfl ?_; first
      | refine op_build rfl rfl rfl rfl rfl rfl rfl rfl rfl ?_
      | refine op_buildSlice rfl rfl rfl rfl rfl rfl rfl rfl rfl rfl rfl rfl ?_)
    | (refine gate 10 rfl ?_; refine op_extract rfl rfl rfl rfl rfl rfl ?_)
    | (refine gate 11 rfl ?_; refine op_store rfl rfl rfl rfl rfl rfl rfl rfl (Nat.le_of_ble_eq_true rfl) (Nat.le_of_ble_eq_true rfl) rfl ?_)
    | (refine gate 16 rfl ?_; first
      | fail
      )
    | refine WO_nil ?_
    | refine W_seq ?_
    | refine W_region ?_
    | refine W_draw rfl ?_
    | exact over_put
    | exact over_box
    | exact over_st
    | refine W_ret ?_
    | refine W_condT rfl (by first | assumption | rfl) ?_
    | refine W_condF rfl (by first | assumption | rfl) ?_
    | (refine W_cond rfl ?_ ?_ <;> intro hq)
    | refine WO_gT rfl rfl rfl rfl (by first | assumption | rfl) ?_
    | refine WO_gF rfl rfl rfl rfl (by first | assumption | rfl) rfl rfl rfl ?_
    | (refine WO_gs rfl rfl rfl ?_ ?_ <;> intro hq)
    | refine RW_nil ?_ rfl rfl
    | (refine gateR 17 rfl ?_; first
      | refine RW_apOw rfl rfl rfl rfl rfl rfl rfl rfl rfl rfl rfl rfl rfl rfl rfl ?_ ?_ ?_ ?_ ?_
      | refine RW_apVw rfl rfl rfl rfl rfl rfl rfl rfl rfl rfl rfl rfl rfl rfl rfl rfl rfl ?_ ?_ ?_ ?_ ?_)
    | refine RW_op rfl (fun s0 b0 => ?_) ?_
    | refine RW_opT rfl rfl rfl rfl (by first | assumption | rfl) (fun s0 b0 => ?_) ?_
    | refine RW_opF rfl rfl rfl rfl (by first | assumption | rfl) rfl rfl rfl ?_
    | (refine RW_gs rfl rfl rfl ?_ ?_ <;> intro hq)
    | refine end_v rfl rfl rfl ?_
    | refine W_blockN ?_
    | refine W_skip ?_
    | refine W_exit ?_
    )
  refine W_loopT (fun i : Nat => St.tmpl 36 [(0, .one (.d (.sl (bbD xss)))), (3, rI (lens xss i)), (9, .one (.d (.sl (bbD xss)))), (10, rI xss.length), (11, rI i)] []) (fun i => i ≤ xss.length) (fun i => xss.length - i) 0 (Nat.zero_le _) ?_ ?_
  · refine Wk_tmpl ⟨rfl, ?_, rfl, ?_, ?_, trivial⟩ trivial rfl
    · rfl
    · exact congrArg (fun n : Nat => rI n) (bbD_len xss)
    · rfl
  · intro i hi
    have hll := lens_le (xss := xss) i
    by_cases hlt : i < xss.length
    · have hls := lens_succ hlt
      have hl1 := lens_le (xss := xss) (i + 1)
      have w1 : IntKind.i64.wrap ((lens xss i : Int) + ((bD (xss.getD i [])).length : Int)) = (lens xss (i + 1) : Int) := by
        rw [bD_len, wrap64 (by omega) (by omega)]; omega
      have c1 : decide ((i : Int) < (xss.length : Int)) = true := by simp; exact hlt
      have c2 : decide (IntKind.i64.wrap ((lens xss i : Int) + ((bD (xss.getD i [])).length : Int)) < 0) = false := by rw [w1]; simp
      repeat' (first
        | refine WO_cons rfl ?_
        | (refine gate 0 rfl ?_; first
          | refine mv_v rfl rfl rfl rfl rfl ?_
          | refine mv_sl rfl rfl rfl rfl rfl ?_
          | refine mv_vw rfl rfl rfl rfl rfl ?_
          | refine mv_nl rfl rfl rfl rfl rfl ?_
          | refine mv_p rfl rfl rfl rfl rfl ?_
          | refine mv_bp rfl rfl rfl rfl rfl ?_
          | refine mv_vp rfl rfl rfl rfl rfl ?_)
        | (refine gate 12 rfl ?_; first
          | refine op_faddr_bp rfl rfl rfl rfl rfl rfl ?_
          | refine op_faddr_p rfl rfl rfl rfl rfl rfl ?_)
        | (refine gate 1 rfl ?_; first
          | refine ld_v rfl rfl rfl rfl rfl rfl rfl rfl rfl ?_
          | refine ld_sl rfl rfl rfl rfl rfl rfl rfl rfl rfl ?_
          | refine ld_vw rfl rfl rfl rfl rfl rfl rfl rfl rfl ?_
          | refine ld_nl rfl rfl rfl rfl rfl rfl rfl rfl rfl ?_
          | refine ld_bp rfl rfl rfl rfl rfl rfl rfl rfl rfl ?_
          | refine ld_p rfl rfl rfl rfl rfl rfl rfl rfl rfl ?_
          | refine op_load_agg rfl rfl rfl rfl rfl rfl rfl rfl (Nat.le_of_ble_eq_true rfl) ?_
          | refine op_load_p rfl rfl rfl rfl rfl rfl rfl ?_)
        | (refine gate 2 rfl ?_; refine op_bin rfl rfl rfl rfl rfl rfl rfl ?_)
        | (refine gate 3 rfl ?_; first
          | refine op_shift rfl rfl rfl rfl rfl rfl (by decide) (Or.inl ⟨rfl, rfl⟩) ?_
          | refine op_shift rfl rfl rfl rfl rfl rfl (by decide) (Or.inr ⟨rfl, rfl⟩) ?_)
        | (refine gate 4 rfl ?_; refine op_not rfl rfl rfl rfl rfl ?_)
        | (refine gate 5 rfl ?_; refine op_conv rfl rfl rfl rfl rfl rfl rfl ?_)
        | (refine gate 6 rfl ?_; refine op_len rfl rfl rfl rfl rfl rfl rfl ?_)
        | (refine gate 7 rfl ?_; first
          | refine pk_t rfl rfl rfl rfl rfl (by first | assumption | rfl) rfl ?_
          | refine pk_f rfl rfl rfl rfl rfl (by first | assumption | rfl) rfl ?_)
        | (refine gate 8 rfl ?_; first
          | refine op_box rfl rfl rfl rfl rfl rfl rfl rfl ?_
          | refine op_alloc rfl rfl rfl rfl rfl rfl rfl ?_)
        | (refine gate 9 rfl ?_; first
          | refine op_build rfl rfl rfl rfl rfl rfl rfl rfl rfl ?_
          | refine op_buildSlice rfl rfl rfl rfl rfl rfl rfl rfl rfl rfl rfl rfl ?_)
        | (refine gate 10 rfl ?_; refine op_extract rfl rfl rfl rfl rfl rfl ?_)
        | (refine gate 11 rfl ?_; refine op_store rfl rfl rfl rfl rfl rfl rfl rfl (Nat.le_of_ble_eq_true rfl) (Nat.le_of_ble_eq_true rfl) rfl ?_)
        | (refine gate 16 rfl ?_; first
          | fail
          )
        | refine WO_nil ?_
        | refine W_seq ?_
        | refine W_region ?_
        | refine W_draw rfl ?_
        | exact over_put
        | exact over_box
        | exact over_st
        | refine W_ret ?_
        | refine W_condT rfl (by first | assumption | rfl) ?_
        | refine W_condF rfl (by first | assumption | rfl) ?_
        | (refine W_cond rfl ?_ ?_ <;> intro hq)
        | refine WO_gT rfl rfl rfl rfl (by first | assumption | rfl) ?_
        | refine WO_gF rfl rfl rfl rfl (by first | assumption | rfl) rfl rfl rfl ?_
        | (refine WO_gs rfl rfl rfl ?_ ?_ <;> intro hq)
        | refine RW_nil ?_ rfl rfl
        | (refine gateR 17 rfl ?_; first
          | refine RW_apOw rfl rfl rfl rfl rfl rfl rfl rfl rfl rfl rfl rfl rfl rfl rfl ?_ ?_ ?_ ?_ ?_
          | refine RW_apVw rfl rfl rfl rfl rfl rfl rfl rfl rfl rfl rfl rfl rfl rfl rfl rfl rfl ?_ ?_ ?_ ?_ ?_)
        | refine RW_op rfl (fun s0 b0 => ?_) ?_
        | refine RW_opT rfl rfl rfl rfl (by first | assumption | rfl) (fun s0 b0 => ?_) ?_
        | refine RW_opF rfl rfl rfl rfl (by first | assumption | rfl) rfl rfl rfl ?_
        | (refine RW_gs rfl rfl rfl ?_ ?_ <;> intro hq)
        | refine end_v rfl rfl rfl ?_
        | refine W_blockN ?_
        | refine W_skip ?_
        | refine W_exit ?_
        | (refine gate 13 rfl ?_; refine op_index_bb rfl rfl rfl rfl rfl rfl rfl rfl (Int.natCast_nonneg _) (Int.ofNat_lt.2 hlt) ?_)
        )
      refine ⟨i + 1, hlt, by omega, Wk_tmpl ⟨rfl, ?_, rfl, rfl, ?_, trivial⟩ trivial rfl⟩
      · exact congrArg (fun z : Int => rI z) w1
      · exact congrArg (fun z : Int => rI z) (by rw [wrap64 (by omega) (by omega)]; rfl)
    · have he : i = xss.length := by omega
      have c1 : decide ((i : Int) < (xss.length : Int)) = false := by simp; omega
      repeat' (first
        | refine WO_cons rfl ?_
        | (refine gate 0 rfl ?_; first
          | refine mv_v rfl rfl rfl rfl rfl ?_
          | refine mv_sl rfl rfl rfl rfl rfl ?_
          | refine mv_vw rfl rfl rfl rfl rfl ?_
          | refine mv_nl rfl rfl rfl rfl rfl ?_
          | refine mv_p rfl rfl rfl rfl rfl ?_
          | refine mv_bp rfl rfl rfl rfl rfl ?_
          | refine mv_vp rfl rfl rfl rfl rfl ?_)
        | (refine gate 12 rfl ?_; first
          | refine op_faddr_bp rfl rfl rfl rfl rfl rfl ?_
          | refine op_faddr_p rfl rfl rfl rfl rfl rfl ?_)
        | (refine gate 1 rfl ?_; first
          | refine ld_v rfl rfl rfl rfl rfl rfl rfl rfl rfl ?_
          | refine ld_sl rfl rfl rfl rfl rfl rfl rfl rfl rfl ?_
          | refine ld_vw rfl rfl rfl rfl rfl rfl rfl rfl rfl ?_
          | refine ld_nl rfl rfl rfl rfl rfl rfl rfl rfl rfl ?_
          | refine ld_bp rfl rfl rfl rfl rfl rfl rfl rfl rfl ?_
          | refine ld_p rfl rfl rfl rfl rfl rfl rfl rfl rfl ?_
          | refine op_load_agg rfl rfl rfl rfl rfl rfl rfl rfl (Nat.le_of_ble_eq_true rfl) ?_
          | refine op_load_p rfl rfl rfl rfl rfl rfl rfl ?_)
        | (refine gate 2 rfl ?_; refine op_bin rfl rfl rfl rfl rfl rfl rfl ?_)
        | (refine gate 3 rfl ?_; first
          | refine op_shift rfl rfl rfl rfl rfl rfl (by decide) (Or.inl ⟨rfl, rfl⟩) ?_
          | refine op_shift rfl rfl rfl rfl rfl rfl (by decide) (Or.inr ⟨rfl, rfl⟩) ?_)
        | (refine gate 4 rfl ?_; refine op_not rfl rfl rfl rfl rfl ?_)
        | (refine gate 5 rfl ?_; refine op_conv rfl rfl rfl rfl rfl rfl rfl ?_)
        | (refine gate 6 rfl ?_; refine op_len rfl rfl rfl rfl rfl rfl rfl ?_)
        | (refine gate 7 rfl ?_; first
          | refine pk_t rfl rfl rfl rfl rfl (by first | assumption | rfl) rfl ?_
          | refine pk_f rfl rfl rfl rfl rfl (by first | assumption | rfl) rfl ?_)
        | (refine gate 8 rfl ?_; first
          | refine op_box rfl rfl rfl rfl rfl rfl rfl rfl ?_
          | refine op_alloc rfl rfl rfl rfl rfl rfl rfl ?_)
        | (refine gate 9 rfl ?_; first
          | refine op_build rfl rfl rfl rfl rfl rfl rfl rfl rfl ?_
          | refine op_buildSlice rfl rfl rfl rfl rfl rfl rfl rfl rfl rfl rfl rfl ?_)
        | (refine gate 10 rfl ?_; refine op_extract rfl rfl rfl rfl rfl rfl ?_)
        | (refine gate 11 rfl ?_; refine op_store rfl rfl rfl rfl rfl rfl rfl rfl (Nat.le_of_ble_eq_true rfl) (Nat.le_of_ble_eq_true rfl) rfl ?_)
        | (refine gate 16 rfl ?_; first
          | fail
          )
        | refine WO_nil ?_
        | refine W_seq ?_
        | refine W_region ?_
        | refine W_draw rfl ?_
        | exact over_put
        | exact over_box
        | exact over_st
        | refine W_ret ?_
        | refine W_condT rfl (by first | assumption | rfl) ?_
        | refine W_condF rfl (by first | assumption | rfl) ?_
        | (refine W_cond rfl ?_ ?_ <;> intro hq)
        | refine WO_gT rfl rfl rfl rfl (by first | assumption | rfl) ?_
        | refine WO_gF rfl rfl rfl rfl (by first | assumption | rfl) rfl rfl rfl ?_
        | (refine WO_gs rfl rfl rfl ?_ ?_ <;> intro hq)
        | refine RW_nil ?_ rfl rfl
        | (refine gateR 17 rfl ?_; first
          | refine RW_apOw rfl rfl rfl rfl rfl rfl rfl rfl rfl rfl rfl rfl rfl rfl rfl ?_ ?_ ?_ ?_ ?_
          | refine RW_apVw rfl rfl rfl rfl rfl rfl rfl rfl rfl rfl rfl rfl rfl rfl rfl rfl rfl ?_ ?_ ?_ ?_ ?_)
        | refine RW_op rfl (fun s0 b0 => ?_) ?_
        | refine RW_opT rfl rfl rfl rfl (by first | assumption | rfl) (fun s0 b0 => ?_) ?_
        | refine RW_opF rfl rfl rfl rfl (by first | assumption | rfl) rfl rfl rfl ?_
        | (refine RW_gs rfl rfl rfl ?_ ?_ <;> intro hq)
        | refine end_v rfl rfl rfl ?_
        | refine W_blockN ?_
        | refine W_skip ?_
        | refine W_exit ?_
        | (refine gate 16 rfl ?_; refine op_call_nl rfl rfl rfl rfl rfl rfl rfl rfl rfl (grow_ok (lens xss i) (by rw [he, lens_all]; exact h0) (by omega)) ?_)
        )
      refine W_loopT (fun j : Nat => St.tmpl 36 [(6, rBy (xss.take j).flatten), (25, .one (.d (.sl (bbD xss)))), (26, rI xss.length), (27, rI j)] []) (fun j => j ≤ xss.length) (fun j => xss.length - j) 0 (Nat.zero_le _) ?_ ?_
      · refine (Wk_give (p := ⟨false, 24, 0⟩) (q := ⟨false, 6, 0⟩) rfl rfl).trans (Wk_tmpl ⟨rfl, rfl, ?_, rfl, trivial⟩ trivial rfl)
        exact congrArg (fun n : Nat => rI n) (bbD_len xss)
      · intro j hj
        have hlj : (xss.take j).flatten.length ≤ xss.flatten.length := lens_le j
        by_cases hjt : j < xss.length
        · have hls := lens_succ hjt
          have hl1 := lens_le (xss := xss) (j + 1)
          have c3 : decide ((j : Int) < (xss.length : Int)) = true := by simp; exact hjt
          repeat' (first
            | refine WO_cons rfl ?_
            | (refine gate 0 rfl ?_; first
              | refine mv_v rfl rfl rfl rfl rfl ?_
              | refine mv_sl rfl rfl rfl rfl rfl ?_
              | refine mv_vw rfl rfl rfl rfl rfl ?_
              | refine mv_nl rfl rfl rfl rfl rfl ?_
              | refine mv_p rfl rfl rfl rfl rfl ?_
              | refine mv_bp rfl rfl rfl rfl rfl ?_
              | refine mv_vp rfl rfl rfl rfl rfl ?_)
            | (refine gate 12 rfl ?_; first
              | refine op_faddr_bp rfl rfl rfl rfl rfl rfl ?_
              | refine op_faddr_p rfl rfl rfl rfl rfl rfl ?_)
            | (refine gate 1 rfl ?_; first
              | refine ld_v rfl rfl rfl rfl rfl rfl rfl rfl rfl ?_
              | refine ld_sl rfl rfl rfl rfl rfl rfl rfl rfl rfl ?_
              | refine ld_vw rfl rfl rfl rfl rfl rfl rfl rfl rfl ?_
              | refine ld_nl rfl rfl rfl rfl rfl rfl rfl rfl rfl ?_
              | refine ld_bp rfl rfl rfl rfl rfl rfl rfl rfl rfl ?_
              | refine ld_p rfl rfl rfl rfl rfl rfl rfl rfl rfl ?_
              | refine op_load_agg rfl rfl rfl rfl rfl rfl rfl rfl (Nat.le_of_ble_eq_true rfl) ?_
              | refine op_load_p rfl rfl rfl rfl rfl rfl rfl ?_)
            | (refine gate 2 rfl ?_; refine op_bin rfl rfl rfl rfl rfl rfl rfl ?_)
            | (refine gate 3 rfl ?_; first
              | refine op_shift rfl rfl rfl rfl rfl rfl (by decide) (Or.inl ⟨rfl, rfl⟩) ?_
              | refine op_shift rfl rfl rfl rfl rfl rfl (by decide) (Or.inr ⟨rfl, rfl⟩) ?_)
            | (refine gate 4 rfl ?_; refine op_not rfl rfl rfl rfl rfl ?_)
            | (refine gate 5 rfl ?_; refine op_conv rfl rfl rfl rfl rfl rfl rfl ?_)
            | (refine gate 6 rfl ?_; refine op_len rfl rfl rfl rfl rfl rfl rfl ?_)
            | (refine gate 7 rfl ?_; first
              | refine pk_t rfl rfl rfl rfl rfl (by first | assumption | rfl) rfl ?_
              | refine pk_f rfl rfl rfl rfl rfl (by first | assumption | rfl) rfl ?_)
            | (refine gate 8 rfl ?_; first
              | refine op_box rfl rfl rfl rfl rfl rfl rfl rfl ?_
              | refine op_alloc rfl rfl rfl rfl rfl rfl rfl ?_)
            | (refine gate 9 rfl ?_; first
              | refine op_build rfl rfl rfl rfl rfl rfl rfl rfl rfl ?_
              | refine op_buildSlice rfl rfl rfl rfl rfl rfl rfl rfl rfl rfl rfl rfl ?_)
            | (refine gate 10 rfl ?_; refine op_extract rfl rfl rfl rfl rfl rfl ?_)
            | (refine gate 11 rfl ?_; refine op_store rfl rfl rfl rfl rfl rfl rfl rfl (Nat.le_of_ble_eq_true rfl) (Nat.le_of_ble_eq_true rfl) rfl ?_)
            | (refine gate 16 rfl ?_; first
              | fail
              )
            | refine WO_nil ?_
            | refine W_seq ?_
            | refine W_region ?_
            | refine W_draw rfl ?_
            | exact over_put
            | exact over_box
            | exact over_st
            | refine W_ret ?_
            | refine W_condT rfl (by first | assumption | rfl) ?_
            | refine W_condF rfl (by first | assumption | rfl) ?_
            | (refine W_cond rfl ?_ ?_ <;> intro hq)
            | refine WO_gT rfl rfl rfl rfl (by first | assumption | rfl) ?_
            | refine WO_gF rfl rfl rfl rfl (by first | assumption | rfl) rfl rfl rfl ?_
            | (refine WO_gs rfl rfl rfl ?_ ?_ <;> intro hq)
            | refine RW_nil ?_ rfl rfl
            | (refine gateR 17 rfl ?_; first
              | refine RW_apOw rfl rfl rfl rfl rfl rfl rfl rfl rfl rfl rfl rfl rfl rfl rfl ?_ ?_ ?_ ?_ ?_
              | refine RW_apVw rfl rfl rfl rfl rfl rfl rfl rfl rfl rfl rfl rfl rfl rfl rfl rfl rfl ?_ ?_ ?_ ?_ ?_)
            | refine RW_op rfl (fun s0 b0 => ?_) ?_
            | refine RW_opT rfl rfl rfl rfl (by first | assumption | rfl) (fun s0 b0 => ?_) ?_
            | refine RW_opF rfl rfl rfl rfl (by first | assumption | rfl) rfl rfl rfl ?_
            | (refine RW_gs rfl rfl rfl ?_ ?_ <;> intro hq)
            | refine end_v rfl rfl rfl ?_
            | refine W_blockN ?_
            | refine W_skip ?_
            | refine W_exit ?_
            | (refine gate 13 rfl ?_; refine op_index_bb rfl rfl rfl rfl rfl rfl rfl rfl (Int.natCast_nonneg _) (Int.ofNat_lt.2 hjt) ?_)
            | (refine gate 17 rfl ?_; refine op_append_ov rfl rfl rfl rfl rfl rfl rfl rfl rfl rfl rfl rfl rfl rfl (.inr bD_v) bD_row ?_ ?_ ?_)
            )
          · show ((bD (xss.take j).flatten).length + (bD (xss.getD j [])).length) * 1 ≤ _
            rw [bD_len, bD_len]; unfold lens at hls hl1; omega
          · show (bD (xss.take j).flatten).length + (bD (xss.getD j [])).length ≤ maxLen
            rw [bD_len, bD_len]; unfold lens at hls hl1; simp only [maxLen]; omega
          · refine ⟨j + 1, hjt, by omega, (Wk_give (p := ⟨false, 33, 0⟩) (q := ⟨false, 6, 0⟩) rfl rfl).trans (Wk_tmpl ⟨?_, rfl, rfl, ?_, trivial⟩ trivial rfl)⟩
            · exact congrArg (fun r => SV.one (.ow 5 1 0 r)) (by rw [← take_flat_succ hjt, ← bD_append]; rfl)
            · exact congrArg (fun z : Int => rI z) (by rw [wrap64 (by omega) (by omega)]; rfl)
        · have hej : j = xss.length := by omega
          have c3 : decide ((j : Int) < (xss.length : Int)) = false := by simp; omega
          repeat' (first
            | refine WO_cons rfl ?_
            | (refine gate 0 rfl ?_; first
              | refine mv_v rfl rfl rfl rfl rfl ?_
              | refine mv_sl rfl rfl rfl rfl rfl ?_
              | refine mv_vw rfl rfl rfl rfl rfl ?_
              | refine mv_nl rfl rfl rfl rfl rfl ?_
              | refine mv_p rfl rfl rfl rfl rfl ?_
              | refine mv_bp rfl rfl rfl rfl rfl ?_
              | refine mv_vp rfl rfl rfl rfl rfl ?_)
            | (refine gate 12 rfl ?_; first
              | refine op_faddr_bp rfl rfl rfl rfl rfl rfl ?_
              | refine op_faddr_p rfl rfl rfl rfl rfl rfl ?_)
            | (refine gate 1 rfl ?_; first
              | refine ld_v rfl rfl rfl rfl rfl rfl rfl rfl rfl ?_
              | refine ld_sl rfl rfl rfl rfl rfl rfl rfl rfl rfl ?_
              | refine ld_vw rfl rfl rfl rfl rfl rfl rfl rfl rfl ?_
              | refine ld_nl rfl rfl rfl rfl rfl rfl rfl rfl rfl ?_
              | refine ld_bp rfl rfl rfl rfl rfl rfl rfl rfl rfl ?_
              | refine ld_p rfl rfl rfl rfl rfl rfl rfl rfl rfl ?_
              | refine op_load_agg rfl rfl rfl rfl rfl rfl rfl rfl (Nat.le_of_ble_eq_true rfl) ?_
              | refine op_load_p rfl rfl rfl rfl rfl rfl rfl ?_)
            | (refine gate 2 rfl ?_; refine op_bin rfl rfl rfl rfl rfl rfl rfl ?_)
            | (refine gate 3 rfl ?_; first
              | refine op_shift rfl rfl rfl rfl rfl rfl (by decide) (Or.inl ⟨rfl, rfl⟩) ?_
              | refine op_shift rfl rfl rfl rfl rfl rfl (by decide) (Or.inr ⟨rfl, rfl⟩) ?_)
            | (refine gate 4 rfl ?_; refine op_not rfl rfl rfl rfl rfl ?_)
            | (refine gate 5 rfl ?_; refine op_conv rfl rfl rfl rfl rfl rfl rfl ?_)
            | (refine gate 6 rfl ?_; refine op_len rfl rfl rfl rfl rfl rfl rfl ?_)
            | (refine gate 7 rfl ?_; first
              | refine pk_t rfl rfl rfl rfl rfl (by first | assumption | rfl) rfl ?_
              | refine pk_f rfl rfl rfl rfl rfl (by first | assumption | rfl) rfl ?_)
            | (refine gate 8 rfl ?_; first
              | refine op_box rfl rfl rfl rfl rfl rfl rfl rfl ?_
              | refine op_alloc rfl rfl rfl rfl rfl rfl rfl ?_)
            | (refine gate 9 rfl ?_; first
              | refine op_build rfl rfl rfl rfl rfl rfl rfl rfl rfl ?_
              | refine op_buildSlice rfl rfl rfl rfl rfl rfl rfl rfl rfl rfl rfl rfl ?_)
            | (refine gate 10 rfl ?_; refine op_extract rfl rfl rfl rfl rfl rfl ?_)
            | (refine gate 11 rfl ?_; refine op_store rfl rfl rfl rfl rfl rfl rfl rfl (Nat.le_of_ble_eq_true rfl) (Nat.le_of_ble_eq_true rfl) rfl ?_)
            | (refine gate 16 rfl ?_; first
              | fail
              )
            | refine WO_nil ?_
            | refine W_seq ?_
            | refine W_region ?_
            | refine W_draw rfl ?_
            | exact over_put
            | exact over_box
            | exact over_st
            | refine W_ret ?_
            | refine W_condT rfl (by first | assumption | rfl) ?_
            | refine W_condF rfl (by first | assumption | rfl) ?_
            | (refine W_cond rfl ?_ ?_ <;> intro hq)
            | refine WO_gT rfl rfl rfl rfl (by first | assumption | rfl) ?_
            | refine WO_gF rfl rfl rfl rfl (by first | assumption | rfl) rfl rfl rfl ?_
            | (refine WO_gs rfl rfl rfl ?_ ?_ <;> intro hq)
            | refine RW_nil ?_ rfl rfl
            | (refine gateR 17 rfl ?_; first
              | refine RW_apOw rfl rfl rfl rfl rfl rfl rfl rfl rfl rfl rfl rfl rfl rfl rfl ?_ ?_ ?_ ?_ ?_
              | refine RW_apVw rfl rfl rfl rfl rfl rfl rfl rfl rfl rfl rfl rfl rfl rfl rfl rfl rfl ?_ ?_ ?_ ?_ ?_)
            | refine RW_op rfl (fun s0 b0 => ?_) ?_
            | refine RW_opT rfl rfl rfl rfl (by first | assumption | rfl) (fun s0 b0 => ?_) ?_
            | refine RW_opF rfl rfl rfl rfl (by first | assumption | rfl) rfl rfl rfl ?_
            | (refine RW_gs rfl rfl rfl ?_ ?_ <;> intro hq)
            | refine end_v rfl rfl rfl ?_
            | refine W_blockN ?_
            | refine W_skip ?_
            | refine W_exit ?_
            )
          refine end_vw rfl rfl rfl rfl rfl rfl (.inr bD_ok) ?_
          rw [hej, List.take_length]
end Go.AX
