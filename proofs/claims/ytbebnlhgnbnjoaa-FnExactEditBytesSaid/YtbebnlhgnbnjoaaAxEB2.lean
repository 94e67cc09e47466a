import Derived.Test.YtbebnlhgnbnjoaaAxEB1
set_option linter.unusedVariables false
set_option linter.unusedSimpArgs false
namespace Go.AX
open Go.Proofs

set_option maxHeartbeats 1000000 in
set_option maxRecDepth 20000 in
theorem word_ok (n : Int) : FnOK Try.prog 69 false [(false, [dI n])] (.one (.ow 5 1 0 (bD [IntKind.u8.wrap (n.fdiv (2 ^ 8)), IntKind.u8.wrap n]))) := by
  refine FnOK_body Try.func69 rfl rfl ?_
  repeat' (first
    | refine WO_cons rfl ?_
    | (refine gate 0 rfl ?_; first
      | refine mv_v rfl rfl rfl rfl rfl ?_
      | refine mv_sl rfl rfl rfl rfl rfl ?_
      | refine mv_vw rfl rfl rfl rfl rfl ?_
      | refine mv_nl rfl rfl rfl rfl rfl ?_
      | refine mv_p rfl rfl rfl rfl rfl ?_
      | refine mv_bp rfl rfl rfl rfl rfl ?_
      | refine mv_vp rfl rfl rfl rfl rfl ?_)
    | (refine gate 12 rfl ?_; first
      | refine op_faddr_bp rfl rfl rfl rfl rfl rfl ?_
      | refine op_faddr_p rfl rfl rfl rfl rfl rfl ?_)
    | (refine gate 1 rfl ?_; first
      | refine ld_v rfl rfl rfl rfl rfl rfl rfl rfl rfl ?_
      | refine ld_sl rfl rfl rfl rfl rfl rfl rfl rfl rfl ?_
      | refine ld_vw rfl rfl rfl rfl rfl rfl rfl rfl rfl ?_
      | refine ld_nl rfl rfl rfl rfl rfl rfl rfl rfl rfl ?_
      | refine ld_bp rfl rfl rfl rfl rfl rfl rfl rfl rfl ?_
      | refine ld_p rfl rfl rfl rfl rfl rfl rfl rfl rfl ?_
      | refine op_load_agg rfl rfl rfl rfl rfl rfl rfl rfl (Nat.le_of_ble_eq_true rfl) ?_
      | refine op_load_p rfl rfl rfl rfl rfl rfl rfl ?_)
    | (refine gate 2 rfl ?_; refine op_bin rfl rfl rfl rfl rfl rfl rfl ?_)
    | (refine gate 3 rfl ?_; first
      | refine op_shift rfl rfl rfl rfl rfl rfl (by decide) (Or.inl ⟨rfl, rfl⟩) ?_
      | refine op_shift rfl rfl rfl rfl rfl rfl (by decide) (Or.inr ⟨rfl, rfl⟩) ?_)
    | (refine gate 4 rfl ?_; refine op_not rfl rfl rfl rfl rfl ?_)
    | (refine gate 5 rfl ?_; refine op_conv rfl rfl rfl rfl rfl rfl rfl ?_)
    | (refine gate 6 rfl ?_; refine op_len rfl rfl rfl rfl rfl rfl rfl ?_)
    | (refine gate 7 rfl ?_; first
      | refine pk_t rfl rfl rfl rfl rfl (by first | assumption | rfl) rfl ?_
      | refine pk_f rfl rfl rfl rfl rfl (by first | assumption | rfl) rfl ?_)
    | (refine gate 8 rfl ?_; first
      | refine op_box rfl rfl rfl rfl rfl rfl rfl rfl ?_
      | refine op_alloc rfl rfl rfl rfl rfl rfl rfl ?_)
    | (refine gate 9 rfl ?_; first
      | refine op_build rfl rfl rfl rfl rfl rfl rfl rfl rfl ?_
      | refine op_buildSlice rfl rfl rfl rfl rfl rfl rfl rfl rfl rfl rfl rfl ?_)
    | (refine gate 17 rfl ?_; first
      | refine op_append_ov rfl rfl rfl rfl rfl rfl rfl rfl rfl rfl rfl rfl rfl rfl (.inr bD_v) bD_row ?_ ?_ ?_
      | refine op_append_oo rfl rfl rfl rfl rfl rfl rfl rfl rfl rfl rfl rfl rfl (.inr bD_v) bD_row ?_ ?_ ?_
      | refine op_append_nl rfl rfl rfl rfl rfl rfl rfl rfl rfl rfl rfl rfl rfl (.inr bD_v) bD_row ?_ ?_ ?_)
    | (refine gate 10 rfl ?_; refine op_extract rfl rfl rfl rfl rfl rfl ?_)
    | (refine gate 11 rfl ?_; refine op_store rfl rfl rfl rfl rfl rfl rfl rfl (Nat.le_of_ble_eq_true rfl) (Nat.le_of_ble_eq_true rfl) rfl ?_)
    | (refine gate 16 rfl ?_; first
      | fail
      )
    | refine WO_nil ?_
    | refine W_seq ?_
    | refine W_region ?_
    | refine W_draw0 rfl rfl ?_
    | refine W_drawA rfl ?_
    | refine W_blockN ?_
    | refine W_skip ?_
    | refine W_exit ?_
    | exact over_put
    | exact over_box
    | exact over_st
    | refine W_ret ?_
    | refine W_condT rfl (by first | assumption | rfl) ?_
    | refine W_condF rfl (by first | assumption | rfl) ?_
    | (refine W_cond rfl ?_ ?_ <;> intro hq)
    | refine WO_gT rfl rfl rfl rfl (by first | assumption | rfl) ?_
    | refine WO_gF rfl rfl rfl rfl (by first | assumption | rfl) rfl rfl rfl ?_
    | (refine WO_gs rfl rfl rfl ?_ ?_ <;> intro hq)
    | refine RW_nil ?_ rfl rfl
    | (refine gateR 17 rfl ?_; first
      | refine RW_apOw rfl rfl rfl rfl rfl rfl rfl rfl rfl rfl rfl rfl rfl rfl rfl (.inr bD_v) bD_row ?_ ?_ ?_
      | refine RW_apVw rfl rfl rfl rfl rfl rfl rfl rfl rfl rfl rfl rfl rfl rfl rfl rfl rfl (.inr bD_v) bD_row ?_ ?_ ?_
      | refine RW_apOw rfl rfl rfl rfl rfl rfl rfl rfl rfl rfl rfl rfl rfl rfl rfl ?_ ?_ ?_ ?_ ?_
      | refine RW_apVw rfl rfl rfl rfl rfl rfl rfl rfl rfl rfl rfl rfl rfl rfl rfl rfl rfl ?_ ?_ ?_ ?_ ?_)
    | refine RW_op (us := ?_) (ub := ?_) rfl (fun s0 b0 => ?_) ?_
    | refine RW_opT (us := ?_) (ub := ?_) rfl rfl rfl rfl (by first | assumption | rfl) (fun s0 b0 => ?_) ?_
    | refine RW_opF rfl rfl rfl rfl (by first | assumption | rfl) rfl rfl rfl ?_
    | (refine RW_gs rfl rfl rfl ?_ ?_ <;> intro hq)
    | refine end_v rfl rfl rfl ?_
    )
  refine end_vw rfl rfl rfl rfl rfl rfl (.inr bD_ok) ?_
  rfl

set_option maxHeartbeats 1000000 in
set_option maxRecDepth 20000 in
theorem in_ok (a b c : Int) : FnOK Try.prog 54 false [(false, [dI a]), (false, [dI b]), (false, [dI c])] (rB (decide (b ≤ a) && decide (a ≤ c))) := by
  refine FnOK_body Try.func54 rfl rfl ?_
  repeat' (first
    | refine WO_cons rfl ?_
    | (refine gate 0 rfl ?_; first
      | refine mv_v rfl rfl rfl rfl rfl ?_
      | refine mv_sl rfl rfl rfl rfl rfl ?_
      | refine mv_vw rfl rfl rfl rfl rfl ?_
      | refine mv_nl rfl rfl rfl rfl rfl ?_
      | refine mv_p rfl rfl rfl rfl rfl ?_
      | refine mv_bp rfl rfl rfl rfl rfl ?_
      | refine mv_vp rfl rfl rfl rfl rfl ?_)
    | (refine gate 12 rfl ?_; first
      | refine op_faddr_bp rfl rfl rfl rfl rfl rfl ?_
      | refine op_faddr_p rfl rfl rfl rfl rfl rfl ?_)
    | (refine gate 1 rfl ?_; first
      | refine ld_v rfl rfl rfl rfl rfl rfl rfl rfl rfl ?_
      | refine ld_sl rfl rfl rfl rfl rfl rfl rfl rfl rfl ?_
      | refine ld_vw rfl rfl rfl rfl rfl rfl rfl rfl rfl ?_
      | refine ld_nl rfl rfl rfl rfl rfl rfl rfl rfl rfl ?_
      | refine ld_bp rfl rfl rfl rfl rfl rfl rfl rfl rfl ?_
      | refine ld_p rfl rfl rfl rfl rfl rfl rfl rfl rfl ?_
      | refine op_load_agg rfl rfl rfl rfl rfl rfl rfl rfl (Nat.le_of_ble_eq_true rfl) ?_
      | refine op_load_p rfl rfl rfl rfl rfl rfl rfl ?_)
    | (refine gate 2 rfl ?_; refine op_bin rfl rfl rfl rfl rfl rfl rfl ?_)
    | (refine gate 3 rfl ?_; first
      | refine op_shift rfl rfl rfl rfl rfl rfl (by decide) (Or.inl ⟨rfl, rfl⟩) ?_
      | refine op_shift rfl rfl rfl rfl rfl rfl (by decide) (Or.inr ⟨rfl, rfl⟩) ?_)
    | (refine gate 4 rfl ?_; refine op_not rfl rfl rfl rfl rfl ?_)
    | (refine gate 5 rfl ?_; refine op_conv rfl rfl rfl rfl rfl rfl rfl ?_)
    | (refine gate 6 rfl ?_; refine op_len rfl rfl rfl rfl rfl rfl rfl ?_)
    | (refine gate 7 rfl ?_; first
      | refine pk_t rfl rfl rfl rfl rfl (by first | assumption | rfl) rfl ?_
      | refine pk_f rfl rfl rfl rfl rfl (by first | assumption | rfl) rfl ?_)
    | (refine gate 8 rfl ?_; first
      | refine op_box rfl rfl rfl rfl rfl rfl rfl rfl ?_
      | refine op_alloc rfl rfl rfl rfl rfl rfl rfl ?_)
    | (refine gate 9 rfl ?_; first
      | refine op_build rfl rfl rfl rfl rfl rfl rfl rfl rfl ?_
      | refine op_buildSlice rfl rfl rfl rfl rfl rfl rfl rfl rfl rfl rfl rfl ?_)
    | (refine gate 17 rfl ?_; first
      | refine op_append_ov rfl rfl rfl rfl rfl rfl rfl rfl rfl rfl rfl rfl rfl rfl (.inr bD_v) bD_row ?_ ?_ ?_
      | refine op_append_oo rfl rfl rfl rfl rfl rfl rfl rfl rfl rfl rfl rfl rfl (.inr bD_v) bD_row ?_ ?_ ?_
      | refine op_append_nl rfl rfl rfl rfl rfl rfl rfl rfl rfl rfl rfl rfl rfl (.inr bD_v) bD_row ?_ ?_ ?_)
    | (refine gate 10 rfl ?_; refine op_extract rfl rfl rfl rfl rfl rfl ?_)
    | (refine gate 11 rfl ?_; refine op_store rfl rfl rfl rfl rfl rfl rfl rfl (Nat.le_of_ble_eq_true rfl) (Nat.le_of_ble_eq_true rfl) rfl ?_)
    | (refine gate 16 rfl ?_; first
      | fail
      )
    | refine WO_nil ?_
    | refine W_seq ?_
    | refine W_region ?_
    | refine W_draw0 rfl rfl ?_
    | refine W_drawA rfl ?_
    | refine W_blockN ?_
    | refine W_skip ?_
    | refine W_exit ?_
    | exact over_put
    | exact over_box
    | exact over_st
    | refine W_ret ?_
    | refine W_condT rfl (by first | assumption | rfl) ?_
    | refine W_condF rfl (by first | assumption | rfl) ?_
    | (refine W_cond rfl ?_ ?_ <;> intro hq)
    | refine WO_gT rfl rfl rfl rfl (by first | assumption | rfl) ?_
    | refine WO_gF rfl rfl rfl rfl (by first | assumption | rfl) rfl rfl rfl ?_
    | (refine WO_gs rfl rfl rfl ?_ ?_ <;> intro hq)
    | refine RW_nil ?_ rfl rfl
    | (refine gateR 17 rfl ?_; first
      | refine RW_apOw rfl rfl rfl rfl rfl rfl rfl rfl rfl rfl rfl rfl rfl rfl rfl (.inr bD_v) bD_row ?_ ?_ ?_
      | refine RW_apVw rfl rfl rfl rfl rfl rfl rfl rfl rfl rfl rfl rfl rfl rfl rfl rfl rfl (.inr bD_v) bD_row ?_ ?_ ?_
      | refine RW_apOw rfl rfl rfl rfl rfl rfl rfl rfl rfl rfl rfl rfl rfl rfl rfl ?_ ?_ ?_ ?_ ?_
      | refine RW_apVw rfl rfl rfl rfl rfl rfl rfl rfl rfl rfl rfl rfl rfl rfl rfl rfl rfl ?_ ?_ ?_ ?_ ?_)
    | refine RW_op (us := ?_) (ub := ?_) rfl (fun s0 b0 => ?_) ?_
    | refine RW_opT (us := ?_) (ub := ?_) rfl rfl rfl rfl (by first | assumption | rfl) (fun s0 b0 => ?_) ?_
    | refine RW_opF rfl rfl rfl rfl (by first | assumption | rfl) rfl rfl rfl ?_
    | (refine RW_gs rfl rfl rfl ?_ ?_ <;> intro hq)
    | refine end_v rfl rfl rfl ?_
    )
  all_goals (first | (simp_all; done) | (simp_all; omega))

set_option maxHeartbeats 1000000 in
set_option maxRecDepth 20000 in
theorem small_ok (a b : Int) (p : List Int) : FnOK Try.prog 48 false [(true, [dI a, dI b, .sl (bD p)])] (rB ((decide (0 ≤ a) && decide (a ≤ 400)) && (decide (0 ≤ b) && decide (b ≤ 400)) && decide ((p.length : Int) ≤ 400))) := by
  refine FnOK_body Try.func48 rfl rfl ?_
  repeat' (first
    | refine WO_cons rfl ?_
    | (refine gate 0 rfl ?_; first
      | refine mv_v rfl rfl rfl rfl rfl ?_
      | refine mv_sl rfl rfl rfl rfl rfl ?_
      | refine mv_vw rfl rfl rfl rfl rfl ?_
      | refine mv_nl rfl rfl rfl rfl rfl ?_
      | refine mv_p rfl rfl rfl rfl rfl ?_
      | refine mv_bp rfl rfl rfl rfl rfl ?_
      | refine mv_vp rfl rfl rfl rfl rfl ?_)
    | (refine gate 12 rfl ?_; first
      | refine op_faddr_bp rfl rfl rfl rfl rfl rfl ?_
      | refine op_faddr_p rfl rfl rfl rfl rfl rfl ?_)
    | (refine gate 1 rfl ?_; first
      | refine ld_v rfl rfl rfl rfl rfl rfl rfl rfl rfl ?_
      | refine ld_sl rfl rfl rfl rfl rfl rfl rfl rfl rfl ?_
      | refine ld_vw rfl rfl rfl rfl rfl rfl rfl rfl rfl ?_
      | refine ld_nl rfl rfl rfl rfl rfl rfl rfl rfl rfl ?_
      | refine ld_bp rfl rfl rfl rfl rfl rfl rfl rfl rfl ?_
      | refine ld_p rfl rfl rfl rfl rfl rfl rfl rfl rfl ?_
      | refine op_load_agg rfl rfl rfl rfl rfl rfl rfl rfl (Nat.le_of_ble_eq_true rfl) ?_
      | refine op_load_p rfl rfl rfl rfl rfl rfl rfl ?_)
    | (refine gate 2 rfl ?_; refine op_bin rfl rfl rfl rfl rfl rfl rfl ?_)
    | (refine gate 3 rfl ?_; first
      | refine op_shift rfl rfl rfl rfl rfl rfl (by decide) (Or.inl ⟨rfl, rfl⟩) ?_
      | refine op_shift rfl rfl rfl rfl rfl rfl (by decide) (Or.inr ⟨rfl, rfl⟩) ?_)
    | (refine gate 4 rfl ?_; refine op_not rfl rfl rfl rfl rfl ?_)
    | (refine gate 5 rfl ?_; refine op_conv rfl rfl rfl rfl rfl rfl rfl ?_)
    | (refine gate 6 rfl ?_; refine op_len rfl rfl rfl rfl rfl rfl rfl ?_)
    | (refine gate 7 rfl ?_; first
      | refine pk_t rfl rfl rfl rfl rfl (by first | assumption | rfl) rfl ?_
      | refine pk_f rfl rfl rfl rfl rfl (by first | assumption | rfl) rfl ?_)
    | (refine gate 8 rfl ?_; first
      | refine op_box rfl rfl rfl rfl rfl rfl rfl rfl ?_
      | refine op_alloc rfl rfl rfl rfl rfl rfl rfl ?_)
    | (refine gate 9 rfl ?_; first
      | refine op_build rfl rfl rfl rfl rfl rfl rfl rfl rfl ?_
      | refine op_buildSlice rfl rfl rfl rfl rfl rfl rfl rfl rfl rfl rfl rfl ?_)
    | (refine gate 17 rfl ?_; first
      | refine op_append_ov rfl rfl rfl rfl rfl rfl rfl rfl rfl rfl rfl rfl rfl rfl (.inr bD_v) bD_row ?_ ?_ ?_
      | refine op_append_oo rfl rfl rfl rfl rfl rfl rfl rfl rfl rfl rfl rfl rfl (.inr bD_v) bD_row ?_ ?_ ?_
      | refine op_append_nl rfl rfl rfl rfl rfl rfl rfl rfl rfl rfl rfl rfl rfl (.inr bD_v) bD_row ?_ ?_ ?_)
    | (refine gate 10 rfl ?_; refine op_extract rfl rfl rfl rfl rfl rfl ?_)
    | (refine gate 11 rfl ?_; refine op_store rfl rfl rfl rfl rfl rfl rfl rfl (Nat.le_of_ble_eq_true rfl) (Nat.le_of_ble_eq_true rfl) rfl ?_)
    | (refine gate 16 rfl ?_; first
      | refine op_call rfl rfl rfl rfl rfl rfl rfl rfl (in_ok _ _ _) ?_
      )
    | refine WO_nil ?_
    | refine W_seq ?_
    | refine W_region ?_
    | refine W_draw0 rfl rfl ?_
    | refine W_drawA rfl ?_
    | refine W_blockN ?_
    | refine W_skip ?_
    | refine W_exit ?_
    | exact over_put
    | exact over_box
    | exact over_st
    | refine W_ret ?_
    | refine W_condT rfl (by first | assumption | rfl) ?_
    | refine W_condF rfl (by first | assumption | rfl) ?_
    | (refine W_cond rfl ?_ ?_ <;> intro hq)
    | refine WO_gT rfl rfl rfl rfl (by first | assumption | rfl) ?_
    | refine WO_gF rfl rfl rfl rfl (by first | assumption | rfl) rfl rfl rfl ?_
    | (refine WO_gs rfl rfl rfl ?_ ?_ <;> intro hq)
    | refine RW_nil ?_ rfl rfl
    | (refine gateR 17 rfl ?_; first
      | refine RW_apOw rfl rfl rfl rfl rfl rfl rfl rfl rfl rfl rfl rfl rfl rfl rfl (.inr bD_v) bD_row ?_ ?_ ?_
      | refine RW_apVw rfl rfl rfl rfl rfl rfl rfl rfl rfl rfl rfl rfl rfl rfl rfl rfl rfl (.inr bD_v) bD_row ?_ ?_ ?_
      | refine RW_apOw rfl rfl rfl rfl rfl rfl rfl rfl rfl rfl rfl rfl rfl rfl rfl ?_ ?_ ?_ ?_ ?_
      | refine RW_apVw rfl rfl rfl rfl rfl rfl rfl rfl rfl rfl rfl rfl rfl rfl rfl rfl rfl ?_ ?_ ?_ ?_ ?_)
    | refine RW_op (us := ?_) (ub := ?_) rfl (fun s0 b0 => ?_) ?_
    | refine RW_opT (us := ?_) (ub := ?_) rfl rfl rfl rfl (by first | assumption | rfl) (fun s0 b0 => ?_) ?_
    | refine RW_opF rfl rfl rfl rfl (by first | assumption | rfl) rfl rfl rfl ?_
    | (refine RW_gs rfl rfl rfl ?_ ?_ <;> intro hq)
    | refine end_v rfl rfl rfl ?_
    )
  all_goals (first | (simp_all [bD_len]; done) | (simp_all [bD_len]; omega))


set_option maxHeartbeats 1000000 in
set_option maxRecDepth 20000 in
theorem two_ok (n : Int) : FnOK Try.prog 47 false [(false, [dI n])] (rBy [IntKind.u8.wrap (IntKind.i64.wrap (n.tdiv 256)), IntKind.u8.wrap (n.tmod 256)]) := by
  refine FnOK_body Try.func47 rfl rfl ?_
  repeat' (first
    | refine WO_cons rfl ?_
    | (refine gate 0 rfl ?_; first
      | refine mv_v rfl rfl rfl rfl rfl ?_
      | refine mv_sl rfl rfl rfl rfl rfl ?_
      | refine mv_vw rfl rfl rfl rfl rfl ?_
      | refine mv_nl rfl rfl rfl rfl rfl ?_
      | refine mv_p rfl rfl rfl rfl rfl ?_
      | refine mv_bp rfl rfl rfl rfl rfl ?_
      | refine mv_vp rfl rfl rfl rfl rfl ?_)
    | (refine gate 12 rfl ?_; first
      | refine op_faddr_bp rfl rfl rfl rfl rfl rfl ?_
      | refine op_faddr_p rfl rfl rfl rfl rfl rfl ?_)
    | (refine gate 1 rfl ?_; first
      | refine ld_v rfl rfl rfl rfl rfl rfl rfl rfl rfl ?_
      | refine ld_sl rfl rfl rfl rfl rfl rfl rfl rfl rfl ?_
      | refine ld_vw rfl rfl rfl rfl rfl rfl rfl rfl rfl ?_
      | refine ld_nl rfl rfl rfl rfl rfl rfl rfl rfl rfl ?_
      | refine ld_bp rfl rfl rfl rfl rfl rfl rfl rfl rfl ?_
      | refine ld_p rfl rfl rfl rfl rfl rfl rfl rfl rfl ?_
      | refine op_load_agg rfl rfl rfl rfl rfl rfl rfl rfl (Nat.le_of_ble_eq_true rfl) ?_
      | refine op_load_p rfl rfl rfl rfl rfl rfl rfl ?_)
    | (refine gate 2 rfl ?_; refine op_bin rfl rfl rfl rfl rfl rfl rfl ?_)
    | (refine gate 3 rfl ?_; first
      | refine op_shift rfl rfl rfl rfl rfl rfl (by decide) (Or.inl ⟨rfl, rfl⟩) ?_
      | refine op_shift rfl rfl rfl rfl rfl rfl (by decide) (Or.inr ⟨rfl, rfl⟩) ?_)
    | (refine gate 4 rfl ?_; refine op_not rfl rfl rfl rfl rfl ?_)
    | (refine gate 5 rfl ?_; refine op_conv rfl rfl rfl rfl rfl rfl rfl ?_)
    | (refine gate 6 rfl ?_; refine op_len rfl rfl rfl rfl rfl rfl rfl ?_)
    | (refine gate 7 rfl ?_; first
      | refine pk_t rfl rfl rfl rfl rfl (by first | assumption | rfl) rfl ?_
      | refine pk_f rfl rfl rfl rfl rfl (by first | assumption | rfl) rfl ?_)
    | (refine gate 8 rfl ?_; first
      | refine op_box rfl rfl rfl rfl rfl rfl rfl rfl ?_
      | refine op_alloc rfl rfl rfl rfl rfl rfl rfl ?_)
    | (refine gate 9 rfl ?_; first
      | refine op_build rfl rfl rfl rfl rfl rfl rfl rfl rfl ?_
      | refine op_buildSlice rfl rfl rfl rfl rfl rfl rfl rfl rfl rfl rfl rfl ?_)
    | (refine gate 17 rfl ?_; first
      | refine op_append_ov rfl rfl rfl rfl rfl rfl rfl rfl rfl rfl rfl rfl rfl rfl (.inr bD_v) bD_row ?_ ?_ ?_
      | refine op_append_oo rfl rfl rfl rfl rfl rfl rfl rfl rfl rfl rfl rfl rfl (.inr bD_v) bD_row ?_ ?_ ?_
      | refine op_append_nl rfl rfl rfl rfl rfl rfl rfl rfl rfl rfl rfl rfl rfl (.inr bD_v) bD_row ?_ ?_ ?_)
    | (refine gate 10 rfl ?_; refine op_extract rfl rfl rfl rfl rfl rfl ?_)
    | (refine gate 11 rfl ?_; refine op_store rfl rfl rfl rfl rfl rfl rfl rfl (Nat.le_of_ble_eq_true rfl) (Nat.le_of_ble_eq_true rfl) rfl ?_)
    | (refine gate 16 rfl ?_; first
      | fail
      )
    | refine WO_nil ?_
    | refine W_seq ?_
    | refine W_region ?_
    | refine W_draw0 rfl rfl ?_
    | refine W_drawA rfl ?_
    | refine W_blockN ?_
    | refine W_skip ?_
    | refine W_exit ?_
    | exact over_put
    | exact over_box
    | exact over_st
    | refine W_ret ?_
    | refine W_condT rfl (by first | assumption | rfl) ?_
    | refine W_condF rfl (by first | assumption | rfl) ?_
    | (refine W_cond rfl ?_ ?_ <;> intro hq)
    | refine WO_gT rfl rfl rfl rfl (by first | assumption | rfl) ?_
    | refine WO_gF rfl rfl rfl rfl (by first | assumption | rfl) rfl rfl rfl ?_
    | (refine WO_gs rfl rfl rfl ?_ ?_ <;> intro hq)
    | refine RW_nil ?_ rfl rfl
    | (refine gateR 17 rfl ?_; first
      | refine RW_apOw rfl rfl rfl rfl rfl rfl rfl rfl rfl rfl rfl rfl rfl rfl rfl (.inr bD_v) bD_row ?_ ?_ ?_
      | refine RW_apVw rfl rfl rfl rfl rfl rfl rfl rfl rfl rfl rfl rfl rfl rfl rfl rfl rfl (.inr bD_v) bD_row ?_ ?_ ?_
      | refine RW_apOw rfl rfl rfl rfl rfl rfl rfl rfl rfl rfl rfl rfl rfl rfl rfl ?_ ?_ ?_ ?_ ?_
      | refine RW_apVw rfl rfl rfl rfl rfl rfl rfl rfl rfl rfl rfl rfl rfl rfl rfl rfl rfl ?_ ?_ ?_ ?_ ?_)
    | refine RW_op (us := ?_) (ub := ?_) rfl (fun s0 b0 => ?_) ?_
    | refine RW_opT (us := ?_) (ub := ?_) rfl rfl rfl rfl (by first | assumption | rfl) (fun s0 b0 => ?_) ?_
    | refine RW_opF rfl rfl rfl rfl (by first | assumption | rfl) rfl rfl rfl ?_
    | (refine RW_gs rfl rfl rfl ?_ ?_ <;> intro hq)
    | refine end_v rfl rfl rfl ?_
    )
  refine end_vw rfl rfl rfl rfl rfl rfl (.inr bD_ok) ?_
  rfl

set_option maxHeartbeats 1000000 in
set_option maxRecDepth 20000 in
theorem l02small_ok (n : Int) : FnOK Try.prog 67 false [(false, [dI n])] (rB (decide (0 ≤ n) && decide (n ≤ 400))) := by
  refine FnOK_body Try.func67 rfl rfl ?_
  repeat' (first
    | refine WO_cons rfl ?_
    | (refine gate 0 rfl ?_; first
      | refine mv_v rfl rfl rfl rfl rfl ?_
      | refine mv_sl rfl rfl rfl rfl rfl ?_
      | refine mv_vw rfl rfl rfl rfl rfl ?_
      | refine mv_nl rfl rfl rfl rfl rfl ?_
      | refine mv_p rfl rfl rfl rfl rfl ?_
      | refine mv_bp rfl rfl rfl rfl rfl ?_
      | refine mv_vp rfl rfl rfl rfl rfl ?_)
    | (refine gate 12 rfl ?_; first
      | refine op_faddr_bp rfl rfl rfl rfl rfl rfl ?_
      | refine op_faddr_p rfl rfl rfl rfl rfl rfl ?_)
    | (refine gate 1 rfl ?_; first
      | refine ld_v rfl rfl rfl rfl rfl rfl rfl rfl rfl ?_
      | refine ld_sl rfl rfl rfl rfl rfl rfl rfl rfl rfl ?_
      | refine ld_vw rfl rfl rfl rfl rfl rfl rfl rfl rfl ?_
      | refine ld_nl rfl rfl rfl rfl rfl rfl rfl rfl rfl ?_
      | refine ld_bp rfl rfl rfl rfl rfl rfl rfl rfl rfl ?_
      | refine ld_p rfl rfl rfl rfl rfl rfl rfl rfl rfl ?_
      | refine op_load_agg rfl rfl rfl rfl rfl rfl rfl rfl (Nat.le_of_ble_eq_true rfl) ?_
      | refine op_load_p rfl rfl rfl rfl rfl rfl rfl ?_)
    | (refine gate 2 rfl ?_; refine op_bin rfl rfl rfl rfl rfl rfl rfl ?_)
    | (refine gate 3 rfl ?_; first
      | refine op_shift rfl rfl rfl rfl rfl rfl (by decide) (Or.inl ⟨rfl, rfl⟩) ?_
      | refine op_shift rfl rfl rfl rfl rfl rfl (by decide) (Or.inr ⟨rfl, rfl⟩) ?_)
    | (refine gate 4 rfl ?_; refine op_not rfl rfl rfl rfl rfl ?_)
    | (refine gate 5 rfl ?_; refine op_conv rfl rfl rfl rfl rfl rfl rfl ?_)
    | (refine gate 6 rfl ?_; refine op_len rfl rfl rfl rfl rfl rfl rfl ?_)
    | (refine gate 7 rfl ?_; first
      | refine pk_t rfl rfl rfl rfl rfl (by first | assumption | rfl) rfl ?_
      | refine pk_f rfl rfl rfl rfl rfl (by first | assumption | rfl) rfl ?_)
    | (refine gate 8 rfl ?_; first
      | refine op_box rfl rfl rfl rfl rfl rfl rfl rfl ?_
      | refine op_alloc rfl rfl rfl rfl rfl rfl rfl ?_)
    | (refine gate 9 rfl ?_; first
      | refine op_build rfl rfl rfl rfl rfl rfl rfl rfl rfl ?_
      | refine op_buildSlice rfl rfl rfl rfl rfl rfl rfl rfl rfl rfl rfl rfl ?_)
    | (refine gate 17 rfl ?_; first
      | refine op_append_ov rfl rfl rfl rfl rfl rfl rfl rfl rfl rfl rfl rfl rfl rfl (.inr bD_v) bD_row ?_ ?_ ?_
      | refine op_append_oo rfl rfl rfl rfl rfl rfl rfl rfl rfl rfl rfl rfl rfl (.inr bD_v) bD_row ?_ ?_ ?_
      | refine op_append_nl rfl rfl rfl rfl rfl rfl rfl rfl rfl rfl rfl rfl rfl (.inr bD_v) bD_row ?_ ?_ ?_)
    | (refine gate 10 rfl ?_; refine op_extract rfl rfl rfl rfl rfl rfl ?_)
    | (refine gate 11 rfl ?_; refine op_store rfl rfl rfl rfl rfl rfl rfl rfl (Nat.le_of_ble_eq_true rfl) (Nat.le_of_ble_eq_true rfl) rfl ?_)
    | (refine gate 16 rfl ?_; first
      | fail
      )
    | refine WO_nil ?_
    | refine W_seq ?_
    | refine W_region ?_
    | refine W_draw0 rfl rfl ?_
    | refine W_drawA rfl ?_
    | refine W_blockN ?_
    | refine W_skip ?_
    | refine W_exit ?_
    | exact over_put
    | exact over_box
    | exact over_st
    | refine W_ret ?_
    | refine W_condT rfl (by first | assumption | rfl) ?_
    | refine W_condF rfl (by first | assumption | rfl) ?_
    | (refine W_cond rfl ?_ ?_ <;> intro hq)
    | refine WO_gT rfl rfl rfl rfl (by first | assumption | rfl) ?_
    | refine WO_gF rfl rfl rfl rfl (by first | assumption | rfl) rfl rfl rfl ?_
    | (refine WO_gs rfl rfl rfl ?_ ?_ <;> intro hq)
    | refine RW_nil ?_ rfl rfl
    | (refine gateR 17 rfl ?_; first
      | refine RW_apOw rfl rfl rfl rfl rfl rfl rfl rfl rfl rfl rfl rfl rfl rfl rfl (.inr bD_v) bD_row ?_ ?_ ?_
      | refine RW_apVw rfl rfl rfl rfl rfl rfl rfl rfl rfl rfl rfl rfl rfl rfl rfl rfl rfl (.inr bD_v) bD_row ?_ ?_ ?_
      | refine RW_apOw rfl rfl rfl rfl rfl rfl rfl rfl rfl rfl rfl rfl rfl rfl rfl ?_ ?_ ?_ ?_ ?_
      | refine RW_apVw rfl rfl rfl rfl rfl rfl rfl rfl rfl rfl rfl rfl rfl rfl rfl rfl rfl ?_ ?_ ?_ ?_ ?_)
    | refine RW_op (us := ?_) (ub := ?_) rfl (fun s0 b0 => ?_) ?_
    | refine RW_opT (us := ?_) (ub := ?_) rfl rfl rfl rfl (by first | assumption | rfl) (fun s0 b0 => ?_) ?_
    | refine RW_opF rfl rfl rfl rfl (by first | assumption | rfl) rfl rfl rfl ?_
    | (refine RW_gs rfl rfl rfl ?_ ?_ <;> intro hq)
    | refine end_v rfl rfl rfl ?_
    )
  all_goals (first | (simp_all; done) | (simp_all; omega))

set_option maxHeartbeats 1000000 in
set_option maxRecDepth 20000 in
theorem l05small_ok (a b : Int) (p : List Int) : FnOK Try.prog 46 false [aEd a b p] (rB ((decide (0 ≤ a) && decide (a ≤ 400)) && (decide (0 ≤ b) && decide (b ≤ 400)) && decide ((p.length : Int) ≤ 400))) := by
  refine FnOK_body Try.func46 rfl rfl ?_
  repeat' (first
    | refine WO_cons rfl ?_
    | (refine gate 0 rfl ?_; first
      | refine mv_v rfl rfl rfl rfl rfl ?_
      | refine mv_sl rfl rfl rfl rfl rfl ?_
      | refine mv_vw rfl rfl rfl rfl rfl ?_
      | refine mv_nl rfl rfl rfl rfl rfl ?_
      | refine mv_p rfl rfl rfl rfl rfl ?_
      | refine mv_bp rfl rfl rfl rfl rfl ?_
      | refine mv_vp rfl rfl rfl rfl rfl ?_)
    | (refine gate 12 rfl ?_; first
      | refine op_faddr_bp rfl rfl rfl rfl rfl rfl ?_
      | refine op_faddr_p rfl rfl rfl rfl rfl rfl ?_)
    | (refine gate 1 rfl ?_; first
      | refine ld_v rfl rfl rfl rfl rfl rfl rfl rfl rfl ?_
      | refine ld_sl rfl rfl rfl rfl rfl rfl rfl rfl rfl ?_
      | refine ld_vw rfl rfl rfl rfl rfl rfl rfl rfl rfl ?_
      | refine ld_nl rfl rfl rfl rfl rfl rfl rfl rfl rfl ?_
      | refine ld_bp rfl rfl rfl rfl rfl rfl rfl rfl rfl ?_
      | refine ld_p rfl rfl rfl rfl rfl rfl rfl rfl rfl ?_
      | refine op_load_agg rfl rfl rfl rfl rfl rfl rfl rfl (Nat.le_of_ble_eq_true rfl) ?_
      | refine op_load_p rfl rfl rfl rfl rfl rfl rfl ?_)
    | (refine gate 2 rfl ?_; refine op_bin rfl rfl rfl rfl rfl rfl rfl ?_)
    | (refine gate 3 rfl ?_; first
      | refine op_shift rfl rfl rfl rfl rfl rfl (by decide) (Or.inl ⟨rfl, rfl⟩) ?_
      | refine op_shift rfl rfl rfl rfl rfl rfl (by decide) (Or.inr ⟨rfl, rfl⟩) ?_)
    | (refine gate 4 rfl ?_; refine op_not rfl rfl rfl rfl rfl ?_)
    | (refine gate 5 rfl ?_; refine op_conv rfl rfl rfl rfl rfl rfl rfl ?_)
    | (refine gate 6 rfl ?_; refine op_len rfl rfl rfl rfl rfl rfl rfl ?_)
    | (refine gate 7 rfl ?_; first
      | refine pk_t rfl rfl rfl rfl rfl (by first | assumption | rfl) rfl ?_
      | refine pk_f rfl rfl rfl rfl rfl (by first | assumption | rfl) rfl ?_)
    | (refine gate 8 rfl ?_; first
      | refine op_box rfl rfl rfl rfl rfl rfl rfl rfl ?_
      | refine op_alloc rfl rfl rfl rfl rfl rfl rfl ?_)
    | (refine gate 9 rfl ?_; first
      | refine op_build rfl rfl rfl rfl rfl rfl rfl rfl rfl ?_
      | refine op_buildSlice rfl rfl rfl rfl rfl rfl rfl rfl rfl rfl rfl rfl ?_)
    | (refine gate 17 rfl ?_; first
      | refine op_append_ov rfl rfl rfl rfl rfl rfl rfl rfl rfl rfl rfl rfl rfl rfl (.inr bD_v) bD_row ?_ ?_ ?_
      | refine op_append_oo rfl rfl rfl rfl rfl rfl rfl rfl rfl rfl rfl rfl rfl (.inr bD_v) bD_row ?_ ?_ ?_
      | refine op_append_nl rfl rfl rfl rfl rfl rfl rfl rfl rfl rfl rfl rfl rfl (.inr bD_v) bD_row ?_ ?_ ?_)
    | (refine gate 10 rfl ?_; refine op_extract rfl rfl rfl rfl rfl rfl ?_)
    | (refine gate 11 rfl ?_; refine op_store rfl rfl rfl rfl rfl rfl rfl rfl (Nat.le_of_ble_eq_true rfl) (Nat.le_of_ble_eq_true rfl) rfl ?_)
    | (refine gate 16 rfl ?_; first
      | refine op_call rfl rfl rfl rfl rfl rfl rfl rfl (l02small_ok _) ?_
      )
    | refine WO_nil ?_
    | refine W_seq ?_
    | refine W_region ?_
    | refine W_draw0 rfl rfl ?_
    | refine W_drawA rfl ?_
    | refine W_blockN ?_
    | refine W_skip ?_
    | refine W_exit ?_
    | exact over_put
    | exact over_box
    | exact over_st
    | refine W_ret ?_
    | refine W_condT rfl (by first | assumption | rfl) ?_
    | refine W_condF rfl (by first | assumption | rfl) ?_
    | (refine W_cond rfl ?_ ?_ <;> intro hq)
    | refine WO_gT rfl rfl rfl rfl (by first | assumption | rfl) ?_
    | refine WO_gF rfl rfl rfl rfl (by first | assumption | rfl) rfl rfl rfl ?_
    | (refine WO_gs rfl rfl rfl ?_ ?_ <;> intro hq)
    | refine RW_nil ?_ rfl rfl
    | (refine gateR 17 rfl ?_; first
      | refine RW_apOw rfl rfl rfl rfl rfl rfl rfl rfl rfl rfl rfl rfl rfl rfl rfl (.inr bD_v) bD_row ?_ ?_ ?_
      | refine RW_apVw rfl rfl rfl rfl rfl rfl rfl rfl rfl rfl rfl rfl rfl rfl rfl rfl rfl (.inr bD_v) bD_row ?_ ?_ ?_
      | refine RW_apOw rfl rfl rfl rfl rfl rfl rfl rfl rfl rfl rfl rfl rfl rfl rfl ?_ ?_ ?_ ?_ ?_
      | refine RW_apVw rfl rfl rfl rfl rfl rfl rfl rfl rfl rfl rfl rfl rfl rfl rfl rfl rfl ?_ ?_ ?_ ?_ ?_)
    | refine RW_op (us := ?_) (ub := ?_) rfl (fun s0 b0 => ?_) ?_
    | refine RW_opT (us := ?_) (ub := ?_) rfl rfl rfl rfl (by first | assumption | rfl) (fun s0 b0 => ?_) ?_
    | refine RW_opF rfl rfl rfl rfl (by first | assumption | rfl) rfl rfl rfl ?_
    | (refine RW_gs rfl rfl rfl ?_ ?_ <;> intro hq)
    | refine end_v rfl rfl rfl ?_
    )
  all_goals (first | (simp_all [bD_len]; done) | (simp_all [bD_len]; omega))

end Go.AX
