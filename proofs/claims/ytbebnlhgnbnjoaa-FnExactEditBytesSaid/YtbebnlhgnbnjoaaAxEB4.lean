import Derived.Test.YtbebnlhgnbnjoaaAxEB2
set_option linter.unusedVariables false
set_option linter.unusedSimpArgs false
namespace Go.AX
open Go.Proofs

/-- What an edit must be to be saved. -/
def edSmall (a b : Int) (p : List Int) : Bool := (decide (0 ≤ a) && decide (a ≤ 400)) && (decide (0 ≤ b) && decide (b ≤ 400)) && decide ((p.length : Int) ≤ 400)
def two2 (n : Int) : List Int := [IntKind.u8.wrap (IntKind.i64.wrap (n.tdiv 256)), IntKind.u8.wrap (n.tmod 256)]
def word2 (n : Int) : List Int := [IntKind.u8.wrap (n.fdiv (2 ^ 8)), IntKind.u8.wrap n]

set_option maxHeartbeats 2000000 in
set_option maxRecDepth 20000 in
theorem specEB_ok (a b : Int) (p : List Int) (h : edSmall a b p = true) : FnOK Try.prog 18 false [aEd a b p] (rBy (two2 a ++ two2 b ++ two2 p.length ++ p)) := by
  have hs : (!((decide (0 ≤ a) && decide (a ≤ 400)) && (decide (0 ≤ b) && decide (b ≤ 400)) && decide ((p.length : Int) ≤ 400))) = false := by
    unfold edSmall at h; rw [h]; rfl
  have hp : p.length ≤ 400 := by simp [edSmall] at h; omega
  refine FnOK_body Try.func18 rfl rfl ?_
  repeat' (first
    | refine WO_cons rfl ?_
    | (refine gate 0 rfl ?_; first
      | refine mv_v rfl rfl rfl rfl rfl ?_
      | refine mv_sl rfl rfl rfl rfl rfl ?_
      | refine mv_vw rfl rfl rfl rfl rfl ?_
      | refine mv_nl rfl rfl rfl rfl rfl ?_
      | refine mv_p rfl rfl rfl rfl rfl ?_
      | refine mv_bp rfl rfl rfl rfl rfl ?_
      | refine mv_vp rfl rfl rfl rfl rfl ?_)
    | (refine gate 12 rfl ?_; first
      | refine op_faddr_bp rfl rfl rfl rfl rfl rfl ?_
      | refine op_faddr_p rfl rfl rfl rfl rfl rfl ?_)
    | (refine gate 1 rfl ?_; first
      | refine ld_v rfl rfl rfl rfl rfl rfl rfl rfl rfl ?_
      | refine ld_sl rfl rfl rfl rfl rfl rfl rfl rfl rfl ?_
      | refine ld_vw rfl rfl rfl rfl rfl rfl rfl rfl rfl ?_
      | refine ld_nl rfl rfl rfl rfl rfl rfl rfl rfl rfl ?_
      | refine ld_bp rfl rfl rfl rfl rfl rfl rfl rfl rfl ?_
      | refine ld_p rfl rfl rfl rfl rfl rfl rfl rfl rfl ?_
      | refine op_load_agg rfl rfl rfl rfl rfl rfl rfl rfl (Nat.le_of_ble_eq_true rfl) ?_
      | refine op_load_p rfl rfl rfl rfl rfl rfl rfl ?_)
    | (refine gate 2 rfl ?_; refine op_bin rfl rfl rfl rfl rfl rfl rfl ?_)
    | (refine gate 3 rfl ?_; first
      | refine op_shift rfl rfl rfl rfl rfl rfl (by decide) (Or.inl ⟨rfl, rfl⟩) ?_
      | refine op_shift rfl rfl rfl rfl rfl rfl (by decide) (Or.inr ⟨rfl, rfl⟩) ?_)
    | (refine gate 4 rfl ?_; refine op_not rfl rfl rfl rfl rfl ?_)
    | (refine gate 5 rfl ?_; refine op_conv rfl rfl rfl rfl rfl rfl rfl ?_)
    | (refine gate 6 rfl ?_; refine op_len rfl rfl rfl rfl rfl rfl rfl ?_)
    | (refine gate 7 rfl ?_; first
      | refine pk_t rfl rfl rfl rfl rfl (by first | assumption | rfl) rfl ?_
      | refine pk_f rfl rfl rfl rfl rfl (by first | assumption | rfl) rfl ?_)
    | (refine gate 8 rfl ?_; first
      | refine op_box rfl rfl rfl rfl rfl rfl rfl rfl ?_
      | refine op_alloc rfl rfl rfl rfl rfl rfl rfl ?_)
    | (refine gate 9 rfl ?_; first
      | refine op_build rfl rfl rfl rfl rfl rfl rfl rfl rfl ?_
      | refine op_buildSlice rfl rfl rfl rfl rfl rfl rfl rfl rfl rfl rfl rfl ?_)
    | (refine gate 17 rfl ?_; first
      | refine op_append_ov rfl rfl rfl rfl rfl rfl rfl rfl rfl rfl rfl rfl rfl rfl (.inr bD_v) bD_row ?_ ?_ ?_
      | refine op_append_oo rfl rfl rfl rfl rfl rfl rfl rfl rfl rfl rfl rfl rfl (.inr bD_v) bD_row ?_ ?_ ?_
      | refine op_append_nl rfl rfl rfl rfl rfl rfl rfl rfl rfl rfl rfl rfl rfl (.inr bD_v) bD_row ?_ ?_ ?_)
    | (refine gate 10 rfl ?_; refine op_extract rfl rfl rfl rfl rfl rfl ?_)
    | (refine gate 11 rfl ?_; refine op_store rfl rfl rfl rfl rfl rfl rfl rfl (Nat.le_of_ble_eq_true rfl) (Nat.le_of_ble_eq_true rfl) rfl ?_)
    | (refine gate 16 rfl ?_; first
      | refine op_call rfl rfl rfl rfl rfl rfl rfl rfl (l05small_ok _ _ _) ?_
      | refine op_call rfl rfl rfl rfl rfl rfl rfl rfl (two_ok _) ?_
      )
    | refine WO_nil ?_
    | refine W_seq ?_
    | refine W_region ?_
    | refine W_draw0 rfl rfl ?_
    | refine W_drawA rfl ?_
    | refine W_blockN ?_
    | refine W_skip ?_
    | refine W_exit ?_
    | exact over_put
    | exact over_box
    | exact over_st
    | refine W_ret ?_
    | refine W_condT rfl (by first | assumption | rfl) ?_
    | refine W_condF rfl (by first | assumption | rfl) ?_
    | (refine W_cond rfl ?_ ?_ <;> intro hq)
    | refine WO_gT rfl rfl rfl rfl (by first | assumption | rfl) ?_
    | refine WO_gF rfl rfl rfl rfl (by first | assumption | rfl) rfl rfl rfl ?_
    | (refine WO_gs rfl rfl rfl ?_ ?_ <;> intro hq)
    | refine RW_nil ?_ rfl rfl
    | (refine gateR 17 rfl ?_; first
      | refine RW_apOw rfl rfl rfl rfl rfl rfl rfl rfl rfl rfl rfl rfl rfl rfl rfl (.inr bD_v) bD_row ?_ ?_ ?_
      | refine RW_apVw rfl rfl rfl rfl rfl rfl rfl rfl rfl rfl rfl rfl rfl rfl rfl rfl rfl (.inr bD_v) bD_row ?_ ?_ ?_
      | refine RW_apOw rfl rfl rfl rfl rfl rfl rfl rfl rfl rfl rfl rfl rfl rfl rfl ?_ ?_ ?_ ?_ ?_
      | refine RW_apVw rfl rfl rfl rfl rfl rfl rfl rfl rfl rfl rfl rfl rfl rfl rfl rfl rfl ?_ ?_ ?_ ?_ ?_)
    | refine RW_op (us := ?_) (ub := ?_) rfl (fun s0 b0 => ?_) ?_
    | refine RW_opT (us := ?_) (ub := ?_) rfl rfl rfl rfl (by first | assumption | rfl) (fun s0 b0 => ?_) ?_
    | refine RW_opF rfl rfl rfl rfl (by first | assumption | rfl) rfl rfl rfl ?_
    | (refine RW_gs rfl rfl rfl ?_ ?_ <;> intro hq)
    | refine end_v rfl rfl rfl ?_
    )
  all_goals first
    | (show (_ + _) * 1 ≤ 140737488355328; simp [bD]; done)
    | (show (_ + _) * 1 ≤ 140737488355328; simp [bD]; omega)
    | (simp only [maxLen]; simp [bD]; done)
    | (simp only [maxLen]; simp [bD]; omega)
    | (refine end_vw rfl rfl rfl rfl rfl rfl (.inr bD_ok) ?_; simp [bD, two2])
set_option maxHeartbeats 2000000 in
set_option maxRecDepth 20000 in
theorem specEBn_ok (a b : Int) (p : List Int) (h : edSmall a b p = false) : FnOK Try.prog 18 false [aEd a b p] (.one .nl) := by
  have hs : (!((decide (0 ≤ a) && decide (a ≤ 400)) && (decide (0 ≤ b) && decide (b ≤ 400)) && decide ((p.length : Int) ≤ 400))) = true := by
    unfold edSmall at h; rw [h]; rfl
  refine FnOK_body Try.func18 rfl rfl ?_
  repeat' (first
    | refine WO_cons rfl ?_
    | (refine gate 0 rfl ?_; first
      | refine mv_v rfl rfl rfl rfl rfl ?_
      | refine mv_sl rfl rfl rfl rfl rfl ?_
      | refine mv_vw rfl rfl rfl rfl rfl ?_
      | refine mv_nl rfl rfl rfl rfl rfl ?_
      | refine mv_p rfl rfl rfl rfl rfl ?_
      | refine mv_bp rfl rfl rfl rfl rfl ?_
      | refine mv_vp rfl rfl rfl rfl rfl ?_)
    | (refine gate 12 rfl ?_; first
      | refine op_faddr_bp rfl rfl rfl rfl rfl rfl ?_
      | refine op_faddr_p rfl rfl rfl rfl rfl rfl ?_)
    | (refine gate 1 rfl ?_; first
      | refine ld_v rfl rfl rfl rfl rfl rfl rfl rfl rfl ?_
      | refine ld_sl rfl rfl rfl rfl rfl rfl rfl rfl rfl ?_
      | refine ld_vw rfl rfl rfl rfl rfl rfl rfl rfl rfl ?_
      | refine ld_nl rfl rfl rfl rfl rfl rfl rfl rfl rfl ?_
      | refine ld_bp rfl rfl rfl rfl rfl rfl rfl rfl rfl ?_
      | refine ld_p rfl rfl rfl rfl rfl rfl rfl rfl rfl ?_
      | refine op_load_agg rfl rfl rfl rfl rfl rfl rfl rfl (Nat.le_of_ble_eq_true rfl) ?_
      | refine op_load_p rfl rfl rfl rfl rfl rfl rfl ?_)
    | (refine gate 2 rfl ?_; refine op_bin rfl rfl rfl rfl rfl rfl rfl ?_)
    | (refine gate 3 rfl ?_; first
      | refine op_shift rfl rfl rfl rfl rfl rfl (by decide) (Or.inl ⟨rfl, rfl⟩) ?_
      | refine op_shift rfl rfl rfl rfl rfl rfl (by decide) (Or.inr ⟨rfl, rfl⟩) ?_)
    | (refine gate 4 rfl ?_; refine op_not rfl rfl rfl rfl rfl ?_)
    | (refine gate 5 rfl ?_; refine op_conv rfl rfl rfl rfl rfl rfl rfl ?_)
    | (refine gate 6 rfl ?_; refine op_len rfl rfl rfl rfl rfl rfl rfl ?_)
    | (refine gate 7 rfl ?_; first
      | refine pk_t rfl rfl rfl rfl rfl (by first | assumption | rfl) rfl ?_
      | refine pk_f rfl rfl rfl rfl rfl (by first | assumption | rfl) rfl ?_)
    | (refine gate 8 rfl ?_; first
      | refine op_box rfl rfl rfl rfl rfl rfl rfl rfl ?_
      | refine op_alloc rfl rfl rfl rfl rfl rfl rfl ?_)
    | (refine gate 9 rfl ?_; first
      | refine op_build rfl rfl rfl rfl rfl rfl rfl rfl rfl ?_
      | refine op_buildSlice rfl rfl rfl rfl rfl rfl rfl rfl rfl rfl rfl rfl ?_)
    | (refine gate 17 rfl ?_; first
      | refine op_append_ov rfl rfl rfl rfl rfl rfl rfl rfl rfl rfl rfl rfl rfl rfl (.inr bD_v) bD_row ?_ ?_ ?_
      | refine op_append_oo rfl rfl rfl rfl rfl rfl rfl rfl rfl rfl rfl rfl rfl (.inr bD_v) bD_row ?_ ?_ ?_
      | refine op_append_nl rfl rfl rfl rfl rfl rfl rfl rfl rfl rfl rfl rfl rfl (.inr bD_v) bD_row ?_ ?_ ?_)
    | (refine gate 10 rfl ?_; refine op_extract rfl rfl rfl rfl rfl rfl ?_)
    | (refine gate 11 rfl ?_; refine op_store rfl rfl rfl rfl rfl rfl rfl rfl (Nat.le_of_ble_eq_true rfl) (Nat.le_of_ble_eq_true rfl) rfl ?_)
    | (refine gate 16 rfl ?_; first
      | refine op_call rfl rfl rfl rfl rfl rfl rfl rfl (l05small_ok _ _ _) ?_
      )
    | refine WO_nil ?_
    | refine W_seq ?_
    | refine W_region ?_
    | refine W_draw0 rfl rfl ?_
    | refine W_drawA rfl ?_
    | refine W_blockN ?_
    | refine W_skip ?_
    | refine W_exit ?_
    | exact over_put
    | exact over_box
    | exact over_st
    | refine W_ret ?_
    | refine W_condT rfl (by first | assumption | rfl) ?_
    | refine W_condF rfl (by first | assumption | rfl) ?_
    | (refine W_cond rfl ?_ ?_ <;> intro hq)
    | refine WO_gT rfl rfl rfl rfl (by first | assumption | rfl) ?_
    | refine WO_gF rfl rfl rfl rfl (by first | assumption | rfl) rfl rfl rfl ?_
    | (refine WO_gs rfl rfl rfl ?_ ?_ <;> intro hq)
    | refine RW_nil ?_ rfl rfl
    | (refine gateR 17 rfl ?_; first
      | refine RW_apOw rfl rfl rfl rfl rfl rfl rfl rfl rfl rfl rfl rfl rfl rfl rfl (.inr bD_v) bD_row ?_ ?_ ?_
      | refine RW_apVw rfl rfl rfl rfl rfl rfl rfl rfl rfl rfl rfl rfl rfl rfl rfl rfl rfl (.inr bD_v) bD_row ?_ ?_ ?_
      | refine RW_apOw rfl rfl rfl rfl rfl rfl rfl rfl rfl rfl rfl rfl rfl rfl rfl ?_ ?_ ?_ ?_ ?_
      | refine RW_apVw rfl rfl rfl rfl rfl rfl rfl rfl rfl rfl rfl rfl rfl rfl rfl rfl rfl ?_ ?_ ?_ ?_ ?_)
    | refine RW_op (us := ?_) (ub := ?_) rfl (fun s0 b0 => ?_) ?_
    | refine RW_opT (us := ?_) (ub := ?_) rfl rfl rfl rfl (by first | assumption | rfl) (fun s0 b0 => ?_) ?_
    | refine RW_opF rfl rfl rfl rfl (by first | assumption | rfl) rfl rfl rfl ?_
    | (refine RW_gs rfl rfl rfl ?_ ?_ <;> intro hq)
    | refine end_v rfl rfl rfl ?_
    )
  exact end_one rfl rfl rfl trivial rfl

set_option maxHeartbeats 2000000 in
set_option maxRecDepth 20000 in
theorem implEBn_ok (a b : Int) (p : List Int) (h : edSmall a b p = false) : FnOK Try.prog 20 false [aEd a b p] (.one .nl) := by
  have hs : (!((decide (0 ≤ a) && decide (a ≤ 400)) && (decide (0 ≤ b) && decide (b ≤ 400)) && decide ((p.length : Int) ≤ 400))) = true := by
    unfold edSmall at h; rw [h]; rfl
  refine FnOK_body Try.func20 rfl rfl ?_
  repeat' (first
    | refine WO_cons rfl ?_
    | (refine gate 0 rfl ?_; first
      | refine mv_v rfl rfl rfl rfl rfl ?_
      | refine mv_sl rfl rfl rfl rfl rfl ?_
      | refine mv_vw rfl rfl rfl rfl rfl ?_
      | refine mv_nl rfl rfl rfl rfl rfl ?_
      | refine mv_p rfl rfl rfl rfl rfl ?_
      | refine mv_bp rfl rfl rfl rfl rfl ?_
      | refine mv_vp rfl rfl rfl rfl rfl ?_)
    | (refine gate 12 rfl ?_; first
      | refine op_faddr_bp rfl rfl rfl rfl rfl rfl ?_
      | refine op_faddr_p rfl rfl rfl rfl rfl rfl ?_)
    | (refine gate 1 rfl ?_; first
      | refine ld_v rfl rfl rfl rfl rfl rfl rfl rfl rfl ?_
      | refine ld_sl rfl rfl rfl rfl rfl rfl rfl rfl rfl ?_
      | refine ld_vw rfl rfl rfl rfl rfl rfl rfl rfl rfl ?_
      | refine ld_nl rfl rfl rfl rfl rfl rfl rfl rfl rfl ?_
      | refine ld_bp rfl rfl rfl rfl rfl rfl rfl rfl rfl ?_
      | refine ld_p rfl rfl rfl rfl rfl rfl rfl rfl rfl ?_
      | refine op_load_agg rfl rfl rfl rfl rfl rfl rfl rfl (Nat.le_of_ble_eq_true rfl) ?_
      | refine op_load_p rfl rfl rfl rfl rfl rfl rfl ?_)
    | (refine gate 2 rfl ?_; refine op_bin rfl rfl rfl rfl rfl rfl rfl ?_)
    | (refine gate 3 rfl ?_; first
      | refine op_shift rfl rfl rfl rfl rfl rfl (by decide) (Or.inl ⟨rfl, rfl⟩) ?_
      | refine op_shift rfl rfl rfl rfl rfl rfl (by decide) (Or.inr ⟨rfl, rfl⟩) ?_)
    | (refine gate 4 rfl ?_; refine op_not rfl rfl rfl rfl rfl ?_)
    | (refine gate 5 rfl ?_; refine op_conv rfl rfl rfl rfl rfl rfl rfl ?_)
    | (refine gate 6 rfl ?_; refine op_len rfl rfl rfl rfl rfl rfl rfl ?_)
    | (refine gate 7 rfl ?_; first
      | refine pk_t rfl rfl rfl rfl rfl (by first | assumption | rfl) rfl ?_
      | refine pk_f rfl rfl rfl rfl rfl (by first | assumption | rfl) rfl ?_)
    | (refine gate 8 rfl ?_; first
      | refine op_box rfl rfl rfl rfl rfl rfl rfl rfl ?_
      | refine op_alloc rfl rfl rfl rfl rfl rfl rfl ?_)
    | (refine gate 9 rfl ?_; first
      | refine op_build rfl rfl rfl rfl rfl rfl rfl rfl rfl ?_
      | refine op_buildSlice rfl rfl rfl rfl rfl rfl rfl rfl rfl rfl rfl rfl ?_)
    | (refine gate 17 rfl ?_; first
      | refine op_append_ov rfl rfl rfl rfl rfl rfl rfl rfl rfl rfl rfl rfl rfl rfl (.inr bD_v) bD_row ?_ ?_ ?_
      | refine op_append_oo rfl rfl rfl rfl rfl rfl rfl rfl rfl rfl rfl rfl rfl (.inr bD_v) bD_row ?_ ?_ ?_
      | refine op_append_nl rfl rfl rfl rfl rfl rfl rfl rfl rfl rfl rfl rfl rfl (.inr bD_v) bD_row ?_ ?_ ?_)
    | (refine gate 10 rfl ?_; refine op_extract rfl rfl rfl rfl rfl rfl ?_)
    | (refine gate 11 rfl ?_; refine op_store rfl rfl rfl rfl rfl rfl rfl rfl (Nat.le_of_ble_eq_true rfl) (Nat.le_of_ble_eq_true rfl) rfl ?_)
    | (refine gate 16 rfl ?_; first
      | refine op_call rfl rfl rfl rfl rfl rfl rfl rfl (small_ok _ _ _) ?_
      )
    | refine WO_nil ?_
    | refine W_seq ?_
    | refine W_region ?_
    | refine W_draw0 rfl rfl ?_
    | refine W_drawA rfl ?_
    | refine W_blockN ?_
    | refine W_skip ?_
    | refine W_exit ?_
    | exact over_put
    | exact over_box
    | exact over_st
    | refine W_ret ?_
    | refine W_condT rfl (by first | assumption | rfl) ?_
    | refine W_condF rfl (by first | assumption | rfl) ?_
    | (refine W_cond rfl ?_ ?_ <;> intro hq)
    | refine WO_gT rfl rfl rfl rfl (by first | assumption | rfl) ?_
    | refine WO_gF rfl rfl rfl rfl (by first | assumption | rfl) rfl rfl rfl ?_
    | (refine WO_gs rfl rfl rfl ?_ ?_ <;> intro hq)
    | refine RW_nil ?_ rfl rfl
    | (refine gateR 17 rfl ?_; first
      | refine RW_apOw rfl rfl rfl rfl rfl rfl rfl rfl rfl rfl rfl rfl rfl rfl rfl (.inr bD_v) bD_row ?_ ?_ ?_
      | refine RW_apVw rfl rfl rfl rfl rfl rfl rfl rfl rfl rfl rfl rfl rfl rfl rfl rfl rfl (.inr bD_v) bD_row ?_ ?_ ?_
      | refine RW_apOw rfl rfl rfl rfl rfl rfl rfl rfl rfl rfl rfl rfl rfl rfl rfl ?_ ?_ ?_ ?_ ?_
      | refine RW_apVw rfl rfl rfl rfl rfl rfl rfl rfl rfl rfl rfl rfl rfl rfl rfl rfl rfl ?_ ?_ ?_ ?_ ?_)
    | refine RW_op (us := ?_) (ub := ?_) rfl (fun s0 b0 => ?_) ?_
    | refine RW_opT (us := ?_) (ub := ?_) rfl rfl rfl rfl (by first | assumption | rfl) (fun s0 b0 => ?_) ?_
    | refine RW_opF rfl rfl rfl rfl (by first | assumption | rfl) rfl rfl rfl ?_
    | (refine RW_gs rfl rfl rfl ?_ ?_ <;> intro hq)
    | refine end_v rfl rfl rfl ?_
    )
  exact end_one rfl rfl rfl trivial rfl

set_option maxHeartbeats 2000000 in
set_option maxRecDepth 20000 in
theorem editBytes_ok (a b : Int) (p : List Int) (h : p.length ≤ 400) : FnOK Try.prog 49 false [aEd a b p] (rBy (word2 a ++ word2 b ++ word2 p.length ++ p)) := by
  refine FnOK_body Try.func49 rfl rfl ?_
  repeat' (first
    | refine WO_cons rfl ?_
    | (refine gate 0 rfl ?_; first
      | refine mv_v rfl rfl rfl rfl rfl ?_
      | refine mv_sl rfl rfl rfl rfl rfl ?_
      | refine mv_vw rfl rfl rfl rfl rfl ?_
      | refine mv_nl rfl rfl rfl rfl rfl ?_
      | refine mv_p rfl rfl rfl rfl rfl ?_
      | refine mv_bp rfl rfl rfl rfl rfl ?_
      | refine mv_vp rfl rfl rfl rfl rfl ?_)
    | (refine gate 12 rfl ?_; first
      | refine op_faddr_bp rfl rfl rfl rfl rfl rfl ?_
      | refine op_faddr_p rfl rfl rfl rfl rfl rfl ?_)
    | (refine gate 1 rfl ?_; first
      | refine ld_v rfl rfl rfl rfl rfl rfl rfl rfl rfl ?_
      | refine ld_sl rfl rfl rfl rfl rfl rfl rfl rfl rfl ?_
      | refine ld_vw rfl rfl rfl rfl rfl rfl rfl rfl rfl ?_
      | refine ld_nl rfl rfl rfl rfl rfl rfl rfl rfl rfl ?_
      | refine ld_bp rfl rfl rfl rfl rfl rfl rfl rfl rfl ?_
      | refine ld_p rfl rfl rfl rfl rfl rfl rfl rfl rfl ?_
      | refine op_load_agg rfl rfl rfl rfl rfl rfl rfl rfl (Nat.le_of_ble_eq_true rfl) ?_
      | refine op_load_p rfl rfl rfl rfl rfl rfl rfl ?_)
    | (refine gate 2 rfl ?_; refine op_bin rfl rfl rfl rfl rfl rfl rfl ?_)
    | (refine gate 3 rfl ?_; first
      | refine op_shift rfl rfl rfl rfl rfl rfl (by decide) (Or.inl ⟨rfl, rfl⟩) ?_
      | refine op_shift rfl rfl rfl rfl rfl rfl (by decide) (Or.inr ⟨rfl, rfl⟩) ?_)
    | (refine gate 4 rfl ?_; refine op_not rfl rfl rfl rfl rfl ?_)
    | (refine gate 5 rfl ?_; refine op_conv rfl rfl rfl rfl rfl rfl rfl ?_)
    | (refine gate 6 rfl ?_; refine op_len rfl rfl rfl rfl rfl rfl rfl ?_)
    | (refine gate 7 rfl ?_; first
      | refine pk_t rfl rfl rfl rfl rfl (by first | assumption | rfl) rfl ?_
      | refine pk_f rfl rfl rfl rfl rfl (by first | assumption | rfl) rfl ?_)
    | (refine gate 8 rfl ?_; first
      | refine op_box rfl rfl rfl rfl rfl rfl rfl rfl ?_
      | refine op_alloc rfl rfl rfl rfl rfl rfl rfl ?_)
    | (refine gate 9 rfl ?_; first
      | refine op_build rfl rfl rfl rfl rfl rfl rfl rfl rfl ?_
      | refine op_buildSlice rfl rfl rfl rfl rfl rfl rfl rfl rfl rfl rfl rfl ?_)
    | (refine gate 17 rfl ?_; first
      | refine op_append_ov rfl rfl rfl rfl rfl rfl rfl rfl rfl rfl rfl rfl rfl rfl (.inr bD_v) bD_row ?_ ?_ ?_
      | refine op_append_oo rfl rfl rfl rfl rfl rfl rfl rfl rfl rfl rfl rfl rfl (.inr bD_v) bD_row ?_ ?_ ?_
      | refine op_append_nl rfl rfl rfl rfl rfl rfl rfl rfl rfl rfl rfl rfl rfl (.inr bD_v) bD_row ?_ ?_ ?_)
    | (refine gate 10 rfl ?_; refine op_extract rfl rfl rfl rfl rfl rfl ?_)
    | (refine gate 11 rfl ?_; refine op_store rfl rfl rfl rfl rfl rfl rfl rfl (Nat.le_of_ble_eq_true rfl) (Nat.le_of_ble_eq_true rfl) rfl ?_)
    | (refine gate 16 rfl ?_; first
      | refine op_call rfl rfl rfl rfl rfl rfl rfl rfl (word_ok _).frz ?_
      | refine op_callE rfl rfl rfl rfl rfl rfl rfl rfl (concat_ok [word2 a, word2 b, word2 (bD p).length, p] (by simp) (by simp [word2]) (by simp [word2]; omega)) rfl ?_
      )
    | refine WO_nil ?_
    | refine W_seq ?_
    | refine W_region ?_
    | refine W_draw0 rfl rfl ?_
    | refine W_drawA rfl ?_
    | refine W_blockN ?_
    | refine W_skip ?_
    | refine W_exit ?_
    | exact over_put
    | exact over_box
    | exact over_st
    | refine W_ret ?_
    | refine W_condT rfl (by first | assumption | rfl) ?_
    | refine W_condF rfl (by first | assumption | rfl) ?_
    | (refine W_cond rfl ?_ ?_ <;> intro hq)
    | refine WO_gT rfl rfl rfl rfl (by first | assumption | rfl) ?_
    | refine WO_gF rfl rfl rfl rfl (by first | assumption | rfl) rfl rfl rfl ?_
    | (refine WO_gs rfl rfl rfl ?_ ?_ <;> intro hq)
    | refine RW_nil ?_ rfl rfl
    | (refine gateR 17 rfl ?_; first
      | refine RW_apOw rfl rfl rfl rfl rfl rfl rfl rfl rfl rfl rfl rfl rfl rfl rfl (.inr bD_v) bD_row ?_ ?_ ?_
      | refine RW_apVw rfl rfl rfl rfl rfl rfl rfl rfl rfl rfl rfl rfl rfl rfl rfl rfl rfl (.inr bD_v) bD_row ?_ ?_ ?_
      | refine RW_apOw rfl rfl rfl rfl rfl rfl rfl rfl rfl rfl rfl rfl rfl rfl rfl ?_ ?_ ?_ ?_ ?_
      | refine RW_apVw rfl rfl rfl rfl rfl rfl rfl rfl rfl rfl rfl rfl rfl rfl rfl rfl rfl ?_ ?_ ?_ ?_ ?_)
    | refine RW_op (us := ?_) (ub := ?_) rfl (fun s0 b0 => ?_) ?_
    | refine RW_opT (us := ?_) (ub := ?_) rfl rfl rfl rfl (by first | assumption | rfl) (fun s0 b0 => ?_) ?_
    | refine RW_opF rfl rfl rfl rfl (by first | assumption | rfl) rfl rfl rfl ?_
    | (refine RW_gs rfl rfl rfl ?_ ?_ <;> intro hq)
    | refine end_v rfl rfl rfl ?_
    )
  refine end_vw rfl rfl rfl rfl rfl rfl (.inr bD_ok) ?_
  simp [bD_len]

set_option maxHeartbeats 2000000 in
set_option maxRecDepth 20000 in
theorem implEB_ok (a b : Int) (p : List Int) (h : edSmall a b p = true) : FnOK Try.prog 20 false [aEd a b p] (rBy (word2 a ++ word2 b ++ word2 p.length ++ p)) := by
  have hs : (!((decide (0 ≤ a) && decide (a ≤ 400)) && (decide (0 ≤ b) && decide (b ≤ 400)) && decide ((p.length : Int) ≤ 400))) = false := by
    unfold edSmall at h; rw [h]; rfl
  have hp : p.length ≤ 400 := by simp [edSmall] at h; omega
  refine FnOK_body Try.func20 rfl rfl ?_
  repeat' (first
    | refine WO_cons rfl ?_
    | (refine gate 0 rfl ?_; first
      | refine mv_v rfl rfl rfl rfl rfl ?_
      | refine mv_sl rfl rfl rfl rfl rfl ?_
      | refine mv_vw rfl rfl rfl rfl rfl ?_
      | refine mv_nl rfl rfl rfl rfl rfl ?_
      | refine mv_p rfl rfl rfl rfl rfl ?_
      | refine mv_bp rfl rfl rfl rfl rfl ?_
      | refine mv_vp rfl rfl rfl rfl rfl ?_)
    | (refine gate 12 rfl ?_; first
      | refine op_faddr_bp rfl rfl rfl rfl rfl rfl ?_
      | refine op_faddr_p rfl rfl rfl rfl rfl rfl ?_)
    | (refine gate 1 rfl ?_; first
      | refine ld_v rfl rfl rfl rfl rfl rfl rfl rfl rfl ?_
      | refine ld_sl rfl rfl rfl rfl rfl rfl rfl rfl rfl ?_
      | refine ld_vw rfl rfl rfl rfl rfl rfl rfl rfl rfl ?_
      | refine ld_nl rfl rfl rfl rfl rfl rfl rfl rfl rfl ?_
      | refine ld_bp rfl rfl rfl rfl rfl rfl rfl rfl rfl ?_
      | refine ld_p rfl rfl rfl rfl rfl rfl rfl rfl rfl ?_
      | refine op_load_agg rfl rfl rfl rfl rfl rfl rfl rfl (Nat.le_of_ble_eq_true rfl) ?_
      | refine op_load_p rfl rfl rfl rfl rfl rfl rfl ?_)
    | (refine gate 2 rfl ?_; refine op_bin rfl rfl rfl rfl rfl rfl rfl ?_)
    | (refine gate 3 rfl ?_; first
      | refine op_shift rfl rfl rfl rfl rfl rfl (by decide) (Or.inl ⟨rfl, rfl⟩) ?_
      | refine op_shift rfl rfl rfl rfl rfl rfl (by decide) (Or.inr ⟨rfl, rfl⟩) ?_)
    | (refine gate 4 rfl ?_; refine op_not rfl rfl rfl rfl rfl ?_)
    | (refine gate 5 rfl ?_; refine op_conv rfl rfl rfl rfl rfl rfl rfl ?_)
    | (refine gate 6 rfl ?_; refine op_len rfl rfl rfl rfl rfl rfl rfl ?_)
    | (refine gate 7 rfl ?_; first
      | refine pk_t rfl rfl rfl rfl rfl (by first | assumption | rfl) rfl ?_
      | refine pk_f rfl rfl rfl rfl rfl (by first | assumption | rfl) rfl ?_)
    | (refine gate 8 rfl ?_; first
      | refine op_box rfl rfl rfl rfl rfl rfl rfl rfl ?_
      | refine op_alloc rfl rfl rfl rfl rfl rfl rfl ?_)
    | (refine gate 9 rfl ?_; first
      | refine op_build rfl rfl rfl rfl rfl rfl rfl rfl rfl ?_
      | refine op_buildSlice rfl rfl rfl rfl rfl rfl rfl rfl rfl rfl rfl rfl ?_)
    | (refine gate 17 rfl ?_; first
      | refine op_append_ov rfl rfl rfl rfl rfl rfl rfl rfl rfl rfl rfl rfl rfl rfl (.inr bD_v) bD_row ?_ ?_ ?_
      | refine op_append_oo rfl rfl rfl rfl rfl rfl rfl rfl rfl rfl rfl rfl rfl (.inr bD_v) bD_row ?_ ?_ ?_
      | refine op_append_nl rfl rfl rfl rfl rfl rfl rfl rfl rfl rfl rfl rfl rfl (.inr bD_v) bD_row ?_ ?_ ?_)
    | (refine gate 10 rfl ?_; refine op_extract rfl rfl rfl rfl rfl rfl ?_)
    | (refine gate 11 rfl ?_; refine op_store rfl rfl rfl rfl rfl rfl rfl rfl (Nat.le_of_ble_eq_true rfl) (Nat.le_of_ble_eq_true rfl) rfl ?_)
    | (refine gate 16 rfl ?_; first
      | refine op_call rfl rfl rfl rfl rfl rfl rfl rfl (small_ok _ _ _) ?_
      | refine op_call rfl rfl rfl rfl rfl rfl rfl rfl (editBytes_ok _ _ _ hp) ?_
      )
    | refine WO_nil ?_
    | refine W_seq ?_
    | refine W_region ?_
    | refine W_draw0 rfl rfl ?_
    | refine W_drawA rfl ?_
    | refine W_blockN ?_
    | refine W_skip ?_
    | refine W_exit ?_
    | exact over_put
    | exact over_box
    | exact over_st
    | refine W_ret ?_
    | refine W_condT rfl (by first | assumption | rfl) ?_
    | refine W_condF rfl (by first | assumption | rfl) ?_
    | (refine W_cond rfl ?_ ?_ <;> intro hq)
    | refine WO_gT rfl rfl rfl rfl (by first | assumption | rfl) ?_
    | refine WO_gF rfl rfl rfl rfl (by first | assumption | rfl) rfl rfl rfl ?_
    | (refine WO_gs rfl rfl rfl ?_ ?_ <;> intro hq)
    | refine RW_nil ?_ rfl rfl
    | (refine gateR 17 rfl ?_; first
      | refine RW_apOw rfl rfl rfl rfl rfl rfl rfl rfl rfl rfl rfl rfl rfl rfl rfl (.inr bD_v) bD_row ?_ ?_ ?_
      | refine RW_apVw rfl rfl rfl rfl rfl rfl rfl rfl rfl rfl rfl rfl rfl rfl rfl rfl rfl (.inr bD_v) bD_row ?_ ?_ ?_
      | refine RW_apOw rfl rfl rfl rfl rfl rfl rfl rfl rfl rfl rfl rfl rfl rfl rfl ?_ ?_ ?_ ?_ ?_
      | refine RW_apVw rfl rfl rfl rfl rfl rfl rfl rfl rfl rfl rfl rfl rfl rfl rfl rfl rfl ?_ ?_ ?_ ?_ ?_)
    | refine RW_op (us := ?_) (ub := ?_) rfl (fun s0 b0 => ?_) ?_
    | refine RW_opT (us := ?_) (ub := ?_) rfl rfl rfl rfl (by first | assumption | rfl) (fun s0 b0 => ?_) ?_
    | refine RW_opF rfl rfl rfl rfl (by first | assumption | rfl) rfl rfl rfl ?_
    | (refine RW_gs rfl rfl rfl ?_ ?_ <;> intro hq)
    | refine end_v rfl rfl rfl ?_
    )
  exact end_vw rfl rfl rfl rfl rfl rfl (.inr bD_ok) rfl

theorem two_word (n : Int) (h0 : 0 ≤ n) (h1 : n ≤ 400) : two2 n = word2 n := by
  have e1 : n.tdiv 256 = n / 256 := Int.tdiv_eq_ediv_of_nonneg h0
  have e2 : n.fdiv (2 ^ 8) = n / 256 := by rw [Int.fdiv_eq_ediv_of_nonneg _ (by decide)]; rfl
  have e3 : n.tmod 256 = n % 256 := Int.tmod_eq_emod_of_nonneg h0
  simp only [two2, word2, e1, e2, e3]
  rw [wrap64 (by omega) (by omega)]
  simp only [IntKind.wrap_u8]
  congr 2
  omega
end Go.AX
