import Derived.Test.YtbebnlhgnbnjoaaAxEB4
import Derived.Test.YtbebnlhgnbnjoaaAxEB5
import Derived.Test.YtbebnlhgnbnjoaaAxEB6
import Derived.Test.YtbebnlhgnbnjoaaAxEB3
set_option linter.unusedVariables false
set_option linter.unusedSimpArgs false
namespace Go.AX
open Go.Proofs

set_option maxHeartbeats 8000000 in
set_option maxRecDepth 40000 in
theorem lawBig_ok (a b : Int) (p : List Int) (hx : p.length ≤ 9223372036854775807) (hb : ¬ p.length ≤ 1048576) : FnOK Try.prog 4 false [aEd a b p] (rB true) := by
  have c0 : decide ((if (1048576 : Int) - (p.length : Int) < 0 then (-1 : Int) else 1048576 - p.length) < 0) = true := by
    rw [if_pos (by omega)]; rfl
  refine FnOK_body Try.func4 rfl rfl ?_
  repeat' (first
    | refine WO_cons rfl ?_
    | (refine gate 0 rfl ?_; first
      | refine mv_v rfl rfl rfl rfl rfl ?_
      | refine mv_sl rfl rfl rfl rfl rfl ?_
      | refine mv_vw rfl rfl rfl rfl rfl ?_
      | refine mv_nl rfl rfl rfl rfl rfl ?_
      | refine mv_p rfl rfl rfl rfl rfl ?_
      | refine mv_bp rfl rfl rfl rfl rfl ?_
      | refine mv_vp rfl rfl rfl rfl rfl ?_)
    | (refine gate 12 rfl ?_; first
      | refine op_faddr_bp rfl rfl rfl rfl rfl rfl ?_
      | refine op_faddr_p rfl rfl rfl rfl rfl rfl ?_)
    | (refine gate 1 rfl ?_; first
      | refine ld_v rfl rfl rfl rfl rfl rfl rfl rfl rfl ?_
      | refine ld_sl rfl rfl rfl rfl rfl rfl rfl rfl rfl ?_
      | refine ld_vw rfl rfl rfl rfl rfl rfl rfl rfl rfl ?_
      | refine ld_nl rfl rfl rfl rfl rfl rfl rfl rfl rfl ?_
      | refine ld_bp rfl rfl rfl rfl rfl rfl rfl rfl rfl ?_
      | refine ld_p rfl rfl rfl rfl rfl rfl rfl rfl rfl ?_
      | refine op_load_agg rfl rfl rfl rfl rfl rfl rfl rfl (Nat.le_of_ble_eq_true rfl) ?_
      | refine op_load_p rfl rfl rfl rfl rfl rfl rfl ?_)
    | (refine gate 2 rfl ?_; refine op_bin rfl rfl rfl rfl rfl rfl rfl ?_)
    | (refine gate 3 rfl ?_; first
      | refine op_shift rfl rfl rfl rfl rfl rfl (by decide) (Or.inl ⟨rfl, rfl⟩) ?_
      | refine op_shift rfl rfl rfl rfl rfl rfl (by decide) (Or.inr ⟨rfl, rfl⟩) ?_)
    | (refine gate 4 rfl ?_; refine op_not rfl rfl rfl rfl rfl ?_)
    | (refine gate 5 rfl ?_; refine op_conv rfl rfl rfl rfl rfl rfl rfl ?_)
    | (refine gate 6 rfl ?_; refine op_len rfl rfl rfl rfl rfl rfl rfl ?_)
    | (refine gate 7 rfl ?_; first
      | refine pk_t rfl rfl rfl rfl rfl (by first | assumption | rfl) rfl ?_
      | refine pk_f rfl rfl rfl rfl rfl (by first | assumption | rfl) rfl ?_)
    | (refine gate 8 rfl ?_; first
      | refine op_box rfl rfl rfl rfl rfl rfl rfl rfl ?_
      | refine op_alloc rfl rfl rfl rfl rfl rfl rfl ?_)
    | (refine gate 9 rfl ?_; first
      | refine op_build rfl rfl rfl rfl rfl rfl rfl rfl rfl ?_
      | refine op_buildSlice rfl rfl rfl rfl rfl rfl rfl rfl rfl rfl rfl rfl ?_)
    | (refine gate 17 rfl ?_; first
      | refine op_append_ov rfl rfl rfl rfl rfl rfl rfl rfl rfl rfl rfl rfl rfl rfl (.inr bD_v) bD_row ?_ ?_ ?_
      | refine op_append_oo rfl rfl rfl rfl rfl rfl rfl rfl rfl rfl rfl rfl rfl (.inr bD_v) bD_row ?_ ?_ ?_
      | refine op_append_nl rfl rfl rfl rfl rfl rfl rfl rfl rfl rfl rfl rfl rfl (.inr bD_v) bD_row ?_ ?_ ?_)
    | (refine gate 10 rfl ?_; refine op_extract rfl rfl rfl rfl rfl rfl ?_)
    | (refine gate 11 rfl ?_; refine op_store rfl rfl rfl rfl rfl rfl rfl rfl (Nat.le_of_ble_eq_true rfl) (Nat.le_of_ble_eq_true rfl) rfl ?_)
    | (refine gate 16 rfl ?_; first
      | refine op_call rfl rfl rfl rfl rfl rfl rfl rfl (szEdit_ok a b p 1048576 (by decide) (by decide) hx) ?_
      )
    | refine WO_nil ?_
    | refine W_seq ?_
    | refine W_region ?_
    | refine W_draw0 rfl rfl ?_
    | refine W_drawA rfl ?_
    | refine W_blockN ?_
    | refine W_skip ?_
    | refine W_exit ?_
    | exact over_put
    | exact over_box
    | exact over_st
    | refine W_ret ?_
    | refine W_condT rfl (by first | assumption | rfl) ?_
    | refine W_condF rfl (by first | assumption | rfl) ?_
    | (refine W_cond rfl ?_ ?_ <;> intro hq)
    | refine WO_gT rfl rfl rfl rfl (by first | assumption | rfl) ?_
    | refine WO_gF rfl rfl rfl rfl (by first | assumption | rfl) rfl rfl rfl ?_
    | (refine WO_gs rfl rfl rfl ?_ ?_ <;> intro hq)
    | refine RW_nil ?_ rfl rfl
    | (refine gateR 17 rfl ?_; first
      | refine RW_apOw rfl rfl rfl rfl rfl rfl rfl rfl rfl rfl rfl rfl rfl rfl rfl (.inr bD_v) bD_row ?_ ?_ ?_
      | refine RW_apVw rfl rfl rfl rfl rfl rfl rfl rfl rfl rfl rfl rfl rfl rfl rfl rfl rfl (.inr bD_v) bD_row ?_ ?_ ?_
      | refine RW_apOw rfl rfl rfl rfl rfl rfl rfl rfl rfl rfl rfl rfl rfl rfl rfl ?_ ?_ ?_ ?_ ?_
      | refine RW_apVw rfl rfl rfl rfl rfl rfl rfl rfl rfl rfl rfl rfl rfl rfl rfl rfl rfl ?_ ?_ ?_ ?_ ?_)
    | refine RW_op (us := ?_) (ub := ?_) rfl (fun s0 b0 => ?_) ?_
    | refine RW_opT (us := ?_) (ub := ?_) rfl rfl rfl rfl (by first | assumption | rfl) (fun s0 b0 => ?_) ?_
    | refine RW_opF rfl rfl rfl rfl (by first | assumption | rfl) rfl rfl rfl ?_
    | (refine RW_gs rfl rfl rfl ?_ ?_ <;> intro hq)
    | refine end_v rfl rfl rfl ?_
    )
  rfl

set_option maxHeartbeats 8000000 in
set_option maxRecDepth 40000 in
theorem lawSmall_ok (a b : Int) (p : List Int) (h : edSmall a b p = true) : FnOK Try.prog 4 false [aEd a b p] (rB true) := by
  have hp : p.length ≤ 400 := by simp [edSmall] at h; omega
  have ha : 0 ≤ a ∧ a ≤ 400 ∧ 0 ≤ b ∧ b ≤ 400 := by simp [edSmall] at h; omega
  have hout : two2 a ++ two2 b ++ two2 p.length ++ p = (word2 a ++ word2 b ++ word2 p.length ++ p) := by
    rw [two_word a ha.1 ha.2.1, two_word b ha.2.2.1 ha.2.2.2, two_word p.length (by omega) (by omega)]
  have hspec : FnOK Try.prog 18 false [aEd a b p] (rBy (word2 a ++ word2 b ++ word2 p.length ++ p)) := by rw [← hout]; exact specEB_ok a b p h
  have himpl := implEB_ok a b p h
  have hlen : (word2 a ++ word2 b ++ word2 p.length ++ p).length = 6 + p.length := by simp [word2]; omega
  generalize (word2 a ++ word2 b ++ word2 p.length ++ p) = q at hspec himpl hlen
  have hte := toEdit_ok a b p (by omega) (toByteS_ok p (by omega))
  have c0 : decide ((if (1048576 : Int) - (p.length : Int) < 0 then (-1 : Int) else 1048576 - p.length) < 0) = false := by
    rw [if_neg (by omega)]; simp; omega
  have c1 : (!decide (q = q)) = false := by simp
  have c2 : (!decide (a = a ∧ b = b ∧ p = p)) = false := by simp
  have c3 : decide ((1 : Int) + (p.length : Int) < 0) = false := by simp; omega
  have c4 : decide ((1 : Int) + (q.length : Int) < 0) = false := by simp; omega
  have c5 : decide ((1 : Int) + ((marks 1 q.length).length : Int) < 0) = false := by simp; omega
  have c6 : ((1 : Int) + ((marks 1 q.length).length : Int) != (1 : Int) + (q.length : Int)) = false := by rw [marks_len]; simp
  refine FnOK_body Try.func4 rfl rfl ?_
  repeat' (first
    | refine WO_cons rfl ?_
    | (refine gate 0 rfl ?_; first
      | refine mv_v rfl rfl rfl rfl rfl ?_
      | refine mv_sl rfl rfl rfl rfl rfl ?_
      | refine mv_vw rfl rfl rfl rfl rfl ?_
      | refine mv_nl rfl rfl rfl rfl rfl ?_
      | refine mv_p rfl rfl rfl rfl rfl ?_
      | refine mv_bp rfl rfl rfl rfl rfl ?_
      | refine mv_vp rfl rfl rfl rfl rfl ?_)
    | (refine gate 12 rfl ?_; first
      | refine op_faddr_bp rfl rfl rfl rfl rfl rfl ?_
      | refine op_faddr_p rfl rfl rfl rfl rfl rfl ?_)
    | (refine gate 1 rfl ?_; first
      | refine ld_v rfl rfl rfl rfl rfl rfl rfl rfl rfl ?_
      | refine ld_sl rfl rfl rfl rfl rfl rfl rfl rfl rfl ?_
      | refine ld_vw rfl rfl rfl rfl rfl rfl rfl rfl rfl ?_
      | refine ld_nl rfl rfl rfl rfl rfl rfl rfl rfl rfl ?_
      | refine ld_bp rfl rfl rfl rfl rfl rfl rfl rfl rfl ?_
      | refine ld_p rfl rfl rfl rfl rfl rfl rfl rfl rfl ?_
      | refine op_load_agg rfl rfl rfl rfl rfl rfl rfl rfl (Nat.le_of_ble_eq_true rfl) ?_
      | refine op_load_p rfl rfl rfl rfl rfl rfl rfl ?_)
    | (refine gate 2 rfl ?_; refine op_bin rfl rfl rfl rfl rfl rfl rfl ?_)
    | (refine gate 3 rfl ?_; first
      | refine op_shift rfl rfl rfl rfl rfl rfl (by decide) (Or.inl ⟨rfl, rfl⟩) ?_
      | refine op_shift rfl rfl rfl rfl rfl rfl (by decide) (Or.inr ⟨rfl, rfl⟩) ?_)
    | (refine gate 4 rfl ?_; refine op_not rfl rfl rfl rfl rfl ?_)
    | (refine gate 5 rfl ?_; refine op_conv rfl rfl rfl rfl rfl rfl rfl ?_)
    | (refine gate 6 rfl ?_; refine op_len rfl rfl rfl rfl rfl rfl rfl ?_)
    | (refine gate 7 rfl ?_; first
      | refine pk_t rfl rfl rfl rfl rfl (by first | assumption | rfl) rfl ?_
      | refine pk_f rfl rfl rfl rfl rfl (by first | assumption | rfl) rfl ?_)
    | (refine gate 8 rfl ?_; first
      | refine op_box rfl rfl rfl rfl rfl rfl rfl rfl ?_
      | refine op_alloc rfl rfl rfl rfl rfl rfl rfl ?_)
    | (refine gate 9 rfl ?_; first
      | refine op_build rfl rfl rfl rfl rfl rfl rfl rfl rfl ?_
      | refine op_buildSlice rfl rfl rfl rfl rfl rfl rfl rfl rfl rfl rfl rfl ?_)
    | (refine gate 17 rfl ?_; first
      | refine op_append_ov rfl rfl rfl rfl rfl rfl rfl rfl rfl rfl rfl rfl rfl rfl (.inr bD_v) bD_row ?_ ?_ ?_
      | refine op_append_oo rfl rfl rfl rfl rfl rfl rfl rfl rfl rfl rfl rfl rfl (.inr bD_v) bD_row ?_ ?_ ?_
      | refine op_append_nl rfl rfl rfl rfl rfl rfl rfl rfl rfl rfl rfl rfl rfl (.inr bD_v) bD_row ?_ ?_ ?_)
    | (refine gate 10 rfl ?_; refine op_extract rfl rfl rfl rfl rfl rfl ?_)
    | (refine gate 11 rfl ?_; refine op_store rfl rfl rfl rfl rfl rfl rfl rfl (Nat.le_of_ble_eq_true rfl) (Nat.le_of_ble_eq_true rfl) rfl ?_)
    | (refine gate 16 rfl ?_; first
      | refine op_call rfl rfl rfl rfl rfl rfl rfl rfl (szEdit_ok a b p 1048576 (by decide) (by decide) (by omega)) ?_
      | refine op_call rfl rfl rfl rfl rfl rfl rfl rfl (hte) ?_
      | refine op_call rfl rfl rfl rfl rfl rfl rfl rfl (hspec) ?_
      | refine op_call rfl rfl rfl rfl rfl rfl rfl rfl (himpl) ?_
      | refine op_call rfl rfl rfl rfl rfl rfl rfl rfl (eqByteS_ok q q (by omega) (by omega)) ?_
      | refine op_call rfl rfl rfl rfl rfl rfl rfl rfl (eqEdit_ok a b a b p p (by omega) (by omega)) ?_
      | refine op_call_mu (p := ⟨false, 20, 2⟩) (rs' := bD (marks 1 p.length)) rfl rfl rfl rfl rfl rfl rfl rfl rfl rfl rfl rfl rfl (by rw [bD_len, bD_len, marks_len]) rfl (markEdit_ok a b p 1 (by decide) (by decide) (by omega)) ?_
      | refine op_call_mu (p := ⟨false, 22, 0⟩) (rs' := bD (marks 1 q.length)) rfl rfl rfl rfl rfl rfl rfl rfl rfl rfl rfl rfl rfl (by rw [bD_len, bD_len, marks_len]) rfl (mark_ok q 1 (by decide) (by decide) (by omega)) ?_
      | refine op_call rfl rfl rfl rfl rfl rfl rfl rfl (held_ok (marks 1 q.length) 1 (by decide) (by decide) (by rw [marks_len]; omega) (by rw [marks_len])) ?_
      )
    | refine WO_nil ?_
    | refine W_seq ?_
    | refine W_region ?_
    | refine W_draw0 rfl rfl ?_
    | refine W_drawA rfl ?_
    | refine W_blockN ?_
    | refine W_skip ?_
    | refine W_exit ?_
    | exact over_put
    | exact over_box
    | exact over_st
    | refine W_ret ?_
    | refine W_condT rfl (by first | assumption | rfl) ?_
    | refine W_condF rfl (by first | assumption | rfl) ?_
    | (refine W_cond rfl ?_ ?_ <;> intro hq)
    | refine WO_gT rfl rfl rfl rfl (by first | assumption | rfl) ?_
    | refine WO_gF rfl rfl rfl rfl (by first | assumption | rfl) rfl rfl rfl ?_
    | (refine WO_gs rfl rfl rfl ?_ ?_ <;> intro hq)
    | refine RW_nil ?_ rfl rfl
    | (refine gateR 17 rfl ?_; first
      | refine RW_apOw rfl rfl rfl rfl rfl rfl rfl rfl rfl rfl rfl rfl rfl rfl rfl (.inr bD_v) bD_row ?_ ?_ ?_
      | refine RW_apVw rfl rfl rfl rfl rfl rfl rfl rfl rfl rfl rfl rfl rfl rfl rfl rfl rfl (.inr bD_v) bD_row ?_ ?_ ?_
      | refine RW_apOw rfl rfl rfl rfl rfl rfl rfl rfl rfl rfl rfl rfl rfl rfl rfl ?_ ?_ ?_ ?_ ?_
      | refine RW_apVw rfl rfl rfl rfl rfl rfl rfl rfl rfl rfl rfl rfl rfl rfl rfl rfl rfl ?_ ?_ ?_ ?_ ?_)
    | refine RW_op (us := ?_) (ub := ?_) rfl (fun s0 b0 => ?_) ?_
    | refine RW_opT (us := ?_) (ub := ?_) rfl rfl rfl rfl (by first | assumption | rfl) (fun s0 b0 => ?_) ?_
    | refine RW_opF rfl rfl rfl rfl (by first | assumption | rfl) rfl rfl rfl ?_
    | (refine RW_gs rfl rfl rfl ?_ ?_ <;> intro hq)
    | refine end_v rfl rfl rfl ?_
    )
  rfl
set_option maxHeartbeats 8000000 in
set_option maxRecDepth 40000 in
theorem lawNot_ok (a b : Int) (p : List Int) (h : edSmall a b p = false) (hp : p.length ≤ 1048576) : FnOK Try.prog 4 false [aEd a b p] (rB true) := by
  have hspec := specEBn_ok a b p h
  have himpl := implEBn_ok a b p h
  have hte := toEdit_ok a b p hp (toByteS_ok p hp)
  have c0 : decide ((if (1048576 : Int) - (p.length : Int) < 0 then (-1 : Int) else 1048576 - p.length) < 0) = false := by
    rw [if_neg (by omega)]; simp; omega
  have c1 : (!decide (([] : List Int) = [])) = false := by simp
  have c2 : (!decide (a = a ∧ b = b ∧ p = p)) = false := by simp
  have c3 : decide ((1 : Int) + (p.length : Int) < 0) = false := by simp; omega
  have c5 : decide ((1 : Int) + (([] : List Int).length : Int) < 0) = false := by simp
  have c6 : ((1 : Int) + (([] : List Int).length : Int) != (1 : Int)) = false := by simp
  refine FnOK_body Try.func4 rfl rfl ?_
  repeat' (first
    | refine WO_cons rfl ?_
    | (refine gate 0 rfl ?_; first
      | refine mv_v rfl rfl rfl rfl rfl ?_
      | refine mv_sl rfl rfl rfl rfl rfl ?_
      | refine mv_vw rfl rfl rfl rfl rfl ?_
      | refine mv_nl rfl rfl rfl rfl rfl ?_
      | refine mv_p rfl rfl rfl rfl rfl ?_
      | refine mv_bp rfl rfl rfl rfl rfl ?_
      | refine mv_vp rfl rfl rfl rfl rfl ?_)
    | (refine gate 12 rfl ?_; first
      | refine op_faddr_bp rfl rfl rfl rfl rfl rfl ?_
      | refine op_faddr_p rfl rfl rfl rfl rfl rfl ?_)
    | (refine gate 1 rfl ?_; first
      | refine ld_v rfl rfl rfl rfl rfl rfl rfl rfl rfl ?_
      | refine ld_sl rfl rfl rfl rfl rfl rfl rfl rfl rfl ?_
      | refine ld_vw rfl rfl rfl rfl rfl rfl rfl rfl rfl ?_
      | refine ld_nl rfl rfl rfl rfl rfl rfl rfl rfl rfl ?_
      | refine ld_bp rfl rfl rfl rfl rfl rfl rfl rfl rfl ?_
      | refine ld_p rfl rfl rfl rfl rfl rfl rfl rfl rfl ?_
      | refine op_load_agg rfl rfl rfl rfl rfl rfl rfl rfl (Nat.le_of_ble_eq_true rfl) ?_
      | refine op_load_p rfl rfl rfl rfl rfl rfl rfl ?_)
    | (refine gate 2 rfl ?_; refine op_bin rfl rfl rfl rfl rfl rfl rfl ?_)
    | (refine gate 3 rfl ?_; first
      | refine op_shift rfl rfl rfl rfl rfl rfl (by decide) (Or.inl ⟨rfl, rfl⟩) ?_
      | refine op_shift rfl rfl rfl rfl rfl rfl (by decide) (Or.inr ⟨rfl, rfl⟩) ?_)
    | (refine gate 4 rfl ?_; refine op_not rfl rfl rfl rfl rfl ?_)
    | (refine gate 5 rfl ?_; refine op_conv rfl rfl rfl rfl rfl rfl rfl ?_)
    | (refine gate 6 rfl ?_; refine op_len rfl rfl rfl rfl rfl rfl rfl ?_)
    | (refine gate 7 rfl ?_; first
      | refine pk_t rfl rfl rfl rfl rfl (by first | assumption | rfl) rfl ?_
      | refine pk_f rfl rfl rfl rfl rfl (by first | assumption | rfl) rfl ?_)
    | (refine gate 8 rfl ?_; first
      | refine op_box rfl rfl rfl rfl rfl rfl rfl rfl ?_
      | refine op_alloc rfl rfl rfl rfl rfl rfl rfl ?_)
    | (refine gate 9 rfl ?_; first
      | refine op_build rfl rfl rfl rfl rfl rfl rfl rfl rfl ?_
      | refine op_buildSlice rfl rfl rfl rfl rfl rfl rfl rfl rfl rfl rfl rfl ?_)
    | (refine gate 17 rfl ?_; first
      | refine op_append_ov rfl rfl rfl rfl rfl rfl rfl rfl rfl rfl rfl rfl rfl rfl (.inr bD_v) bD_row ?_ ?_ ?_
      | refine op_append_oo rfl rfl rfl rfl rfl rfl rfl rfl rfl rfl rfl rfl rfl (.inr bD_v) bD_row ?_ ?_ ?_
      | refine op_append_nl rfl rfl rfl rfl rfl rfl rfl rfl rfl rfl rfl rfl rfl (.inr bD_v) bD_row ?_ ?_ ?_)
    | (refine gate 10 rfl ?_; refine op_extract rfl rfl rfl rfl rfl rfl ?_)
    | (refine gate 11 rfl ?_; refine op_store rfl rfl rfl rfl rfl rfl rfl rfl (Nat.le_of_ble_eq_true rfl) (Nat.le_of_ble_eq_true rfl) rfl ?_)
    | (refine gate 16 rfl ?_; first
      | refine op_call rfl rfl rfl rfl rfl rfl rfl rfl (szEdit_ok a b p 1048576 (by decide) (by decide) (by omega)) ?_
      | refine op_call rfl rfl rfl rfl rfl rfl rfl rfl (hte) ?_
      | refine op_call rfl rfl rfl rfl rfl rfl rfl rfl (hspec) ?_
      | refine op_call rfl rfl rfl rfl rfl rfl rfl rfl (himpl) ?_
      | refine op_call rfl rfl rfl rfl rfl rfl rfl rfl (eqByteS_ok [] [] (by decide) (by decide)) ?_
      | refine op_call rfl rfl rfl rfl rfl rfl rfl rfl (eqEdit_ok a b a b p p (by omega) (by omega)) ?_
      | refine op_call_mu (p := ⟨false, 20, 2⟩) (rs' := bD (marks 1 p.length)) rfl rfl rfl rfl rfl rfl rfl rfl rfl rfl rfl rfl rfl (by rw [bD_len, bD_len, marks_len]) rfl (markEdit_ok a b p 1 (by decide) (by decide) (by omega)) ?_
      | refine op_call rfl rfl rfl rfl rfl rfl rfl rfl (mark0_ok 1) ?_
      | refine op_call rfl rfl rfl rfl rfl rfl rfl rfl (held_ok [] 1 (by decide) (by decide) (by decide) rfl) ?_
      )
    | refine WO_nil ?_
    | refine W_seq ?_
    | refine W_region ?_
    | refine W_draw0 rfl rfl ?_
    | refine W_drawA rfl ?_
    | refine W_blockN ?_
    | refine W_skip ?_
    | refine W_exit ?_
    | exact over_put
    | exact over_box
    | exact over_st
    | refine W_ret ?_
    | refine W_condT rfl (by first | assumption | rfl) ?_
    | refine W_condF rfl (by first | assumption | rfl) ?_
    | (refine W_cond rfl ?_ ?_ <;> intro hq)
    | refine WO_gT rfl rfl rfl rfl (by first | assumption | rfl) ?_
    | refine WO_gF rfl rfl rfl rfl (by first | assumption | rfl) rfl rfl rfl ?_
    | (refine WO_gs rfl rfl rfl ?_ ?_ <;> intro hq)
    | refine RW_nil ?_ rfl rfl
    | (refine gateR 17 rfl ?_; first
      | refine RW_apOw rfl rfl rfl rfl rfl rfl rfl rfl rfl rfl rfl rfl rfl rfl rfl (.inr bD_v) bD_row ?_ ?_ ?_
      | refine RW_apVw rfl rfl rfl rfl rfl rfl rfl rfl rfl rfl rfl rfl rfl rfl rfl rfl rfl (.inr bD_v) bD_row ?_ ?_ ?_
      | refine RW_apOw rfl rfl rfl rfl rfl rfl rfl rfl rfl rfl rfl rfl rfl rfl rfl ?_ ?_ ?_ ?_ ?_
      | refine RW_apVw rfl rfl rfl rfl rfl rfl rfl rfl rfl rfl rfl rfl rfl rfl rfl rfl rfl ?_ ?_ ?_ ?_ ?_)
    | refine RW_op (us := ?_) (ub := ?_) rfl (fun s0 b0 => ?_) ?_
    | refine RW_opT (us := ?_) (ub := ?_) rfl rfl rfl rfl (by first | assumption | rfl) (fun s0 b0 => ?_) ?_
    | refine RW_opF rfl rfl rfl rfl (by first | assumption | rfl) rfl rfl rfl ?_
    | (refine RW_gs rfl rfl rfl ?_ ?_ <;> intro hq)
    | refine end_v rfl rfl rfl ?_
    )
  rfl

theorem law_ok (a b : Int) (p : List Int) (hx : p.length ≤ 9223372036854775807) : FnOK Try.prog 4 false [aEd a b p] (rB true) := by
  by_cases hp : p.length ≤ 1048576
  · cases h : edSmall a b p with
    | true => exact lawSmall_ok a b p h
    | false => exact lawNot_ok a b p h hp
  · exact lawBig_ok a b p hx hp
end Go.AX
