import Derived.Test.YtbebnlhgnbnjoaaAxSeat
set_option linter.unusedVariables false
set_option linter.unusedSimpArgs false
namespace Go.AX
open Go.Proofs

set_option maxHeartbeats 1000000 in
set_option maxRecDepth 20000 in
theorem toByteS_ok (xs : List Int) (hl : xs.length ≤ 1048576) : FnOK Try.prog 27 false [(false, [.sl (bD xs)])] (.one (.ow 5 1 0 (bD xs))) := by
  refine FnOK_body Try.func27 rfl rfl ?_
  repeat' (first
    | refine WO_cons rfl ?_
    | (refine gate 0 rfl ?_; first
      | refine mv_v rfl rfl rfl rfl rfl ?_
      | refine mv_sl rfl rfl rfl rfl rfl ?_
      | refine mv_vw rfl rfl rfl rfl rfl ?_
      | refine mv_nl rfl rfl rfl rfl rfl ?_
      | refine mv_p rfl rfl rfl rfl rfl ?_
      | refine mv_bp rfl rfl rfl rfl rfl ?_
      | refine mv_vp rfl rfl rfl rfl rfl ?_)
    | (refine gate 12 rfl ?_; first
      | refine op_faddr_bp rfl rfl rfl rfl rfl rfl ?_
      | refine op_faddr_p rfl rfl rfl rfl rfl rfl ?_)
    | (refine gate 1 rfl ?_; first
      | refine ld_v rfl rfl rfl rfl rfl rfl rfl rfl rfl ?_
      | refine ld_sl rfl rfl rfl rfl rfl rfl rfl rfl rfl ?_
      | refine ld_vw rfl rfl rfl rfl rfl rfl rfl rfl rfl ?_
      | refine ld_nl rfl rfl rfl rfl rfl rfl rfl rfl rfl ?_
      | refine ld_bp rfl rfl rfl rfl rfl rfl rfl rfl rfl ?_
      | refine ld_p rfl rfl rfl rfl rfl rfl rfl rfl rfl ?_
      | refine op_load_agg rfl rfl rfl rfl rfl rfl rfl rfl (Nat.le_of_ble_eq_true rfl) ?_
      | refine op_load_p rfl rfl rfl rfl rfl rfl rfl ?_)
    | (refine gate 2 rfl ?_; refine op_bin rfl rfl rfl rfl rfl rfl rfl ?_)
    | (refine gate 3 rfl ?_; first
      | refine op_shift rfl rfl rfl rfl rfl rfl (by decide) (Or.inl ⟨rfl, rfl⟩) ?_
      | refine op_shift rfl rfl rfl rfl rfl rfl (by decide) (Or.inr ⟨rfl, rfl⟩) ?_)
    | (refine gate 4 rfl ?_; refine op_not rfl rfl rfl rfl rfl ?_)
    | (refine gate 5 rfl ?_; refine op_conv rfl rfl rfl rfl rfl rfl rfl ?_)
    | (refine gate 6 rfl ?_; refine op_len rfl rfl rfl rfl rfl rfl rfl ?_)
    | (refine gate 7 rfl ?_; first
      | refine pk_t rfl rfl rfl rfl rfl (by first | assumption | rfl) rfl ?_
      | refine pk_f rfl rfl rfl rfl rfl (by first | assumption | rfl) rfl ?_)
    | (refine gate 8 rfl ?_; first
      | refine op_box rfl rfl rfl rfl rfl rfl rfl rfl ?_
      | refine op_alloc rfl rfl rfl rfl rfl rfl rfl ?_)
    | (refine gate 9 rfl ?_; first
      | refine op_build rfl rfl rfl rfl rfl rfl rfl rfl rfl ?_
      | refine op_buildSlice rfl rfl rfl rfl rfl rfl rfl rfl rfl rfl rfl rfl ?_)
    | (refine gate 10 rfl ?_; refine op_extract rfl rfl rfl rfl rfl rfl ?_)
    | (refine gate 11 rfl ?_; refine op_store rfl rfl rfl rfl rfl rfl rfl rfl (Nat.le_of_ble_eq_true rfl) (Nat.le_of_ble_eq_true rfl) rfl ?_)
    | (refine gate 16 rfl ?_; first
      | fail
      )
    | refine WO_nil ?_
    | refine W_seq ?_
    | refine W_region ?_
    | refine W_draw rfl ?_
    | exact over_put
    | exact over_box
    | exact over_st
    | refine W_ret ?_
    | refine W_condT rfl (by first | assumption | rfl) ?_
    | refine W_condF rfl (by first | assumption | rfl) ?_
    | (refine W_cond rfl ?_ ?_ <;> intro hq)
    | refine WO_gT rfl rfl rfl rfl (by first | assumption | rfl) ?_
    | refine WO_gF rfl rfl rfl rfl (by first | assumption | rfl) rfl rfl rfl ?_
    | (refine WO_gs rfl rfl rfl ?_ ?_ <;> intro hq)
    | refine RW_nil ?_ rfl rfl
    | (refine gateR 17 rfl ?_; first
      | refine RW_apOw rfl rfl rfl rfl rfl rfl rfl rfl rfl rfl rfl rfl rfl rfl rfl ?_ ?_ ?_ ?_ ?_
      | refine RW_apVw rfl rfl rfl rfl rfl rfl rfl rfl rfl rfl rfl rfl rfl rfl rfl rfl rfl ?_ ?_ ?_ ?_ ?_)
    | refine RW_op rfl (fun s0 b0 => ?_) ?_
    | refine RW_opT rfl rfl rfl rfl (by first | assumption | rfl) (fun s0 b0 => ?_) ?_
    | refine RW_opF rfl rfl rfl rfl (by first | assumption | rfl) rfl rfl rfl ?_
    | (refine RW_gs rfl rfl rfl ?_ ?_ <;> intro hq)
    | refine end_v rfl rfl rfl ?_
    | refine op_makeSlice rfl rfl rfl rfl rfl rfl rfl rfl rfl rfl rfl rfl ?_ ?_ rfl rfl ?_
    | refine W_blockN ?_
    )
  · show (bD xs).length * 1 ≤ _; rw [bD_len]; omega
  · rw [bD_len]; simp only [maxLen]; omega
  refine W_loopT (fun i : Nat => St.tmpl 22 [(0, .one (.d (.sl (bD xs)))), (3, .one (.vw ⟨false, 7, 0⟩ true (bD (part xs i)))), (4, .one (.d (.v (.int .i64 (i : Int))))), (7, .one (.ow 5 1 0 (bD (part xs i))))] []) (fun i => i ≤ xs.length) (fun i => xs.length - i) 0 (Nat.zero_le _) ?_ ?_
  · refine Wk_tmpl ⟨rfl, ?_, rfl, ?_, trivial⟩ trivial rfl
    · exact congrArg (fun r => SV.one (.vw ⟨false, 7, 0⟩ true r)) (by rw [part_zero, bD_len]; simp [bD])
    · exact congrArg (fun r => SV.one (.ow 5 1 0 r)) (by rw [part_zero, bD_len]; simp [bD])
  · intro i hi
    repeat' (first
      | refine WO_cons rfl ?_
      | (refine gate 0 rfl ?_; first
        | refine mv_v rfl rfl rfl rfl rfl ?_
        | refine mv_sl rfl rfl rfl rfl rfl ?_
        | refine mv_vw rfl rfl rfl rfl rfl ?_
        | refine mv_nl rfl rfl rfl rfl rfl ?_
        | refine mv_p rfl rfl rfl rfl rfl ?_
        | refine mv_bp rfl rfl rfl rfl rfl ?_
        | refine mv_vp rfl rfl rfl rfl rfl ?_)
      | (refine gate 12 rfl ?_; first
        | refine op_faddr_bp rfl rfl rfl rfl rfl rfl ?_
        | refine op_faddr_p rfl rfl rfl rfl rfl rfl ?_)
      | (refine gate 1 rfl ?_; first
        | refine ld_v rfl rfl rfl rfl rfl rfl rfl rfl rfl ?_
        | refine ld_sl rfl rfl rfl rfl rfl rfl rfl rfl rfl ?_
        | refine ld_vw rfl rfl rfl rfl rfl rfl rfl rfl rfl ?_
        | refine ld_nl rfl rfl rfl rfl rfl rfl rfl rfl rfl ?_
        | refine ld_bp rfl rfl rfl rfl rfl rfl rfl rfl rfl ?_
        | refine ld_p rfl rfl rfl rfl rfl rfl rfl rfl rfl ?_
        | refine op_load_agg rfl rfl rfl rfl rfl rfl rfl rfl (Nat.le_of_ble_eq_true rfl) ?_
        | refine op_load_p rfl rfl rfl rfl rfl rfl rfl ?_)
      | (refine gate 2 rfl ?_; refine op_bin rfl rfl rfl rfl rfl rfl rfl ?_)
      | (refine gate 3 rfl ?_; first
        | refine op_shift rfl rfl rfl rfl rfl rfl (by decide) (Or.inl ⟨rfl, rfl⟩) ?_
        | refine op_shift rfl rfl rfl rfl rfl rfl (by decide) (Or.inr ⟨rfl, rfl⟩) ?_)
      | (refine gate 4 rfl ?_; refine op_not rfl rfl rfl rfl rfl ?_)
      | (refine gate 5 rfl ?_; refine op_conv rfl rfl rfl rfl rfl rfl rfl ?_)
      | (refine gate 6 rfl ?_; refine op_len rfl rfl rfl rfl rfl rfl rfl ?_)
      | (refine gate 7 rfl ?_; first
        | refine pk_t rfl rfl rfl rfl rfl (by first | assumption | rfl) rfl ?_
        | refine pk_f rfl rfl rfl rfl rfl (by first | assumption | rfl) rfl ?_)
      | (refine gate 8 rfl ?_; first
        | refine op_box rfl rfl rfl rfl rfl rfl rfl rfl ?_
        | refine op_alloc rfl rfl rfl rfl rfl rfl rfl ?_)
      | (refine gate 9 rfl ?_; first
        | refine op_build rfl rfl rfl rfl rfl rfl rfl rfl rfl ?_
        | refine op_buildSlice rfl rfl rfl rfl rfl rfl rfl rfl rfl rfl rfl rfl ?_)
      | (refine gate 10 rfl ?_; refine op_extract rfl rfl rfl rfl rfl rfl ?_)
      | (refine gate 11 rfl ?_; refine op_store rfl rfl rfl rfl rfl rfl rfl rfl (Nat.le_of_ble_eq_true rfl) (Nat.le_of_ble_eq_true rfl) rfl ?_)
      | (refine gate 16 rfl ?_; first
        | fail
        )
      | refine WO_nil ?_
      | refine W_seq ?_
      | refine W_region ?_
      | refine W_draw rfl ?_
      | exact over_put
      | exact over_box
      | exact over_st
      | refine W_ret ?_
      | refine W_condT rfl (by first | assumption | rfl) ?_
      | refine W_condF rfl (by first | assumption | rfl) ?_
      | (refine W_cond rfl ?_ ?_ <;> intro hq)
      | refine WO_gT rfl rfl rfl rfl (by first | assumption | rfl) ?_
      | refine WO_gF rfl rfl rfl rfl (by first | assumption | rfl) rfl rfl rfl ?_
      | (refine WO_gs rfl rfl rfl ?_ ?_ <;> intro hq)
      | refine RW_nil ?_ rfl rfl
      | (refine gateR 17 rfl ?_; first
        | refine RW_apOw rfl rfl rfl rfl rfl rfl rfl rfl rfl rfl rfl rfl rfl rfl rfl ?_ ?_ ?_ ?_ ?_
        | refine RW_apVw rfl rfl rfl rfl rfl rfl rfl rfl rfl rfl rfl rfl rfl rfl rfl rfl rfl ?_ ?_ ?_ ?_ ?_)
      | refine RW_op rfl (fun s0 b0 => ?_) ?_
      | refine RW_opT rfl rfl rfl rfl (by first | assumption | rfl) (fun s0 b0 => ?_) ?_
      | refine RW_opF rfl rfl rfl rfl (by first | assumption | rfl) rfl rfl rfl ?_
      | (refine RW_gs rfl rfl rfl ?_ ?_ <;> intro hq)
      | refine end_v rfl rfl rfl ?_
      | refine W_blockN ?_
      | refine W_skip ?_
      | refine W_exit ?_
      | (refine gate 13 rfl ?_; first | refine op_index_b rfl rfl rfl rfl rfl rfl rfl rfl ?_ ?_ ?_ | refine op_index_ep rfl rfl rfl rfl rfl rfl rfl rfl rfl ?_ ?_ ?_)
      | refine op_store_b rfl rfl rfl rfl rfl rfl rfl ?_ ?_
      )
    · omega
    · simpa [bD_len] using hq
    · omega
    · rw [bD_len, part_len hi]; simpa [bD_len] using hq
    · rw [part_len hi]; simpa [bD_len] using hq
    · have hlt : i < xs.length := by simpa [bD_len] using hq
      refine ⟨i + 1, hlt, by omega, Wk_tmpl ⟨rfl, ?_, ?_, ?_, trivial⟩ trivial rfl⟩
      · exact congrArg (fun r => SV.one (.vw ⟨false, 7, 0⟩ true (bD r))) (part_set hlt)
      · exact congrArg (fun r => SV.one (.d (.v (.int .i64 r)))) (by rw [wrap64 (by omega) (by omega)]; rfl)
      · exact congrArg (fun r => SV.one (.ow 5 1 0 (bD r))) (part_set hlt)
    · have he : i = xs.length := by simp [bD_len] at hq; omega
      refine end_vw rfl rfl rfl rfl rfl rfl (.inr bD_ok) ?_
      rw [he, part_all]
end Go.AX
