/- A part of the proof of the statement in the row text. -/
import Derived.Test.YtbebnlhgnbnjoaaLxS8
import Derived.Test.YtbebnlhgnbnjoaaLxOpen
set_option linter.unusedVariables false
set_option linter.unusedSimpArgs false
namespace Go.LX
open Go.Proofs
attribute [local irreducible] W WO OpW RW EndQ
theorem auOf_len : ∀ {xs : List (Int × Int)} {out r : List Int}, auOf xs out = some r → out.length ≤ 400 → r.length ≤ 400
  | [], out, r, h, ho => by cases h; exact ho
  | x :: xs, out, r, h, ho => by
    unfold auOf at h
    split at h
    · cases h
    · refine auOf_len h ?_
      rw [List.length_append, List.length_replicate]; omega
theorem auR_len {xs : List (Int × Int)} : (auR xs).length ≤ 400 := by
  unfold auR
  cases h : auOf xs [] with
  | none => simp
  | some r => exact auOf_len h (by simp)
set_option maxHeartbeats 4000000 in
set_option maxRecDepth 20000 in
theorem lawAO_big (xs : List TRun.T) (hl : 1048576 < List.length (α := TRun.T) xs) (hm : List.length (α := TRun.T) xs ≤ 9223372036854775807) : FnC Try.prog 6 [aRs xs] [aX] (.one (sB true)) := by
  refine FnC_of (fn := Try.f6) Try.func6 rfl rfl rfl ?_
  repeat' (first
    | exact trivial
    | (refine inWO ?_; first
      | refine WO_runE (nw := true) rfl rfl ?_ ?_
      | refine WO_runG (nw := true) rfl rfl rfl rfl rfl ?_ ?_
      | refine WO_run1 (nw := true) rfl rfl ?_ ?_
      | refine WO_cons rfl ?_
      | refine WO_gT rfl rfl rfl rfl rfl ?_
      | (refine WO_split rfl rfl rfl rfl ?_ ?_ <;> intro hq <;> try (exfalso; (simp_all) <;> omega))
      | refine WO_nil ?_)
    | (refine inRW ?_; first
      | refine RW_runE (nw := true) rfl rfl (fun _ _ => rfl) rfl ?_ ?_
      | refine RW_runG (nw := true) rfl rfl rfl rfl rfl (fun _ _ => rfl) rfl ?_ ?_
      | refine RW_op (us := ?_) (ub := ?_) (fp := ?_) rfl (fun s0 b0 => ?_) ?_ ?_
      | refine RW_opT (us := ?_) (ub := ?_) (fp := ?_) rfl rfl rfl rfl (fun s0 b0 => ?_) ?_ ?_
      | (refine RW_split rfl rfl rfl ?_ ?_ <;> intro hq <;> try (exfalso; (simp_all) <;> omega))
      | refine RW_nil ?_ (by decide +kernel))
    | (refine gate 1 rfl ?_; first
      | refine callD false (szruns_ok _ _ ?_) rfl rfl rfl rfl (by repeat' (first | exact trivial | refine And.intro ?_ ?_ | rfl)) rfl rfl ?_)
    | (refine gate 5 rfl ?_; first
      | refine litR rfl rfl rfl rfl rfl rfl rfl rfl ?_
      | refine litW rfl rfl rfl rfl rfl rfl ?_)
    | (refine gate 2 rfl ?_; first
      | refine apOS rfl rfl rfl rfl rfl rfl rfl rfl rfl rfl rfl ?_ ?_ ?_
      | refine apOL rfl rfl rfl rfl rfl rfl rfl rfl rfl rfl rfl rfl ?_ ?_ ?_
      | refine apNS rfl rfl rfl rfl rfl rfl rfl rfl rfl rfl rfl ?_ ?_ ?_
      | refine apNL rfl rfl rfl rfl rfl rfl rfl rfl rfl rfl rfl rfl ?_ ?_ ?_)
    | (refine gate 6 rfl ?_; refine mkS rfl rfl rfl rfl rfl rfl rfl rfl rfl rfl rfl rfl rfl ?_ ?_ ?_ ?_)
    | (refine gate 3 rfl ?_; refine op_copy rfl rfl rfl rfl rfl rfl rfl rfl rfl rfl rfl ?_)
    | (refine gate 7 rfl ?_; refine op_nil rfl rfl rfl rfl rfl rfl (fun b hb => ?_))
    | (refine inW ?_; first
      | refine W_seq ?_
      | refine W_region ?_
      | refine W_drawN (by decide +kernel) ?_
      | refine W_block ?_
      | refine W_skip ?_
      | refine W_exit ?_
      | refine W_ret ?_
      | refine W_condT rfl rfl ?_
      | refine W_condF rfl rfl ?_
      | (refine W_condB rfl ?_ ?_ <;> intro hq <;> try (exfalso; (simp_all) <;> omega)))
    | (refine inE ?_; first
      | refine end_d rfl rfl rfl rfl ?_ ?_
      | refine end_o rfl rfl rfl rfl ?_ ?_
      | refine end_of rfl rfl rfl ?_ ?_)
    | refine rsOne ?_
    | refine msPd rfl ?_
    | refine msPn ?_
    | refine msPo rfl ?_
    | refine And.intro ?_ ?_
    | (show List.length _ ≠ 1; simp)
    | (show (_ : Int) ≤ _; first | omega | (simp [IntKind.bits, dflt]; done) | (simp [IntKind.bits, dflt]; omega) | (simp at *; omega))
    | (show (_ : Int) < _; first | omega | (simp [IntKind.bits, dflt]; done) | (simp [IntKind.bits, dflt]; omega) | (simp at *; omega))
    | (show (_ : Nat) ≤ _; first | omega | (simp [IntKind.bits, dflt]; done) | (simp [IntKind.bits, dflt]; omega) | (simp at *; omega))
    | rfl)
set_option maxHeartbeats 4000000 in
set_option maxRecDepth 20000 in
theorem lawAO_small (xs : List TRun.T) (hl : List.length (α := TRun.T) xs ≤ 1048576) : FnC Try.prog 6 [aRs xs] [aX] (.one (sB true)) := by
  have h1 : List.length (auR xs) ≤ 400 := auR_len
  refine FnC_of (fn := Try.f6) Try.func6 rfl rfl rfl ?_
  repeat' (first
    | exact trivial
    | (refine inWO ?_; first
      | refine WO_runE (nw := true) rfl rfl ?_ ?_
      | refine WO_runG (nw := true) rfl rfl rfl rfl rfl ?_ ?_
      | refine WO_run1 (nw := true) rfl rfl ?_ ?_
      | refine WO_cons rfl ?_
      | refine WO_gT rfl rfl rfl rfl rfl ?_
      | (refine WO_split rfl rfl rfl rfl ?_ ?_ <;> intro hq <;> try (exfalso; (simp_all) <;> omega))
      | refine WO_nil ?_)
    | (refine inRW ?_; first
      | refine RW_runE (nw := true) rfl rfl (fun _ _ => rfl) rfl ?_ ?_
      | refine RW_runG (nw := true) rfl rfl rfl rfl rfl (fun _ _ => rfl) rfl ?_ ?_
      | refine RW_op (us := ?_) (ub := ?_) (fp := ?_) rfl (fun s0 b0 => ?_) ?_ ?_
      | refine RW_opT (us := ?_) (ub := ?_) (fp := ?_) rfl rfl rfl rfl (fun s0 b0 => ?_) ?_ ?_
      | (refine RW_split rfl rfl rfl ?_ ?_ <;> intro hq <;> try (exfalso; (simp_all) <;> omega))
      | refine RW_nil ?_ (by decide +kernel))
    | (refine gate 1 rfl ?_; first
      | refine callD false (szruns_ok _ _ ?_) rfl rfl rfl rfl (by repeat' (first | exact trivial | refine And.intro ?_ ?_ | rfl)) rfl rfl ?_
      | refine callD false (toruns_ok _ ?_) rfl rfl rfl rfl (by repeat' (first | exact trivial | refine And.intro ?_ ?_ | rfl)) rfl rfl ?_
      | refine callD true (sauthors_ok _ ?_) rfl rfl rfl rfl (by repeat' (first | exact trivial | refine And.intro ?_ ?_ | rfl)) rfl rfl ?_
      | refine callD true (iauthors_ok _ ?_) rfl rfl rfl rfl (by repeat' (first | exact trivial | refine And.intro ?_ ?_ | rfl)) rfl rfl ?_
      | refine callD true (eqints_ok _ _ ?_ rfl) rfl rfl rfl rfl (by repeat' (first | exact trivial | refine And.intro ?_ ?_ | rfl)) rfl rfl ?_
      | refine callD true (eqruns_ok _ _ ?_ rfl) rfl rfl rfl rfl (by repeat' (first | exact trivial | refine And.intro ?_ ?_ | rfl)) rfl rfl ?_
      | refine callO (markruns_ok _ _ ?_ ?_) rfl rfl rfl rfl rfl rfl rfl rfl rfl (by repeat' (first | exact trivial | refine And.intro ?_ ?_ | rfl)) rfl rfl rfl rfl ?_
      | refine callO (markints_ok _ _ ?_ ?_) rfl rfl rfl rfl rfl rfl rfl rfl rfl (by repeat' (first | exact trivial | refine And.intro ?_ ?_ | rfl)) rfl rfl rfl rfl ?_
      | refine callD true (heldints_ok _ _ ?_ ?_) rfl rfl rfl rfl (by repeat' (first | exact trivial | refine And.intro ?_ ?_ | rfl)) rfl rfl ?_)
    | (refine gate 5 rfl ?_; first
      | refine litR rfl rfl rfl rfl rfl rfl rfl rfl ?_
      | refine litW rfl rfl rfl rfl rfl rfl ?_)
    | (refine gate 2 rfl ?_; first
      | refine apOS rfl rfl rfl rfl rfl rfl rfl rfl rfl rfl rfl ?_ ?_ ?_
      | refine apOL rfl rfl rfl rfl rfl rfl rfl rfl rfl rfl rfl rfl ?_ ?_ ?_
      | refine apNS rfl rfl rfl rfl rfl rfl rfl rfl rfl rfl rfl ?_ ?_ ?_
      | refine apNL rfl rfl rfl rfl rfl rfl rfl rfl rfl rfl rfl rfl ?_ ?_ ?_)
    | (refine gate 6 rfl ?_; refine mkS rfl rfl rfl rfl rfl rfl rfl rfl rfl rfl rfl rfl rfl ?_ ?_ ?_ ?_)
    | (refine gate 3 rfl ?_; refine op_copy rfl rfl rfl rfl rfl rfl rfl rfl rfl rfl rfl ?_)
    | (refine gate 7 rfl ?_; refine op_nil rfl rfl rfl rfl rfl rfl (fun b hb => ?_))
    | (refine inW ?_; first
      | refine W_seq ?_
      | refine W_region ?_
      | refine W_drawN (by decide +kernel) ?_
      | refine W_block ?_
      | refine W_skip ?_
      | refine W_exit ?_
      | refine W_ret ?_
      | refine W_condT rfl rfl ?_
      | refine W_condF rfl rfl ?_
      | (refine W_condB rfl ?_ ?_ <;> intro hq <;> try (exfalso; (simp_all) <;> omega)))
    | (refine inE ?_; first
      | refine end_d rfl rfl rfl rfl ?_ ?_
      | refine end_o rfl rfl rfl rfl ?_ ?_
      | refine end_of rfl rfl rfl ?_ ?_)
    | refine rsOne ?_
    | refine msPd rfl ?_
    | refine msPn ?_
    | refine msPo rfl ?_
    | refine And.intro ?_ ?_
    | (show List.length _ ≠ 1; simp)
    | (show (_ : Int) ≤ _; first | omega | (simp [IntKind.bits, dflt]; done) | (simp [IntKind.bits, dflt]; omega) | (simp at *; omega))
    | (show (_ : Int) < _; first | omega | (simp [IntKind.bits, dflt]; done) | (simp [IntKind.bits, dflt]; omega) | (simp at *; omega))
    | (show (_ : Nat) ≤ _; first | omega | (simp [IntKind.bits, dflt]; done) | (simp [IntKind.bits, dflt]; omega) | (simp at *; omega))
    | rfl)
theorem lawAO_ok (xs : List TRun.T) (hw : WfT (.sl TRun) xs) : FnC Try.prog 6 [aRs xs] [aX] (.one (sB true)) := by
  by_cases h : List.length (α := TRun.T) xs ≤ 1048576
  · exact lawAO_small xs h
  · exact lawAO_big xs (by omega) (Nat.le_trans hw.1 (by decide))
end Go.LX
