import Derived.Test.YtbebnlhgnbnjoaaLxR8
set_option linter.unusedVariables false
set_option linter.unusedSimpArgs false
namespace Go.LX
open Go.Proofs
attribute [local irreducible] W WO OpW RW EndQ

theorem iread_good (xs : List UInt8) (m : Nat) (hl : xs.length ≤ 16777216) (h : m + 6 + wd xs (m + 4) ≤ xs.length) (hs : smB (wd xs m) (wd xs (m + 2)) ((xs.drop (m + 6)).take (wd xs (m + 4))) = true) : FnC Try.prog 28 [aBy xs, aI m] [aX, aX] (.tu [(true, [sI (wd xs m), sI (wd xs (m + 2)), .own 5 .u8 false ((xs.drop (m + 6)).take (wd xs (m + 4)))]), (false, [sI ((m + 6 + wd xs (m + 4) : Nat) : Int)]), (false, [sB true])]) := by
  have hf : fB xs m = false := by
    have t2 : ((m : Int) + 2).toNat = m + 2 := by omega
    have t4 : ((m : Int) + 4).toNat = m + 4 := by omega
    simp only [fB, tB, wB, t2, t4, Int.toNat_natCast, hs, Bool.or_eq_false_iff, decide_eq_false_iff_not, Bool.not_true, and_true]
    omega
  obtain ⟨m', e, h1, h2, e1, e2, e3, e4⟩ := rd_good xs m hf
  obtain rfl : m = m' := by omega
  have := read_good xs m hl (by rw [rd_bad]; exact hf)
  rw [e1, e2, e3, e4] at this
  exact this
theorem iread_bad (xs : List UInt8) (a : Int) (hl : xs.length ≤ 16777216) (h : fB xs a = true) : FnC Try.prog 28 [aBy xs, aI a] [aX, aX] (.tu [(true, [sI 0, sI 0, .own 5 .u8 false []]), (false, [sI 0]), (false, [sB false])]) := read_bad xs a hl (by rw [rd_bad]; exact h)

set_option maxHeartbeats 4000000 in
set_option maxRecDepth 20000 in
theorem law_big (xs : List UInt8) (a : Int) (hl : 1048576 < xs.length) : FnC Try.prog 5 [aBy xs, aI a] [aX, aX] (.one (sB true)) := by
  refine FnC_of (fn := Try.f5) Try.func5 rfl rfl rfl ?_
  repeat' (first
    | exact trivial
    | (refine inWO ?_; first
      | refine WO_runE (nw := true) rfl rfl ?_ ?_
      | refine WO_runG (nw := true) rfl rfl rfl rfl rfl ?_ ?_
      | refine WO_run1 (nw := true) rfl rfl ?_ ?_
      | refine WO_cons rfl ?_
      | refine WO_gT rfl rfl rfl rfl rfl ?_
      | (refine WO_split rfl rfl rfl rfl ?_ ?_ <;> intro hq <;> try (exfalso; (simp_all) <;> omega))
      | refine WO_nil ?_)
    | (refine inRW ?_; first
      | refine RW_runE (nw := true) rfl rfl (fun _ _ => rfl) rfl ?_ ?_
      | refine RW_runG (nw := true) rfl rfl rfl rfl rfl (fun _ _ => rfl) rfl ?_ ?_
      | refine RW_op (us := ?_) (ub := ?_) (fp := ?_) rfl (fun s0 b0 => ?_) ?_ ?_
      | refine RW_opT (us := ?_) (ub := ?_) (fp := ?_) rfl rfl rfl rfl (fun s0 b0 => ?_) ?_ ?_
      | (refine RW_split rfl rfl rfl ?_ ?_ <;> intro hq <;> try (exfalso; (simp_all) <;> omega))
      | refine RW_nil ?_ (by decide +kernel))
    | (refine gate 5 rfl ?_; first
      | refine litR (len := 0) rfl rfl rfl rfl rfl rfl rfl rfl ?_
      | refine litW rfl rfl rfl rfl rfl rfl ?_)
    | (refine gate 2 rfl ?_; first
      | refine apOS rfl rfl rfl rfl rfl rfl rfl rfl rfl rfl rfl ?_ ?_ ?_
      | refine apOL rfl rfl rfl rfl rfl rfl rfl rfl rfl rfl rfl rfl ?_ ?_ ?_
      | refine apNS rfl rfl rfl rfl rfl rfl rfl rfl rfl rfl rfl ?_ ?_ ?_
      | refine apNL rfl rfl rfl rfl rfl rfl rfl rfl rfl rfl rfl rfl ?_ ?_ ?_)
    | (refine gate 6 rfl ?_; refine mkS rfl rfl rfl rfl rfl rfl rfl rfl rfl rfl rfl rfl rfl ?_ ?_ ?_ ?_)
    | (refine gate 7 rfl ?_; refine op_nil rfl rfl rfl rfl rfl rfl (fun b hb => ?_))
    | (refine inW ?_; first
      | refine W_seq ?_
      | refine W_region ?_
      | refine W_drawN (by decide +kernel) ?_
      | refine W_block ?_
      | refine W_skip ?_
      | refine W_exit ?_
      | refine W_ret ?_
      | refine W_condT rfl rfl ?_
      | refine W_condF rfl rfl ?_
      | (refine W_condB rfl ?_ ?_ <;> intro hq <;> try (exfalso; (simp_all) <;> omega)))
    | (refine inE ?_; first
      | refine end_d rfl rfl rfl rfl ?_ ?_
      | refine end_o rfl rfl rfl rfl ?_ ?_
      | refine end_of rfl rfl rfl ?_ ?_)
    | refine And.intro ?_ ?_
    | (show List.length _ ≠ 1; simp)
    | (show (_ : Int) ≤ _; first | omega | (simp [IntKind.bits, dflt]; omega) | (simp at *; omega))
    | (show (_ : Int) < _; first | omega | (simp [IntKind.bits, dflt]; omega) | (simp at *; omega))
    | (show (_ : Nat) ≤ _; first | omega | (simp [IntKind.bits, dflt]; omega) | (simp at *; omega))
    | rfl)
set_option maxHeartbeats 8000000 in
set_option maxRecDepth 20000 in
theorem law_bad (xs : List UInt8) (a : Int) (hl : xs.length ≤ 1048576) (h : fB xs a = true) : FnC Try.prog 5 [aBy xs, aI a] [aX, aX] (.one (sB true)) := by
  refine FnC_of (fn := Try.f5) Try.func5 rfl rfl rfl ?_
  repeat' (first
    | exact trivial
    | (refine inWO ?_; first
      | refine WO_runE (nw := true) rfl rfl ?_ ?_
      | refine WO_runG (nw := true) rfl rfl rfl rfl rfl ?_ ?_
      | refine WO_run1 (nw := true) rfl rfl ?_ ?_
      | refine WO_cons rfl ?_
      | refine WO_gT rfl rfl rfl rfl rfl ?_
      | (refine WO_split rfl rfl rfl rfl ?_ ?_ <;> intro hq <;> try (exfalso; (simp_all) <;> omega))
      | refine WO_nil ?_)
    | (refine inRW ?_; first
      | refine RW_runE (nw := true) rfl rfl (fun _ _ => rfl) rfl ?_ ?_
      | refine RW_runG (nw := true) rfl rfl rfl rfl rfl (fun _ _ => rfl) rfl ?_ ?_
      | refine RW_op (us := ?_) (ub := ?_) (fp := ?_) rfl (fun s0 b0 => ?_) ?_ ?_
      | refine RW_opT (us := ?_) (ub := ?_) (fp := ?_) rfl rfl rfl rfl (fun s0 b0 => ?_) ?_ ?_
      | (refine RW_split rfl rfl rfl ?_ ?_ <;> intro hq <;> try (exfalso; (simp_all) <;> omega))
      | refine RW_nil ?_ (by decide +kernel))
    | (refine gate 1 rfl ?_; first
      | refine callD true (tobytes_ok _ ?_) rfl rfl rfl rfl (by exact (And.intro rfl trivial)) rfl rfl ?_
      | refine callD true (sread_bad _ _ ?_ h) rfl rfl rfl rfl (by exact (And.intro rfl (And.intro rfl trivial))) rfl rfl ?_
      | refine callD true (iread_bad _ _ ?_ h) rfl rfl rfl rfl (by exact (And.intro rfl (And.intro rfl trivial))) rfl rfl ?_
      | refine callD true (eqedit_ok _ _ _ ?_) rfl rfl rfl rfl (by exact And.intro (And.intro rfl (And.intro rfl (And.intro rfl trivial))) (And.intro (And.intro rfl (And.intro rfl (And.intro rfl trivial))) trivial)) rfl rfl ?_
      | refine callD true (eqbytes_ok _ _ ?_ rfl) rfl rfl rfl rfl (by exact (And.intro rfl (And.intro rfl trivial))) rfl rfl ?_
      | refine callO (markbytes_ok _ _ ?_ ?_) rfl rfl rfl rfl rfl rfl rfl rfl rfl (by exact (And.intro rfl trivial)) rfl rfl rfl rfl ?_
      | refine callA (markedit_ok _ _ _ _ ?_ ?_) rfl rfl rfl rfl rfl rfl rfl rfl (by exact (And.intro rfl (And.intro rfl (And.intro rfl trivial)))) rfl rfl rfl rfl (by exact (And.intro rfl trivial)) rfl rfl rfl rfl rfl rfl ?_
      | refine callD true (heldedit_ok _ _ _ _ ?_ ?_) rfl rfl rfl rfl (by exact And.intro (And.intro rfl (And.intro rfl (And.intro rfl trivial))) (And.intro rfl trivial)) rfl rfl ?_)
    | (refine gate 5 rfl ?_; first
      | refine litR (len := 0) rfl rfl rfl rfl rfl rfl rfl rfl ?_
      | refine litW rfl rfl rfl rfl rfl rfl ?_)
    | (refine gate 2 rfl ?_; first
      | refine apOS rfl rfl rfl rfl rfl rfl rfl rfl rfl rfl rfl ?_ ?_ ?_
      | refine apOL rfl rfl rfl rfl rfl rfl rfl rfl rfl rfl rfl rfl ?_ ?_ ?_
      | refine apNS rfl rfl rfl rfl rfl rfl rfl rfl rfl rfl rfl ?_ ?_ ?_
      | refine apNL rfl rfl rfl rfl rfl rfl rfl rfl rfl rfl rfl rfl ?_ ?_ ?_)
    | (refine gate 6 rfl ?_; refine mkS rfl rfl rfl rfl rfl rfl rfl rfl rfl rfl rfl rfl rfl ?_ ?_ ?_ ?_)
    | (refine gate 7 rfl ?_; refine op_nil rfl rfl rfl rfl rfl rfl (fun b hb => ?_))
    | (refine inW ?_; first
      | refine W_seq ?_
      | refine W_region ?_
      | refine W_drawN (by decide +kernel) ?_
      | refine W_block ?_
      | refine W_skip ?_
      | refine W_exit ?_
      | refine W_ret ?_
      | refine W_condT rfl rfl ?_
      | refine W_condF rfl rfl ?_
      | (refine W_condB rfl ?_ ?_ <;> intro hq <;> try (exfalso; (simp_all) <;> omega)))
    | (refine inE ?_; first
      | refine end_d rfl rfl rfl rfl ?_ ?_
      | refine end_o rfl rfl rfl rfl ?_ ?_
      | refine end_of rfl rfl rfl ?_ ?_)
    | refine And.intro ?_ ?_
    | (show List.length _ ≠ 1; simp)
    | (show (_ : Int) ≤ _; first | omega | (simp [IntKind.bits, dflt]; omega) | (simp at *; omega))
    | (show (_ : Int) < _; first | omega | (simp [IntKind.bits, dflt]; omega) | (simp at *; omega))
    | (show (_ : Nat) ≤ _; first | omega | (simp [IntKind.bits, dflt]; omega) | (simp at *; omega))
    | rfl)
  all_goals exact Nat.zero_le _
set_option maxHeartbeats 8000000 in
set_option maxRecDepth 20000 in
theorem law_good (xs : List UInt8) (m : Nat) (hl : xs.length ≤ 1048576) (h : m + 6 + wd xs (m + 4) ≤ xs.length) (hs : smB (wd xs m) (wd xs (m + 2)) ((xs.drop (m + 6)).take (wd xs (m + 4))) = true) : FnC Try.prog 5 [aBy xs, aI m] [aX, aX] (.one (sB true)) := by
  have hp : ((xs.drop (m + 6)).take (wd xs (m + 4))).length ≤ 16777216 := by simp; omega
  refine FnC_of (fn := Try.f5) Try.func5 rfl rfl rfl ?_
  repeat' (first
    | exact trivial
    | (refine inWO ?_; first
      | refine WO_runE (nw := true) rfl rfl ?_ ?_
      | refine WO_runG (nw := true) rfl rfl rfl rfl rfl ?_ ?_
      | refine WO_run1 (nw := true) rfl rfl ?_ ?_
      | refine WO_cons rfl ?_
      | refine WO_gT rfl rfl rfl rfl rfl ?_
      | (refine WO_split rfl rfl rfl rfl ?_ ?_ <;> intro hq <;> try (exfalso; (simp_all) <;> omega))
      | refine WO_nil ?_)
    | (refine inRW ?_; first
      | refine RW_runE (nw := true) rfl rfl (fun _ _ => rfl) rfl ?_ ?_
      | refine RW_runG (nw := true) rfl rfl rfl rfl rfl (fun _ _ => rfl) rfl ?_ ?_
      | refine RW_op (us := ?_) (ub := ?_) (fp := ?_) rfl (fun s0 b0 => ?_) ?_ ?_
      | refine RW_opT (us := ?_) (ub := ?_) (fp := ?_) rfl rfl rfl rfl (fun s0 b0 => ?_) ?_ ?_
      | (refine RW_split rfl rfl rfl ?_ ?_ <;> intro hq <;> try (exfalso; (simp_all) <;> omega))
      | refine RW_nil ?_ (by decide +kernel))
    | (refine gate 1 rfl ?_; first
      | refine callD true (tobytes_ok _ ?_) rfl rfl rfl rfl (by exact (And.intro rfl trivial)) rfl rfl ?_
      | refine callD true (sread_good _ m ?_ h hs) rfl rfl rfl rfl (by exact (And.intro rfl (And.intro rfl trivial))) rfl rfl ?_
      | refine callD true (iread_good _ m ?_ h hs) rfl rfl rfl rfl (by exact (And.intro rfl (And.intro rfl trivial))) rfl rfl ?_
      | refine callD true (eqedit_ok _ _ _ ?_) rfl rfl rfl rfl (by exact And.intro (And.intro rfl (And.intro rfl (And.intro rfl trivial))) (And.intro (And.intro rfl (And.intro rfl (And.intro rfl trivial))) trivial)) rfl rfl ?_
      | refine callD true (eqbytes_ok _ _ ?_ rfl) rfl rfl rfl rfl (by exact (And.intro rfl (And.intro rfl trivial))) rfl rfl ?_
      | refine callO (markbytes_ok _ _ ?_ ?_) rfl rfl rfl rfl rfl rfl rfl rfl rfl (by exact (And.intro rfl trivial)) rfl rfl rfl rfl ?_
      | refine callA (markedit_ok _ _ _ _ ?_ ?_) rfl rfl rfl rfl rfl rfl rfl rfl (by exact (And.intro rfl (And.intro rfl (And.intro rfl trivial)))) rfl rfl rfl rfl (by exact (And.intro rfl trivial)) rfl rfl rfl rfl rfl rfl ?_
      | refine callD true (heldedit_ok _ _ _ _ ?_ ?_) rfl rfl rfl rfl (by exact And.intro (And.intro rfl (And.intro rfl (And.intro rfl trivial))) (And.intro rfl trivial)) rfl rfl ?_)
    | (refine gate 5 rfl ?_; first
      | refine litR (len := 0) rfl rfl rfl rfl rfl rfl rfl rfl ?_
      | refine litW rfl rfl rfl rfl rfl rfl ?_)
    | (refine gate 2 rfl ?_; first
      | refine apOS rfl rfl rfl rfl rfl rfl rfl rfl rfl rfl rfl ?_ ?_ ?_
      | refine apOL rfl rfl rfl rfl rfl rfl rfl rfl rfl rfl rfl rfl ?_ ?_ ?_
      | refine apNS rfl rfl rfl rfl rfl rfl rfl rfl rfl rfl rfl ?_ ?_ ?_
      | refine apNL rfl rfl rfl rfl rfl rfl rfl rfl rfl rfl rfl rfl ?_ ?_ ?_)
    | (refine gate 6 rfl ?_; refine mkS rfl rfl rfl rfl rfl rfl rfl rfl rfl rfl rfl rfl rfl ?_ ?_ ?_ ?_)
    | (refine gate 7 rfl ?_; refine op_nil rfl rfl rfl rfl rfl rfl (fun b hb => ?_))
    | (refine inW ?_; first
      | refine W_seq ?_
      | refine W_region ?_
      | refine W_drawN (by decide +kernel) ?_
      | refine W_block ?_
      | refine W_skip ?_
      | refine W_exit ?_
      | refine W_ret ?_
      | refine W_condT rfl rfl ?_
      | refine W_condF rfl rfl ?_
      | (refine W_condB rfl ?_ ?_ <;> intro hq <;> try (exfalso; (simp_all) <;> omega)))
    | (refine inE ?_; first
      | refine end_d rfl rfl rfl rfl ?_ ?_
      | refine end_o rfl rfl rfl rfl ?_ ?_
      | refine end_of rfl rfl rfl ?_ ?_)
    | refine And.intro ?_ ?_
    | (show List.length _ ≠ 1; simp)
    | (show (_ : Int) ≤ _; first | omega | (simp [IntKind.bits, dflt]; omega) | (simp at *; omega))
    | (show (_ : Int) < _; first | omega | (simp [IntKind.bits, dflt]; omega) | (simp at *; omega))
    | (show (_ : Nat) ≤ _; first | omega | (simp [IntKind.bits, dflt]; omega) | (simp at *; omega))
    | rfl)
theorem law_ok (xs : List UInt8) (a : Int) : FnC Try.prog 5 [aBy xs, aI a] [aX, aX] (.one (sB true)) := by
  by_cases hl : xs.length ≤ 1048576
  · cases h : fB xs a with
    | true => exact law_bad xs a hl h
    | false =>
      obtain ⟨m, rfl, h1, h2, _⟩ := rd_good xs a h
      exact law_good xs m hl h1 h2
  · exact law_big xs a (by omega)
end Go.LX
