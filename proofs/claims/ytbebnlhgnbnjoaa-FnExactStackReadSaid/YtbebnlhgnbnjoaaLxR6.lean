/- A part of the proof of the statement in the row text. -/
import Derived.Test.YtbebnlhgnbnjoaaLxR5
set_option linter.unusedVariables false
set_option linter.unusedSimpArgs false
namespace Go.LX
open Go.Proofs
attribute [local irreducible] W WO OpW RW EndQ

theorem stext_ok (xs : List UInt8) (a : Int) (ha : -1048576 ≤ a ∧ a ≤ 33554432) (hl : xs.length ≤ 16777216) : FnC Try.prog 51 [aBy xs, aI a] [aX, aX] (.tu [(false, [.own 5 .u8 false (bif tB xs a then [] else (xs.drop (a.toNat + 2)).take (wd xs a.toNat))]), (false, [sI (bif tB xs a then 0 else a + 2 + wd xs a.toNat)]), (false, [sB (!tB xs a)])]) := by
  cases h : tB xs a with
  | true => exact stext_bad xs a ha hl h
  | false =>
    simp [tB, wB] at h
    obtain ⟨⟨h0, h1⟩, h2⟩ := h
    obtain ⟨m, rfl⟩ := Int.eq_ofNat_of_zero_le h0
    exact stext_good xs m hl (by simp at h2; omega)
/-- An edit that cannot be read. -/
def fB (xs : List UInt8) (a : Int) : Bool := decide (a < 0) || decide ((xs.length : Int) < a) || wB xs a || wB xs (a + 2) || tB xs (a + 4) || !smB (wd xs a.toNat) (wd xs (a + 2).toNat) ((xs.drop ((a + 4).toNat + 2)).take (wd xs (a + 4).toNat))
set_option maxHeartbeats 4000000 in
set_option maxRecDepth 20000 in
theorem sread_bad (xs : List UInt8) (a : Int) (hl : xs.length ≤ 16777216) (h : fB xs a = true) : FnC Try.prog 26 [aBy xs, aI a] [aX, aX] (.tu [(true, [sI 0, sI 0, .own 5 .u8 false []]), (false, [sI 0]), (false, [sB false])]) := by
  unfold fB at h
  refine FnC_of (fn := Try.f26) Try.func26 rfl rfl rfl ?_
  repeat' (first
    | exact trivial
    | (refine inWO ?_; first
      | refine WO_runE (nw := true) rfl rfl ?_ ?_
      | refine WO_runG (nw := true) rfl rfl rfl rfl rfl ?_ ?_
      | refine WO_run1 (nw := true) rfl rfl ?_ ?_
      | refine WO_cons rfl ?_
      | refine WO_gT rfl rfl rfl rfl rfl ?_
      | (refine WO_split rfl rfl rfl rfl ?_ ?_ <;> intro hq <;> try (exfalso; (simp_all) <;> omega))
      | refine WO_nil ?_)
    | (refine inRW ?_; first
      | refine RW_runE (nw := true) rfl rfl (fun _ _ => rfl) rfl ?_ ?_
      | refine RW_runG (nw := true) rfl rfl rfl rfl rfl (fun _ _ => rfl) rfl ?_ ?_
      | refine RW_op (us := ?_) (ub := ?_) (fp := ?_) rfl (fun s0 b0 => ?_) ?_ ?_
      | refine RW_opT (us := ?_) (ub := ?_) (fp := ?_) rfl rfl rfl rfl (fun s0 b0 => ?_) ?_ ?_
      | (refine RW_split rfl rfl rfl ?_ ?_ <;> intro hq <;> try (exfalso; (simp_all) <;> omega))
      | refine RW_nil ?_ (by decide +kernel))
    | (refine gate 1 rfl ?_; first
      | refine callD false (sword_ok _ _ ?_) rfl rfl rfl rfl (by exact (And.intro rfl (And.intro rfl trivial))) rfl rfl ?_
      | refine callD false (stext_ok _ _ ?_ ?_) rfl rfl rfl rfl (by exact (And.intro rfl (And.intro rfl trivial))) rfl rfl ?_
      | refine callD true (ssmall_ok _ _ _) rfl rfl rfl rfl (by exact And.intro (And.intro rfl (And.intro rfl (And.intro rfl trivial))) trivial) rfl rfl ?_)
    | (refine gate 5 rfl ?_; first
      | refine litR (len := 0) rfl rfl rfl rfl rfl rfl rfl rfl ?_
      | refine litW rfl rfl rfl rfl rfl rfl ?_)
    | (refine gate 2 rfl ?_; first
      | refine apOS rfl rfl rfl rfl rfl rfl rfl rfl rfl rfl rfl ?_ ?_ ?_
      | refine apOL rfl rfl rfl rfl rfl rfl rfl rfl rfl rfl rfl rfl ?_ ?_ ?_
      | refine apNS rfl rfl rfl rfl rfl rfl rfl rfl rfl rfl rfl ?_ ?_ ?_
      | refine apNL rfl rfl rfl rfl rfl rfl rfl rfl rfl rfl rfl rfl ?_ ?_ ?_)
    | (refine gate 6 rfl ?_; refine mkS rfl rfl rfl rfl rfl rfl rfl rfl rfl rfl rfl rfl rfl ?_ ?_ ?_ ?_)
    | (refine gate 7 rfl ?_; refine op_nil rfl rfl rfl rfl rfl rfl (fun b hb => ?_))
    | (refine inW ?_; first
      | refine W_seq ?_
      | refine W_region ?_
      | refine W_drawN (by decide +kernel) ?_
      | refine W_block ?_
      | refine W_skip ?_
      | refine W_exit ?_
      | refine W_ret ?_
      | refine W_condT rfl rfl ?_
      | refine W_condF rfl rfl ?_
      | (refine W_condB rfl ?_ ?_ <;> intro hq <;> try (exfalso; (simp_all) <;> omega)))
    | (refine inE ?_; first
      | refine end_d rfl rfl rfl rfl ?_ ?_
      | refine end_o rfl rfl rfl rfl ?_ ?_
      | refine end_of rfl rfl rfl ?_ ?_)
    | refine And.intro ?_ ?_
    | (show List.length _ ≠ 1; simp)
    | (show (_ : Int) ≤ _; first | omega | (simp [IntKind.bits, dflt]; omega) | (simp at *; omega))
    | (show (_ : Int) < _; first | omega | (simp [IntKind.bits, dflt]; omega) | (simp at *; omega))
    | (show (_ : Nat) ≤ _; first | omega | (simp [IntKind.bits, dflt]; omega) | (simp at *; omega))
    | rfl)
end Go.LX
