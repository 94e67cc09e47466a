/- A part of the proof of the statement in the row text. -/
import Derived.Test.YtbebnlhgnbnjoaaLxR2
set_option linter.unusedVariables false
set_option linter.unusedSimpArgs false
namespace Go.LX
open Go.Proofs
attribute [local irreducible] W WO OpW RW EndQ

set_option maxHeartbeats 1000000 in
set_option maxRecDepth 20000 in
theorem take_bad (all : List UInt8) (a : Int) (n : Nat) (b : Bool) (h : b = true ∨ a < 0 ∨ all.length < a ∨ all.length < a + n) (hl : all.length ≤ 16777216) (hn : n ≤ 65535) : FnC Try.prog 72 [.bx [sBy all, sI a, sB b], aI n] [.bx [sBy all, sI a, sB true], aX] (.one (.own 5 .u8 false (List.replicate n 0))) := by
  refine FnC_of (fn := Try.f72) Try.func72 rfl rfl rfl ?_
  repeat' (first
    | exact trivial
    | (refine inWO ?_; first
      | refine WO_runE (nw := true) rfl rfl ?_ ?_
      | refine WO_runG (nw := true) rfl rfl rfl rfl rfl ?_ ?_
      | refine WO_run1 (nw := true) rfl rfl ?_ ?_
      | refine WO_cons rfl ?_
      | refine WO_gT rfl rfl rfl rfl rfl ?_
      | (refine WO_split rfl rfl rfl rfl ?_ ?_ <;> intro hq <;> try (exfalso; (simp_all) <;> omega))
      | refine WO_nil ?_)
    | (refine inRW ?_; first
      | refine RW_runE (nw := true) rfl rfl (fun _ _ => rfl) rfl ?_ ?_
      | refine RW_runG (nw := true) rfl rfl rfl rfl rfl (fun _ _ => rfl) rfl ?_ ?_
      | refine RW_op (us := ?_) (ub := ?_) (fp := ?_) rfl (fun s0 b0 => ?_) ?_ ?_
      | refine RW_opT (us := ?_) (ub := ?_) (fp := ?_) rfl rfl rfl rfl (fun s0 b0 => ?_) ?_ ?_
      | (refine RW_split rfl rfl rfl ?_ ?_ <;> intro hq <;> try (exfalso; (simp_all) <;> omega))
      | refine RW_nil ?_ (by decide +kernel))
    | (refine gate 1 rfl ?_; first
      | refine callD false (in_ok _ _ _) rfl rfl rfl rfl (by exact (And.intro rfl (And.intro rfl (And.intro rfl trivial)))) rfl rfl ?_
      | refine callD false (clone_ok _ ?_) rfl rfl rfl rfl (by exact (And.intro rfl trivial)) rfl rfl ?_)
    | (refine gate 5 rfl ?_; first
      | refine litR (len := 0) rfl rfl rfl rfl rfl rfl rfl rfl ?_
      | refine litW rfl rfl rfl rfl rfl rfl ?_)
    | (refine gate 2 rfl ?_; first
      | refine apOS rfl rfl rfl rfl rfl rfl rfl rfl rfl rfl rfl ?_ ?_ ?_
      | refine apOL rfl rfl rfl rfl rfl rfl rfl rfl rfl rfl rfl rfl ?_ ?_ ?_
      | refine apNS rfl rfl rfl rfl rfl rfl rfl rfl rfl rfl rfl ?_ ?_ ?_
      | refine apNL rfl rfl rfl rfl rfl rfl rfl rfl rfl rfl rfl rfl ?_ ?_ ?_)
    | (refine gate 6 rfl ?_; refine mkS rfl rfl rfl rfl rfl rfl rfl rfl rfl rfl rfl rfl rfl ?_ ?_ ?_ ?_)
    | (refine gate 7 rfl ?_; refine op_nil rfl rfl rfl rfl rfl rfl (fun b hb => ?_))
    | (refine inW ?_; first
      | refine W_seq ?_
      | refine W_region ?_
      | refine W_drawN (by decide +kernel) ?_
      | refine W_block ?_
      | refine W_skip ?_
      | refine W_exit ?_
      | refine W_ret ?_
      | refine W_condT rfl rfl ?_
      | refine W_condF rfl rfl ?_
      | (refine W_condB rfl ?_ ?_ <;> intro hq <;> try (exfalso; (simp_all) <;> omega)))
    | (refine inE ?_; first
      | refine end_d rfl rfl rfl rfl ?_ ?_
      | refine end_o rfl rfl rfl rfl ?_ ?_
      | refine end_of rfl rfl rfl ?_ ?_)
    | refine And.intro ?_ ?_
    | (show List.length _ ≠ 1; simp)
    | (show (_ : Int) ≤ _; first | omega | (simp [IntKind.bits, dflt]; omega) | (simp at *; omega))
    | (show (_ : Int) < _; first | omega | (simp [IntKind.bits, dflt]; omega) | (simp at *; omega))
    | (show (_ : Nat) ≤ _; first | omega | (simp [IntKind.bits, dflt]; omega) | (simp at *; omega))
    | rfl)

/-- What the reader's take comes to. -/
def tkB (all : List UInt8) (a : Int) (b : Bool) (n : Nat) : Bool := b || decide (a < 0) || decide ((all.length : Int) < a + n)
def tkA (all : List UInt8) (a : Int) (b : Bool) (n : Nat) : Int := if tkB all a b n = true then a else a + n
def tkR (all : List UInt8) (a : Int) (b : Bool) (n : Nat) : List UInt8 := if tkB all a b n = true then List.replicate n 0 else (all.drop a.toNat).take n
theorem take_ok (all : List UInt8) (a : Int) (b : Bool) (n : Nat) (hl : all.length ≤ 16777216) (hn : n ≤ 65535) : FnC Try.prog 72 [.bx [sBy all, sI a, sB b], aI n] [.bx [sBy all, sI (tkA all a b n), sB (tkB all a b n)], aX] (.one (.own 5 .u8 false (tkR all a b n))) := by
  by_cases h : tkB all a b n = true
  · have := take_bad all a n b (by
      simp [tkB] at h
      rcases h with (h | h) | h
      · exact .inl h
      · exact .inr (.inl h)
      · exact .inr (.inr (.inr h))) hl hn
    simpa only [tkA, tkR, h, if_true] using this
  · have h' := h
    simp [tkB] at h'
    obtain ⟨⟨hb, h0⟩, h1⟩ := h'
    obtain ⟨m, rfl⟩ := Int.eq_ofNat_of_zero_le h0
    have := take_good all m n (by omega) hl
    have hf : tkB all m b n = false := by simpa using h
    subst hb
    simpa [tkA, tkR, hf] using this
theorem tkR_len (all : List UInt8) (a : Int) (b : Bool) (n : Nat) : (tkR all a b n).length = n := by
  unfold tkR
  split
  · simp
  · rename_i h
    simp [tkB] at h
    simp
    omega

set_option maxHeartbeats 1000000 in
set_option maxRecDepth 20000 in
theorem two_ok (all : List UInt8) (a : Int) (b : Bool) (hl : all.length ≤ 16777216) : FnC Try.prog 71 [.bx [sBy all, sI a, sB b]] [.bx [sBy all, sI (tkA all a b 2), sB (tkB all a b 2)]] (.one (sI (wd (tkR all a b 2) 0))) := by
  refine FnC_of (fn := Try.f71) Try.func71 rfl rfl rfl ?_
  repeat' (first
    | exact trivial
    | (refine inWO ?_; first
      | refine WO_runE (nw := true) rfl rfl ?_ ?_
      | refine WO_runG (nw := true) rfl rfl rfl rfl rfl ?_ ?_
      | refine WO_run1 (nw := true) rfl rfl ?_ ?_
      | refine WO_cons rfl ?_
      | refine WO_gT rfl rfl rfl rfl rfl ?_
      | (refine WO_split rfl rfl rfl rfl ?_ ?_ <;> intro hq <;> try (exfalso; (simp_all) <;> omega))
      | refine WO_nil ?_)
    | (refine inRW ?_; first
      | refine RW_runE (nw := true) rfl rfl (fun _ _ => rfl) rfl ?_ ?_
      | refine RW_runG (nw := true) rfl rfl rfl rfl rfl (fun _ _ => rfl) rfl ?_ ?_
      | refine RW_op (us := ?_) (ub := ?_) (fp := ?_) rfl (fun s0 b0 => ?_) ?_ ?_
      | refine RW_opT (us := ?_) (ub := ?_) (fp := ?_) rfl rfl rfl rfl (fun s0 b0 => ?_) ?_ ?_
      | (refine RW_split rfl rfl rfl ?_ ?_ <;> intro hq <;> try (exfalso; (simp_all) <;> omega))
      | refine RW_nil ?_ (by decide +kernel))
    | (refine gate 1 rfl ?_; first
      | refine callB (take_ok _ _ _ 2 ?_ ?_) rfl rfl rfl rfl rfl rfl rfl rfl rfl (And.intro rfl trivial) (And.intro rfl (And.intro rfl (And.intro rfl trivial))) rfl rfl rfl rfl rfl rfl rfl rfl ?_
      | refine callD true (word_ok _ ?_) rfl rfl rfl rfl (by exact (And.intro rfl trivial)) rfl rfl ?_)
    | (refine gate 5 rfl ?_; first
      | refine litR (len := 0) rfl rfl rfl rfl rfl rfl rfl rfl ?_
      | refine litW rfl rfl rfl rfl rfl rfl ?_)
    | (refine gate 2 rfl ?_; first
      | refine apOS rfl rfl rfl rfl rfl rfl rfl rfl rfl rfl rfl ?_ ?_ ?_
      | refine apOL rfl rfl rfl rfl rfl rfl rfl rfl rfl rfl rfl rfl ?_ ?_ ?_
      | refine apNS rfl rfl rfl rfl rfl rfl rfl rfl rfl rfl rfl ?_ ?_ ?_
      | refine apNL rfl rfl rfl rfl rfl rfl rfl rfl rfl rfl rfl rfl ?_ ?_ ?_)
    | (refine gate 6 rfl ?_; refine mkS rfl rfl rfl rfl rfl rfl rfl rfl rfl rfl rfl rfl rfl ?_ ?_ ?_ ?_)
    | (refine gate 7 rfl ?_; refine op_nil rfl rfl rfl rfl rfl rfl (fun b hb => ?_))
    | (refine inW ?_; first
      | refine W_seq ?_
      | refine W_region ?_
      | refine W_drawN (by decide +kernel) ?_
      | refine W_block ?_
      | refine W_skip ?_
      | refine W_exit ?_
      | refine W_ret ?_
      | refine W_condT rfl rfl ?_
      | refine W_condF rfl rfl ?_
      | (refine W_condB rfl ?_ ?_ <;> intro hq <;> try (exfalso; (simp_all) <;> omega)))
    | (refine inE ?_; first
      | refine end_d rfl rfl rfl rfl ?_ ?_
      | refine end_o rfl rfl rfl rfl ?_ ?_
      | refine end_of rfl rfl rfl ?_ ?_)
    | refine And.intro ?_ ?_
    | (show List.length _ ≠ 1; simp)
    | (show (_ : Int) ≤ _; first | omega | (simp [IntKind.bits, dflt]; omega) | (simp at *; omega))
    | (show (_ : Int) < _; first | omega | (simp [IntKind.bits, dflt]; omega) | (simp at *; omega))
    | (show (_ : Nat) ≤ _; first | omega | (simp [IntKind.bits, dflt]; omega) | (simp at *; omega))
    | rfl)
  · rw [tkR_len]; omega

theorem small_lem {a c : Int} {n : Nat} : True := trivial
/-- Is an edit small? -/
def smB (a c : Int) (p : List UInt8) : Bool := (decide (0 ≤ a) && decide (a ≤ 400)) && (decide (0 ≤ c) && decide (c ≤ 400)) && decide ((p.length : Int) ≤ 400)
set_option maxHeartbeats 1000000 in
set_option maxRecDepth 20000 in
theorem small_ok (a c : Int) (p : List UInt8) : FnC Try.prog 48 [.ag [sI a, sI c, sBy p]] [.ag [.any, .any, .any]] (.one (sB (smB a c p))) := by
  refine FnC_of (fn := Try.f48) Try.func48 rfl rfl rfl ?_
  repeat' (first
    | exact trivial
    | (refine inWO ?_; first
      | refine WO_runE (nw := true) rfl rfl ?_ ?_
      | refine WO_runG (nw := true) rfl rfl rfl rfl rfl ?_ ?_
      | refine WO_run1 (nw := true) rfl rfl ?_ ?_
      | refine WO_cons rfl ?_
      | refine WO_gT rfl rfl rfl rfl rfl ?_
      | (refine WO_split rfl rfl rfl rfl ?_ ?_ <;> intro hq <;> try (exfalso; (simp_all) <;> omega))
      | refine WO_nil ?_)
    | (refine inRW ?_; first
      | refine RW_runE (nw := true) rfl rfl (fun _ _ => rfl) rfl ?_ ?_
      | refine RW_runG (nw := true) rfl rfl rfl rfl rfl (fun _ _ => rfl) rfl ?_ ?_
      | refine RW_op (us := ?_) (ub := ?_) (fp := ?_) rfl (fun s0 b0 => ?_) ?_ ?_
      | refine RW_opT (us := ?_) (ub := ?_) (fp := ?_) rfl rfl rfl rfl (fun s0 b0 => ?_) ?_ ?_
      | (refine RW_split rfl rfl rfl ?_ ?_ <;> intro hq <;> try (exfalso; (simp_all) <;> omega))
      | refine RW_nil ?_ (by decide +kernel))
    | (refine gate 1 rfl ?_; first
      | refine callD false (in_ok _ _ _) rfl rfl rfl rfl (by exact (And.intro rfl (And.intro rfl (And.intro rfl trivial)))) rfl rfl ?_)
    | (refine gate 5 rfl ?_; first
      | refine litR (len := 0) rfl rfl rfl rfl rfl rfl rfl rfl ?_
      | refine litW rfl rfl rfl rfl rfl rfl ?_)
    | (refine gate 2 rfl ?_; first
      | refine apOS rfl rfl rfl rfl rfl rfl rfl rfl rfl rfl rfl ?_ ?_ ?_
      | refine apOL rfl rfl rfl rfl rfl rfl rfl rfl rfl rfl rfl rfl ?_ ?_ ?_
      | refine apNS rfl rfl rfl rfl rfl rfl rfl rfl rfl rfl rfl ?_ ?_ ?_
      | refine apNL rfl rfl rfl rfl rfl rfl rfl rfl rfl rfl rfl rfl ?_ ?_ ?_)
    | (refine gate 6 rfl ?_; refine mkS rfl rfl rfl rfl rfl rfl rfl rfl rfl rfl rfl rfl rfl ?_ ?_ ?_ ?_)
    | (refine gate 7 rfl ?_; refine op_nil rfl rfl rfl rfl rfl rfl (fun b hb => ?_))
    | (refine inW ?_; first
      | refine W_seq ?_
      | refine W_region ?_
      | refine W_drawN (by decide +kernel) ?_
      | refine W_block ?_
      | refine W_skip ?_
      | refine W_exit ?_
      | refine W_ret ?_
      | refine W_condT rfl rfl ?_
      | refine W_condF rfl rfl ?_
      | (refine W_condB rfl ?_ ?_ <;> intro hq <;> try (exfalso; (simp_all) <;> omega)))
    | (refine inE ?_; first
      | refine end_d rfl rfl rfl rfl ?_ ?_
      | refine end_o rfl rfl rfl rfl ?_ ?_
      | refine end_of rfl rfl rfl ?_ ?_)
    | refine And.intro ?_ ?_
    | (show List.length _ ≠ 1; simp)
    | (show (_ : Int) ≤ _; first | omega | (simp [IntKind.bits, dflt]; omega) | (simp at *; omega))
    | (show (_ : Int) < _; first | omega | (simp [IntKind.bits, dflt]; omega) | (simp at *; omega))
    | (show (_ : Nat) ≤ _; first | omega | (simp [IntKind.bits, dflt]; omega) | (simp at *; omega))
    | rfl)
  all_goals (simp_all [smB] <;> (intros; omega))
/-- What the reader of one edit leaves. -/
structure RdE where
  a : Int
  c : Int
  p : List UInt8
  at_ : Int
  bad : Bool
def rdE (all : List UInt8) (a : Int) (b : Bool) : RdE :=
  let a1 := tkA all a b 2
  let b1 := tkB all a b 2
  let a2 := tkA all a1 b1 2
  let b2 := tkB all a1 b1 2
  let a3 := tkA all a2 b2 2
  let b3 := tkB all a2 b2 2
  let n := wd (tkR all a2 b2 2) 0
  ⟨wd (tkR all a b 2) 0, wd (tkR all a1 b1 2) 0, tkR all a3 b3 n, tkA all a3 b3 n, tkB all a3 b3 n || !smB (wd (tkR all a b 2) 0) (wd (tkR all a1 b1 2) 0) (tkR all a3 b3 n)⟩
set_option maxHeartbeats 1000000 in
set_option maxRecDepth 20000 in
theorem edit_ok (all : List UInt8) (a : Int) (b : Bool) (hl : all.length ≤ 16777216) : FnC Try.prog 52 [.bx [sBy all, sI a, sB b]] [.bx [sBy all, sI (rdE all a b).at_, sB (rdE all a b).bad]] (.ag [sI (rdE all a b).a, sI (rdE all a b).c, .own 5 .u8 false (rdE all a b).p]) := by
  refine FnC_of (fn := Try.f52) Try.func52 rfl rfl rfl ?_
  repeat' (first
    | exact trivial
    | (refine inWO ?_; first
      | refine WO_runE (nw := true) rfl rfl ?_ ?_
      | refine WO_runG (nw := true) rfl rfl rfl rfl rfl ?_ ?_
      | refine WO_run1 (nw := true) rfl rfl ?_ ?_
      | refine WO_cons rfl ?_
      | refine WO_gT rfl rfl rfl rfl rfl ?_
      | (refine WO_split rfl rfl rfl rfl ?_ ?_ <;> intro hq <;> try (exfalso; (simp_all) <;> omega))
      | refine WO_nil ?_)
    | (refine inRW ?_; first
      | refine RW_runE (nw := true) rfl rfl (fun _ _ => rfl) rfl ?_ ?_
      | refine RW_runG (nw := true) rfl rfl rfl rfl rfl (fun _ _ => rfl) rfl ?_ ?_
      | refine RW_op (us := ?_) (ub := ?_) (fp := ?_) rfl (fun s0 b0 => ?_) ?_ ?_
      | refine RW_opT (us := ?_) (ub := ?_) (fp := ?_) rfl rfl rfl rfl (fun s0 b0 => ?_) ?_ ?_
      | (refine RW_split rfl rfl rfl ?_ ?_ <;> intro hq <;> try (exfalso; (simp_all) <;> omega))
      | refine RW_nil ?_ (by decide +kernel))
    | (refine gate 1 rfl ?_; first
      | refine callB (two_ok _ _ _ ?_) rfl rfl rfl rfl rfl rfl rfl rfl rfl (by exact trivial) (by exact (And.intro rfl (And.intro rfl (And.intro rfl trivial)))) rfl rfl rfl rfl rfl rfl rfl rfl ?_
      | refine callB (take_ok _ _ _ (wd (tkR all (tkA all (tkA all a b 2) (tkB all a b 2) 2) (tkB all (tkA all a b 2) (tkB all a b 2) 2) 2) 0) ?_ ?_) rfl rfl rfl rfl rfl rfl rfl rfl rfl (by exact (And.intro rfl trivial)) (by exact (And.intro rfl (And.intro rfl (And.intro rfl trivial)))) rfl rfl rfl rfl rfl rfl rfl rfl ?_
      | refine callD true (small_ok _ _ _) rfl rfl rfl rfl (by exact And.intro (And.intro rfl (And.intro rfl (And.intro rfl trivial))) trivial) rfl rfl ?_)
    | (refine gate 5 rfl ?_; first
      | refine litR (len := 0) rfl rfl rfl rfl rfl rfl rfl rfl ?_
      | refine litW rfl rfl rfl rfl rfl rfl ?_)
    | (refine gate 2 rfl ?_; first
      | refine apOS rfl rfl rfl rfl rfl rfl rfl rfl rfl rfl rfl ?_ ?_ ?_
      | refine apOL rfl rfl rfl rfl rfl rfl rfl rfl rfl rfl rfl rfl ?_ ?_ ?_
      | refine apNS rfl rfl rfl rfl rfl rfl rfl rfl rfl rfl rfl ?_ ?_ ?_
      | refine apNL rfl rfl rfl rfl rfl rfl rfl rfl rfl rfl rfl rfl ?_ ?_ ?_)
    | (refine gate 6 rfl ?_; refine mkS rfl rfl rfl rfl rfl rfl rfl rfl rfl rfl rfl rfl rfl ?_ ?_ ?_ ?_)
    | (refine gate 7 rfl ?_; refine op_nil rfl rfl rfl rfl rfl rfl (fun b hb => ?_))
    | (refine inW ?_; first
      | refine W_seq ?_
      | refine W_region ?_
      | refine W_drawN (by decide +kernel) ?_
      | refine W_block ?_
      | refine W_skip ?_
      | refine W_exit ?_
      | refine W_ret ?_
      | refine W_condT rfl rfl ?_
      | refine W_condF rfl rfl ?_
      | (refine W_condB rfl ?_ ?_ <;> intro hq <;> try (exfalso; (simp_all) <;> omega)))
    | (refine inE ?_; first
      | refine end_d rfl rfl rfl rfl ?_ ?_
      | refine end_o rfl rfl rfl rfl ?_ ?_
      | refine end_of rfl rfl rfl ?_ ?_)
    | refine And.intro ?_ ?_
    | (show List.length _ ≠ 1; simp)
    | (show (_ : Int) ≤ _; first | omega | (simp [IntKind.bits, dflt]; omega) | (simp at *; omega))
    | (show (_ : Int) < _; first | omega | (simp [IntKind.bits, dflt]; omega) | (simp at *; omega))
    | (show (_ : Nat) ≤ _; first | omega | (simp [IntKind.bits, dflt]; omega) | (simp at *; omega))
    | rfl)
  · have := wd_lt (tkR all (tkA all (tkA all a b 2) (tkB all a b 2) 2) (tkB all (tkA all a b 2) (tkB all a b 2) 2) 2) 0
    omega
  · show (some _ : Option Bool) = some _
    simp [rdE, hq]
  · show (some _ : Option Bool) = some _
    simp [rdE, hq]
end Go.LX
