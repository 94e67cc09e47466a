/- A part of the proof of the statement in the row text. -/
import Derived.Test.YtkpohcfohnmejaaGreatDoorLzD4
import Derived.Test.YtkpohcfohnmejaaGreatDoorLxStpL
import Derived.Test.YtkpohcfohnmejaaGreatDoorLxCv
set_option linter.unusedVariables false
set_option linter.unusedSimpArgs false
namespace Go.LX
open Go.Proofs
attribute [local irreducible] W WO OpW RW EndQ
def byF (xs : List UInt8) (i : Int) : Int := (xs.getD i.toNat 0).toNat
theorem byF_lt {xs : List UInt8} {i : Int} : 0 ≤ byF xs i ∧ byF xs i ≤ 255 := by
  have := (xs.getD i.toNat 0).toNat_lt
  unfold byF; omega
theorem take1 {α : Type} {xs : List α} {i : Nat} (h : i < xs.length) (d : α) : xs.take (i + 1) = xs.take i ++ [xs.getD i d] := by
  rw [List.take_add_one, List.getD_eq_getElem?_getD, List.getElem?_eq_getElem h]; rfl
theorem open_b {n : Nat} : CuB 0 (97 + (n : Int) % 1000) := ⟨Int.le_refl _, by decide, by omega, by omega⟩
abbrev aEd (e : Ed) : SA := .ag [sI e.1, sI e.2.1, sBy e.2.2]
abbrev aEd0 : SA := .ag [.any, .any, .any]
set_option maxHeartbeats 4000000 in
set_option maxRecDepth 20000 in
theorem in_ok (a lo hi : Int) : FnC Tryz.prog 114 [aI a, aI lo, aI hi] [aX, aX, aX] (.one (sB (decide (lo ≤ a) && decide (a ≤ hi)))) := by
  refine FnC_of (fn := Tryz.f114) Tryz.func114 rfl rfl rfl ?_
  refine stp ?_ ?_ ?_ ?_ ?_ ?_ ?_ ?_ ?_ ?_ ?_ ?_ ?_ ?_ ?_ ?_ <;> (first | exact Mk.mk | exact trivial | (repeat intro hq))
  all_goals (simp_all <;> (intros; omega))
/-- Is an edit small? -/
def smE (e : Ed) : Bool := (decide (0 ≤ e.1) && decide (e.1 ≤ 400)) && (decide (0 ≤ e.2.1) && decide (e.2.1 ≤ 400)) && decide ((e.2.2.length : Int) ≤ 400)
set_option maxHeartbeats 4000000 in
set_option maxRecDepth 20000 in
theorem issmall_ok (e : Ed) : FnC Tryz.prog 120 [aEd e] [aEd0] (.one (sB (smE e))) := by
  refine FnC_of (fn := Tryz.f120) Tryz.func120 rfl rfl rfl ?_
  have zD1 := fun {z0} {z1} {z2} (zh : True) => in_ok z0 z1 z2
  refine stp ?_ ?_ ?_ ?_ ?_ ?_ ?_ ?_ ?_ ?_ ?_ ?_ ?_ ?_ ?_ ?_ <;> (first | exact Mk.mk | exact trivial | (repeat intro hq))
  all_goals (simp_all [smE] <;> (intros; omega))
/-- A place after an edit. -/
def posM (e : Ed) (p : Int) (r : Bool) : Int := if p < e.1 then p else if p = e.1 ∨ p < e.1 + e.2.1 then (if r = true then e.1 + e.2.2.length else e.1) else p - e.2.1 + e.2.2.length
def lpM (code : List UInt8) (a : Int) : Nat → Int
  | 0 => 0
  | k + 1 => 31 * lpM code a k + byF code ((a + (k : Int)) % code.length)
theorem lpM_b {code : List UInt8} {a : Int} : ∀ {k : Nat}, k ≤ 3 → 0 ≤ lpM code a k ∧ lpM code a k ≤ 1000000
  | 0, _ => by simp only [lpM]; omega
  | 1, _ => by have := @byF_lt code ((a + ((0 : Nat) : Int)) % code.length); simp only [lpM]; omega
  | 2, _ => by have := @byF_lt code ((a + ((0 : Nat) : Int)) % code.length); have := @byF_lt code ((a + ((1 : Nat) : Int)) % code.length); simp only [lpM]; omega
  | 3, _ => by have := @byF_lt code ((a + ((0 : Nat) : Int)) % code.length); have := @byF_lt code ((a + ((1 : Nat) : Int)) % code.length); have := @byF_lt code ((a + ((2 : Nat) : Int)) % code.length); simp only [lpM]; omega
  | n + 4, h => absurd h (by omega)
end Go.LX

set_option linter.unusedVariables false
set_option linter.unusedSimpArgs false
namespace Go.LX
open Go.Proofs
attribute [local irreducible] W WO OpW RW EndQ
abbrev aEs (xs : List Ed) : SA := .c (.d (.sl TEd) xs)
abbrev sEs (xs : List Ed) : S0 := .d (.sl TEd) xs
abbrev oEs (xs : List Ed) : S0 := .own 40 TEd true xs
abbrev aSt (xs ys : List Ed) : SA := .ag [sEs xs, sEs ys]
abbrev aSt0 : SA := .ag [.any, .any]
def allS (xs : List Ed) : Bool := decide (xs.length ≤ 6) && xs.all smE
theorem allS_len {xs : List Ed} (h : allS xs = true) : xs.length ≤ 6 := by
  simp only [allS, Bool.and_eq_true, decide_eq_true_eq] at h; omega
set_option maxHeartbeats 4000000 in
set_option maxRecDepth 20000 in
theorem l02small_ok (n : Int) : FnC Tryz.prog 153 [aI n] [aX] (.one (sB (decide (0 ≤ n) && decide (n ≤ 400)))) := by
  refine FnC_of (fn := Tryz.f153) Tryz.func153 rfl rfl rfl ?_
  refine stp ?_ ?_ ?_ ?_ ?_ ?_ ?_ ?_ ?_ ?_ ?_ ?_ ?_ ?_ ?_ ?_ <;> (first | exact Mk.mk | exact trivial | (repeat intro hq))
  all_goals (rw [hq]; rfl)
set_option maxHeartbeats 4000000 in
set_option maxRecDepth 20000 in
theorem l05small_ok (e : Ed) : FnC Tryz.prog 112 [aEd e] [aEd0] (.one (sB (smE e))) := by
  refine FnC_of (fn := Tryz.f112) Tryz.func112 rfl rfl rfl ?_
  have zD1 := fun {z0} (zh : True) => l02small_ok z0
  refine stp ?_ ?_ ?_ ?_ ?_ ?_ ?_ ?_ ?_ ?_ ?_ ?_ ?_ ?_ ?_ ?_ <;> (first | exact Mk.mk | exact trivial | (repeat intro hq))
  all_goals (simp_all [smE] <;> (intros; omega))
theorem getEd {xs : List Ed} {n : Nat} (hw : ∀ e ∈ xs, e.2.2.length ≤ n) (i : Nat) : (xs.getD i (dflt TEd)).2.2.length ≤ n := by
  rw [List.getD_eq_getElem?_getD]
  cases h : xs[i]? with
  | none => exact Nat.zero_le _
  | some e => exact hw e (List.mem_of_getElem? h)
/-- With one more at the end, at most six. -/
def topL (xs : List Ed) (e : Ed) : List Ed := (xs ++ [e]).drop (xs.length + 1 - 6)
theorem topL_len {xs : List Ed} {e : Ed} : (topL xs e).length ≤ 6 := by
  unfold topL; simp; omega
theorem topL_mem {xs : List Ed} {e z : Ed} (h : z ∈ topL xs e) : z ∈ xs ∨ z = e := by
  have := List.mem_of_mem_drop h
  simpa using this
end Go.LX

set_option linter.unusedVariables false
set_option linter.unusedSimpArgs false
namespace Go.LX
open Go.Proofs
attribute [local irreducible] W WO OpW RW EndQ
/-- The first place where p holds. -/
def idxP {α : Type} (p : α → Bool) (xs : List α) : Int := match xs.findIdx? p with
  | some i => (i : Int)
  | none => -1
theorem idxP_hit {α : Type} {p : α → Bool} {xs : List α} {i : Nat} {d : α} (hi : i < xs.length) (ha : (xs.take i).any p = false) (h : p (xs.getD i d) = true) : idxP p xs = i := by
  have : xs.findIdx? p = some i := by
    rw [List.findIdx?_eq_some_iff_getElem]
    refine ⟨hi, by simpa [List.getD_eq_getElem?_getD, hi] using h, fun j hj => ?_⟩
    rw [List.any_eq_false] at ha
    have := ha xs[j] (List.mem_take_iff_getElem.2 ⟨j, by omega, rfl⟩)
    simpa using this
  simp [idxP, this]
theorem idxP_none {α : Type} {p : α → Bool} {xs : List α} (ha : xs.any p = false) : idxP p xs = -1 := by
  have : xs.findIdx? p = none := by
    rw [List.findIdx?_eq_none_iff]
    intro x hx
    rw [List.any_eq_false] at ha
    simpa using ha x hx
  simp [idxP, this]
theorem idxP_any {α : Type} {p : α → Bool} {xs : List α} : decide (0 ≤ idxP p xs) = xs.any p := by
  cases h : xs.any p with
  | false => rw [idxP_none h]; rfl
  | true =>
    unfold idxP
    cases hf : xs.findIdx? p with
    | some i => simp
    | none =>
      rw [List.findIdx?_eq_none_iff] at hf
      obtain ⟨x, hx, hp⟩ := List.any_eq_true.1 h
      rw [hf x hx] at hp; cases hp
theorem any_not {α : Type} {p : α → Bool} {xs : List α} : (!xs.any fun e => !p e) = xs.all p := by
  induction xs with
  | nil => rfl
  | cons x xs ih => simp only [List.any_cons, List.all_cons, ← ih, Bool.not_or, Bool.not_not]
set_option maxHeartbeats 4000000 in
set_option maxRecDepth 20000 in
theorem clone_ok (xs : List UInt8) (hl : xs.length ≤ 16777216) : FnC Tryz.prog 110 [aBy xs] [aX] (.one (oBy xs)) := by
  refine FnC_of (fn := Tryz.f110) Tryz.func110 rfl rfl rfl ?_
  refine stp ?_ ?_ ?_ ?_ ?_ ?_ ?_ ?_ ?_ ?_ ?_ ?_ ?_ ?_ ?_ ?_ <;> (first | exact Mk.mk | exact trivial | (repeat intro hq))
  · rename_i b hb
    exact hb hq
  · show 0 + xs.length ≤ maxLen
    unfold maxLen; omega
set_option maxHeartbeats 4000000 in
set_option maxRecDepth 20000 in
theorem ecopied_ok (e : Ed) (hl : e.2.2.length ≤ 16777216) : FnC Tryz.prog 124 [aEd e] [aEd0] (.ag [sI e.1, sI e.2.1, oBy e.2.2]) := by
  refine FnC_of (fn := Tryz.f124) Tryz.func124 rfl rfl rfl ?_
  have zD1 := fun {z0} zh => clone_ok z0 zh
  refine stp ?_ ?_ ?_ ?_ ?_ ?_ ?_ ?_ ?_ ?_ ?_ ?_ ?_ ?_ ?_ ?_ <;> (first | exact Mk.mk | exact trivial | (intros; exact hl; done) | (repeat intro hq))
end Go.LX

