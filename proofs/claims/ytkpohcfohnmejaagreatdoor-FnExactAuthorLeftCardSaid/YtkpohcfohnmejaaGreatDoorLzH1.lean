/- A part of the proof of the statement in the row text. -/
import Derived.Test.YtkpohcfohnmejaaGreatDoorLzG5
set_option linter.unusedVariables false
set_option linter.unusedSimpArgs false
namespace Go.LX
open Go.Proofs
attribute [local irreducible] W WO OpW RW EndQ
/-- A span after an edit. -/
def spI (e : Ed) (i j : Int) : Int × Int := if posM e j false < posM e i true ∨ i = j then (posM e i true, posM e i true) else (posM e i true, posM e j false)
theorem posM_in {e : Ed} {p : Int} (h : smE e = true) (hp : 0 ≤ p ∧ p ≤ 800) (r : Bool) : 0 ≤ posM e p r ∧ posM e p r ≤ 1200 := by
  simp only [smE, Bool.and_eq_true, decide_eq_true_eq] at h
  unfold posM
  repeat' split
  all_goals omega
theorem spI_in {e : Ed} {i j : Int} (h : smE e = true) (hi : 0 ≤ i ∧ i ≤ 800) (hj : 0 ≤ j ∧ j ≤ 800) : 0 ≤ (spI e i j).1 ∧ (spI e i j).1 ≤ (spI e i j).2 ∧ (spI e i j).2 ≤ 1200 := by
  have h1 := posM_in h hi true
  have h2 := posM_in h hj false
  unfold spI
  split
  · exact ⟨h1.1, Int.le_refl _, h1.2⟩
  · simp only; omega
/-- An edit after another one. -/
def mvE (e b : Ed) : Ed := ((spI b e.1 (e.1 + e.2.1)).1, (spI b e.1 (e.1 + e.2.1)).2 - (spI b e.1 (e.1 + e.2.1)).1, e.2.2)
theorem smE_ok {e : Ed} (h : smE e = true) : (0 ≤ e.1 ∧ e.1 ≤ 400) ∧ (0 ≤ e.2.1 ∧ e.2.1 ≤ 400) ∧ e.2.2.length ≤ 400 := by
  simp only [smE, Bool.and_eq_true, decide_eq_true_eq] at h; omega
def mvs : Ed → List Ed → Option Ed
  | e, [] => some e
  | e, b :: bs => if (smE e && smE b) = true then mvs (mvE e b) bs else none
def mvR (e : Ed) (xs : List Ed) : Option Ed := if xs.length = 0 ∧ smE e = false then none else mvs e xs
theorem mvs_drop {e : Ed} {xs : List Ed} {i : Nat} (h : i < xs.length) : mvs e (xs.drop i) = if (smE e && smE (xs.getD i (dflt TEd))) = true then mvs (mvE e (xs.getD i (dflt TEd))) (xs.drop (i + 1)) else none := by
  have e1 : xs.drop i = xs.getD i (dflt TEd) :: xs.drop (i + 1) := by
    rw [List.drop_eq_getElem_cons h, List.getD_eq_getElem?_getD, List.getElem?_eq_getElem h]; rfl
  rw [e1, mvs]
end Go.LX

set_option linter.unusedVariables false
set_option linter.unusedSimpArgs false
namespace Go.LX
open Go.Proofs
attribute [local irreducible] W WO OpW RW EndQ
theorem mvR_one {e b : Ed} : mvR e [b] = if (smE e && smE b) = true then some (mvE e b) else none := by
  unfold mvR
  rw [if_neg (by simp)]
  rfl
/-- One ends before the other begins. -/
def apE (a b : Ed) : Bool := (smE a && smE b) && (decide (a.1 + a.2.1 < b.1) || decide (b.1 + b.2.1 < a.1))
end Go.LX

