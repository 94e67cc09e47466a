/- A part of the proof of the statement in the row text. -/
import Derived.Test.YtojaiockbpcilaaDoorLzH1
import Derived.Test.YtojaiockbpcilaaDoorLzG5
import Derived.Test.YtojaiockbpcilaaDoorLxDat
set_option linter.unusedVariables false
set_option linter.unusedSimpArgs false
namespace Go.LX
open Go.Proofs
attribute [local irreducible] W WO OpW RW EndQ
set_option maxHeartbeats 4000000 in
set_option maxRecDepth 20000 in
theorem splace_ok (p : Int) : FnC Tryd.prog 66 [aI p] [aX] (.one (sB (decide (0 ≤ p) && decide (p ≤ 800)))) := by
  refine FnC_of (fn := Tryd.f66) Tryd.func66 rfl rfl rfl ?_
  refine stp ?_ ?_ ?_ ?_ ?_ ?_ ?_ ?_ ?_ ?_ <;> (first | exact Mk.mk | exact trivial | (repeat intro hq))
  all_goals (rw [hq]; rfl)
set_option maxHeartbeats 4000000 in
set_option maxRecDepth 20000 in
theorem sposmove_ok (e : Ed) (p : Int) (r : Bool) (h : smE e = true) (hp : 0 ≤ p ∧ p ≤ 800) : FnC Tryd.prog 67 [aI p, aB r, aEd e] [aX, aX, aEd0] (.one (sI (posM e p r))) := by
  have h2 := smE_ok h
  have hpl := splace_ok p
  rw [decide_eq_true hp.1, decide_eq_true hp.2] at hpl
  have hsm := l05small_ok e
  rw [h] at hsm
  refine FnC_of (fn := Tryd.f67) Tryd.func67 rfl rfl rfl ?_
  have zD1 := fun (zh : True) => hpl
  have zD2 := fun (zh : True) => hsm
  refine stp ?_ ?_ ?_ ?_ ?_ ?_ ?_ ?_ ?_ ?_ <;> (first | exact Mk.mk | exact trivial | (repeat intro hq))
  all_goals clear hpl hsm
  all_goals (show (_ : Int) = posM e p r; unfold posM; (repeat' split) <;> (simp_all) <;> omega)
set_option maxHeartbeats 4000000 in
set_option maxRecDepth 20000 in
theorem sspan_ok (e : Ed) (i j : Int) (h : smE e = true) (hi : 0 ≤ i ∧ i ≤ 800) (hj : i ≤ j ∧ j ≤ 800) : FnC Tryd.prog 71 [aI i, aI j, aEd e] [aX, aX, aEd0] (.tu [(false, [sI (spI e i j).1]), (false, [sI (spI e i j).2])]) := by
  have h1 := sposmove_ok e i true h hi
  have h2 := sposmove_ok e j false h ⟨by omega, hj.2⟩
  have b1 := posM_in h hi true
  have b2 := posM_in h (p := j) ⟨by omega, hj.2⟩ false
  obtain ⟨A, hA⟩ : ∃ A, posM e i true = A := ⟨_, rfl⟩
  obtain ⟨B, hB⟩ : ∃ B, posM e j false = B := ⟨_, rfl⟩
  have hs1 : (spI e i j).1 = A := by unfold spI; split <;> exact hA
  have hs2 : (spI e i j).2 = if i = j then A else max A B := by
    unfold spI
    rw [hA, hB]
    by_cases hij : i = j
    · rw [if_pos (.inr hij), if_pos hij]
    · rw [if_neg hij]
      by_cases hlt : B < A
      · rw [if_pos (.inl hlt)]; simp only; omega
      · rw [if_neg (by omega)]; simp only; omega
  rw [hs1, hs2]
  rw [hA] at h1 b1
  rw [hB] at h2 b2
  clear hA hB hs1 hs2
  refine FnC_of (fn := Tryd.f71) Tryd.func71 rfl rfl rfl ?_
  have zD1 := fun (zh : True) => h1
  have zD2 := fun (zh : True) => h2
  refine stp ?_ ?_ ?_ ?_ ?_ ?_ ?_ ?_ ?_ ?_ <;> (first | exact Mk.mk | exact trivial | (repeat intro hq))
  all_goals clear h1 h2
  all_goals first
    | (exact (if_pos (of_decide_eq_true hq)).symm)
    | (exact (if_neg (of_decide_eq_false hq)).symm)
    | (exfalso; simp_all; omega)
set_option maxHeartbeats 4000000 in
set_option maxRecDepth 20000 in
theorem smove_ok (e b : Ed) (he : smE e = true) (hb : smE b = true) : FnC Tryd.prog 35 [aEd e, aEd b] [aEd0, aEd0] (.tu [(true, [sI (mvE e b).1, sI (mvE e b).2.1, oBy (mvE e b).2.2]), (false, [sB true])]) := by
  obtain ⟨e1, e2, e3⟩ := smE_ok he
  have h1 := sspan_ok b e.1 (e.1 + e.2.1) hb ⟨e1.1, by omega⟩ ⟨by omega, by omega⟩
  have h2 := spI_in hb (i := e.1) (j := e.1 + e.2.1) ⟨e1.1, by omega⟩ ⟨by omega, by omega⟩
  have hm : mvE e b = ((spI b e.1 (e.1 + e.2.1)).1, (spI b e.1 (e.1 + e.2.1)).2 - (spI b e.1 (e.1 + e.2.1)).1, e.2.2) := rfl
  rw [hm]
  clear hm
  generalize spI b e.1 (e.1 + e.2.1) = q at *
  have s1 := l05small_ok e
  have s2 := l05small_ok b
  rw [he] at s1
  rw [hb] at s2
  refine FnC_of (fn := Tryd.f35) Tryd.func35 rfl rfl rfl ?_
  have zD1 := fun (zh : True) => s1
  have zD2 := fun (zh : True) => s2
  have zD3 := fun (zh : True) => h1
  refine stp ?_ ?_ ?_ ?_ ?_ ?_ ?_ ?_ ?_ ?_ <;> (first | exact Mk.mk | exact trivial | (repeat intro hq))
  show 0 + e.2.2.length ≤ maxLen
  unfold maxLen; omega
end Go.LX
