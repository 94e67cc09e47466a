/- A part of the proof of the statement in the row text. -/
import Derived.Test.YtojaiockbpcilaaDoorLzE8
import Derived.Test.YtojaiockbpcilaaDoorLzG5
import Derived.Test.YtojaiockbpcilaaDoorLxDat
set_option linter.unusedVariables false
set_option linter.unusedSimpArgs false
namespace Go.LX
open Go.Proofs
attribute [local irreducible] W WO OpW RW EndQ
set_option maxHeartbeats 4000000 in
set_option maxRecDepth 20000 in
theorem draweb_ex (code : List UInt8) (hl : code.length ≤ 16777216) : ∃ r : List UInt8 × Ed, r.1.length ≤ 40 ∧ r.2.2.2.length ≤ 1001 ∧ FnC Tryd.prog 18 [aBy code] [aX] (.tu [(false, [sBy r.1]), (true, [sI r.2.1, sI r.2.2.1, oBy r.2.2.2])]) := by
  have ho := open_ok code hl
  obtain ⟨p1, b1, n1, h1⟩ := text_ex code 0 _ 40 hl (open_b (n := code.length)) (by decide) (by decide)
  have c1 := n1.next (Int.le_refl _) (by decide)
  have e1 := n1.a1
  obtain ⟨p2, b2, n2, h2⟩ := badedit_ex code p1.2.1 p1.2.2 p1.1 hl c1 (by omega) (by omega)
  refine ⟨(p1.1, p2.1), by simp only; omega, b2, ?_⟩
  refine FnC_of (fn := Tryd.f18) Tryd.func18 rfl rfl rfl ?_
  have zX1 := fun (zh : True) => ho
  have zB1 := fun (zh : True) => h1
  refine stp ?_ ?_ ?_ ?_ ?_ ?_ ?_ ?_ ?_ ?_ <;> (first | exact Mk.mk | exact trivial | (repeat intro hq))
  refine OpW_weak (Wk_freeze (o := 10000) rfl) ?_
  have zB1 := fun (zh : True) => h2
  refine stp ?_ ?_ ?_ ?_ ?_ ?_ ?_ ?_ ?_ ?_ <;> (first | exact Mk.mk | exact trivial | (repeat intro hq))
set_option maxHeartbeats 4000000 in
set_option maxRecDepth 20000 in
theorem drawed_ex (code : List UInt8) (hl : code.length ≤ 16777216) : ∃ r : List UInt8 × Ed, r.1.length ≤ 1001 ∧ r.2.2.2.length ≤ 1001 ∧ FnC Tryd.prog 24 [aBy code] [aX] (.tu [(false, [sBy r.1]), (true, [sI r.2.1, sI r.2.2.1, oBy r.2.2.2])]) := by
  have ho := open_ok code hl
  obtain ⟨p1, b1, n1, h1⟩ := text_ex code 0 _ 40 hl (open_b (n := code.length)) (by decide) (by decide)
  have c1 := n1.next (Int.le_refl _) (by decide)
  have e1 := n1.a1
  obtain ⟨p2, n2, h2⟩ := once_ex code p1.2.1 p1.2.2 12 hl c1 (by decide)
  have n12 := n1.trans n2
  have c2 := n12.next (Int.le_refl _) (by decide)
  have e2 := n12.a1
  cases hb : p2.1 with
  | true =>
    rw [hb] at h2
    obtain ⟨p3, b3, n3, h3⟩ := badtext_ex code p2.2.1 p2.2.2 40 hl c2 (by omega) (by decide)
    have n13 := n12.trans n3
    have c3 := n13.next (Int.le_refl _) (by decide)
    have e3 := n13.a1
    obtain ⟨p4, b4, n4, h4⟩ := edit_ex code p3.2.1 p3.2.2 p1.1 hl c3 (by omega) (by omega)
    refine ⟨(p3.1, p4.1), b3, by simp only; omega, ?_⟩
    refine FnC_of (fn := Tryd.f24) Tryd.func24 rfl rfl rfl ?_
    have zX1 := fun (zh : True) => ho
    have zB1 := fun (zh : True) => h1
    have zB2 := fun (zh : True) => h2
    have zB3 := fun (zh : True) => h3
    refine stp ?_ ?_ ?_ ?_ ?_ ?_ ?_ ?_ ?_ ?_ <;> (first | exact Mk.mk | exact trivial | (repeat intro hq))
    refine OpW_weak (Wk_freeze (o := 10000) rfl) ?_
    refine OpW_weak (Wk_freeze (o := 14000) rfl) ?_
    have zB1 := fun (zh : True) => h4
    refine stp ?_ ?_ ?_ ?_ ?_ ?_ ?_ ?_ ?_ ?_ <;> (first | exact Mk.mk | exact trivial | (repeat intro hq))
  | false =>
    rw [hb] at h2
    obtain ⟨p3, b3, n3, h3⟩ := badedit_ex code p2.2.1 p2.2.2 p1.1 hl c2 (by omega) (by omega)
    refine ⟨(p1.1, p3.1), by simp only; omega, b3, ?_⟩
    refine FnC_of (fn := Tryd.f24) Tryd.func24 rfl rfl rfl ?_
    have zX1 := fun (zh : True) => ho
    have zB1 := fun (zh : True) => h1
    have zB2 := fun (zh : True) => h2
    refine stp ?_ ?_ ?_ ?_ ?_ ?_ ?_ ?_ ?_ ?_ <;> (first | exact Mk.mk | exact trivial | (repeat intro hq))
    refine OpW_weak (Wk_freeze (o := 10000) rfl) ?_
    have zB1 := fun (zh : True) => h3
    refine stp ?_ ?_ ?_ ?_ ?_ ?_ ?_ ?_ ?_ ?_ <;> (first | exact Mk.mk | exact trivial | (repeat intro hq))
end Go.LX
