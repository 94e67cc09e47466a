/- A part of the proof of the statement in the row text. -/
import Derived.Test.YtkpohcfohnmejaaGreatDoorLzH1
import Derived.Test.YtkpohcfohnmejaaGreatDoorLzF1
import Derived.Test.YtkpohcfohnmejaaGreatDoorLxStpL
set_option linter.unusedVariables false
set_option linter.unusedSimpArgs false
namespace Go.LX
open Go.Proofs
attribute [local irreducible] W WO OpW RW EndQ
/-- A text after an edit. -/
def doE (t : List UInt8) (e : Ed) : List UInt8 := t.take e.1.toNat ++ e.2.2 ++ t.drop (e.1 + e.2.1).toNat
set_option maxHeartbeats 4000000 in
set_option maxRecDepth 20000 in
theorem sdo_yes (t : List UInt8) (e : Ed) (hl : t.length ≤ 16777216) (hp : e.2.2.length ≤ 16777216) (h : eokM t e = true) : FnC Tryz.prog 118 [aBy t, aEd e] [aX, aEd0] (.tu [(false, [oBy (doE t e)]), (false, [sB true])]) := by
  obtain ⟨k1, k2, k3, k4, k5⟩ := eokM_ok hl h
  refine FnC_of (fn := Tryz.f118) Tryz.func118 rfl rfl rfl ?_
  have zD1 := fun (zh : True) => editok_ok t e hl hp
  refine stp ?_ ?_ ?_ ?_ ?_ ?_ ?_ ?_ ?_ ?_ ?_ ?_ ?_ ?_ ?_ ?_ <;> (first | exact Mk.mk | exact trivial | (repeat intro hq))
  all_goals (simp only [cut, List.length_append, List.length_take, List.length_drop, List.length_nil, maxLen]; omega)
set_option maxHeartbeats 4000000 in
set_option maxRecDepth 20000 in
theorem sdo_no (t : List UInt8) (e : Ed) (hl : t.length ≤ 16777216) (hp : e.2.2.length ≤ 16777216) (h : eokM t e = false) : FnC Tryz.prog 118 [aBy t, aEd e] [aX, aEd0] (.tu [(false, [oBy []]), (false, [sB false])]) := by
  refine FnC_of (fn := Tryz.f118) Tryz.func118 rfl rfl rfl ?_
  have zD1 := fun (zh : True) => editok_ok t e hl hp
  refine stp ?_ ?_ ?_ ?_ ?_ ?_ ?_ ?_ ?_ ?_ ?_ ?_ ?_ ?_ ?_ ?_ <;> (first | exact Mk.mk | exact trivial | (repeat intro hq))
noncomputable def doR (t : List UInt8) (e : Ed) : List UInt8 := if eokM t e = true then doE t e else []
theorem sdo_ok (t : List UInt8) (e : Ed) (hl : t.length ≤ 16777216) (hp : e.2.2.length ≤ 16777216) : FnC Tryz.prog 118 [aBy t, aEd e] [aX, aEd0] (.tu [(false, [oBy (doR t e)]), (false, [sB (eokM t e)])]) := by
  cases h : eokM t e with
  | true => rw [doR, if_pos h]; exact sdo_yes t e hl hp h
  | false => rw [doR, if_neg (by rw [h]; simp)]; exact sdo_no t e hl hp h
/-- Two edits, one behind the other, in either order. -/
theorem two_edits {α : Type} (t p q : List α) (a c b d : Nat) (h1 : a + c ≤ b) (h2 : b + d ≤ t.length) :
    (t.take a ++ p ++ t.drop (a + c)).take (b - c + p.length) ++ q ++ (t.take a ++ p ++ t.drop (a + c)).drop (b - c + p.length + d) = (t.take b ++ q ++ t.drop (b + d)).take a ++ p ++ (t.take b ++ q ++ t.drop (b + d)).drop (a + c) := by
  have la : (t.take a ++ p).length = a + p.length := by rw [List.length_append, List.length_take]; omega
  have lb : (t.take b).length = b := by rw [List.length_take]; omega
  have e1 : (t.take a ++ p ++ t.drop (a + c)).take (b - c + p.length) = t.take a ++ p ++ (t.drop (a + c)).take (b - (a + c)) := by
    rw [show b - c + p.length = (t.take a ++ p).length + (b - (a + c)) by rw [la]; omega, List.take_length_add_append]
  have e2 : (t.take a ++ p ++ t.drop (a + c)).drop (b - c + p.length + d) = t.drop (b + d) := by
    rw [show b - c + p.length + d = (t.take a ++ p).length + (b - (a + c) + d) by rw [la]; omega, List.drop_length_add_append, List.drop_drop]
    congr 1; omega
  have e3 : (t.take b ++ q ++ t.drop (b + d)).take a = t.take a := by
    rw [List.append_assoc, List.take_append_of_le_length (by omega), List.take_take, Nat.min_eq_left (by omega)]
  have e4 : (t.take b ++ q ++ t.drop (b + d)).drop (a + c) = (t.drop (a + c)).take (b - (a + c)) ++ q ++ t.drop (b + d) := by
    rw [List.append_assoc, List.drop_append_of_le_length (by omega), List.drop_take, List.append_assoc]
  rw [e1, e2, e3, e4]
  simp only [List.append_assoc]
theorem mv_front {e b : Ed} (hc : 0 ≤ e.2.1) (h : e.1 + e.2.1 < b.1) : mvE e b = e := by
  have h1 : posM b e.1 true = e.1 := by unfold posM; rw [if_pos (by omega)]
  have h2 : posM b (e.1 + e.2.1) false = e.1 + e.2.1 := by unfold posM; rw [if_pos h]
  unfold mvE spI
  rw [h1, h2]
  split
  · have : e.2.1 = 0 := by omega
    simp only [Int.sub_self, ← this]
  · simp only [show e.1 + e.2.1 - e.1 = e.2.1 by omega]
theorem mv_back {e b : Ed} (hc : 0 ≤ e.2.1) (hd : 0 ≤ b.2.1) (h : e.1 + e.2.1 < b.1) : mvE b e = (b.1 - e.2.1 + e.2.2.length, b.2.1, b.2.2) := by
  have h1 : posM e b.1 true = b.1 - e.2.1 + e.2.2.length := by unfold posM; rw [if_neg (by omega), if_neg (by omega)]
  have h2 : posM e (b.1 + b.2.1) false = b.1 + b.2.1 - e.2.1 + e.2.2.length := by unfold posM; rw [if_neg (by omega), if_neg (by omega)]
  unfold mvE spI
  rw [h1, h2]
  split
  · have : b.2.1 = 0 := by omega
    simp only [Int.sub_self, ← this]
  · simp only [show b.1 + b.2.1 - e.2.1 + (e.2.2.length : Int) - (b.1 - e.2.1 + e.2.2.length) = b.2.1 by omega]
theorem apart0 {t : List UInt8} {e b : Ed} (he : 0 ≤ e.1 ∧ 0 ≤ e.2.1) (hb : 0 ≤ b.2.1 ∧ b.1 + b.2.1 ≤ t.length) (h : e.1 + e.2.1 < b.1) : doE (doE t e) (mvE b e) = doE (doE t b) (mvE e b) := by
  rw [mv_front he.2 h, mv_back he.2 hb.1 h]
  have k := two_edits t e.2.2 b.2.2 e.1.toNat e.2.1.toNat b.1.toNat b.2.1.toNat (by omega) (by omega)
  unfold doE
  simp only
  rw [show (e.1 + e.2.1).toNat = e.1.toNat + e.2.1.toNat by omega, show (b.1 + b.2.1).toNat = b.1.toNat + b.2.1.toNat by omega, show (b.1 - e.2.1 + (e.2.2.length : Int)).toNat = b.1.toNat - e.2.1.toNat + e.2.2.length by omega, show (b.1 - e.2.1 + (e.2.2.length : Int) + b.2.1).toNat = b.1.toNat - e.2.1.toNat + e.2.2.length + b.2.1.toNat by omega]
  exact k
theorem apart_same {t : List UInt8} {e b : Ed} (hl : t.length ≤ 16777216) (he : eokM t e = true) (hb : eokM t b = true) (h : apE e b = true) : doE (doE t e) (mvE b e) = doE (doE t b) (mvE e b) := by
  obtain ⟨k1, k2, k3, k4, k5⟩ := eokM_ok hl he
  obtain ⟨j1, j2, j3, j4, j5⟩ := eokM_ok hl hb
  simp only [apE, Bool.and_eq_true, Bool.or_eq_true, decide_eq_true_eq] at h
  rcases h.2 with h | h
  · exact apart0 ⟨k2.1, k3⟩ ⟨j3, j4⟩ h
  · exact (apart0 ⟨j2.1, j3⟩ ⟨k3, k4⟩ h).symm
theorem doE_len {t : List UInt8} {e : Ed} : (doE t e).length ≤ 2 * t.length + e.2.2.length := by
  unfold doE
  simp only [List.length_append, List.length_take, List.length_drop]
  omega
end Go.LX
