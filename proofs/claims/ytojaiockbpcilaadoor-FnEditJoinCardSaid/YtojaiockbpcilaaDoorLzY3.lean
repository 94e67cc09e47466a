/- A part of the proof of the statement in the row text. -/
import Derived.Test.YtojaiockbpcilaaDoorLzY2
import Derived.Test.YtojaiockbpcilaaDoorLzW2
set_option linter.unusedVariables false
set_option linter.unusedSimpArgs false
namespace Go.LX
open Go.Proofs
attribute [local irreducible] W WO OpW RW EndQ
theorem cutB_or2 {p : List UInt8} {a : Int} (hc : cutB p a = true) : a = p.length ∨ contB p a = false := by
  simp only [cutB, Bool.or_eq_true, Bool.and_eq_true, decide_eq_true_eq, Bool.not_eq_true'] at hc
  rcases hc with hc | hc
  · exact .inl hc
  · exact .inr hc.2
theorem jn_do {t : List UInt8} {a b : Ed} (hl : t.length ≤ 16777216) (hj : jnB a b = true) (h1 : eokM t a = true) (h2 : eokM (doE t a) b = true) : eokM t (jnE a b) = true ∧ doE t (jnE a b) = doE (doE t a) b := by
  have hj2 := hj
  rw [jnB, Bool.and_eq_true, decide_eq_true_eq] at hj2
  obtain ⟨hc, hlen⟩ := hj2
  obtain ⟨_, _, c3, c4⟩ := jnC_ok hc
  rw [jnE, if_pos hj]
  obtain ⟨p1, p2, p3, p4, p5, p6⟩ := eok_parts h1
  obtain ⟨q1, q2, q3, q4, q5, q6⟩ := eok_parts h2
  obtain ⟨k1, k2, k3, k4, k5⟩ := eokM_ok hl h1
  obtain ⟨v1, v2, v3, v4⟩ := doE_vld h1
  obtain ⟨A, hA⟩ : ∃ A : Nat, a.1 = A := ⟨a.1.toNat, by omega⟩
  obtain ⟨C, hC⟩ : ∃ C : Nat, a.2.1 = C := ⟨a.2.1.toNat, by omega⟩
  obtain ⟨i, hi⟩ : ∃ i : Nat, b.1 - a.1 = i := ⟨(b.1 - a.1).toNat, by omega⟩
  obtain ⟨d, hd⟩ : ∃ d : Nat, b.2.1 = d := ⟨b.2.1.toNat, by omega⟩
  have la : (t.take A).length = A := by rw [List.length_take]; omega
  have hu : doE t a = t.take A ++ (a.2.2 ++ t.drop (A + C)) := by
    rw [doE, show a.1.toNat = A by omega, show (a.1 + a.2.1).toNat = A + C by omega, List.append_assoc]
  have hp : jnP a b = a.2.2.take i ++ b.2.2 ++ a.2.2.drop (i + d) := by
    simp only [jnP, doE]
    rw [show (b.1 - a.1).toNat = i by omega, show (b.1 - a.1 + b.2.1).toNat = i + d by omega]
  have tk : (doE t a).take (A + i) = t.take A ++ a.2.2.take i := by
    have := List.take_length_add_append (l₁ := t.take A) (l₂ := a.2.2 ++ t.drop (A + C)) i
    rw [la] at this
    rw [hu, this, List.take_append_of_le_length (by omega)]
  have dk : (doE t a).drop (A + (i + d)) = a.2.2.drop (i + d) ++ t.drop (A + C) := by
    have := List.drop_length_add_append (l₁ := t.take A) (l₂ := a.2.2 ++ t.drop (A + C)) (i := i + d)
    rw [la] at this
    rw [hu, this, List.drop_append_of_le_length (by omega)]
  have hdo : doE t (a.1, a.2.1, jnP a b) = doE (doE t a) b := by
    have e2 : doE (doE t a) b = (doE t a).take (A + i) ++ b.2.2 ++ (doE t a).drop (A + (i + d)) := by
      rw [doE, show b.1.toNat = A + i by omega, show (b.1 + b.2.1).toNat = A + (i + d) by omega]
    rw [e2, tk, dk, doE]
    show t.take a.1.toNat ++ jnP a b ++ t.drop (a.1 + a.2.1).toNat = _
    rw [hp, show a.1.toNat = A by omega, show (a.1 + a.2.1).toNat = A + C by omega]
    simp only [List.append_assoc]
  refine ⟨?_, hdo⟩
  have vu := tok_vld q1
  have w1 : vld (a.2.2.take i) = true := by
    have := (cut_vld vu q2).2.1
    rw [show b.1.toNat = A + i by omega, tk, vld_app _ _ (Nat.le_refl _) (by rw [show A = a.1.toNat by omega]; exact v1)] at this
    exact this
  have w2 : vld (a.2.2.drop (i + d)) = true := by
    refine (vld_cut a.2.2.length a.2.2 (i + d) (Nat.le_refl _) v2 (by omega) ?_).2
    by_cases he : i + d = a.2.2.length
    · exact .inl he
    · refine .inr ?_
      have lu : (doE t a).length = A + (a.2.2.length + (t.length - (A + C))) := by
        rw [hu, List.length_append, List.length_append, la, List.length_drop]
      rcases cutB_or2 q4 with hh | hh
      · omega
      · have e3 : b.1 + b.2.1 = ((A + (i + d) : Nat) : Int) := by omega
        rw [e3, ← contB_drop, contB_nat] at hh
        rw [contB_nat]
        have e4 : (doE t a).drop A = a.2.2 ++ t.drop (A + C) := by rw [hu, List.drop_left' la]
        rw [e4, List.getD_eq_getElem?_getD, List.getElem?_append_left (by omega), ← List.getD_eq_getElem?_getD] at hh
        exact hh
  have wp : vld (jnP a b) = true := by
    rw [hp, List.append_assoc, vld_app _ _ (Nat.le_refl _) w1, vld_app _ _ (Nat.le_refl _) (tok_vld q5)]; exact w2
  have lj : (jnP a b).length = i + b.2.2.length + (a.2.2.length - (i + d)) := by
    rw [hp, List.length_append, List.length_append, List.length_take, List.length_drop]; omega
  have lu : (doE t a).length = A + (a.2.2.length + (t.length - (A + C))) := by
    rw [hu, List.length_append, List.length_append, la, List.length_drop]
  rw [eokI_eq]
  simp only [eokI, Bool.and_eq_true, decide_eq_true_eq]
  refine ⟨p1, p2, ⟨by omega, by omega⟩, p4, ?_, by omega⟩
  rw [tokM_eq, wp, Bool.and_true]
  exact decide_eq_true hlen
end Go.LX
