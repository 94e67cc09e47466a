/- A part of the proof of the statement in the row text. -/
import Derived.Test.YtkpohcfohnmejaaDoorLzE2
import Derived.Test.YtkpohcfohnmejaaDoorLzG5
set_option linter.unusedVariables false
set_option linter.unusedSimpArgs false
namespace Go.LX
open Go.Proofs
attribute [local irreducible] W WO OpW RW EndQ
/-- Does an edit fit a text? -/
noncomputable def eokM (t : List UInt8) (e : Ed) : Bool := tokM t && (decide (0 ≤ rtM t e.1) && (!decide (e.2.1 < 0) && (!decide (t.length - e.1 < e.2.1) && (decide (0 ≤ rtM t (e.1 + e.2.1)) && (tokM e.2.2 && decide (t.length - e.2.1 + e.2.2.length ≤ 400))))))
theorem eokM_ok {t : List UInt8} {e : Ed} (hl : t.length ≤ 16777216) (h : eokM t e = true) : t.length ≤ 400 ∧ (0 ≤ e.1 ∧ e.1 ≤ t.length) ∧ 0 ≤ e.2.1 ∧ e.1 + e.2.1 ≤ t.length ∧ e.2.2.length ≤ 400 := by
  simp only [eokM, Bool.and_eq_true, Bool.not_eq_true', decide_eq_true_eq, decide_eq_false_iff_not] at h
  obtain ⟨h1, h2, h3, h4, h5, h6, h7⟩ := h
  have k1 := tokM_len h1
  have k2 := cut_in hl h2
  have k3 := tokM_len h6
  exact ⟨k1, k2, by omega, by omega, k3⟩
theorem cut_len {α : Type} {a b : Int} {xs : List α} (h : 0 ≤ a ∧ a ≤ b ∧ b ≤ xs.length) : ((cut (some a) (some b) xs).length : Int) = b - a := by
  simp only [cut]
  simp
  omega
end Go.LX
