/- A part of the proof of the statement in the row text. -/
import Derived.Test.YtkpohcfohnmejaaGreatDoorLzE2
import Derived.Test.YtkpohcfohnmejaaGreatDoorLzG5
import Derived.Test.YtkpohcfohnmejaaGreatDoorLxStpL
set_option linter.unusedVariables false
set_option linter.unusedSimpArgs false
namespace Go.LX
open Go.Proofs
attribute [local irreducible] W WO OpW RW EndQ
/-- Does an edit fit a text? -/
noncomputable def eokM (t : List UInt8) (e : Ed) : Bool := tokM t && (decide (0 ≤ rtM t e.1) && (!decide (e.2.1 < 0) && (!decide (t.length - e.1 < e.2.1) && (decide (0 ≤ rtM t (e.1 + e.2.1)) && (tokM e.2.2 && decide (t.length - e.2.1 + e.2.2.length ≤ 400))))))
theorem eokM_ok {t : List UInt8} {e : Ed} (hl : t.length ≤ 16777216) (h : eokM t e = true) : t.length ≤ 400 ∧ (0 ≤ e.1 ∧ e.1 ≤ t.length) ∧ 0 ≤ e.2.1 ∧ e.1 + e.2.1 ≤ t.length ∧ e.2.2.length ≤ 400 := by
  simp only [eokM, Bool.and_eq_true, Bool.not_eq_true', decide_eq_true_eq, decide_eq_false_iff_not] at h
  obtain ⟨h1, h2, h3, h4, h5, h6, h7⟩ := h
  have k1 := tokM_len h1
  have k2 := cut_in hl h2
  have k3 := tokM_len h6
  exact ⟨k1, k2, by omega, by omega, k3⟩
set_option maxHeartbeats 4000000 in
set_option maxRecDepth 20000 in
theorem editok_ok (t : List UInt8) (e : Ed) (hl : t.length ≤ 16777216) (hp : e.2.2.length ≤ 16777216) : FnC Tryz.prog 155 [aBy t, aEd e] [aX, aEd0] (.one (sB (eokM t e))) := by
  by_cases h1 : 0 ≤ rtM t e.1
  · have h2 := cut_in hl h1
    refine FnC_of (fn := Tryz.f155) Tryz.func155 rfl rfl rfl ?_
    have zD1 := fun (zh : True) => textok_ok t hl
    have zD2 := fun (zh : True) => textok_ok e.2.2 hp
    have zD3 := fun {z0} {z1} zh => cutok_ok z0 z1 zh
    refine stp ?_ ?_ ?_ ?_ ?_ ?_ ?_ ?_ ?_ ?_ ?_ ?_ ?_ ?_ ?_ ?_ <;> (first | exact Mk.mk | exact trivial | (intros; exact hl; done) | (repeat intro hq))
    all_goals first
      | (simp_all [eokM]; done)
      | (simp_all [eokM] <;> (intros; omega))
      | (simp only [eokM]; simp_all; done)
      | (simp_all [eokM]
         rw [show decide (e.2.1 < 0) = false from decide_eq_false (by omega), show decide ((t.length : Int) - e.1 < e.2.1) = false from decide_eq_false (by omega)]
         rfl)
  · refine FnC_of (fn := Tryz.f155) Tryz.func155 rfl rfl rfl ?_
    have zD1 := fun (zh : True) => textok_ok t hl
    have zD2 := fun (zh : True) => textok_ok e.2.2 hp
    have zD3 := fun {z0} {z1} zh => cutok_ok z0 z1 zh
    refine stp ?_ ?_ ?_ ?_ ?_ ?_ ?_ ?_ ?_ ?_ ?_ ?_ ?_ ?_ ?_ ?_ <;> (first | exact Mk.mk | exact trivial | (intros; exact hl; done) | (repeat intro hq))
    all_goals (simp_all [eokM] <;> (intros; omega))
theorem cut_len {α : Type} {a b : Int} {xs : List α} (h : 0 ≤ a ∧ a ≤ b ∧ b ≤ xs.length) : ((cut (some a) (some b) xs).length : Int) = b - a := by
  simp only [cut]
  simp
  omega
end Go.LX
