/- A part of the proof of the statement in the row text. -/
import Derived.Test.YtkpohcfohnmejaaDoorLzU9
import Derived.Test.YtkpohcfohnmejaaDoorLxFrz
set_option linter.unusedVariables false
set_option linter.unusedSimpArgs false
namespace Go.LX
open Go.Proofs
attribute [local irreducible] W WO OpW RW EndQ
theorem split_ok {cs : List (List UInt8)} {a : Int} (h : l04M cs a = true) : rokM cs a ((chT cs).length - a) [] = true ∧ rokM cs 0 a [] = true := by
  have hT := chT_len (cs := cs)
  have h2 := h
  simp only [l04M, Bool.and_eq_true, decide_eq_true_eq] at h2
  have h3 := cut_in (show (chT cs).length ≤ 16777216 by omega) h2.2
  have ht : tokM (chT cs) = true := by rw [(rp_iff.1 h2.1).text]; exact (rp_iff.1 h2.1).tok
  have hv := tok_vld ht
  have hn : tokM ([] : List UInt8) = true := by rw [tokM_eq]; rfl
  have e1 : decide (0 ≤ rtM (chT cs) ((chT cs).length : Int)) = true := by rw [rtM_nn ht]; exact cut_end hv
  have e0 : decide (0 ≤ rtM (chT cs) 0) = true := by rw [rtM_nn ht]; exact cut_0 hv
  constructor
  · rw [rokM_eq, h, show a + ((chT cs).length - a) = ((chT cs).length : Int) by omega, e1, hn]
    simp only [Bool.true_and, Bool.and_true, Bool.and_eq_true, Bool.not_eq_true', decide_eq_false_iff_not, decide_eq_true_eq, List.length_nil]
    exact ⟨by omega, by omega, by omega⟩
  · rw [rokM_eq, show l04M cs 0 = true by rw [l04M, h2.1, e0]; rfl, Int.zero_add, decide_eq_true h2.2, hn]
    simp only [Bool.true_and, Bool.and_true, Bool.and_eq_true, Bool.not_eq_true', decide_eq_false_iff_not, decide_eq_true_eq, List.length_nil]
    exact ⟨by omega, by omega, by omega⟩
/-- The two parts of a rope. -/
noncomputable def spA (cs : List (List UInt8)) (a : Int) : List (List UInt8) := if l04M cs a = true then ropeR cs a ((chT cs).length - a) [] else []
noncomputable def spB (cs : List (List UInt8)) (a : Int) : List (List UInt8) := if l04M cs a = true then ropeR cs 0 a [] else []
abbrev rsSp (A B : List (List UInt8)) (ok : Bool) : RS := .tu [(true, [oChs A]), (true, [oChs B]), (false, [sB ok])]
set_option maxHeartbeats 4000000 in
set_option maxRecDepth 20000 in
theorem sropesplit_ok (cs : List (List UInt8)) (a : Int) (hn : cs.length ≤ 16777216) (hl : ∀ d ∈ cs, d.length ≤ 16777216) : FnC Tryd.prog 18 [aRp cs, aI a] [aRp0, aX] (rsSp (spA cs a) (spB cs a) (l04M cs a)) := by
  have k1 := l04cut_ok cs a hn hl
  cases h : l04M cs a with
  | false =>
    rw [h] at k1
    rw [spA, spB, if_neg (by rw [h]; simp), if_neg (by rw [h]; simp)]
    refine FnC_of (fn := Tryd.f18) Tryd.func18 rfl rfl rfl ?_
    have zD1 := fun (zh : True) => k1
    refine stp ?_ ?_ ?_ ?_ ?_ ?_ ?_ ?_ ?_ ?_ ?_ ?_ ?_ ?_ ?_ ?_ <;> (first | exact Mk.mk | exact trivial | (repeat intro hq))
  | true =>
    rw [h] at k1
    rw [spA, spB, if_pos h, if_pos h]
    have hT := chT_len (cs := cs)
    have h2 := h
    simp only [l04M, Bool.and_eq_true, decide_eq_true_eq] at h2
    have h3 := cut_in (show (chT cs).length ≤ 16777216 by omega) h2.2
    have k2 := ropetext_ok cs hn hl
    have k3 := sropeedit_ok cs a ((chT cs).length - a) [] hn hl (by simp)
    have k4 := sropeedit_ok cs 0 a [] hn hl (by simp)
    refine FnC_of (fn := Tryd.f18) Tryd.func18 rfl rfl rfl ?_
    have zD1 := fun (zh : True) => k2
    have zD2 := fun (zh : True) => k1
    have zD3 := fun (zh : True) => k3
    have zD4 := fun (zh : True) => k4
    refine stp ?_ ?_ ?_ ?_ ?_ ?_ ?_ ?_ ?_ ?_ ?_ ?_ ?_ ?_ ?_ ?_ <;> (first | exact Mk.mk | exact trivial | (repeat intro hq))
set_option maxHeartbeats 4000000 in
set_option maxRecDepth 20000 in
theorem iropesplit_ok (cs : List (List UInt8)) (a : Int) (hn : cs.length ≤ 16777216) (hl : ∀ d ∈ cs, d.length ≤ 16777216) : FnC Tryd.prog 19 [aRp cs, aI a] [aRp0, aX] (rsSp (spA cs a) (spB cs a) (l04M cs a)) := by
  have k1 := irope_ok cs hn hl
  cases hc : chK cs 0 with
  | false =>
    have h : l04M cs a = false := by rw [l04M, hc]; rfl
    rw [hc] at k1
    rw [h, spA, spB, if_neg (by rw [h]; simp), if_neg (by rw [h]; simp)]
    refine FnC_of (fn := Tryd.f19) Tryd.func19 rfl rfl rfl ?_
    have zD1 := fun (zh : True) => k1
    refine stp ?_ ?_ ?_ ?_ ?_ ?_ ?_ ?_ ?_ ?_ ?_ ?_ ?_ ?_ ?_ ?_ <;> (first | exact Mk.mk | exact trivial | (repeat intro hq))
  | true =>
    rw [hc] at k1
    have hR := rp_iff.1 hc
    have h4 := hR.l
    have hT := hR.text
    have e : l04M cs a = cutB cs.flatten a := by rw [l04M, hc, hT, rtM_nn hR.tok]; rfl
    have k2 := irtext_ok cs (by omega) hn
    have k3 := iscut_ok cs.flatten a (by omega)
    cases h : cutB cs.flatten a with
    | false =>
      rw [h] at k3 e
      rw [e, spA, spB, if_neg (by rw [e]; simp), if_neg (by rw [e]; simp)]
      refine FnC_of (fn := Tryd.f19) Tryd.func19 rfl rfl rfl ?_
      have zD1 := fun (zh : True) => k1
      have zD2 := fun (zh : True) => k2
      have zE1 := fun (zh : True) => k3
      refine stp ?_ ?_ ?_ ?_ ?_ ?_ ?_ ?_ ?_ ?_ ?_ ?_ ?_ ?_ ?_ ?_ <;> (first | exact Mk.mk | exact trivial | (repeat intro hq))
    | true =>
      rw [h] at k3 e
      obtain ⟨o1, o2⟩ := split_ok e
      have hi := cutB_in h
      rw [spA, spB, if_pos e, if_pos e, ropeR, ropeR, if_pos o1, if_pos o2, e]
      rw [hT] at o1 ⊢
      obtain ⟨_, _, E1⟩ := rope_edit o1
      obtain ⟨_, _, E2⟩ := rope_edit o2
      obtain ⟨m, rfl⟩ : ∃ m : Nat, a = m := ⟨a.toNat, by omega⟩
      rw [show ((m : Int)).toNat = m by omega, show ((m : Int) + ((cs.flatten.length : Int) - (m : Int))).toNat = m + (cs.flatten.length - m) by omega] at E1 ⊢
      rw [show ((0 : Int)).toNat = 0 by rfl, show ((0 : Int) + (m : Int)).toNat = 0 + m by omega] at E2 ⊢
      have k4 := iredit_ok cs m (cs.flatten.length - m) [] hR E1 (by simp)
      rw [show (((cs.flatten.length - m : Nat) : Int)) = (cs.flatten.length : Int) - (m : Int) by omega] at k4
      have k5 := iredit_ok cs 0 m [] hR E2 (by simp)
      refine FnC_of (fn := Tryd.f19) Tryd.func19 rfl rfl rfl ?_
      have zD1 := fun (zh : True) => k1
      have zD2 := fun (zh : True) => k2
      have zE1 := fun (zh : True) => k3
      have zD3 := fun (zh : True) => k4
      have zD4 := fun (zh : True) => k5
      refine stp ?_ ?_ ?_ ?_ ?_ ?_ ?_ ?_ ?_ ?_ ?_ ?_ ?_ ?_ ?_ ?_ <;> (first | exact Mk.mk | exact trivial | (repeat intro hq))
theorem sp_len {cs : List (List UInt8)} {a : Int} : ((spA cs a).length ≤ 400 ∧ (spA cs a).flatten.length ≤ 400 ∧ ∀ d ∈ spA cs a, d.length ≤ 16) ∧ ((spB cs a).length ≤ 400 ∧ (spB cs a).flatten.length ≤ 400 ∧ ∀ d ∈ spB cs a, d.length ≤ 16) := by
  unfold spA spB
  split
  · exact ⟨ropeR_len, ropeR_len⟩
  · simp
end Go.LX
