/- A part of the proof of the statement in the row text. -/
import Derived.Test.YtkpohcfohnmejaaDoorLzUG
import Derived.Test.YtkpohcfohnmejaaDoorLxFrz
set_option linter.unusedVariables false
set_option linter.unusedSimpArgs false
namespace Go.LX
open Go.Proofs
attribute [local irreducible] W WO OpW RW EndQ
theorem Rp.take {cs : List (List UInt8)} (h : Rp cs) : tokM cs.flatten = true := h.tok
/-- Both parts of a rope. -/
theorem sp_parts {cs : List (List UInt8)} {a : Nat} (h : l04M cs a = true) : Rp (spA cs a) ∧ Rp (spB cs a) ∧ (spA cs a).flatten = (chT cs).take a ∧ (spB cs a).flatten = (chT cs).drop a ∧ a ≤ (chT cs).length := by
  obtain ⟨o1, o2⟩ := split_ok h
  have h2 := h
  simp only [l04M, Bool.and_eq_true, decide_eq_true_eq] at h2
  have hT := chT_len (cs := cs)
  have h3 := cut_in (show (chT cs).length ≤ 16777216 by omega) h2.2
  obtain ⟨hR, _, E1⟩ := rope_edit o1
  obtain ⟨_, _, E2⟩ := rope_edit o2
  have et := hR.text
  rw [spA, spB, if_pos h, if_pos h, ropeR, ropeR, if_pos o1, if_pos o2]
  refine ⟨E1.rp, E2.rp, ?_, ?_, by omega⟩
  · rw [E1.txt, et, show ((a : Int)).toNat = a by omega, show ((a : Int) + ((cs.flatten.length : Int) - (a : Int))).toNat = cs.flatten.length by rw [et] at h3; omega, List.drop_length]
    simp
  · rw [E2.txt, et, show ((0 : Int)).toNat = 0 by rfl, show ((0 : Int) + (a : Int)).toNat = a by omega]
    simp
set_option maxHeartbeats 4000000 in
set_option maxRecDepth 20000 in
theorem drawrs_r (code : List UInt8) (hl : code.length ≤ 16777216) : FnR Tryd.prog 21 [aBy code] (fun _ : List (List UInt8) × Int => [aX]) (fun r => .tu [(true, [sChs r.1]), (false, [sI r.2])]) (fun r => r.1.length ≤ 100 ∧ ∀ d ∈ r.1, d.length ≤ 1001) := by
  have ho := open_ok code hl
  refine FnR_of (fn := Tryd.f21) Tryd.func21 rfl rfl rfl ?_
  have zX1 := fun (zh : True) => ho
  have zQ1 := fun {z0} {z1} zh => rope_f code z0 z1 hl zh
  refine stpD ?_ ?_ ?_ ?_ ?_ ?_ ?_ ?_ ?_ ?_ ?_ ?_ ?_ ?_ ?_ ?_ <;> (first | exact Mk.mk | exact trivial | (intros))
  rename_i r1 h1
  obtain ⟨⟨⟨h11, h12⟩, h13⟩, h14⟩ := h1
  have h13 : CuP 0 r1.2.1 r1.2.2 800 := h13
  refine W.weak (Wk_freeze (o := 10000) rfl) ?_
  have hw : ∀ d ∈ r1.1, d.length ≤ 16777216 := fun d hd => Nat.le_trans (h12 d hd) (by decide)
  have hn : r1.1.length ≤ 16777216 := by omega
  obtain ⟨r2, n2, k1⟩ := cutof_ex code r1.2.1 r1.2.2 r1.1 hl ⟨by omega, by omega, by omega, by omega⟩ (by omega) hn hw
  have zB1 := fun (zh : True) => k1
  refine stp ?_ ?_ ?_ ?_ ?_ ?_ ?_ ?_ ?_ ?_ ?_ ?_ ?_ ?_ ?_ ?_ <;> (first | exact Mk.mk | exact trivial | (repeat intro hq))
  refine endR (r1.1, r2.1) ?_ ⟨h11, h12⟩
  refine stp ?_ ?_ ?_ ?_ ?_ ?_ ?_ ?_ ?_ ?_ ?_ ?_ ?_ ?_ ?_ ?_ <;> (first | exact Mk.mk | exact trivial | (repeat intro hq))
set_option maxHeartbeats 4000000 in
set_option maxRecDepth 20000 in
theorem lawRS_big (code : List UInt8) (hl : 1048576 < code.length) : FnC Tryd.prog 5 [aBy code] [aX] (.one (sB true)) := by
  refine FnC_of (fn := Tryd.f5) Tryd.func5 rfl rfl rfl ?_
  have zD1 := fun {z0} (zh : True) => big_ok z0
  refine stp ?_ ?_ ?_ ?_ ?_ ?_ ?_ ?_ ?_ ?_ ?_ ?_ ?_ ?_ ?_ ?_ <;> (first | exact Mk.mk | exact trivial | (repeat intro hq))
set_option maxHeartbeats 4000000 in
set_option maxRecDepth 20000 in
theorem lawRS_sm (code : List UInt8) (hl : code.length ≤ 1048576) : FnC Tryd.prog 5 [aBy code] [aX] (.one (sB true)) := by
  refine FnC_of (fn := Tryd.f5) Tryd.func5 rfl rfl rfl ?_
  have zD1 := fun {z0} (zh : True) => big_ok z0
  have zR1 := fun (zh : True) => drawrs_r code (Nat.le_trans hl (by decide))
  refine stpD ?_ ?_ ?_ ?_ ?_ ?_ ?_ ?_ ?_ ?_ ?_ ?_ ?_ ?_ ?_ ?_ <;> (first | exact Mk.mk | exact trivial | (intros))
  rename_i r hr hq
  obtain ⟨cs, a⟩ := r
  obtain ⟨hn, hw⟩ := hr
  simp only at hn hw ⊢
  have hn' : cs.length ≤ 16777216 := by omega
  have hw' : ∀ d ∈ cs, d.length ≤ 16777216 := fun d hd => Nat.le_trans (hw d hd) (by decide)
  have k1 := sropesplit_ok cs a hn' hw'
  have k2 := iropesplit_ok cs a hn' hw'
  cases hok : l04M cs a with
  | false =>
    rw [hok] at k1 k2
    have zD1 := fun (zh : True) => k1
    have zD2 := fun (zh : True) => k2
    refine stp ?_ ?_ ?_ ?_ ?_ ?_ ?_ ?_ ?_ ?_ ?_ ?_ ?_ ?_ ?_ ?_ <;> (first | exact Mk.mk | exact trivial | (repeat intro hq))
  | true =>
    rw [hok] at k1 k2
    have h2 := hok
    simp only [l04M, Bool.and_eq_true, decide_eq_true_eq] at h2
    have hT := chT_len (cs := cs)
    have h3 := cut_in (show (chT cs).length ≤ 16777216 by omega) h2.2
    obtain ⟨m, rfl⟩ : ∃ m : Nat, a = m := ⟨a.toNat, by omega⟩
    obtain ⟨RA, RB, tA, tB, hm⟩ := sp_parts hok
    generalize spA cs m = A at *
    generalize spB cs m = B at *
    have k3 := ropetext_ok cs hn' hw'
    have la := congrArg List.length tA
    have lb := congrArg List.length tB
    rw [List.length_take] at la
    rw [List.length_drop] at lb
    have k4 := iropejoin_ok A B RA RB (by omega)
    have eT : (A ++ B).flatten = chT cs := by rw [List.flatten_append, tA, tB, List.take_append_drop]
    have RJ : Rp (A ++ B) := by
      refine ⟨fun d hd => ?_, fun d hd => ?_, fun d hd => ?_, by rw [eT]; exact hT⟩
      · exact (List.mem_append.1 hd).elim (RA.v d) (RB.v d)
      · exact (List.mem_append.1 hd).elim (RA.n d) (RB.n d)
      · exact (List.mem_append.1 hd).elim (RA.s d) (RB.s d)
    have k5 := iropetext_ok (A ++ B) (Nat.le_trans RJ.len (by decide)) (fun d hd => Nat.le_trans (RJ.s d hd) (by decide))
    rw [RJ.text, eT] at k5
    have k6 := iropetext_ok A (Nat.le_trans RA.len (by decide)) (fun d hd => Nat.le_trans (RA.s d hd) (by decide))
    rw [RA.text, tA] at k6
    have k7 := iropemeas_ok A (Nat.le_trans RA.len (by decide)) (fun d hd => Nat.le_trans (RA.s d hd) (by decide))
    have k8 := iropemeas_ok B (Nat.le_trans RB.len (by decide)) (fun d hd => Nat.le_trans (RB.s d hd) (by decide))
    have k9 := iropemeas_ok cs hn' hw'
    obtain ⟨e1, e2, e3⟩ := m_app (x := A.flatten) (y := B.flatten) RA.tok RB.tok (by omega)
    rw [show A.flatten ++ B.flatten = chT cs by rw [tA, tB, List.take_append_drop]] at e1 e2 e3
    rw [RA.text] at k7
    rw [RB.text] at k8
    rw [← e1, ← e2, ← e3] at k9
    have mA := m_in A.flatten
    have mB' := m_in B.flatten
    generalize mB A.flatten = a1 at *
    generalize mR A.flatten = a2 at *
    generalize mL A.flatten = a3 at *
    generalize mB B.flatten = b1 at *
    generalize mR B.flatten = b2 at *
    generalize mL B.flatten = b3 at *
    have k10 := imeasadd_ok a1 a2 a3 b1 b2 b3 mA mB'
    generalize chT cs = T at *
    have zD1 := fun (zh : True) => k1
    have zD2 := fun (zh : True) => k2
    have zE1 := fun (zh : True) => k4
    have zD3 := fun (zh : True) => k3
    have zE2 := fun (zh : True) => k5
    have zE3 := fun (zh : True) => k6
    have zE4 := fun (zh : True) => k7
    have zE5 := fun (zh : True) => k8
    have zD4 := fun (zh : True) => k9
    have zD5 := fun (zh : True) => k10
    refine stp ?_ ?_ ?_ ?_ ?_ ?_ ?_ ?_ ?_ ?_ ?_ ?_ ?_ ?_ ?_ ?_ <;> (first | exact Mk.mk | exact trivial | (repeat intro hq))
    · simp
    · exfalso
      have e : List.take (cutH (some (m : Int)) T.length - cutL none) (List.drop (cutL none) T) = T.take m := cut_tk rfl
      rw [e] at hq
      simp at hq
theorem lawRS_ok (code : List UInt8) (hw : WfT (.sl .u8) code) : FnC Tryd.prog 5 [aBy code] [aX] (.one (sB true)) := by
  by_cases hl : code.length ≤ 1048576
  · exact lawRS_sm code hl
  · exact lawRS_big code (by omega)
end Go.LX
