/- A part of the proof of the statement in the row text. -/
import Derived.Test.YtkpohcfohnmejaaDoorLzUH
import Derived.Test.YtkpohcfohnmejaaDoorLxFrz
set_option linter.unusedVariables false
set_option linter.unusedSimpArgs false
namespace Go.LX
open Go.Proofs
attribute [local irreducible] W WO OpW RW EndQ
/-- The edit of a rope that is drawn. -/
noncomputable def de1 (code : List UInt8) : (List (List UInt8) × Int × Int) × ((Int × Int) × Int × Int) × (List UInt8 × Int × Int) × (Int × Int × Int) :=
  let r := ropeF code 0 (97 + (code.length : Int) % 1000)
  let p := spanF code r.2.1 r.2.2 r.1
  let t := textF code p.2.1 p.2.2 30
  (r, p, t, pickF code t.2.1 t.2.2 12)
noncomputable def deN (code : List UInt8) (cs : List (List UInt8)) (i j : Int) (a s : Int) : Int := max 0 (min 400 (IntKind.i64.wrap (IntKind.i64.wrap (IntKind.i64.wrap (400 - ((chT cs).length : Int)) + min 200 (max 0 (IntKind.i64.wrap (j - i)))) + (pickF code a s 2).1)))
noncomputable def deF (code : List UInt8) : List (List UInt8) × Int × Int × List UInt8 :=
  let d := de1 code
  let cut := IntKind.i64.wrap (d.2.1.1.2 - d.2.1.1.1)
  if d.2.2.2.1 = 0 then (d.1.1, d.2.1.1.1, (rawF code d.2.2.2.2.1 d.2.2.2.2.2).1, d.2.2.1.1)
  else if d.2.2.2.1 = 1 then (d.1.1, d.2.1.1.1, cut, (badtextF code d.2.2.2.2.1 d.2.2.2.2.2 30).1)
  else if d.2.2.2.1 = 2 then (d.1.1, d.2.1.1.1, cut, List.replicate (deN code d.1.1 d.2.1.1.1 d.2.1.1.2 d.2.2.2.2.1 d.2.2.2.2.2).toNat 0)
  else (d.1.1, d.2.1.1.1, cut, d.2.2.1.1)
set_option maxHeartbeats 4000000 in
set_option maxRecDepth 20000 in
theorem drawre_r (code : List UInt8) (hl : code.length ≤ 16777216) : FnR Tryd.prog 27 [aBy code] (fun _ : List (List UInt8) × Int × Int × List UInt8 => [aX]) (fun r => .tu [(true, [sChs r.1]), (false, [sI r.2.1]), (false, [sI r.2.2.1]), (false, [sBy r.2.2.2])]) (fun r => ((r.1.length ≤ 100 ∧ ∀ d ∈ r.1, d.length ≤ 1001) ∧ r.2.2.2.length ≤ 1001) ∧ r = deF code) := by
  have ho := open_ok code hl
  refine FnR_of (fn := Tryd.f27) Tryd.func27 rfl rfl rfl ?_
  have zX1 := fun (zh : True) => ho
  have zQ1 := fun {z0} {z1} zh => rope_f code z0 z1 hl zh
  refine stpD ?_ ?_ ?_ ?_ ?_ ?_ ?_ ?_ ?_ ?_ ?_ ?_ ?_ ?_ ?_ ?_ <;> (first | exact Mk.mk | exact trivial | (intros))
  rename_i r1 h1
  obtain ⟨⟨⟨h11, h12⟩, h13⟩, h14⟩ := h1
  have h13 : CuP 0 r1.2.1 r1.2.2 800 := h13
  have h14 : r1 = ropeF code 0 (97 + (code.length : Int) % 1000) := h14
  refine OpW_weak (Wk_freeze (o := 16000) rfl) ?_
  have hw : ∀ d ∈ r1.1, d.length ≤ 16777216 := fun d hd => Nat.le_trans (h12 d hd) (by decide)
  have hn : r1.1.length ≤ 16777216 := by omega
  have k1 := fun (a s : Int) (hc : CuR a s 13) => span_f code a s r1.1 hl ⟨hc, hn, hw⟩
  have k2 := ropetext_ok r1.1 hn hw
  have hT := chT_len (cs := r1.1)
  have zQ1 := fun {z0} {z1} zh => k1 z0 z1 zh
  have zQ2 := fun {z0} {z1} {z2} zh => text_f code z0 z1 z2 hl zh
  have zQ3 := fun {z0} {z1} {z2} zh => pick_f code z0 z1 z2 hl zh
  have zQ4 := fun {z0} {z1} zh => raw_f code z0 z1 hl zh
  have zQ5 := fun {z0} {z1} {z2} zh => badtext_f code z0 z1 z2 hl zh
  have zD1 := fun (zh : True) => k2
  refine stpW ?_ ?_ ?_ ?_ ?_ ?_ ?_ ?_ ?_ ?_ ?_ ?_ ?_ ?_ ?_ ?_ <;> (first | exact Mk.mk | exact trivial | (intros))
  · rename_i r2 r3 r4 r5 h2 h3 h4 h5 q1
    obtain ⟨h2a, h2b⟩ := h2
    obtain ⟨⟨h3a, h3b⟩, h3c⟩ := h3
    obtain ⟨⟨h4a, h4b⟩, h4c⟩ := h4
    have h3d : r3.1.length ≤ 30 := Int.ofNat_le.1 h3a
    have e : de1 code = (r1, r2, r3, r4) := by
      simp only [de1]
      rw [← h14, ← h2b, ← h3c, ← h4c]
    refine endR (r1.1, r2.1.1, r5.1, r3.1) ?_ ⟨⟨⟨h11, h12⟩, by simp only; omega⟩, ?_⟩
    · refine EndQ_weak (Wk_freeze (o := 27000) rfl) ?_
      refine stp ?_ ?_ ?_ ?_ ?_ ?_ ?_ ?_ ?_ ?_ ?_ ?_ ?_ ?_ ?_ ?_ <;> (first | exact Mk.mk | exact trivial | (repeat intro hq))
    · simp only [deF, e]
      rw [if_pos (of_decide_eq_true q1), ← h5.2]
  · rename_i r2 r3 r4 r5 h2 h3 h4 h5 q0 q1
    obtain ⟨h2a, h2b⟩ := h2
    obtain ⟨⟨h3a, h3b⟩, h3c⟩ := h3
    obtain ⟨⟨h4a, h4b⟩, h4c⟩ := h4
    have h3d : r3.1.length ≤ 30 := Int.ofNat_le.1 h3a
    have e : de1 code = (r1, r2, r3, r4) := by
      simp only [de1]
      rw [← h14, ← h2b, ← h3c, ← h4c]
    obtain ⟨⟨h5a, h5b⟩, h5c⟩ := h5
    refine endR (r1.1, r2.1.1, IntKind.i64.wrap (r2.1.2 - r2.1.1), r5.1) ?_ ⟨⟨⟨h11, h12⟩, h5a⟩, ?_⟩
    · refine EndQ_weak (Wk_freeze (o := 37000) rfl) ?_
      refine stp ?_ ?_ ?_ ?_ ?_ ?_ ?_ ?_ ?_ ?_ ?_ ?_ ?_ ?_ ?_ ?_ <;> (first | exact Mk.mk | exact trivial | (repeat intro hq))
    · simp only [deF, e]
      rw [if_neg (of_decide_eq_false q0), if_pos (of_decide_eq_true q1), ← h5c]
  · rename_i r2 r3 r4 r5 h2 h3 h4 h5 q0 q1 q2
    obtain ⟨h2a, h2b⟩ := h2
    obtain ⟨⟨h3a, h3b⟩, h3c⟩ := h3
    obtain ⟨⟨h4a, h4b⟩, h4c⟩ := h4
    have h3d : r3.1.length ≤ 30 := Int.ofNat_le.1 h3a
    have e : de1 code = (r1, r2, r3, r4) := by
      simp only [de1]
      rw [← h14, ← h2b, ← h3c, ← h4c]
    obtain ⟨⟨h5a, h5b⟩, h5c⟩ := h5
    refine endR (r1.1, r2.1.1, IntKind.i64.wrap (r2.1.2 - r2.1.1), List.replicate (deN code r1.1 r2.1.1 r2.1.2 r4.2.1 r4.2.2).toNat 0) ?_ ⟨⟨⟨h11, h12⟩, ?_⟩, ?_⟩
    · refine EndQ_weak (Wk_freeze (o := 55000) rfl) ?_
      rw [deN, ← h5c]
      refine stp ?_ ?_ ?_ ?_ ?_ ?_ ?_ ?_ ?_ ?_ ?_ ?_ ?_ ?_ ?_ ?_ <;> (first | exact Mk.mk | exact trivial | (repeat intro hq))
    · simp only [List.length_replicate, deN]; omega
    · simp only [deF, e]
      rw [if_neg (of_decide_eq_false q0), if_neg (of_decide_eq_false q1), if_pos (of_decide_eq_true q2)]
  · rename_i r2 r3 r4 h2 h3 h4 q0 q1 q2
    obtain ⟨h2a, h2b⟩ := h2
    obtain ⟨⟨h3a, h3b⟩, h3c⟩ := h3
    obtain ⟨⟨h4a, h4b⟩, h4c⟩ := h4
    have h3d : r3.1.length ≤ 30 := Int.ofNat_le.1 h3a
    have e : de1 code = (r1, r2, r3, r4) := by
      simp only [de1]
      rw [← h14, ← h2b, ← h3c, ← h4c]
    refine endR (r1.1, r2.1.1, IntKind.i64.wrap (r2.1.2 - r2.1.1), r3.1) ?_ ⟨⟨⟨h11, h12⟩, by simp only; omega⟩, ?_⟩
    · refine EndQ_weak (Wk_freeze (o := 27000) rfl) ?_
      refine stp ?_ ?_ ?_ ?_ ?_ ?_ ?_ ?_ ?_ ?_ ?_ ?_ ?_ ?_ ?_ ?_ <;> (first | exact Mk.mk | exact trivial | (repeat intro hq))
    · simp only [deF, e]
      rw [if_neg (of_decide_eq_false q0), if_neg (of_decide_eq_false q1), if_neg (of_decide_eq_false q2)]
end Go.LX
