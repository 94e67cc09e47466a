/- A part of the proof of the statement in the row text. -/
import Derived.Test.YtkpohcfohnmejaaDoorLzR0
import Derived.Test.YtkpohcfohnmejaaDoorLzU9
import Derived.Test.YtkpohcfohnmejaaDoorLxFrz
set_option linter.unusedVariables false
set_option linter.unusedSimpArgs false
namespace Go.LX
open Go.Proofs
attribute [local irreducible] W WO OpW RW EndQ
open Classical in
/-- One that is so, if there is one. -/
noncomputable def chz {R : Type} (d : R) (p : R → Prop) : R := if h : ∃ r, p r then h.choose else d
theorem chz_ok {R : Type} {d : R} {p : R → Prop} (h : ∃ r, p r) : p (chz d p) := by
  unfold chz; rw [dif_pos h]; exact h.choose_spec
noncomputable def pickF (code : List UInt8) (a s : Int) (n : Int) : Int × Int × Int := chz (0, a, s) fun r => ((0 ≤ r.1 ∧ (2 ≤ n → r.1 < n) ∧ (n < 2 → r.1 = 0)) ∧ CuN a s r.2.1 r.2.2 1) ∧ FnC Tryd.prog 71 [aCur code a s, aI n] [aCur code r.2.1 r.2.2, aX] (.one (sI r.1))
theorem pick_f (code : List UInt8) (a s : Int) (n : Int) (hl : code.length ≤ 16777216) (hc : CuR a s 1) : FnR Tryd.prog 71 [aCur code a s, aI n] (fun r : Int × Int × Int => [aCur code r.2.1 r.2.2, aX]) (fun r => .one (sI r.1)) (fun r => ((0 ≤ r.1 ∧ (2 ≤ n → r.1 < n) ∧ (n < 2 → r.1 = 0)) ∧ CuP a r.2.1 r.2.2 1) ∧ r = pickF code a s n) := by
  have h : ∃ r : Int × Int × Int, ((0 ≤ r.1 ∧ (2 ≤ n → r.1 < n) ∧ (n < 2 → r.1 = 0)) ∧ CuN a s r.2.1 r.2.2 1) ∧ FnC Tryd.prog 71 [aCur code a s, aI n] [aCur code r.2.1 r.2.2, aX] (.one (sI r.1)) := by
    obtain ⟨r, h1, h2, h3⟩ := pick_ex code a s n hl (hc.b (by decide))
    exact ⟨r, ⟨by first | exact h1 | omega, h2⟩, h3⟩
  have h' := chz_ok (d := (0, a, s)) h
  exact FnC.rel (r := pickF code a s n) h'.2 ⟨⟨h'.1.1, h'.1.2.p⟩, rfl⟩
noncomputable def sizeF (code : List UInt8) (a s : Int) (n : Int) : Int × Int × Int := chz (0, a, s) fun r => ((0 ≤ r.1 ∧ r.1 ≤ n) ∧ CuN a s r.2.1 r.2.2 1) ∧ FnC Tryd.prog 111 [aCur code a s, aI n] [aCur code r.2.1 r.2.2, aX] (.one (sI r.1))
theorem size_f (code : List UInt8) (a s : Int) (n : Int) (hl : code.length ≤ 16777216) (hc : CuR a s 1 ∧ 1 ≤ n ∧ n ≤ 100000) : FnR Tryd.prog 111 [aCur code a s, aI n] (fun r : Int × Int × Int => [aCur code r.2.1 r.2.2, aX]) (fun r => .one (sI r.1)) (fun r => ((0 ≤ r.1 ∧ r.1 ≤ n) ∧ CuP a r.2.1 r.2.2 1) ∧ r = sizeF code a s n) := by
  have h : ∃ r : Int × Int × Int, ((0 ≤ r.1 ∧ r.1 ≤ n) ∧ CuN a s r.2.1 r.2.2 1) ∧ FnC Tryd.prog 111 [aCur code a s, aI n] [aCur code r.2.1 r.2.2, aX] (.one (sI r.1)) := by
    obtain ⟨r, h1, h2, h3⟩ := size_ex code a s n hl (hc.1.b (by decide)) hc.2
    exact ⟨r, ⟨by first | exact h1 | omega, h2⟩, h3⟩
  have h' := chz_ok (d := (0, a, s)) h
  exact FnC.rel (r := sizeF code a s n) h'.2 ⟨⟨h'.1.1, h'.1.2.p⟩, rfl⟩
noncomputable def onceF (code : List UInt8) (a s : Int) (n : Int) : Bool × Int × Int := chz (false, a, s) fun r => (CuN a s r.2.1 r.2.2 1) ∧ FnC Tryd.prog 104 [aCur code a s, aI n] [aCur code r.2.1 r.2.2, aX] (.one (sB r.1))
theorem once_f (code : List UInt8) (a s : Int) (n : Int) (hl : code.length ≤ 16777216) (hc : CuR a s 1 ∧ 1 ≤ n ∧ n ≤ 100000) : FnR Tryd.prog 104 [aCur code a s, aI n] (fun r : Bool × Int × Int => [aCur code r.2.1 r.2.2, aX]) (fun r => .one (sB r.1)) (fun r => (CuP a r.2.1 r.2.2 1) ∧ r = onceF code a s n) := by
  have h : ∃ r : Bool × Int × Int, (CuN a s r.2.1 r.2.2 1) ∧ FnC Tryd.prog 104 [aCur code a s, aI n] [aCur code r.2.1 r.2.2, aX] (.one (sB r.1)) := by
    obtain ⟨r, h2, h3⟩ := once_ex code a s n hl (hc.1.b (by decide)) hc.2
    exact ⟨r, h2, h3⟩
  have h' := chz_ok (d := (false, a, s)) h
  exact FnC.rel (r := onceF code a s n) h'.2 ⟨h'.1.p, rfl⟩
noncomputable def rawF (code : List UInt8) (a s : Int) : Int × Int × Int := chz (0, a, s) fun r => (CuN a s r.2.1 r.2.2 2) ∧ FnC Tryd.prog 72 [aCur code a s] [aCur code r.2.1 r.2.2] (.one (sI r.1))
theorem raw_f (code : List UInt8) (a s : Int) (hl : code.length ≤ 16777216) (hc : CuR a s 2) : FnR Tryd.prog 72 [aCur code a s] (fun r : Int × Int × Int => [aCur code r.2.1 r.2.2]) (fun r => .one (sI r.1)) (fun r => (CuP a r.2.1 r.2.2 2) ∧ r = rawF code a s) := by
  have h : ∃ r : Int × Int × Int, (CuN a s r.2.1 r.2.2 2) ∧ FnC Tryd.prog 72 [aCur code a s] [aCur code r.2.1 r.2.2] (.one (sI r.1)) := by
    obtain ⟨r, h2, h3⟩ := raw_ex code a s hl (hc.b (by decide)) (by omega)
    exact ⟨r, h2, h3⟩
  have h' := chz_ok (d := (0, a, s)) h
  exact FnC.rel (r := rawF code a s) h'.2 ⟨h'.1.p, rfl⟩
noncomputable def textF (code : List UInt8) (a s : Int) (n : Int) : List UInt8 × Int × Int := chz ([], a, s) fun r => (((r.1.length : Int) ≤ n) ∧ CuN a s r.2.1 r.2.2 (1 + 3 * n)) ∧ FnC Tryd.prog 70 [aCur code a s, aI n] [aCur code r.2.1 r.2.2, aX] (.one (oBy r.1))
theorem text_f (code : List UInt8) (a s : Int) (n : Int) (hl : code.length ≤ 16777216) (hc : CuR a s (1 + 3 * n) ∧ 1 ≤ n ∧ n ≤ 1000) : FnR Tryd.prog 70 [aCur code a s, aI n] (fun r : List UInt8 × Int × Int => [aCur code r.2.1 r.2.2, aX]) (fun r => .one (oBy r.1)) (fun r => (((r.1.length : Int) ≤ n) ∧ CuP a r.2.1 r.2.2 (1 + 3 * n)) ∧ r = textF code a s n) := by
  have h : ∃ r : List UInt8 × Int × Int, (((r.1.length : Int) ≤ n) ∧ CuN a s r.2.1 r.2.2 (1 + 3 * n)) ∧ FnC Tryd.prog 70 [aCur code a s, aI n] [aCur code r.2.1 r.2.2, aX] (.one (oBy r.1)) := by
    obtain ⟨r, h1, h2, h3⟩ := text_ex code a s n hl (hc.1.b (by omega)) (by omega) hc.2
    exact ⟨r, ⟨by first | exact h1 | omega, h2⟩, h3⟩
  have h' := chz_ok (d := ([], a, s)) h
  exact FnC.rel (r := textF code a s n) h'.2 ⟨⟨h'.1.1, h'.1.2.p⟩, rfl⟩
noncomputable def badtextF (code : List UInt8) (a s : Int) (n : Int) : List UInt8 × Int × Int := chz ([], a, s) fun r => ((r.1.length ≤ 1001) ∧ CuN a s r.2.1 r.2.2 (5 + 3 * n)) ∧ FnC Tryd.prog 73 [aCur code a s, aI n] [aCur code r.2.1 r.2.2, aX] (.one (oBy r.1))
theorem badtext_f (code : List UInt8) (a s : Int) (n : Int) (hl : code.length ≤ 16777216) (hc : CuR a s (5 + 3 * n) ∧ 1 ≤ n ∧ n ≤ 1000) : FnR Tryd.prog 73 [aCur code a s, aI n] (fun r : List UInt8 × Int × Int => [aCur code r.2.1 r.2.2, aX]) (fun r => .one (oBy r.1)) (fun r => ((r.1.length ≤ 1001) ∧ CuP a r.2.1 r.2.2 (5 + 3 * n)) ∧ r = badtextF code a s n) := by
  have h : ∃ r : List UInt8 × Int × Int, ((r.1.length ≤ 1001) ∧ CuN a s r.2.1 r.2.2 (5 + 3 * n)) ∧ FnC Tryd.prog 73 [aCur code a s, aI n] [aCur code r.2.1 r.2.2, aX] (.one (oBy r.1)) := by
    obtain ⟨r, h1, h2, h3⟩ := badtext_ex code a s n hl (hc.1.b (by omega)) (by omega) hc.2
    exact ⟨r, ⟨by first | exact h1 | omega, h2⟩, h3⟩
  have h' := chz_ok (d := ([], a, s)) h
  exact FnC.rel (r := badtextF code a s n) h'.2 ⟨⟨h'.1.1, h'.1.2.p⟩, rfl⟩
noncomputable def placeF (code : List UInt8) (a s : Int) (n : Int) : Int × Int × Int := chz (0, a, s) fun r => (CuN a s r.2.1 r.2.2 5) ∧ FnC Tryd.prog 107 [aCur code a s, aI n] [aCur code r.2.1 r.2.2, aX] (.one (sI r.1))
theorem place_f (code : List UInt8) (a s : Int) (n : Int) (hl : code.length ≤ 16777216) (hc : CuR a s 5 ∧ 0 ≤ n ∧ n ≤ 100000) : FnR Tryd.prog 107 [aCur code a s, aI n] (fun r : Int × Int × Int => [aCur code r.2.1 r.2.2, aX]) (fun r => .one (sI r.1)) (fun r => (CuP a r.2.1 r.2.2 5) ∧ r = placeF code a s n) := by
  have h : ∃ r : Int × Int × Int, (CuN a s r.2.1 r.2.2 5) ∧ FnC Tryd.prog 107 [aCur code a s, aI n] [aCur code r.2.1 r.2.2, aX] (.one (sI r.1)) := by
    obtain ⟨r, h2, h3⟩ := place_ex code a s n hl (hc.1.b (by decide)) (by omega) hc.2
    exact ⟨r, h2, h3⟩
  have h' := chz_ok (d := (0, a, s)) h
  exact FnC.rel (r := placeF code a s n) h'.2 ⟨h'.1.p, rfl⟩
noncomputable def cutofF (code : List UInt8) (a s : Int) (cs : List (List UInt8)) : Int × Int × Int := chz (0, a, s) fun r => (CuN a s r.2.1 r.2.2 6) ∧ FnC Tryd.prog 61 [aCur code a s, .ag [sChs cs]] [aCur code r.2.1 r.2.2, .ag [.any]] (.one (sI r.1))
theorem cutof_f (code : List UInt8) (a s : Int) (cs : List (List UInt8)) (hl : code.length ≤ 16777216) (hc : CuR a s 6 ∧ cs.length ≤ 16777216 ∧ ∀ d ∈ cs, d.length ≤ 16777216) : FnR Tryd.prog 61 [aCur code a s, .ag [sChs cs]] (fun r : Int × Int × Int => [aCur code r.2.1 r.2.2, .ag [.any]]) (fun r => .one (sI r.1)) (fun r => (CuP a r.2.1 r.2.2 6) ∧ r = cutofF code a s cs) := by
  have h : ∃ r : Int × Int × Int, (CuN a s r.2.1 r.2.2 6) ∧ FnC Tryd.prog 61 [aCur code a s, .ag [sChs cs]] [aCur code r.2.1 r.2.2, .ag [.any]] (.one (sI r.1)) := by
    obtain ⟨r, h2, h3⟩ := cutof_ex code a s cs hl (hc.1.b (by decide)) (by omega) hc.2.1 hc.2.2
    exact ⟨r, h2, h3⟩
  have h' := chz_ok (d := (0, a, s)) h
  exact FnC.rel (r := cutofF code a s cs) h'.2 ⟨h'.1.p, rfl⟩
noncomputable def spanF (code : List UInt8) (a s : Int) (cs : List (List UInt8)) : (Int × Int) × Int × Int := chz ((0, 0), a, s) fun r => (CuN a s r.2.1 r.2.2 13) ∧ FnC Tryd.prog 69 [aCur code a s, .ag [sChs cs]] [aCur code r.2.1 r.2.2, .ag [.any]] (.tu [(false, [sI r.1.1]), (false, [sI r.1.2])])
theorem span_f (code : List UInt8) (a s : Int) (cs : List (List UInt8)) (hl : code.length ≤ 16777216) (hc : CuR a s 13 ∧ cs.length ≤ 16777216 ∧ ∀ d ∈ cs, d.length ≤ 16777216) : FnR Tryd.prog 69 [aCur code a s, .ag [sChs cs]] (fun r : (Int × Int) × Int × Int => [aCur code r.2.1 r.2.2, .ag [.any]]) (fun r => .tu [(false, [sI r.1.1]), (false, [sI r.1.2])]) (fun r => (CuP a r.2.1 r.2.2 13) ∧ r = spanF code a s cs) := by
  have h : ∃ r : (Int × Int) × Int × Int, (CuN a s r.2.1 r.2.2 13) ∧ FnC Tryd.prog 69 [aCur code a s, .ag [sChs cs]] [aCur code r.2.1 r.2.2, .ag [.any]] (.tu [(false, [sI r.1.1]), (false, [sI r.1.2])]) := by
    obtain ⟨r, h2, h3⟩ := span_ex code a s cs hl (hc.1.b (by decide)) (by omega) hc.2.1 hc.2.2
    exact ⟨r, h2, h3⟩
  have h' := chz_ok (d := ((0, 0), a, s)) h
  exact FnC.rel (r := spanF code a s cs) h'.2 ⟨h'.1.p, rfl⟩
end Go.LX

set_option linter.unusedVariables false
set_option linter.unusedSimpArgs false
namespace Go.LX
open Go.Proofs
attribute [local irreducible] W WO OpW RW EndQ
/-- Chunks that are drawn. -/
noncomputable def chunksL (code : List UInt8) : Nat → Int → Int → List (List UInt8) → List (List UInt8) × Int × Int
  | 0, a, s, l => (l, a, s)
  | k + 1, a, s, l => chunksL code k (textF code a s 12).2.1 (textF code a s 12).2.2 (if 0 < ((textF code a s 12).1.length : Int) then l ++ [(textF code a s 12).1] else l)
noncomputable def chunksF (code : List UInt8) (a s n : Int) : List (List UInt8) × Int × Int := chunksL code (sizeF code a s n).1.toNat (sizeF code a s n).2.1 (sizeF code a s n).2.2 []
set_option maxHeartbeats 4000000 in
set_option maxRecDepth 20000 in
theorem chunks_f (code : List UInt8) (a s n : Int) (hl : code.length ≤ 16777216) (hc : CuR a s (1 + 37 * n) ∧ 1 ≤ n ∧ n ≤ 100) : FnR Tryd.prog 103 [aCur code a s, aI n] (fun r : List (List UInt8) × Int × Int => [aCur code r.2.1 r.2.2, aX]) (fun r => .one (oChs r.1)) (fun r => (((r.1.length : Int) ≤ n ∧ ∀ d ∈ r.1, d.length ≤ 12) ∧ CuP a r.2.1 r.2.2 (1 + 37 * n)) ∧ r = chunksF code a s n) := by
  obtain ⟨hc, hn⟩ := hc
  refine FnR_of (fn := Tryd.f103) Tryd.func103 rfl rfl rfl ?_
  have zQ1 := fun {z0} {z1} {z2} zh => size_f code z0 z1 z2 hl zh
  refine stp ?_ ?_ ?_ ?_ ?_ ?_ ?_ ?_ ?_ ?_ ?_ ?_ ?_ ?_ ?_ ?_ <;> (first | exact Mk.mk | exact trivial | (intros))
  rename_i r hr
  obtain ⟨hr, hrf⟩ := hr
  have hF : chunksF code a s n = chunksL code r.1.toNat r.2.1 r.2.2 [] := by rw [chunksF, ← hrf]
  rw [hF]
  clear hF hrf
  refine W.weak (Wk_deep (q := 9000) rfl (.inr rfl)) ?_
  refine W_loopT (fun q : Int × Int × Int × List (List UInt8) => St.tmpl 27 [(0, .one (.rf 0 (.pb 0))), (5, .one (.rf 9000 .ar)), (6, .one (.d (.i .i64) q.1))] [(0, .cells [.d (.sl .u8) code, .d (.i .i64) q.2.1, .d (.i .i64) q.2.2.1]), (9000, .rows 78 TCh true q.2.2.2)])
    (fun q => (0 ≤ q.1 ∧ (q.2.2.2.length : Int) + q.1 ≤ n) ∧ (a ≤ q.2.1 ∧ q.2.1 ≤ a + 1 + 37 * (n - q.1) ∧ 0 ≤ q.2.2.1 ∧ q.2.2.1 ≤ 65521) ∧ (∀ d ∈ q.2.2.2, d.length ≤ 12) ∧ chunksL code q.1.toNat q.2.1 q.2.2.1 q.2.2.2 = chunksL code r.1.toNat r.2.1 r.2.2 []) (fun q => q.1.toNat) (r.1, r.2.1, r.2.2, []) ?_ ?_ ?_
  · simp only [List.length_nil]
    exact ⟨by omega, by omega, by simp, trivial⟩
  · exact Wk_tmpl [] ⟨rfl, rfl, rfl, trivial⟩ ⟨rfl, rfl, trivial⟩ rfl rfl
  · rintro ⟨k, a1, s1, l⟩ ⟨j1, j2, j3, j4⟩
    simp only at j1 j2 j3 j4 ⊢
    have zQ1 := fun {z0} {z1} {z2} zh => text_f code z0 z1 z2 hl zh
    refine stp ?_ ?_ ?_ ?_ ?_ ?_ ?_ ?_ ?_ ?_ ?_ ?_ ?_ ?_ ?_ ?_ <;> (first | exact Mk.mk | exact trivial | (intros))
    · show l.length + 1 ≤ maxLen
      unfold maxLen; omega
    · rename_i r2 h2 q1 q2
      have q1 := of_decide_eq_true q1
      obtain ⟨⟨h3, h4⟩, h5⟩ := h2
      have h6 := Int.ofNat_le.1 h3
      refine ⟨(k - 1, r2.2.1, r2.2.2, l ++ [r2.1]), by simp only; omega, ⟨by simp only [List.length_append, List.length_cons, List.length_nil]; omega, by simp only; omega, ?_, ?_⟩, Wk_tmpl [(9000, 26000)] ⟨rfl, rfl, rfl, trivial⟩ ⟨rfl, rfl, trivial⟩ rfl rfl⟩
      · simp only [List.mem_append, List.mem_singleton]
        rintro d (hd | rfl)
        · exact j3 d hd
        · exact h6
      · rw [← j4]
        obtain ⟨m, hm⟩ : ∃ m, k.toNat = m + 1 := ⟨k.toNat - 1, by omega⟩
        rw [hm, chunksL, ← h5, if_pos (of_decide_eq_true q2), show (k - 1).toNat = m by omega]
    · rename_i r2 h2 q1 q2
      have q1 := of_decide_eq_true q1
      obtain ⟨⟨h3, h4⟩, h5⟩ := h2
      refine ⟨(k - 1, r2.2.1, r2.2.2, l), by simp only; omega, ⟨by simp only; omega, by simp only; omega, j3, ?_⟩, Wk_tmpl [] ⟨rfl, rfl, rfl, trivial⟩ ⟨rfl, rfl, trivial⟩ rfl rfl⟩
      rw [← j4]
      obtain ⟨m, hm⟩ : ∃ m, k.toNat = m + 1 := ⟨k.toNat - 1, by omega⟩
      rw [hm, chunksL, ← h5, if_neg (of_decide_eq_false q2), show (k - 1).toNat = m by omega]
    · rename_i q1
      have q1 := of_decide_eq_false q1
      refine endR (l, a1, s1) ?_ ⟨⟨⟨by simp only; omega, j3⟩, by simp only; omega, by simp only; omega⟩, ?_⟩
      · skip
        refine stp ?_ ?_ ?_ ?_ ?_ ?_ ?_ ?_ ?_ ?_ ?_ ?_ ?_ ?_ ?_ ?_ <;> (first | exact Mk.mk | exact trivial | (repeat intro hq))
      · rw [← j4, show k.toNat = 0 by omega, chunksL]
/-- Chunks of sixteen letters, more and more. -/
noncomputable def badL (code : List UInt8) : Nat → Int → Int → Int → List (List UInt8) → List (List UInt8) × Int × Int
  | 0, _, a, s, l => (l, a, s)
  | f + 1, k, a, s, l => if k < 25 + (pickF code a s 2).1 then badL code f (k + 1) (pickF code a s 2).2.1 (pickF code a s 2).2.2 (l ++ [List.replicate 16 97]) else (l, (pickF code a s 2).2)
noncomputable def badchunksF (code : List UInt8) (a s n : Int) : List (List UInt8) × Int × Int :=
  if (pickF code (chunksF code a s n).2.1 (chunksF code a s n).2.2 9).1 = 0 then ((chunksF code a s n).1 ++ [(badtextF code (pickF code (chunksF code a s n).2.1 (chunksF code a s n).2.2 9).2.1 (pickF code (chunksF code a s n).2.1 (chunksF code a s n).2.2 9).2.2 30).1], (badtextF code (pickF code (chunksF code a s n).2.1 (chunksF code a s n).2.2 9).2.1 (pickF code (chunksF code a s n).2.1 (chunksF code a s n).2.2 9).2.2 30).2)
  else if (pickF code (chunksF code a s n).2.1 (chunksF code a s n).2.2 9).1 = 1 then badL code 28 0 (pickF code (chunksF code a s n).2.1 (chunksF code a s n).2.2 9).2.1 (pickF code (chunksF code a s n).2.1 (chunksF code a s n).2.2 9).2.2 (chunksF code a s n).1
  else if (pickF code (chunksF code a s n).2.1 (chunksF code a s n).2.2 9).1 = 2 then ((chunksF code a s n).1 ++ [[]], (pickF code (chunksF code a s n).2.1 (chunksF code a s n).2.2 9).2)
  else ((chunksF code a s n).1, (pickF code (chunksF code a s n).2.1 (chunksF code a s n).2.2 9).2)
set_option maxHeartbeats 4000000 in
set_option maxRecDepth 20000 in
theorem badchunks_f (code : List UInt8) (a s n : Int) (hl : code.length ≤ 16777216) (hc : CuR a s (100 + 37 * n) ∧ 1 ≤ n ∧ n ≤ 100) : FnR Tryd.prog 106 [aCur code a s, aI n] (fun r : List (List UInt8) × Int × Int => [aCur code r.2.1 r.2.2, aX]) (fun r => .one (.own 78 TCh false r.1)) (fun r => (((r.1.length : Int) ≤ n + 30 ∧ ∀ d ∈ r.1, d.length ≤ 1001) ∧ CuP a r.2.1 r.2.2 (100 + 37 * n)) ∧ r = badchunksF code a s n) := by
  obtain ⟨hc, hn⟩ := hc
  refine FnR_of (fn := Tryd.f106) Tryd.func106 rfl rfl rfl ?_
  have zQ1 := fun {z0} {z1} {z2} zh => chunks_f code z0 z1 z2 hl zh
  have zQ2 := fun {z0} {z1} {z2} zh => pick_f code z0 z1 z2 hl zh
  have zQ3 := fun {z0} {z1} {z2} zh => badtext_f code z0 z1 z2 hl zh
  refine stp ?_ ?_ ?_ ?_ ?_ ?_ ?_ ?_ ?_ ?_ ?_ ?_ ?_ ?_ ?_ ?_ <;> (first | exact Mk.mk | exact trivial | (intros))
  · rename_i r1 r2 r3 h1 h2 h3 q1
    have := h1.1.1.1
    show r1.1.length + 1 ≤ maxLen
    unfold maxLen; omega
  · rename_i r1 r2 r3 h1 h2 h3 q1
    obtain ⟨⟨⟨h11, h12⟩, h13⟩, h14⟩ := h1
    obtain ⟨⟨h21, h22⟩, h23⟩ := h2
    obtain ⟨⟨h31, h32⟩, h33⟩ := h3
    refine endR (r1.1 ++ [r3.1], r3.2) ?_ ?_
    · refine EndQ_weak (Wk_shallow (o := 20000) rfl) ?_
      refine stp ?_ ?_ ?_ ?_ ?_ ?_ ?_ ?_ ?_ ?_ ?_ ?_ ?_ ?_ ?_ ?_ <;> (first | exact Mk.mk | exact trivial | (repeat intro hq))
    refine ⟨⟨⟨by simp only [List.length_append, List.length_cons, List.length_nil]; omega, ?_⟩, by simp only; omega, by simp only; omega⟩, ?_⟩
    · simp only [List.mem_append, List.mem_singleton]
      rintro d (hd | rfl)
      · exact Nat.le_trans (h12 d hd) (by decide)
      · exact h31
    · rw [badchunksF, ← h14, ← h23, if_pos (of_decide_eq_true q1), ← h33]
  · rename_i r1 r2 h1 h2 q0 q1
    obtain ⟨⟨⟨h11, h12⟩, h13⟩, h14⟩ := h1
    obtain ⟨⟨h21, h22⟩, h23⟩ := h2
    have hF : badchunksF code a s n = badL code 28 0 r2.2.1 r2.2.2 r1.1 := by
      have e0 := of_decide_eq_false q0
      have e1 := of_decide_eq_true q1
      rw [badchunksF, ← h14, ← h23, if_neg e0, if_pos e1]
    rw [hF]
    refine W.weak (Wk_shallow (o := 10000) rfl) ?_
    refine W_loopT (fun q : Nat × Int × Int × List (List UInt8) => St.tmpl 42 [(0, .one (.rf 0 (.pb 0))), (5, .one (.rf 10000 .ar)), (6, .one (.d (.i .i64) (q.1 : Int)))] [(0, .cells [.d (.sl .u8) code, .d (.i .i64) q.2.1, .d (.i .i64) q.2.2.1]), (10000, .rows 78 TCh false q.2.2.2)])
      (fun q => (q.1 ≤ 27 ∧ (q.2.2.2.length : Int) = r1.1.length + q.1) ∧ (a ≤ q.2.1 ∧ q.2.1 ≤ a + 2 + 37 * n + q.1 ∧ 0 ≤ q.2.2.1 ∧ q.2.2.1 ≤ 65521) ∧ (∀ d ∈ q.2.2.2, d.length ≤ 1001) ∧ badL code (28 - q.1) q.1 q.2.1 q.2.2.1 q.2.2.2 = badL code 28 0 r2.2.1 r2.2.2 r1.1) (fun q => 28 - q.1) (0, r2.2.1, r2.2.2, r1.1) ?_ ?_ ?_
    · exact ⟨⟨by simp only; omega, by simp only; omega⟩, by simp only; omega, fun d hd => Nat.le_trans (h12 d hd) (by decide), rfl⟩
    · exact Wk_tmpl [] ⟨rfl, rfl, rfl, trivial⟩ ⟨rfl, rfl, trivial⟩ rfl rfl
    · rintro ⟨k, a1, s1, l⟩ ⟨j1, j2, j3, j4⟩
      simp only at j1 j2 j3 j4 ⊢
      have zQ1 := fun {z0} {z1} {z2} zh => pick_f code z0 z1 z2 hl zh
      refine stpF ?_ ?_ ?_ ?_ ?_ ?_ ?_ ?_ ?_ ?_ ?_ ?_ ?_ ?_ ?_ ?_ <;> (first | exact Mk.mk | exact trivial | (intros))
      · rename_i r3 h3 q3
        obtain ⟨⟨h31, h32⟩, h33⟩ := h3
        refine OpW_weak (Wk_freeze (o := 34000) rfl) ?_
        refine stp ?_ ?_ ?_ ?_ ?_ ?_ ?_ ?_ ?_ ?_ ?_ ?_ ?_ ?_ ?_ ?_ <;> (first | exact Mk.mk | exact trivial | (repeat intro hq))
        · show (l.length + 1) * 24 ≤ _
          omega
        · show l.length + 1 ≤ maxLen
          unfold maxLen; omega
        · have q3 := of_decide_eq_true q3
          refine ⟨(k + 1, r3.2.1, r3.2.2, l ++ [List.replicate 16 97]), by simp only; omega, ⟨⟨by simp only; omega, by simp only [List.length_append, List.length_cons, List.length_nil]; omega⟩, by simp only; omega, ?_, ?_⟩, Wk_tmpl [(10000, 35000)] ⟨rfl, rfl, rfl, trivial⟩ ⟨rfl, rfl, trivial⟩ rfl rfl⟩
          · simp only [List.mem_append, List.mem_singleton]
            rintro d (hd | rfl)
            · exact j3 d hd
            · simp
          · rw [← j4, show 28 - k = (27 - k) + 1 by omega, badL, ← h33, if_pos q3]
            show badL code (28 - (k + 1)) ((k + 1 : Nat) : Int) r3.2.1 r3.2.2 (l ++ [List.replicate 16 97]) = _
            rw [show 28 - (k + 1) = 27 - k by omega]
            rfl
      · rename_i r3 h3 q3
        obtain ⟨⟨h31, h32⟩, h33⟩ := h3
        have q3 := of_decide_eq_false q3
        refine endR (l, r3.2) ?_ ⟨⟨⟨by simp only; omega, j3⟩, by simp only; omega, by simp only; omega⟩, ?_⟩
        · skip
          refine stp ?_ ?_ ?_ ?_ ?_ ?_ ?_ ?_ ?_ ?_ ?_ ?_ ?_ ?_ ?_ ?_ <;> (first | exact Mk.mk | exact trivial | (repeat intro hq))
        · rw [← j4, show 28 - k = (27 - k) + 1 by omega, badL, ← h33, if_neg q3]
  · rename_i r1 r2 h1 h2 q0 q1 q2
    obtain ⟨⟨⟨h11, h12⟩, h13⟩, h14⟩ := h1
    obtain ⟨⟨h21, h22⟩, h23⟩ := h2
    refine OpW_weak (Wk_shallow (o := 10000) rfl) ?_
    refine OpW_weak (Wk_freeze (o := 40000) rfl) ?_
    refine stp ?_ ?_ ?_ ?_ ?_ ?_ ?_ ?_ ?_ ?_ ?_ ?_ ?_ ?_ ?_ ?_ <;> (first | exact Mk.mk | exact trivial | (repeat intro hq))
    · show (r1.1.length + 1) * 24 ≤ _
      omega
    · show r1.1.length + 1 ≤ maxLen
      unfold maxLen; omega
    · refine endR (r1.1 ++ [[]], r2.2) ?_ ?_
      · skip
        refine stp ?_ ?_ ?_ ?_ ?_ ?_ ?_ ?_ ?_ ?_ ?_ ?_ ?_ ?_ ?_ ?_ <;> (first | exact Mk.mk | exact trivial | (repeat intro hq))
      refine ⟨⟨⟨by simp only [List.length_append, List.length_cons, List.length_nil]; omega, ?_⟩, by simp only; omega, by simp only; omega⟩, ?_⟩
      · simp only [List.mem_append, List.mem_singleton]
        rintro d (hd | rfl)
        · exact Nat.le_trans (h12 d hd) (by decide)
        · simp
      · rw [badchunksF, ← h14, ← h23, if_neg (of_decide_eq_false q0), if_neg (of_decide_eq_false q1), if_pos (of_decide_eq_true q2)]
  · rename_i r1 r2 h1 h2 q0 q1 q2
    obtain ⟨⟨⟨h11, h12⟩, h13⟩, h14⟩ := h1
    obtain ⟨⟨h21, h22⟩, h23⟩ := h2
    refine endR (r1.1, r2.2) ?_ ?_
    · refine EndQ_weak (Wk_shallow (o := 10000) rfl) ?_
      refine stp ?_ ?_ ?_ ?_ ?_ ?_ ?_ ?_ ?_ ?_ ?_ ?_ ?_ ?_ ?_ ?_ <;> (first | exact Mk.mk | exact trivial | (repeat intro hq))
    refine ⟨⟨⟨by simp only; omega, fun d hd => Nat.le_trans (h12 d hd) (by decide)⟩, by simp only; omega, by simp only; omega⟩, ?_⟩
    rw [badchunksF, ← h14, ← h23, if_neg (of_decide_eq_false q0), if_neg (of_decide_eq_false q1), if_neg (of_decide_eq_false q2)]
/-- A rope that is drawn. -/
noncomputable def rope1F (code : List UInt8) (a s : Int) : List (List UInt8) × Int × Int :=
  if (onceF code (chunksF code a s 6).2.1 (chunksF code a s 6).2.2 3).1 = true then (chunksM (textF code (onceF code (chunksF code a s 6).2.1 (chunksF code a s 6).2.2 3).2.1 (onceF code (chunksF code a s 6).2.1 (chunksF code a s 6).2.2 3).2.2 60).1, (textF code (onceF code (chunksF code a s 6).2.1 (chunksF code a s 6).2.2 3).2.1 (onceF code (chunksF code a s 6).2.1 (chunksF code a s 6).2.2 3).2.2 60).2)
  else ((chunksF code a s 6).1, (onceF code (chunksF code a s 6).2.1 (chunksF code a s 6).2.2 3).2)
noncomputable def ropeF (code : List UInt8) (a s : Int) : List (List UInt8) × Int × Int :=
  if (onceF code (rope1F code a s).2.1 (rope1F code a s).2.2 12).1 = true then badchunksF code (onceF code (rope1F code a s).2.1 (rope1F code a s).2.2 12).2.1 (onceF code (rope1F code a s).2.1 (rope1F code a s).2.2 12).2.2 6
  else ((rope1F code a s).1, (onceF code (rope1F code a s).2.1 (rope1F code a s).2.2 12).2)
set_option maxHeartbeats 4000000 in
set_option maxRecDepth 20000 in
theorem rope_f (code : List UInt8) (a s : Int) (hl : code.length ≤ 16777216) (hc : CuR a s 800) : FnR Tryd.prog 60 [aCur code a s] (fun r : List (List UInt8) × Int × Int => [aCur code r.2.1 r.2.2]) (fun r => .ag [.own 78 TCh false r.1]) (fun r => ((r.1.length ≤ 100 ∧ ∀ d ∈ r.1, d.length ≤ 1001) ∧ CuP a r.2.1 r.2.2 800) ∧ r = ropeF code a s) := by
  have hro := fun (t : List UInt8) (h : t.length ≤ 16777216) => ropeof_ok t h
  refine FnR_of (fn := Tryd.f60) Tryd.func60 rfl rfl rfl ?_
  have zQ1 := fun {z0} {z1} {z2} zh => chunks_f code z0 z1 z2 hl zh
  have zQ2 := fun {z0} {z1} {z2} zh => once_f code z0 z1 z2 hl zh
  have zQ3 := fun {z0} {z1} {z2} zh => text_f code z0 z1 z2 hl zh
  have zE1 := fun {z0} zh => hro z0 zh
  have zQ4 := fun {z0} {z1} {z2} zh => badchunks_f code z0 z1 z2 hl zh
  refine stp ?_ ?_ ?_ ?_ ?_ ?_ ?_ ?_ ?_ ?_ ?_ ?_ ?_ ?_ ?_ ?_ <;> (first | exact Mk.mk | exact trivial | (intros))
  · rename_i r1 r2 r3 r4 r5 h1 h2 h3 h4 h5 q1 q2
    obtain ⟨⟨⟨h11, h12⟩, h13⟩, h14⟩ := h1
    obtain ⟨⟨h31, h32⟩, h33⟩ := h3
    obtain ⟨⟨⟨h51, h52⟩, h53⟩, h54⟩ := h5
    have e : rope1F code a s = (chunksM r3.1, r3.2) := by rw [rope1F, ← h14, ← h2.2, if_pos q1, ← h33]
    refine endR r5 ?_ ⟨⟨⟨by omega, h52⟩, by omega, by omega⟩, ?_⟩
    · skip
      refine stp ?_ ?_ ?_ ?_ ?_ ?_ ?_ ?_ ?_ ?_ ?_ ?_ ?_ ?_ ?_ ?_ <;> (first | exact Mk.mk | exact trivial | (repeat intro hq))
    · simp only [ropeF, e]
      rw [← h4.2, if_pos q2, ← h54]
  · rename_i r1 r2 r3 r4 h1 h2 h3 h4 q1 q2
    obtain ⟨⟨⟨h11, h12⟩, h13⟩, h14⟩ := h1
    obtain ⟨⟨h31, h32⟩, h33⟩ := h3
    have h31' : r3.1.length ≤ 60 := Int.ofNat_le.1 h31
    have l1 := chunksM_len (xs := r3.1)
    have e : rope1F code a s = (chunksM r3.1, r3.2) := by rw [rope1F, ← h14, ← h2.2, if_pos q1, ← h33]
    refine endR (chunksM r3.1, r4.2) ?_ ⟨⟨⟨by simp only; omega, fun d hd => Nat.le_trans (chunksM_mem d hd) (by omega)⟩, by simp only; omega, by simp only; omega⟩, ?_⟩
    · refine EndQ_weak (Wk_shallow (o := 13000) rfl) ?_
      refine stp ?_ ?_ ?_ ?_ ?_ ?_ ?_ ?_ ?_ ?_ ?_ ?_ ?_ ?_ ?_ ?_ <;> (first | exact Mk.mk | exact trivial | (repeat intro hq))
    · simp only [ropeF, e]
      rw [← h4.2, if_neg (by rw [q2]; simp)]
  · rename_i r1 r2 r4 r5 h1 h2 h4 h5 q1 q2
    obtain ⟨⟨⟨h11, h12⟩, h13⟩, h14⟩ := h1
    obtain ⟨⟨⟨h51, h52⟩, h53⟩, h54⟩ := h5
    have e : rope1F code a s = (r1.1, r2.2) := by rw [rope1F, ← h14, ← h2.2, if_neg (by rw [q1]; simp)]
    refine endR r5 ?_ ⟨⟨⟨by omega, h52⟩, by omega, by omega⟩, ?_⟩
    · skip
      refine stp ?_ ?_ ?_ ?_ ?_ ?_ ?_ ?_ ?_ ?_ ?_ ?_ ?_ ?_ ?_ ?_ <;> (first | exact Mk.mk | exact trivial | (repeat intro hq))
    · simp only [ropeF, e]
      rw [← h4.2, if_pos q2, ← h54]
  · rename_i r1 r2 r4 h1 h2 h4 q1 q2
    obtain ⟨⟨⟨h11, h12⟩, h13⟩, h14⟩ := h1
    have e : rope1F code a s = (r1.1, r2.2) := by rw [rope1F, ← h14, ← h2.2, if_neg (by rw [q1]; simp)]
    refine endR (r1.1, r4.2) ?_ ⟨⟨⟨by simp only; omega, fun d hd => Nat.le_trans (h12 d hd) (by decide)⟩, by simp only; omega, by simp only; omega⟩, ?_⟩
    · refine EndQ_weak (Wk_shallow (o := 6000) rfl) ?_
      refine stp ?_ ?_ ?_ ?_ ?_ ?_ ?_ ?_ ?_ ?_ ?_ ?_ ?_ ?_ ?_ ?_ <;> (first | exact Mk.mk | exact trivial | (repeat intro hq))
    · simp only [ropeF, e]
      rw [← h4.2, if_neg (by rw [q2]; simp)]
end Go.LX

