/- A part of the proof of the statement in the row text. -/
import Derived.Test.YtojaiockbpcilaaDoorLzX2
import Derived.Test.YtojaiockbpcilaaDoorLzE8
import Derived.Test.YtojaiockbpcilaaDoorLxDat
set_option linter.unusedVariables false
set_option linter.unusedSimpArgs false
namespace Go.LX
open Go.Proofs
attribute [local irreducible] W WO OpW RW EndQ
/-- A cursor with room for so many draws; what a draw does to it. -/
abbrev CuR (a s k : Int) : Prop := (0 ≤ a ∧ a + k ≤ 500000000) ∧ 0 ≤ s ∧ s ≤ 65521
abbrev CuP (a a' s' k : Int) : Prop := (a ≤ a' ∧ a' ≤ a + k) ∧ 0 ≤ s' ∧ s' ≤ 65521
theorem CuR.b {a s k : Int} (h : CuR a s k) (hk : 0 ≤ k) : CuB a s := ⟨by omega, by omega, by omega, by omega⟩
theorem CuN.p {a s a' s' k : Int} (h : CuN a s a' s' k) : CuP a a' s' k := ⟨⟨h.a0, h.a1⟩, h.s0, h.s1⟩
theorem endR {R : Type} {φ E : R → Prop} (r : R) (hE : E r) (hφ : φ r) : ∃ r, φ r ∧ E r := ⟨r, hφ, hE⟩
theorem pick_r (code : List UInt8) (a s n : Int) (hl : code.length ≤ 16777216) (hc : CuR a s 1) : FnR Tryd.prog 49 [aCur code a s, aI n] (fun r : Int × Int × Int => [aCur code r.2.1 r.2.2, aX]) (fun r => .one (sI r.1)) (fun r => (0 ≤ r.1 ∧ (2 ≤ n → r.1 < n) ∧ (n < 2 → r.1 = 0)) ∧ CuP a r.2.1 r.2.2 1) := by
  obtain ⟨r, h1, h2, h3⟩ := pick_ex code a s n hl (hc.b (by decide))
  exact FnC.rel (r := r) h3 ⟨h1, h2.p⟩
theorem size_r (code : List UInt8) (a s n : Int) (hl : code.length ≤ 16777216) (hc : CuR a s 1 ∧ 1 ≤ n ∧ n ≤ 100000) : FnR Tryd.prog 83 [aCur code a s, aI n] (fun r : Int × Int × Int => [aCur code r.2.1 r.2.2, aX]) (fun r => .one (sI r.1)) (fun r => (0 ≤ r.1 ∧ r.1 ≤ n) ∧ CuP a r.2.1 r.2.2 1) := by
  obtain ⟨r, h1, h2, h3⟩ := size_ex code a s n hl (hc.1.b (by decide)) hc.2
  exact FnC.rel (r := r) h3 ⟨h1, h2.p⟩
theorem once_r (code : List UInt8) (a s n : Int) (hl : code.length ≤ 16777216) (hc : CuR a s 1 ∧ 1 ≤ n ∧ n ≤ 100000) : FnR Tryd.prog 58 [aCur code a s, aI n] (fun r : Bool × Int × Int => [aCur code r.2.1 r.2.2, aX]) (fun r => .one (sB r.1)) (fun r => CuP a r.2.1 r.2.2 1) := by
  obtain ⟨r, h2, h3⟩ := once_ex code a s n hl (hc.1.b (by decide)) hc.2
  exact FnC.rel (r := r) h3 h2.p
theorem raw_r (code : List UInt8) (a s : Int) (hl : code.length ≤ 16777216) (hc : CuR a s 2) : FnR Tryd.prog 50 [aCur code a s] (fun r : Int × Int × Int => [aCur code r.2.1 r.2.2]) (fun r => .one (sI r.1)) (fun r => CuP a r.2.1 r.2.2 2) := by
  obtain ⟨r, h2, h3⟩ := raw_ex code a s hl (hc.b (by decide)) (by omega)
  exact FnC.rel (r := r) h3 h2.p
theorem text_r (code : List UInt8) (a s n : Int) (hl : code.length ≤ 16777216) (hc : CuR a s (1 + 3 * n) ∧ 1 ≤ n ∧ n ≤ 1000) : FnR Tryd.prog 47 [aCur code a s, aI n] (fun r : List UInt8 × Int × Int => [aCur code r.2.1 r.2.2, aX]) (fun r => .one (oBy r.1)) (fun r => (r.1.length : Int) ≤ n ∧ CuP a r.2.1 r.2.2 (1 + 3 * n)) := by
  obtain ⟨r, h1, h2, h3⟩ := text_ex code a s n hl (hc.1.b (by omega)) (by omega) hc.2
  exact FnC.rel (r := r) h3 ⟨h1, h2.p⟩
theorem badtext_r (code : List UInt8) (a s n : Int) (hl : code.length ≤ 16777216) (hc : CuR a s (5 + 3 * n) ∧ 1 ≤ n ∧ n ≤ 1000) : FnR Tryd.prog 59 [aCur code a s, aI n] (fun r : List UInt8 × Int × Int => [aCur code r.2.1 r.2.2, aX]) (fun r => .one (oBy r.1)) (fun r => (r.1.length : Int) ≤ 1001 ∧ CuP a r.2.1 r.2.2 (5 + 3 * n)) := by
  obtain ⟨r, h1, h2, h3⟩ := badtext_ex code a s n hl (hc.1.b (by omega)) (by omega) hc.2
  exact FnC.rel (r := r) h3 ⟨by omega, h2.p⟩
theorem place_r (code : List UInt8) (a s n : Int) (hl : code.length ≤ 16777216) (hc : CuR a s 5 ∧ 0 ≤ n ∧ n ≤ 100000) : FnR Tryd.prog 108 [aCur code a s, aI n] (fun r : Int × Int × Int => [aCur code r.2.1 r.2.2, aX]) (fun r => .one (sI r.1)) (fun r => CuP a r.2.1 r.2.2 5) := by
  obtain ⟨r, h2, h3⟩ := place_ex code a s n hl (hc.1.b (by decide)) (by omega) hc.2
  exact FnC.rel (r := r) h3 h2.p
theorem edit_r (code : List UInt8) (a s : Int) (t : List UInt8) (hl : code.length ≤ 16777216) (hc : CuR a s 50 ∧ t.length ≤ 16777200) : FnR Tryd.prog 48 [aCur code a s, aBy t] (fun r : Ed × Int × Int => [aCur code r.2.1 r.2.2, aX]) (fun r => .ag [sI r.1.1, sI r.1.2.1, oBy r.1.2.2]) (fun r => r.1.2.2.length ≤ 6 ∧ CuP a r.2.1 r.2.2 50) := by
  obtain ⟨r, h1, h2, h3⟩ := edit_ex code a s t hl (hc.1.b (by decide)) (by omega) hc.2
  exact FnC.rel (r := r) h3 ⟨h1, h2.p⟩
theorem badedit_r (code : List UInt8) (a s : Int) (t : List UInt8) (hl : code.length ≤ 16777216) (hc : CuR a s 100 ∧ t.length ≤ 400) : FnR Tryd.prog 55 [aCur code a s, aBy t] (fun r : Ed × Int × Int => [aCur code r.2.1 r.2.2, aX]) (fun r => .ag [sI r.1.1, sI r.1.2.1, oBy r.1.2.2]) (fun r => r.1.2.2.length ≤ 1001 ∧ CuP a r.2.1 r.2.2 100) := by
  obtain ⟨r, h1, h2, h3⟩ := badedit_ex code a s t hl (hc.1.b (by decide)) (by omega) hc.2
  exact FnC.rel (r := r) h3 ⟨h1, h2.p⟩
end Go.LX

set_option linter.unusedVariables false
set_option linter.unusedSimpArgs false
namespace Go.LX
open Go.Proofs
attribute [local irreducible] W WO OpW RW EndQ
theorem doR_len {t : List UInt8} {e : Ed} (hl : t.length ≤ 16777216) : (doR t e).length ≤ 400 := by
  unfold doR
  split
  · rename_i h
    exact tokM_len (tok_do hl h)
  · simp
set_option maxHeartbeats 4000000 in
set_option maxRecDepth 20000 in
theorem edits_r (code : List UInt8) (a s n : Int) (t : List UInt8) (hl : code.length ≤ 16777216) (hc : CuR a s (1 + 50 * n) ∧ t.length ≤ 16777200 ∧ 1 ≤ n ∧ n ≤ 100) : FnR Tryd.prog 68 [aCur code a s, aBy t, aI n] (fun r : List Ed × Int × Int => [aCur code r.2.1 r.2.2, aX, aX]) (fun r => .one (oEs r.1)) (fun r => ((r.1.length : Int) ≤ n ∧ ∀ e ∈ r.1, e.2.2.length ≤ 6) ∧ CuP a r.2.1 r.2.2 (1 + 50 * n)) := by
  obtain ⟨hc, ht, hn⟩ := hc
  refine FnR_of (fn := Tryd.f68) Tryd.func68 rfl rfl rfl ?_
  have zQ1 := fun {z0} {z1} {z2} zh => size_r code z0 z1 z2 hl zh
  refine stp ?_ ?_ ?_ ?_ ?_ ?_ ?_ ?_ ?_ ?_ <;> (first | exact Mk.mk | exact trivial | (intros))
  rename_i r hr
  refine W.weak (Wk_deep (q := 13000) rfl (.inr rfl)) ?_
  refine W_loopT (fun q : Int × Int × Int × List UInt8 × List Ed => St.tmpl 36 [(0, .one (.rf 0 (.pb 0))), (1, .one (.d (.sl .u8) q.2.2.2.1)), (7, .one (.rf 7000 .ar)), (8, .one (.d (.i .i64) q.1))] [(0, .cells [.d (.sl .u8) code, .d (.i .i64) q.2.1, .d (.i .i64) q.2.2.1]), (7000, .rows 25 TEd true q.2.2.2.2)])
    (fun q => (0 ≤ q.1 ∧ (q.2.2.2.2.length : Int) + q.1 ≤ n) ∧ q.2.2.2.1.length ≤ 16777200 ∧ (a ≤ q.2.1 ∧ q.2.1 ≤ a + 1 + 50 * (n - q.1) ∧ 0 ≤ q.2.2.1 ∧ q.2.2.1 ≤ 65521) ∧ ∀ e ∈ q.2.2.2.2, e.2.2.length ≤ 6) (fun q => q.1.toNat) (r.1, r.2.1, r.2.2, t, []) ?_ ?_ ?_
  · simp only [List.length_nil]
    exact ⟨by omega, ht, by omega, by simp⟩
  · exact Wk_tmpl [(7000, 13000)] ⟨rfl, rfl, rfl, rfl, trivial⟩ ⟨rfl, rfl, trivial⟩ rfl rfl
  · rintro ⟨k, a1, s1, u, l⟩ ⟨j1, j2, j3, j4⟩
    simp only at j1 j2 j3 j4 ⊢
    have hd := fun (e : Ed) (h : e.2.2.length ≤ 6) => sdo_ok u e (by omega) (by omega)
    have zQ1 := fun {z0} {z1} {z2} zh => edit_r code z0 z1 z2 hl zh
    have zE1 := fun {z0} zh => hd z0 zh
    refine stp ?_ ?_ ?_ ?_ ?_ ?_ ?_ ?_ ?_ ?_ <;> (first | exact Mk.mk | exact trivial | (intros))
    · unfold maxLen; simp only [List.length_cons, List.length_nil]; omega
    · rename_i r2 h2 q1 q2
      have q1 := of_decide_eq_true q1
      have h3 := doR_len (t := u) (e := r2.1) (by omega)
      refine ⟨(k - 1, r2.2.1, r2.2.2, doR u r2.1, l ++ [r2.1]), ?_, ⟨?_, ?_, ?_, ?_⟩, (Wk_freeze (o := 27000) rfl).trans ((Wk_slot (t := 1) rfl rfl rfl).trans (Wk_tmpl [(7000, 34000)] ⟨rfl, rfl, rfl, rfl, trivial⟩ ⟨rfl, rfl, trivial⟩ rfl rfl))⟩
      · simp only; omega
      · simp only [List.length_append, List.length_cons, List.length_nil]; omega
      · simp only; omega
      · simp only; omega
      · simp only [List.mem_append, List.mem_singleton]
        rintro e (he | rfl)
        · exact j4 e he
        · exact h2.1
    · rename_i r2 h2 q1 q2
      have q1 := of_decide_eq_true q1
      refine ⟨(k - 1, r2.2.1, r2.2.2, u, l), ?_, ⟨?_, ?_, ?_, ?_⟩, Wk_tmpl [] ⟨rfl, rfl, rfl, rfl, trivial⟩ ⟨rfl, rfl, trivial⟩ rfl rfl⟩
      · simp only; omega
      · simp only; omega
      · exact j2
      · simp only; omega
      · exact j4
    · rename_i q1
      have q1 := of_decide_eq_false q1
      refine endR (l, a1, s1) ?_ ⟨⟨by simp only; omega, j4⟩, by simp only; omega, by simp only; omega⟩
      refine stp ?_ ?_ ?_ ?_ ?_ ?_ ?_ ?_ ?_ ?_ <;> (first | exact Mk.mk | exact trivial | (repeat intro hq))
end Go.LX

set_option linter.unusedVariables false
set_option linter.unusedSimpArgs false
namespace Go.LX
open Go.Proofs
attribute [local irreducible] W WO OpW RW EndQ
set_option maxHeartbeats 4000000 in
set_option maxRecDepth 20000 in
theorem draweds_r (code : List UInt8) (hl : code.length ≤ 16777216) : FnR Tryd.prog 31 [aBy code] (fun _ : List UInt8 × List Ed => [aX]) (fun r => .tu [(false, [sBy r.1]), (false, [oEs r.2])]) (fun r => r.1.length ≤ 1001 ∧ r.2.length ≤ 11 ∧ ∀ e ∈ r.2, e.2.2.length ≤ 1001) := by
  have ho := open_ok code hl
  refine FnR_of (fn := Tryd.f31) Tryd.func31 rfl rfl rfl ?_
  have zX1 := fun (zh : True) => ho
  have zQ1 := fun {z0} {z1} {z2} zh => text_r code z0 z1 z2 hl zh
  refine stpD ?_ ?_ ?_ ?_ ?_ ?_ ?_ ?_ ?_ ?_ <;> (first | exact Mk.mk | exact trivial | (intros))
  rename_i r1 h1
  refine OpW_weak (Wk_freeze (o := 11000) rfl) ?_
  have zQ1 := fun {z0} {z1} {z2} zh => text_r code z0 z1 z2 hl zh
  have zQ2 := fun {z0} {z1} {z2} {z3} zh => edits_r code z0 z1 z2 z3 hl zh
  have zQ3 := fun {z0} {z1} {z2} zh => once_r code z0 z1 z2 hl zh
  have zQ4 := fun {z0} {z1} {z2} zh => badedit_r code z0 z1 z2 hl zh
  have zQ5 := fun {z0} {z1} {z2} zh => edit_r code z0 z1 z2 hl zh
  have zQ6 := fun {z0} {z1} {z2} zh => badtext_r code z0 z1 z2 hl zh
  refine stp ?_ ?_ ?_ ?_ ?_ ?_ ?_ ?_ ?_ ?_ <;> (first | exact Mk.mk | exact trivial | (intros))
  · rename_i r2 r3 r4 r5 h2 h3 h4 h5 q1
    unfold maxLen; simp only [List.length_cons, List.length_nil]; omega
  · rename_i r2 r3 r4 r5 r6 r7 h2 h3 h4 h5 h6 h7 q1 q2
    refine' endR (_, _) ?_ ?_
    rotate_left 2
    · refine EndQ_weak (Wk_freeze (o := 29000) rfl) ?_
      refine stp ?_ ?_ ?_ ?_ ?_ ?_ ?_ ?_ ?_ ?_ <;> (first | exact Mk.mk | exact trivial | (repeat intro hq))
    refine ⟨Nat.le_trans (Int.ofNat_le.1 h7.1) (by decide), by simp only [List.length_append, List.length_cons, List.length_nil]; omega, ?_⟩
    simp only [List.mem_append, List.mem_cons, List.not_mem_nil, or_false]
    rintro e (he | rfl | rfl)
    · have := h2.1.2 e he; omega
    · exact h4.1
    · simp only; omega
  · rename_i r2 r3 r4 r5 r6 h2 h3 h4 h5 h6 q1 q2
    refine' endR (_, _) ?_ ?_
    rotate_left 2
    · skip
      refine stp ?_ ?_ ?_ ?_ ?_ ?_ ?_ ?_ ?_ ?_ <;> (first | exact Mk.mk | exact trivial | (repeat intro hq))
    refine ⟨Nat.le_trans (Int.ofNat_le.1 h1.1) (by decide), by simp only [List.length_append, List.length_cons, List.length_nil]; omega, ?_⟩
    simp only [List.mem_append, List.mem_cons, List.not_mem_nil, or_false]
    rintro e (he | rfl | rfl)
    · have := h2.1.2 e he; omega
    · exact h4.1
    · simp only; omega
  · rename_i r2 r3 r4 r5 h2 h3 h4 h5 q1 q2
    refine' endR (_, _) ?_ ?_
    rotate_left 2
    · refine EndQ_weak (Wk_freeze (o := 29000) rfl) ?_
      refine stp ?_ ?_ ?_ ?_ ?_ ?_ ?_ ?_ ?_ ?_ <;> (first | exact Mk.mk | exact trivial | (repeat intro hq))
    refine ⟨Nat.le_trans (Int.ofNat_le.1 h5.1) (by decide), Nat.le_trans (Int.ofNat_le.1 h2.1.1) (by decide), fun e he => ?_⟩
    have := h2.1.2 e he; omega
  · rename_i r2 r3 r4 h2 h3 h4 q1 q2
    refine' endR (_, _) ?_ ?_
    rotate_left 2
    · skip
      refine stp ?_ ?_ ?_ ?_ ?_ ?_ ?_ ?_ ?_ ?_ <;> (first | exact Mk.mk | exact trivial | (repeat intro hq))
    refine ⟨Nat.le_trans (Int.ofNat_le.1 h1.1) (by decide), Nat.le_trans (Int.ofNat_le.1 h2.1.1) (by decide), fun e he => ?_⟩
    have := h2.1.2 e he; omega
end Go.LX

