/- A part of the proof of the statement in the row text. -/
import Derived.Test.YtkpohcfohnmejaaDoorLzSeat
import Derived.Test.YtkpohcfohnmejaaDoorLxFrz
set_option linter.unusedVariables false
set_option linter.unusedSimpArgs false
namespace Go.LX
open Go.Proofs
attribute [local irreducible] W WO OpW RW EndQ
abbrev oBy (xs : List UInt8) : S0 := .own 5 .u8 false xs
abbrev TEd : Ty := .pr (.i .i64) (.pr (.i .i64) (.sl .u8))
abbrev Ed : Type := Int × Int × List UInt8
/-- The drawing cursor: its code, its place, its seed. -/
abbrev aCur (code : List UInt8) (a s : Int) : SA := .bx [sBy code, sI a, sI s]
set_option maxHeartbeats 4000000 in
set_option maxRecDepth 20000 in
theorem open_ok (code : List UInt8) (hl : code.length ≤ 16777216) : FnBx Tryd.prog 59 [aBy code] [⟨.sl .u8, code⟩, ⟨.i .i64, (0 : Int)⟩, ⟨.i .i64, 97 + (code.length : Int) % 1000⟩] := by
  refine FnBx_of (fn := Tryd.f59) Tryd.func59 rfl rfl rfl ?_
  refine stp ?_ ?_ ?_ ?_ ?_ ?_ ?_ ?_ ?_ ?_ ?_ ?_ ?_ ?_ ?_ ?_ <;> (first | exact Mk.mk | exact trivial | (repeat intro hq))
/-- What a cursor may hold. -/
structure CuB (a s : Int) : Prop where
  a0 : 0 ≤ a
  a1 : a ≤ 1000000000
  s0 : 0 ≤ s
  s1 : s ≤ 65521
/-- What a draw does to a cursor. -/
structure CuN (a s a' s' k : Int) : Prop where
  a0 : a ≤ a'
  a1 : a' ≤ a + k
  s0 : 0 ≤ s'
  s1 : s' ≤ 65521
theorem CuN.trans {a s a' s' a'' s'' k k' : Int} (h : CuN a s a' s' k) (h' : CuN a' s' a'' s'' k') : CuN a s a'' s'' (k + k') :=
  ⟨by have := h.a0; have := h'.a0; omega, by have := h.a1; have := h'.a1; omega, h'.s0, h'.s1⟩
theorem CuN.mono {a s a' s' k k' : Int} (h : CuN a s a' s' k) (hk : k ≤ k') : CuN a s a' s' k' := ⟨h.a0, by have := h.a1; omega, h.s0, h.s1⟩
set_option maxHeartbeats 4000000 in
set_option maxRecDepth 20000 in
theorem pick_ex (code : List UInt8) (a s n : Int) (hl : code.length ≤ 16777216) (hc : CuB a s) : ∃ r : Int × Int × Int, (0 ≤ r.1 ∧ (2 ≤ n → r.1 < n) ∧ (n < 2 → r.1 = 0)) ∧ CuN a s r.2.1 r.2.2 1 ∧ FnC Tryd.prog 71 [aCur code a s, aI n] [aCur code r.2.1 r.2.2, aX] (.one (sI r.1)) := by
  obtain ⟨c1, c2, c3, c4⟩ := hc
  by_cases h1 : n < 2
  · refine ⟨(0, a, s), ⟨by simp, by simp; omega, fun _ => rfl⟩, ⟨by simp, by show a ≤ a + 1; omega, c3, c4⟩, ?_⟩
    refine FnC_of (fn := Tryd.f71) Tryd.func71 rfl rfl rfl ?_
    refine stp ?_ ?_ ?_ ?_ ?_ ?_ ?_ ?_ ?_ ?_ ?_ ?_ ?_ ?_ ?_ ?_ <;> (first | exact Mk.mk | exact trivial | (repeat intro hq))
  · by_cases h2 : a < code.length
    · refine ⟨(((code.getD a.toNat 0).toNat : Int) % n, a + 1, s), ⟨Int.emod_nonneg _ (by omega), fun _ => Int.emod_lt_of_pos _ (by omega), by omega⟩, ⟨by simp; omega, by simp, c3, c4⟩, ?_⟩
      refine FnC_of (fn := Tryd.f71) Tryd.func71 rfl rfl rfl ?_
      refine stp ?_ ?_ ?_ ?_ ?_ ?_ ?_ ?_ ?_ ?_ ?_ ?_ ?_ ?_ ?_ ?_ <;> (first | exact Mk.mk | exact trivial | (repeat intro hq))
    · have hs : 0 ≤ (s * 1103 + 12345) % 65521 ∧ (s * 1103 + 12345) % 65521 < 65521 := ⟨Int.emod_nonneg _ (by decide), Int.emod_lt_of_pos _ (by decide)⟩
      by_cases h3 : 0 < code.length
      · have hm : 0 ≤ a % code.length ∧ a % code.length < code.length := ⟨Int.emod_nonneg _ (by omega), Int.emod_lt_of_pos _ (by omega)⟩
        have hb := (code.getD (a % code.length).toNat 0).toNat_lt
        have hb' : (UInt8.toNat (code.getD (a % (code.length : Int)).toNat (dflt Ty.u8)) : Nat) < 2 ^ 8 := hb
        refine ⟨(((s * 1103 + 12345) % 65521 / 7 + ((code.getD (a % code.length).toNat 0).toNat : Int)) % n, a + 1, (s * 1103 + 12345) % 65521), ⟨Int.emod_nonneg _ (by omega), fun _ => Int.emod_lt_of_pos _ (by omega), by omega⟩, ⟨by simp; omega, by simp, hs.1, by simp; omega⟩, ?_⟩
        refine FnC_of (fn := Tryd.f71) Tryd.func71 rfl rfl rfl ?_
        refine stp ?_ ?_ ?_ ?_ ?_ ?_ ?_ ?_ ?_ ?_ ?_ ?_ ?_ ?_ ?_ ?_ <;> (first | exact Mk.mk | exact trivial | (intros; exact hm.1; done) | (intros; exact hm.2; done) | (intros; (show _ ≤ (9223372036854775807 : Int); omega); done) | (repeat intro hq))
      · refine ⟨(0, a + 1, (s * 1103 + 12345) % 65521), ⟨by simp, by simp; omega, fun _ => rfl⟩, ⟨by simp; omega, by simp, hs.1, by simp; omega⟩, ?_⟩
        refine FnC_of (fn := Tryd.f71) Tryd.func71 rfl rfl rfl ?_
        refine stp ?_ ?_ ?_ ?_ ?_ ?_ ?_ ?_ ?_ ?_ ?_ ?_ ?_ ?_ ?_ ?_ <;> (first | exact Mk.mk | exact trivial | (repeat intro hq))
set_option maxHeartbeats 4000000 in
set_option maxRecDepth 20000 in
theorem size_ex (code : List UInt8) (a s n : Int) (hl : code.length ≤ 16777216) (hc : CuB a s) (hn : 1 ≤ n ∧ n ≤ 100000) : ∃ r : Int × Int × Int, (0 ≤ r.1 ∧ r.1 ≤ n) ∧ CuN a s r.2.1 r.2.2 1 ∧ FnC Tryd.prog 111 [aCur code a s, aI n] [aCur code r.2.1 r.2.2, aX] (.one (sI r.1)) := by
  obtain ⟨r, h1, h2, hF⟩ := pick_ex code a s (min n (1 + (code.length : Int) / 8) + 1) hl hc
  refine ⟨r, ⟨h1.1, ?_⟩, h2, ?_⟩
  · have := h1.2.1 (by omega)
    omega
  · refine FnC_of (fn := Tryd.f111) Tryd.func111 rfl rfl rfl ?_
    have zB1 := fun (zh : True) => hF
    refine stp ?_ ?_ ?_ ?_ ?_ ?_ ?_ ?_ ?_ ?_ ?_ ?_ ?_ ?_ ?_ ?_ <;> (first | exact Mk.mk | exact trivial | (repeat intro hq))
set_option maxHeartbeats 4000000 in
set_option maxRecDepth 20000 in
theorem once_ex (code : List UInt8) (a s n : Int) (hl : code.length ≤ 16777216) (hc : CuB a s) (hn : 1 ≤ n ∧ n ≤ 100000) : ∃ r : Bool × Int × Int, CuN a s r.2.1 r.2.2 1 ∧ FnC Tryd.prog 104 [aCur code a s, aI n] [aCur code r.2.1 r.2.2, aX] (.one (sB r.1)) := by
  obtain ⟨r, h1, h2, hF⟩ := pick_ex code a s n hl hc
  refine ⟨(decide (r.1 = n - 1), r.2), h2, ?_⟩
  refine FnC_of (fn := Tryd.f104) Tryd.func104 rfl rfl rfl ?_
  have zB1 := fun (zh : True) => hF
  refine stp ?_ ?_ ?_ ?_ ?_ ?_ ?_ ?_ ?_ ?_ ?_ ?_ ?_ ?_ ?_ ?_ <;> (first | exact Mk.mk | exact trivial | (repeat intro hq))
theorem CuB.next {a s a' s' k : Int} (h : CuN a s a' s' k) (ha : 0 ≤ a) (hb : a + k ≤ 1000000000) : CuB a' s' := ⟨by have := h.a0; omega, by have := h.a1; omega, h.s0, h.s1⟩
end Go.LX

set_option linter.unusedVariables false
set_option linter.unusedSimpArgs false
namespace Go.LX
open Go.Proofs
attribute [local irreducible] W WO OpW RW EndQ
theorem getD_all {α : Type} {p : α → Prop} {l : List α} {d : α} (h : ∀ e ∈ l, p e) (hd : p d) (i : Nat) : p (l.getD i d) := by
  rw [List.getD_eq_getElem?_getD]
  cases he : l[i]? with
  | none => exact hd
  | some x => exact h x (List.mem_of_getElem? he)
set_option maxHeartbeats 4000000 in
set_option maxRecDepth 20000 in
theorem raw_ex (code : List UInt8) (a s : Int) (hl : code.length ≤ 16777216) (hc : CuB a s) (ha : a ≤ 999999000) : ∃ r : Int × Int × Int, CuN a s r.2.1 r.2.2 2 ∧ FnC Tryd.prog 72 [aCur code a s] [aCur code r.2.1 r.2.2] (.one (sI r.1)) := by
  obtain ⟨p1, b1, n1, h1⟩ := pick_ex code a s 8 hl hc
  have hc1 := CuB.next n1 hc.a0 (by omega)
  have b1' := b1.2.1 (by decide)
  by_cases e0 : p1.1 = 0
  · obtain ⟨p2, b2, n2, h2⟩ := pick_ex code p1.2.1 p1.2.2 256 hl hc1
    have b2' := b2.2.1 (by decide)
    refine ⟨(p2.1 - 128, p2.2), n1.trans n2, ?_⟩
    refine FnC_of (fn := Tryd.f72) Tryd.func72 rfl rfl rfl ?_
    have zB1 := fun (zh : True) => h1
    have zB2 := fun (zh : True) => h2
    refine stp ?_ ?_ ?_ ?_ ?_ ?_ ?_ ?_ ?_ ?_ ?_ ?_ ?_ ?_ ?_ ?_ <;> (first | exact Mk.mk | exact trivial | (repeat intro hq))
    all_goals (try (exfalso; simp at *; omega))
  · by_cases e1 : p1.1 = 1
    · obtain ⟨p2, b2, n2, h2⟩ := pick_ex code p1.2.1 p1.2.2 8 hl hc1
      have b2' := b2.2.1 (by decide)
      refine ⟨(([9223372036854775807, -9223372036854775808, 4611686018427387904, 55296, 57343, 65536, 1114111, 1114112] : List Int).getD p2.1.toNat 0, p2.2), n1.trans n2, ?_⟩
      refine FnC_of (fn := Tryd.f72) Tryd.func72 rfl rfl rfl ?_
      have zB1 := fun (zh : True) => h1
      have zB2 := fun (zh : True) => h2
      refine stp ?_ ?_ ?_ ?_ ?_ ?_ ?_ ?_ ?_ ?_ ?_ ?_ ?_ ?_ ?_ ?_ <;> (first | exact Mk.mk | exact trivial | (repeat intro hq))
      all_goals (try (exfalso; simp at *; omega))
    · obtain ⟨p2, b2, n2, h2⟩ := pick_ex code p1.2.1 p1.2.2 14 hl hc1
      have b2' := b2.2.1 (by decide)
      refine ⟨(p2.1 - 3, p2.2), n1.trans n2, ?_⟩
      refine FnC_of (fn := Tryd.f72) Tryd.func72 rfl rfl rfl ?_
      have zB1 := fun (zh : True) => h1
      have zB2 := fun (zh : True) => h2
      refine stp ?_ ?_ ?_ ?_ ?_ ?_ ?_ ?_ ?_ ?_ ?_ ?_ ?_ ?_ ?_ ?_ <;> (first | exact Mk.mk | exact trivial | (repeat intro hq))
      all_goals (try (exfalso; simp at *; omega))
/-- The bytes of a rune. -/
def rbE (n : Int) : List UInt8 := if n < 0 ∨ 1114111 < n ∨ (55296 ≤ n ∧ n ≤ 57343) then [] else if n < 128 then [toB n] else if n < 2048 then [toB (192 + n / 64), toB (128 + n % 64)] else if n < 65536 then [toB (224 + n / 4096), toB (128 + n / 64 % 64), toB (128 + n % 64)] else [toB (240 + n / 262144), toB (128 + n / 4096 % 64), toB (128 + n / 64 % 64), toB (128 + n % 64)]
theorem rbE_len (n : Int) : (rbE n).length ≤ 4 := by
  unfold rbE
  repeat' split
  all_goals simp
set_option maxHeartbeats 4000000 in
set_option maxRecDepth 20000 in
theorem runebytes_ok (n : Int) (hn : 0 ≤ n ∧ n ≤ 1114111) : FnC Tryd.prog 112 [aI n] [aX] (.one (oBy (rbE n))) := by
  by_cases h0 : 55296 ≤ n ∧ n ≤ 57343
  · have e : rbE n = [] := by rw [rbE, if_pos (by omega)]
    rw [e]
    refine FnC_of (fn := Tryd.f112) Tryd.func112 rfl rfl rfl ?_
    refine stp ?_ ?_ ?_ ?_ ?_ ?_ ?_ ?_ ?_ ?_ ?_ ?_ ?_ ?_ ?_ ?_ <;> (first | exact Mk.mk | exact trivial | (repeat intro hq))
    all_goals (try (exfalso; simp at *; omega))
  · by_cases h1 : n < 128
    · have e : rbE n = [toB n] := by rw [rbE, if_neg (by omega), if_pos h1]
      rw [e]
      refine FnC_of (fn := Tryd.f112) Tryd.func112 rfl rfl rfl ?_
      refine stp ?_ ?_ ?_ ?_ ?_ ?_ ?_ ?_ ?_ ?_ ?_ ?_ ?_ ?_ ?_ ?_ <;> (first | exact Mk.mk | exact trivial | (repeat intro hq))
      all_goals (try (exfalso; simp at *; omega))
    · by_cases h2 : n < 2048
      · have e : rbE n = [toB (192 + n / 64), toB (128 + n % 64)] := by rw [rbE, if_neg (by omega), if_neg h1, if_pos h2]
        rw [e]
        refine FnC_of (fn := Tryd.f112) Tryd.func112 rfl rfl rfl ?_
        refine stp ?_ ?_ ?_ ?_ ?_ ?_ ?_ ?_ ?_ ?_ ?_ ?_ ?_ ?_ ?_ ?_ <;> (first | exact Mk.mk | exact trivial | (repeat intro hq))
        all_goals (try (exfalso; simp at *; omega))
      · by_cases h3 : n < 65536
        · have e : rbE n = [toB (224 + n / 4096), toB (128 + n / 64 % 64), toB (128 + n % 64)] := by rw [rbE, if_neg (by omega), if_neg h1, if_neg h2, if_pos h3]
          rw [e]
          refine FnC_of (fn := Tryd.f112) Tryd.func112 rfl rfl rfl ?_
          refine stp ?_ ?_ ?_ ?_ ?_ ?_ ?_ ?_ ?_ ?_ ?_ ?_ ?_ ?_ ?_ ?_ <;> (first | exact Mk.mk | exact trivial | (repeat intro hq))
          all_goals (try (exfalso; simp at *; omega))
        · have e : rbE n = [toB (240 + n / 262144), toB (128 + n / 4096 % 64), toB (128 + n / 64 % 64), toB (128 + n % 64)] := by rw [rbE, if_neg (by omega), if_neg h1, if_neg h2, if_neg h3]
          rw [e]
          refine FnC_of (fn := Tryd.f112) Tryd.func112 rfl rfl rfl ?_
          refine stp ?_ ?_ ?_ ?_ ?_ ?_ ?_ ?_ ?_ ?_ ?_ ?_ ?_ ?_ ?_ ?_ <;> (first | exact Mk.mk | exact trivial | (repeat intro hq))
          all_goals (try (exfalso; simp at *; omega))
end Go.LX

set_option linter.unusedVariables false
set_option linter.unusedSimpArgs false
namespace Go.LX
open Go.Proofs
attribute [local irreducible] W WO OpW RW EndQ
set_option maxHeartbeats 4000000 in
set_option maxRecDepth 20000 in
theorem rune_ex (code : List UInt8) (a s : Int) (hl : code.length ≤ 16777216) (hc : CuB a s) (ha : a ≤ 999999000) : ∃ r : Int × Int × Int, (0 ≤ r.1 ∧ r.1 ≤ 1114111) ∧ CuN a s r.2.1 r.2.2 3 ∧ FnC Tryd.prog 113 [aCur code a s] [aCur code r.2.1 r.2.2] (.one (sI r.1)) := by
  obtain ⟨p1, b1, n1, h1⟩ := pick_ex code a s 3 hl hc
  have hc1 := CuB.next n1 hc.a0 (by omega)
  have b1' := b1.2.1 (by decide)
  obtain ⟨p2, b2, n2, h2⟩ := pick_ex code p1.2.1 p1.2.2 3 hl hc1
  have hc2 := CuB.next (n1.trans n2) hc.a0 (by omega)
  have b2' := b2.2.1 (by decide)
  obtain ⟨p3, b3, n3, h3⟩ := pick_ex code p2.2.1 p2.2.2 14 hl hc2
  have b3' := b3.2.1 (by decide)
  refine ⟨(([97 + p1.1, 97 + p2.1, 10, 32, 233, 8364, 128578, 127, 128, 2047, 2048, 65535, 65536, 0] : List Int).getD p3.1.toNat 0, p3.2), ?_, (n1.trans n2).trans n3, ?_⟩
  · refine getD_all (p := fun x : Int => 0 ≤ x ∧ x ≤ 1114111) (fun e he => ?_) (by decide) _
    simp only [List.mem_cons, List.not_mem_nil, or_false] at he
    omega
  · refine FnC_of (fn := Tryd.f113) Tryd.func113 rfl rfl rfl ?_
    have zB1 := fun (zh : True) => h1
    have zB2 := fun (zh : True) => h2
    have zB3 := fun (zh : True) => h3
    refine stpF ?_ ?_ ?_ ?_ ?_ ?_ ?_ ?_ ?_ ?_ ?_ ?_ ?_ ?_ ?_ ?_ <;> (first | exact Mk.mk | exact trivial | (repeat intro hq))
end Go.LX

set_option linter.unusedVariables false
set_option linter.unusedSimpArgs false
namespace Go.LX
open Go.Proofs
attribute [local irreducible] W WO OpW RW EndQ
theorem CuN.next {a s a' s' k : Int} (h : CuN a s a' s' k) (ha : 0 ≤ a) (hb : a + k ≤ 1000000000) : CuB a' s' := CuB.next h ha hb
open Classical in
/-- A rune that is drawn, and the cursor behind it. -/
noncomputable def ruM (code : List UInt8) (a s : Int) : Int × Int × Int := if h : code.length ≤ 16777216 ∧ CuB a s ∧ a ≤ 999999000 then (rune_ex code a s h.1 h.2.1 h.2.2).choose else (0, a, s)
theorem ruM_ok (code : List UInt8) (a s : Int) (hl : code.length ≤ 16777216) (hc : CuB a s) (ha : a ≤ 999999000) : (0 ≤ (ruM code a s).1 ∧ (ruM code a s).1 ≤ 1114111) ∧ CuN a s (ruM code a s).2.1 (ruM code a s).2.2 3 ∧ FnC Tryd.prog 113 [aCur code a s] [aCur code (ruM code a s).2.1 (ruM code a s).2.2] (.one (sI (ruM code a s).1)) := by
  unfold ruM
  rw [dif_pos ⟨hl, hc, ha⟩]
  exact (rune_ex code a s hl hc ha).choose_spec
def rbM (n : Int) : List UInt8 := rbE n
theorem rbM_ok (n : Int) (h : 0 ≤ n ∧ n ≤ 1114111) : (rbM n).length ≤ 4 ∧ FnC Tryd.prog 112 [aI n] [aX] (.one (oBy (rbM n))) := ⟨rbE_len n, runebytes_ok n h⟩
/-- Runes that are drawn one behind the other. -/
noncomputable def txM (code : List UInt8) : Nat → List UInt8 → Int → Int → List UInt8 × Int × Int
  | 0, out, a, s => (out, a, s)
  | k + 1, out, a, s => txM code k (out ++ rbM (ruM code a s).1) (ruM code a s).2.1 (ruM code a s).2.2
theorem txM_ok (code : List UInt8) (hl : code.length ≤ 16777216) : ∀ (k : Nat) (out : List UInt8) (a s : Int), CuB a s → a + 3 * k ≤ 999999000 → CuN a s (txM code k out a s).2.1 (txM code k out a s).2.2 (3 * k)
  | 0, out, a, s, hc, _ => ⟨by simp [txM], by simp [txM], hc.s0, hc.s1⟩
  | k + 1, out, a, s, hc, ha => by
    obtain ⟨h1, h2, _⟩ := ruM_ok code a s hl hc (by omega)
    have h3 := h2.a1
    have := txM_ok code hl k (out ++ rbM (ruM code a s).1) (ruM code a s).2.1 (ruM code a s).2.2 (h2.next hc.a0 (by omega)) (by omega)
    exact (h2.trans this).mono (by omega)
set_option maxHeartbeats 4000000 in
set_option maxRecDepth 20000 in
theorem text_ex (code : List UInt8) (a s n : Int) (hl : code.length ≤ 16777216) (hc : CuB a s) (ha : a ≤ 900000000) (hn : 1 ≤ n ∧ n ≤ 1000) : ∃ r : List UInt8 × Int × Int, ((r.1.length : Int) ≤ n) ∧ CuN a s r.2.1 r.2.2 (1 + 3 * n) ∧ FnC Tryd.prog 70 [aCur code a s, aI n] [aCur code r.2.1 r.2.2, aX] (.one (oBy r.1)) := by
  obtain ⟨p, b, n1, hp⟩ := size_ex code a s n hl hc ⟨hn.1, by omega⟩
  have hc1 : CuB p.2.1 p.2.2 := n1.next hc.a0 (by omega)
  obtain ⟨k, hk⟩ := Int.eq_ofNat_of_zero_le b.1
  have b2 := b.2
  rw [hk] at b2
  have n1' := n1.a1
  have n2 := txM_ok code hl k [] p.2.1 p.2.2 hc1 (by omega)
  refine ⟨(if n < (txM code k [] p.2.1 p.2.2).1.length then [] else (txM code k [] p.2.1 p.2.2).1, (txM code k [] p.2.1 p.2.2).2), ?_, (n1.trans n2).mono (by omega), ?_⟩
  · show ((List.length (if n < (txM code k [] p.2.1 p.2.2).1.length then [] else (txM code k [] p.2.1 p.2.2).1) : Nat) : Int) ≤ n
    split
    · simp; omega
    · omega
  · refine FnC_of (fn := Tryd.f70) Tryd.func70 rfl rfl rfl ?_
    have zB1 := fun (zh : True) => hp
    refine stp ?_ ?_ ?_ ?_ ?_ ?_ ?_ ?_ ?_ ?_ ?_ ?_ ?_ ?_ ?_ ?_ <;> (first | exact Mk.mk | exact trivial | (repeat intro hq))
    refine W_loopT (fun q : Nat × List UInt8 × Int × Int => St.tmpl 27 [(0, .one (.rf 0 (.pb 0))), (1, .one (.d (.i .i64) n)), (5, .one (.rf 8000 .ar)), (6, .one (.d (.i .i64) (q.1 : Int)))] [(0, .cells [.d (.sl .u8) code, .d (.i .i64) q.2.2.1, .d (.i .i64) q.2.2.2]), (8000, .rows 5 .u8 false q.2.1)]) (fun q => q.1 ≤ k ∧ q.2.1.length + 4 * q.1 ≤ 4 * k ∧ CuB q.2.2.1 q.2.2.2 ∧ q.2.2.1 + 3 * q.1 ≤ 950000000 ∧ txM code q.1 q.2.1 q.2.2.1 q.2.2.2 = txM code k [] p.2.1 p.2.2) (fun q => q.1) (k, [], p.2.1, p.2.2) ⟨Nat.le_refl _, by simp, hc1, by simp only; omega, rfl⟩ ?_ ?_
    · refine Wk_tmpl [] ⟨rfl, rfl, rfl, ?_, trivial⟩ ⟨rfl, rfl, trivial⟩ rfl rfl
      refine congrArg (fun r => SV.one (C.d (Ty.i IntKind.i64) r)) ?_
      exact hk
    · rintro ⟨j, out, a1, s1⟩ ⟨h1, h2, h3, h4, h5⟩
      simp only at h1 h2 h3 h4 h5
      obtain ⟨r1, r2, hr⟩ := ruM_ok code a1 s1 hl h3 (by omega)
      obtain ⟨t1, ht⟩ := rbM_ok (ruM code a1 s1).1 r1
      have r2' := r2.a1
      have zB1 := fun (zh : True) => hr
      have zD1 := fun (zh : True) => ht
      refine stpC ?_ ?_ ?_ ?_ ?_ ?_ ?_ ?_ ?_ ?_ ?_ ?_ ?_ ?_ ?_ ?_ <;> (first | exact Mk.mk | exact trivial | (repeat intro hq))
      · show out.length + (rbM (ruM code a1 s1).1).length ≤ maxLen
        unfold maxLen; omega
      · have hj : (0 : Int) < (j : Int) := of_decide_eq_true hq
        obtain ⟨m, rfl⟩ : ∃ m, j = m + 1 := ⟨j - 1, by omega⟩
        refine ⟨(m, out ++ rbM (ruM code a1 s1).1, (ruM code a1 s1).2.1, (ruM code a1 s1).2.2), Nat.lt_succ_self m, ⟨by simp only; omega, ?_, r2.next h3.a0 (by omega), by simp only; omega, h5⟩, Wk_tmpl [(8000, 20000)] ⟨rfl, rfl, rfl, ?_, trivial⟩ ⟨rfl, rfl, trivial⟩ rfl rfl⟩
        · simp only [List.length_append]; omega
        · refine congrArg (fun r => SV.one (C.d (Ty.i IntKind.i64) r)) ?_
          show ((m + 1 : Nat) : Int) - 1 = (m : Int)
          omega
      all_goals have hj0 : ¬ (0 : Int) < (j : Int) := of_decide_eq_false (by assumption)
      all_goals have hj : j = 0 := by omega
      all_goals subst hj
      all_goals have h6 : (out, a1, s1) = txM code k [] p.2.1 p.2.2 := h5
      all_goals rw [← h6]
      all_goals first
        | rfl
        | exact (if_pos (of_decide_eq_true hq)).symm
        | exact (if_neg (of_decide_eq_false hq)).symm
        | exact congrArg (fun r => some (Ob.rows 5 Ty.u8 false r)) (if_pos (of_decide_eq_true hq)).symm
        | exact congrArg (fun r => some (Ob.rows 5 Ty.u8 false r)) (if_neg (of_decide_eq_false hq)).symm
end Go.LX

