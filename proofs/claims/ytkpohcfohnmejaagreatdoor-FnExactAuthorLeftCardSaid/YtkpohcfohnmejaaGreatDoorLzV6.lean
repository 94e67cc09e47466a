/- A part of the proof of the statement in the row text. -/
import Derived.Test.YtkpohcfohnmejaaGreatDoorLzE2
import Derived.Test.YtkpohcfohnmejaaGreatDoorLxLd
import Derived.Test.YtkpohcfohnmejaaGreatDoorLzV2
import Derived.Test.YtkpohcfohnmejaaGreatDoorLzF1
import Derived.Test.YtkpohcfohnmejaaGreatDoorLxStpL
set_option linter.unusedVariables false
set_option linter.unusedSimpArgs false
namespace Go.LX
open Go.Proofs
attribute [local irreducible] W WO OpW RW EndQ
/-! The reference reads runes as Go's library does. -/
theorem getD_drop' {xs : List UInt8} {n i : Nat} : (xs.drop n).getD i 0 = xs.getD (n + i) 0 := by
  simp [List.getD_eq_getElem?_getD, List.getElem?_drop]
theorem toB_eq {n : Int} {b : UInt8} (h : 0 ≤ n ∧ n ≤ 255) : toB n = b ↔ n = (b.toNat : Int) := by
  have h1 := toB_nat n
  constructor
  · intro e; rw [← e]; omega
  · intro e
    apply UInt8.toNat_inj.1
    omega
theorem cut_two {xs : List UInt8} {a n : Nat} (h : a + n ≤ xs.length) : cut (some (a : Int)) (some ((a : Int) + n)) xs = (xs.drop a).take n := by
  simp only [cut]
  rw [show ((a : Int)).toNat = a by omega, show ((a : Int) + n).toNat - a = n by omega]
theorem take_get (p : List UInt8) : ∀ n, n ≤ p.length → p.take n = (List.range n).map fun i => p.getD i 0
  | 0, _ => by simp
  | n + 1, h => by
    rw [List.take_add_one, take_get p n (by omega), List.range_succ, List.map_append, List.getElem?_eq_getElem (by omega)]
    simp [List.getD_eq_getElem?_getD, List.getElem?_eq_getElem (show n < p.length by omega)]
theorem toB_iff {n : Int} {b : UInt8} : toB n = b ↔ n % 256 = (b.toNat : Int) := by
  have h1 := toB_nat n
  constructor
  · intro e; rw [← e]; omega
  · intro e
    apply UInt8.toNat_inj.1
    omega
theorem rb1 (B : UInt8) (h : B.toNat < 192) : rbE (B.toNat : Int) = [B] ↔ B.toNat < 128 := by
  unfold rbE
  repeat' split
  all_goals simp only [List.cons.injEq, and_true, toB_iff, List.nil_eq, reduceCtorEq, false_iff, List.cons_ne_nil]
  all_goals first
    | omega
    | (simp; omega)
theorem rb2 (B C : UInt8) (h : 192 ≤ B.toNat ∧ B.toNat < 224) : rbE (64 * ((B.toNat : Int) - 192) + C.toNat - 128) = [B, C] ↔ (194 ≤ B.toNat ∧ (128 ≤ C.toNat ∧ C.toNat ≤ 191)) := by
  have hc := C.toNat_lt
  unfold rbE
  repeat' split
  all_goals simp only [List.cons.injEq, and_true, toB_iff, reduceCtorEq, false_iff, and_false]
  all_goals omega
theorem rb3 (B C D : UInt8) (h : 224 ≤ B.toNat ∧ B.toNat < 240) : rbE (64 * (64 * ((B.toNat : Int) - 224) + C.toNat - 128) + D.toNat - 128) = [B, C, D] ↔ (((if B.toNat = 224 then 160 else 128) ≤ C.toNat ∧ C.toNat ≤ (if B.toNat = 237 then 159 else 191)) ∧ (128 ≤ D.toNat ∧ D.toNat ≤ 191)) := by
  have hc := C.toNat_lt
  have hd := D.toNat_lt
  unfold rbE
  repeat' split
  all_goals simp only [List.cons.injEq, and_true, toB_iff, reduceCtorEq, false_iff, and_false]
  all_goals omega
theorem rb4 (B C D E : UInt8) (h : 240 ≤ B.toNat) : rbE (64 * (64 * (64 * ((B.toNat : Int) - 240) + C.toNat - 128) + D.toNat - 128) + E.toNat - 128) = [B, C, D, E] ↔ (B.toNat < 245 ∧ ((if B.toNat = 240 then 144 else 128) ≤ C.toNat ∧ C.toNat ≤ (if B.toNat = 244 then 143 else 191)) ∧ (128 ≤ D.toNat ∧ D.toNat ≤ 191) ∧ (128 ≤ E.toNat ∧ E.toNat ≤ 191)) := by
  have hb := B.toNat_lt
  have hc := C.toNat_lt
  have hd := D.toNat_lt
  have he := E.toNat_lt
  unfold rbE
  repeat' split
  all_goals simp only [List.cons.injEq, and_true, toB_iff, reduceCtorEq, false_iff, and_false]
  all_goals omega
end Go.LX

set_option linter.unusedVariables false
set_option linter.unusedSimpArgs false
namespace Go.LX
open Go.Proofs
attribute [local irreducible] W WO OpW RW EndQ
theorem byA_drop {xs : List UInt8} {a : Nat} (i : Nat) : byA xs ((a : Int) + (i : Int)) = (((xs.drop a).getD i 0).toNat : Int) := by
  rw [byA, getD_drop']
  congr 3
theorem stU_def (p : List UInt8) (h : p.length ≠ 0) : ((p.getD 0 0).toNat < 128 ∧ stU p = 1) ∨ (128 ≤ (p.getD 0 0).toNat ∧ (p.getD 0 0).toNat < 192 ∧ stU p = 0) ∨
    ((192 ≤ (p.getD 0 0).toNat ∧ (p.getD 0 0).toNat < 224) ∧ stU p = if 2 ≤ p.length ∧ (194 ≤ (p.getD 0 0).toNat ∧ (128 ≤ (p.getD 1 0).toNat ∧ (p.getD 1 0).toNat ≤ 191)) then 2 else 0) ∨
    ((224 ≤ (p.getD 0 0).toNat ∧ (p.getD 0 0).toNat < 240) ∧ stU p = if 3 ≤ p.length ∧ (((if (p.getD 0 0).toNat = 224 then 160 else 128) ≤ (p.getD 1 0).toNat ∧ (p.getD 1 0).toNat ≤ (if (p.getD 0 0).toNat = 237 then 159 else 191)) ∧ (128 ≤ (p.getD 2 0).toNat ∧ (p.getD 2 0).toNat ≤ 191)) then 3 else 0) ∨
    (240 ≤ (p.getD 0 0).toNat ∧ stU p = if 4 ≤ p.length ∧ ((p.getD 0 0).toNat < 245 ∧ ((if (p.getD 0 0).toNat = 240 then 144 else 128) ≤ (p.getD 1 0).toNat ∧ (p.getD 1 0).toNat ≤ (if (p.getD 0 0).toNat = 244 then 143 else 191)) ∧ (128 ≤ (p.getD 2 0).toNat ∧ (p.getD 2 0).toNat ≤ 191) ∧ (128 ≤ (p.getD 3 0).toNat ∧ (p.getD 3 0).toNat ≤ 191)) then 4 else 0) := by
  unfold stU
  simp only
  generalize (p.getD 0 0).toNat = b
  generalize (p.getD 1 0).toNat = c
  generalize (p.getD 2 0).toNat = d
  generalize (p.getD 3 0).toNat = e
  rw [if_neg h]
  by_cases h1 : b < 128
  · exact .inl ⟨h1, if_pos h1⟩
  · rw [if_neg h1]
    by_cases h2 : b < 192
    · exact .inr (.inl ⟨by omega, h2, by rw [if_neg (by omega), if_neg (by omega), if_neg (by omega)]⟩)
    · by_cases h3 : b < 224
      · refine .inr (.inr (.inl ⟨⟨by omega, h3⟩, ?_⟩))
        by_cases h4 : 194 ≤ b
        · rw [if_pos (by omega)]
          repeat' split
          all_goals omega
        · rw [if_neg (by omega), if_neg (by omega), if_neg (by omega), if_neg (by omega)]
      · by_cases h4 : b < 240
        · refine .inr (.inr (.inr (.inl ⟨⟨by omega, h4⟩, ?_⟩)))
          rw [if_neg (by omega), if_pos (by omega)]
          repeat' split
          all_goals omega
        · refine .inr (.inr (.inr (.inr ⟨by omega, ?_⟩)))
          rw [if_neg (by omega), if_neg (by omega)]
          by_cases h5 : b < 245
          · rw [if_pos (by omega)]
            repeat' split
            all_goals omega
          · rw [if_neg (by omega), if_neg (by omega)]
theorem rs_eq (xs : List UInt8) (a : Nat) (h : a ≤ xs.length) : rsM xs a = (stU (xs.drop a) : Int) := by
  have hlen : (xs.drop a).length = xs.length - a := List.length_drop ..
  have hb : byA xs (a : Int) = (((xs.drop a).getD 0 0).toNat : Int) := by
    have := byA_drop (xs := xs) (a := a) 0
    simpa using this
  show (r1X xs a).2 = _
  unfold r1X
  rw [hb]
  generalize hp : xs.drop a = p at *
  by_cases h0 : a < xs.length
  · rw [if_pos (by omega)]
    have hpl : p.length ≠ 0 := by omega
    have hcut : ∀ n : Nat, n ≤ p.length → cut (some (a : Int)) (some ((a : Int) + (n : Int))) xs = (List.range n).map fun i => p.getD i 0 := fun n hn => by
      rw [cut_two (by omega), hp, take_get p n hn]
    have b1 : byA xs ((a : Int) + (((0 : Nat) : Int) + 1)) = ((p.getD 1 0).toNat : Int) := by rw [← hp]; exact byA_drop 1
    have b2 : byA xs ((a : Int) + (((1 : Nat) : Int) + 1)) = ((p.getD 2 0).toNat : Int) := by rw [← hp]; exact byA_drop 2
    have b3 : byA xs ((a : Int) + (((2 : Nat) : Int) + 1)) = ((p.getD 3 0).toNat : Int) := by rw [← hp]; exact byA_drop 3
    rcases stU_def p hpl with ⟨q1, q2⟩ | ⟨q1, q1', q2⟩ | ⟨q1, q2⟩ | ⟨q1, q2⟩ | ⟨q1, q2⟩
    · have l1 : ldS ((p.getD 0 0).toNat : Int) = 1 := by unfold ldS; rw [if_neg (by omega), if_neg (by omega), if_neg (by omega)]
      have l2 : ldR ((p.getD 0 0).toNat : Int) = ((p.getD 0 0).toNat : Int) := by unfold ldR; rw [if_neg (by omega), if_neg (by omega), if_neg (by omega)]
      rw [l1, l2, if_neg (by omega), show ((1 : Int) - 1).toNat = 0 by decide, rnM]
      have := hcut 1 (by omega)
      rw [show ((a : Int) + ((1 : Nat) : Int)) = (a : Int) + 1 by omega] at this
      rw [this]
      simp only [rbN, List.range_succ, List.range_zero, List.nil_append, List.map_cons, List.map_nil, List.map_append, List.cons_append]
      rw [if_pos ((rb1 _ (by omega)).2 q1), q2]
      rfl
    · have l1 : ldS ((p.getD 0 0).toNat : Int) = 1 := by unfold ldS; rw [if_neg (by omega), if_neg (by omega), if_neg (by omega)]
      have l2 : ldR ((p.getD 0 0).toNat : Int) = ((p.getD 0 0).toNat : Int) := by unfold ldR; rw [if_neg (by omega), if_neg (by omega), if_neg (by omega)]
      rw [l1, l2, if_neg (by omega), show ((1 : Int) - 1).toNat = 0 by decide, rnM]
      have := hcut 1 (by omega)
      rw [show ((a : Int) + ((1 : Nat) : Int)) = (a : Int) + 1 by omega] at this
      rw [this]
      simp only [rbN, List.range_succ, List.range_zero, List.nil_append, List.map_cons, List.map_nil, List.map_append, List.cons_append]
      rw [if_neg (fun e => by have := (rb1 _ (by omega)).1 e; omega), q2]
      rfl
    · have l1 : ldS ((p.getD 0 0).toNat : Int) = 2 := by unfold ldS; rw [if_neg (by omega), if_neg (by omega), if_pos (by omega)]
      have l2 : ldR ((p.getD 0 0).toNat : Int) = ((p.getD 0 0).toNat : Int) - 192 := by unfold ldR; rw [if_neg (by omega), if_neg (by omega), if_pos (by omega)]
      rw [l1, l2, q2]
      by_cases hl : 2 ≤ p.length
      · rw [if_neg (by omega), show ((2 : Int) - 1).toNat = 1 by decide, rnM, rnM, b1]
        have := hcut 2 hl
        rw [show ((a : Int) + ((2 : Nat) : Int)) = (a : Int) + 2 by omega] at this
        rw [this]
        simp only [rbN, List.range_succ, List.range_zero, List.nil_append, List.map_cons, List.map_nil, List.map_append, List.cons_append]
        by_cases hok : 194 ≤ (p.getD 0 0).toNat ∧ (128 ≤ (p.getD 1 0).toNat ∧ (p.getD 1 0).toNat ≤ 191)
        · rw [if_pos ((rb2 _ _ q1).2 hok), if_pos ⟨hl, hok⟩]; rfl
        · rw [if_neg (fun e => hok ((rb2 _ _ q1).1 e)), if_neg (fun e => hok e.2)]; rfl
      · rw [if_pos (by omega), if_neg (fun e => hl e.1)]; rfl
    · have l1 : ldS ((p.getD 0 0).toNat : Int) = 3 := by unfold ldS; rw [if_neg (by omega), if_pos (by omega)]
      have l2 : ldR ((p.getD 0 0).toNat : Int) = ((p.getD 0 0).toNat : Int) - 224 := by unfold ldR; rw [if_neg (by omega), if_pos (by omega)]
      rw [l1, l2, q2]
      by_cases hl : 3 ≤ p.length
      · rw [if_neg (by omega), show ((3 : Int) - 1).toNat = 2 by decide, rnM, rnM, rnM, b1, b2]
        have := hcut 3 hl
        rw [show ((a : Int) + ((3 : Nat) : Int)) = (a : Int) + 3 by omega] at this
        rw [this]
        simp only [rbN, List.range_succ, List.range_zero, List.nil_append, List.map_cons, List.map_nil, List.map_append, List.cons_append]
        by_cases hok : (((if (p.getD 0 0).toNat = 224 then 160 else 128) ≤ (p.getD 1 0).toNat ∧ (p.getD 1 0).toNat ≤ (if (p.getD 0 0).toNat = 237 then 159 else 191)) ∧ (128 ≤ (p.getD 2 0).toNat ∧ (p.getD 2 0).toNat ≤ 191))
        · rw [if_pos ((rb3 _ _ _ q1).2 hok), if_pos ⟨hl, hok⟩]; rfl
        · rw [if_neg (fun e => hok ((rb3 _ _ _ q1).1 e)), if_neg (fun e => hok e.2)]; rfl
      · rw [if_pos (by omega), if_neg (fun e => hl e.1)]; rfl
    · have l1 : ldS ((p.getD 0 0).toNat : Int) = 4 := by unfold ldS; rw [if_pos (by omega)]
      have l2 : ldR ((p.getD 0 0).toNat : Int) = ((p.getD 0 0).toNat : Int) - 240 := by unfold ldR; rw [if_pos (by omega)]
      rw [l1, l2, q2]
      by_cases hl : 4 ≤ p.length
      · rw [if_neg (by omega), show ((4 : Int) - 1).toNat = 3 by decide, rnM, rnM, rnM, rnM, b1, b2, b3]
        have := hcut 4 hl
        rw [show ((a : Int) + ((4 : Nat) : Int)) = (a : Int) + 4 by omega] at this
        rw [this]
        simp only [rbN, List.range_succ, List.range_zero, List.nil_append, List.map_cons, List.map_nil, List.map_append, List.cons_append]
        by_cases hok : ((p.getD 0 0).toNat < 245 ∧ ((if (p.getD 0 0).toNat = 240 then 144 else 128) ≤ (p.getD 1 0).toNat ∧ (p.getD 1 0).toNat ≤ (if (p.getD 0 0).toNat = 244 then 143 else 191)) ∧ (128 ≤ (p.getD 2 0).toNat ∧ (p.getD 2 0).toNat ≤ 191) ∧ (128 ≤ (p.getD 3 0).toNat ∧ (p.getD 3 0).toNat ≤ 191))
        · rw [if_pos ((rb4 _ _ _ _ q1).2 hok), if_pos ⟨hl, hok⟩]; rfl
        · rw [if_neg (fun e => hok ((rb4 _ _ _ _ q1).1 e)), if_neg (fun e => hok e.2)]; rfl
      · rw [if_pos (by omega), if_neg (fun e => hl e.1)]; rfl
  · rw [if_neg (by omega)]
    have : p.length = 0 := by omega
    have e : stU p = 0 := by unfold stU; simp only; rw [if_pos this]
    rw [e]; rfl
end Go.LX

set_option linter.unusedVariables false
set_option linter.unusedSimpArgs false
namespace Go.LX
open Go.Proofs
attribute [local irreducible] W WO OpW RW EndQ
/-- A byte that goes on with a rune. -/
def contB (xs : List UInt8) (x : Int) : Bool := decide (128 ≤ (xs.getD x.toNat 0).toNat ∧ (xs.getD x.toNat 0).toNat ≤ 191)
theorem ite_nz {c : Prop} [Decidable c] {n m : Nat} (h : m = if c then n else 0) (h0 : m ≠ 0) : c ∧ m = n := by
  by_cases hc : c
  · rw [if_pos hc] at h; exact ⟨hc, h⟩
  · rw [if_neg hc] at h; exact absurd h h0
theorem stU_cont {p : List UInt8} (h : stU p ≠ 0) : (∀ i, 0 < i → i < stU p → 128 ≤ (p.getD i 0).toNat ∧ (p.getD i 0).toNat ≤ 191) ∧ ¬ (128 ≤ (p.getD 0 0).toNat ∧ (p.getD 0 0).toNat ≤ 191) ∧ stU p ≤ p.length := by
  have hl := (stU_le p).2
  have hp : p.length ≠ 0 := by omega
  rcases stU_def p hp with ⟨q1, q2⟩ | ⟨q1, q1', q2⟩ | ⟨q1, q2⟩ | ⟨q1, q2⟩ | ⟨q1, q2⟩
  · exact ⟨fun i h1 h2 => by omega, by omega, hl⟩
  · omega
  · obtain ⟨q, q2⟩ := ite_nz q2 h
    refine ⟨fun i h1 h2 => ?_, by omega, hl⟩
    obtain rfl : i = 1 := by omega
    exact q.2.2
  · obtain ⟨q, q2⟩ := ite_nz q2 h
    refine ⟨fun i h1 h2 => ?_, by omega, hl⟩
    obtain ⟨_, ⟨q3, q3'⟩, q4⟩ := q
    have : i = 1 ∨ i = 2 := by omega
    rcases this with rfl | rfl
    · constructor
      · split at q3 <;> omega
      · split at q3' <;> omega
    · exact q4
  · obtain ⟨q, q2⟩ := ite_nz q2 h
    refine ⟨fun i h1 h2 => ?_, by omega, hl⟩
    obtain ⟨_, _, ⟨q3, q3'⟩, q4, q5⟩ := q
    have : i = 1 ∨ i = 2 ∨ i = 3 := by omega
    rcases this with rfl | rfl | rfl
    · constructor
      · split at q3 <;> omega
      · split at q3' <;> omega
    · exact q4
    · exact q5
theorem ctM_vld {xs : List UInt8} : ∀ {f : Nat} {a : Nat}, a ≤ xs.length → xs.length < a + f → ((ctM xs f a).isSome = vld (xs.drop a)) ∧ ∀ l, ctM xs f (a : Int) = some l → ∀ x : Int, x ∈ l ↔ ((a : Int) ≤ x ∧ x ≤ xs.length ∧ (x = xs.length ∨ contB xs x = false))
  | 0, a, h1, h2 => by omega
  | f + 1, a, h1, h2 => by
    have hlen : (xs.drop a).length = xs.length - a := List.length_drop ..
    unfold ctM
    by_cases h0 : a < xs.length
    · rw [if_pos (by omega), rs_eq xs a h1]
      have hv := vld_step (p := xs.drop a) (by omega)
      by_cases hs : stU (xs.drop a) = 0
      · rw [if_pos (by omega), hv, hs]
        exact ⟨rfl, fun l hl => by cases hl⟩
      · obtain ⟨k1, k2, k3⟩ := stU_cont hs
        obtain ⟨i1, i2⟩ := ctM_vld (xs := xs) (f := f) (a := a + stU (xs.drop a)) (by omega) (by omega)
        rw [List.drop_drop, decide_eq_false hs] at hv
        rw [if_neg (by omega), hv]
        rw [show ((a : Int) + (stU (xs.drop a) : Int)) = ((a + stU (xs.drop a) : Nat) : Int) by omega]
        refine ⟨by rw [Option.isSome_map, i1]; simp, fun l hl x => ?_⟩
        obtain ⟨l', hl', rfl⟩ := Option.map_eq_some_iff.1 hl
        have i3 := i2 l' hl' x
        rw [List.mem_cons, i3]
        have hat : ∀ i, (xs.drop a).getD i 0 = xs.getD (a + i) 0 := fun i => getD_drop'
        constructor
        · rintro (rfl | ⟨h3, h4, h5⟩)
          · refine ⟨by omega, by omega, .inr ?_⟩
            rw [hat] at k2
            unfold contB
            rw [show ((a : Int)).toNat = a + 0 by omega]
            exact decide_eq_false k2
          · exact ⟨by omega, h4, h5⟩
        · rintro ⟨h3, h4, h5⟩
          by_cases h6 : ((a + stU (xs.drop a) : Nat) : Int) ≤ x
          · exact .inr ⟨h6, h4, h5⟩
          · left
            refine Decidable.byContradiction fun h7 => ?_
            obtain ⟨m, rfl⟩ : ∃ m : Nat, x = ((a + m : Nat) : Int) := ⟨(x - a).toNat, by omega⟩
            have h8 := k1 m (by omega) (by omega)
            rw [hat] at h8
            rcases h5 with h5 | h5
            · omega
            · unfold contB at h5
              rw [show (((a + m : Nat) : Int)).toNat = a + m by omega] at h5
              exact of_decide_eq_false h5 h8
    · rw [if_neg (by omega)]
      have ha : a = xs.length := by omega
      have e : xs.drop a = [] := by rw [ha, List.drop_length]
      refine ⟨by rw [e]; rfl, fun l hl x => ?_⟩
      cases hl
      simp only [List.mem_singleton]
      omega
theorem tokM_eq (xs : List UInt8) : tokM xs = (decide (xs.length ≤ 400) && vld xs) := by
  unfold tokM cuL
  by_cases h : 400 < xs.length
  · rw [if_pos h, decide_eq_false (show ¬ xs.length ≤ 400 by omega)]; rfl
  · rw [if_neg h, decide_eq_true (show xs.length ≤ 400 by omega), Bool.true_and]
    obtain ⟨i1, i2⟩ := ctM_vld (xs := xs) (f := xs.length + 1) (a := 0) (Nat.zero_le _) (by omega)
    rw [List.drop_zero] at i1
    have i1' : (ctM xs (xs.length + 1) 0).isSome = vld xs := i1
    rw [← i1']
    cases hc : ctM xs (xs.length + 1) 0 with
    | none => rfl
    | some l =>
      have := (i2 l hc xs.length).2 ⟨by omega, by omega, .inl rfl⟩
      have : 0 < l.length := List.length_pos_of_mem this
      simp
      omega
/-- May an offset be cut at? -/
def cutB (xs : List UInt8) (a : Int) : Bool := decide (a = xs.length) || ((decide (0 ≤ a) && decide (a ≤ xs.length - 1)) && !contB xs a)
theorem cuL_mem {xs : List UInt8} (h : tokM xs = true) (x : Int) : x ∈ cuL xs ↔ cutB xs x = true := by
  have h4 := tokM_len h
  obtain ⟨i1, i2⟩ := ctM_vld (xs := xs) (f := xs.length + 1) (a := 0) (Nat.zero_le _) (by omega)
  rw [tokM_eq, decide_eq_true h4, Bool.true_and] at h
  rw [List.drop_zero, h] at i1
  have i1' : (ctM xs (xs.length + 1) 0).isSome = true := i1
  obtain ⟨l, hl⟩ := Option.isSome_iff_exists.1 i1'
  have e : cuL xs = l := by rw [cuL, if_neg (by omega), hl]; rfl
  rw [e, i2 l hl x]
  simp only [cutB, Bool.or_eq_true, Bool.and_eq_true, decide_eq_true_eq, Bool.not_eq_true']
  constructor
  · rintro ⟨h1, h2, h3 | h3⟩
    · exact .inl h3
    · by_cases h5 : x = xs.length
      · exact .inl h5
      · exact .inr ⟨⟨by omega, by omega⟩, h3⟩
  · rintro (h1 | ⟨⟨h1, h2⟩, h3⟩)
    · exact ⟨by omega, by omega, .inl h1⟩
    · exact ⟨by omega, by omega, .inr h3⟩
theorem rtR_nn : ∀ {l : List Int} {a : Int} {i : Nat}, a ∈ l → 0 ≤ rtR l a i
  | [], _, _, h => by simp at h
  | x :: l, a, i, h => by
    unfold rtR
    split
    · omega
    · rename_i hne
      exact rtR_nn ((List.mem_cons.1 h).resolve_left (fun e => hne e.symm))
theorem rtM_nn {xs : List UInt8} (h : tokM xs = true) (x : Int) : decide (0 ≤ rtM xs x) = cutB xs x := by
  cases hc : cutB xs x with
  | true => exact decide_eq_true (rtR_nn ((cuL_mem h x).2 hc))
  | false =>
    refine decide_eq_false fun h1 => ?_
    have := (cuL_mem h x).1 (rtR_mem h1)
    rw [hc] at this
    cases this
end Go.LX

set_option linter.unusedVariables false
set_option linter.unusedSimpArgs false
namespace Go.LX
open Go.Proofs
attribute [local irreducible] W WO OpW RW EndQ
set_option maxHeartbeats 4000000 in
set_option maxRecDepth 20000 in
theorem istext_ok (xs : List UInt8) (hl : xs.length ≤ 16777216) : FnC Tryz.prog 94 [aBy xs] [aX] (.one (sB (tokM xs))) := by
  rw [tokM_eq]
  refine FnC_of (fn := Tryz.f94) Tryz.func94 rfl rfl rfl ?_
  have zD1 := fun (zh : True) => valid_ok xs hl
  refine stp ?_ ?_ ?_ ?_ ?_ ?_ ?_ ?_ ?_ ?_ ?_ ?_ ?_ ?_ ?_ ?_ <;> (first | exact Mk.mk | exact trivial | (repeat intro hq))
  all_goals (
    have e : decide (xs.length ≤ 400) = decide ((xs.length : Int) ≤ 400) := decide_eq_decide.2 (by omega)
    rw [e, hq]; rfl)
set_option maxHeartbeats 4000000 in
set_option maxRecDepth 20000 in
theorem iscut_ok (xs : List UInt8) (a : Int) (hl : xs.length ≤ 16777216) : FnC Tryz.prog 109 [aBy xs, aI a] [aX, aX] (.one (sB (cutB xs a))) := by
  unfold cutB contB
  refine FnC_of (fn := Tryz.f109) Tryz.func109 rfl rfl rfl ?_
  have zD1 := fun {z0} {z1} {z2} (zh : True) => in_ok z0 z1 z2
  have zD2 := fun {z0} (zh : True) => runestart_ok z0
  refine stp ?_ ?_ ?_ ?_ ?_ ?_ ?_ ?_ ?_ ?_ ?_ ?_ ?_ ?_ ?_ ?_ <;> (first | exact Mk.mk | exact trivial | (repeat intro hq))
  · rw [hq]; rfl
  · rename_i z
    rw [z, hq]; rfl
  · rename_i z
    rw [z, hq]; rfl
noncomputable def eokI (t : List UInt8) (e : Ed) : Bool := tokM t && (cutB t e.1 && ((decide (0 ≤ e.2.1) && decide (e.2.1 ≤ t.length - e.1)) && (cutB t (e.1 + e.2.1) && (tokM e.2.2 && decide (t.length - e.2.1 + e.2.2.length ≤ 400)))))
theorem eokI_eq (t : List UInt8) (e : Ed) : eokM t e = eokI t e := by
  unfold eokM eokI
  cases h : tokM t with
  | false => rfl
  | true =>
    rw [rtM_nn h, rtM_nn h, show (!decide (e.2.1 < 0)) = decide (0 ≤ e.2.1) by (rw [← decide_not]; exact decide_eq_decide.2 (by omega)), show (!decide ((t.length : Int) - e.1 < e.2.1)) = decide (e.2.1 ≤ t.length - e.1) by (rw [← decide_not]; exact decide_eq_decide.2 (by omega))]
    simp only [Bool.and_assoc]
theorem cutB_in {xs : List UInt8} {a : Int} (h : cutB xs a = true) : 0 ≤ a ∧ a ≤ xs.length := by
  simp only [cutB, Bool.or_eq_true, Bool.and_eq_true, decide_eq_true_eq] at h
  omega
set_option maxHeartbeats 4000000 in
set_option maxRecDepth 20000 in
theorem isedit_ok (t : List UInt8) (e : Ed) (hl : t.length ≤ 16777216) (hp : e.2.2.length ≤ 16777216) : FnC Tryz.prog 122 [aBy t, aEd e] [aX, aEd0] (.one (sB (eokM t e))) := by
  rw [eokI_eq]
  by_cases hc : cutB t e.1 = true
  · have h1 := cutB_in hc
    refine FnC_of (fn := Tryz.f122) Tryz.func122 rfl rfl rfl ?_
    have zD1 := fun (zh : True) => istext_ok t hl
    have zD2 := fun (zh : True) => istext_ok e.2.2 hp
    have zD3 := fun {z0} {z1} zh => iscut_ok z0 z1 zh
    have zD4 := fun {z0} {z1} {z2} (zh : True) => in_ok z0 z1 z2
    refine stp ?_ ?_ ?_ ?_ ?_ ?_ ?_ ?_ ?_ ?_ ?_ ?_ ?_ ?_ ?_ ?_ <;> (first | exact Mk.mk | exact trivial | (intros; exact hl; done) | (repeat intro hq))
    all_goals first
      | ((try simp only [cond_true] at *); simp only [eokI, Bool.and_true, Bool.true_and, Bool.and_false, Bool.false_and, *]; done)
      | ((try simp only [cond_true] at *); simp [eokI, *]; done)
      | ((try simp only [cond_true] at *); simp_all [eokI]; done)
  · refine FnC_of (fn := Tryz.f122) Tryz.func122 rfl rfl rfl ?_
    have zD1 := fun (zh : True) => istext_ok t hl
    have zD2 := fun {z0} {z1} zh => iscut_ok z0 z1 zh
    refine stp ?_ ?_ ?_ ?_ ?_ ?_ ?_ ?_ ?_ ?_ ?_ ?_ ?_ ?_ ?_ ?_ <;> (first | exact Mk.mk | exact trivial | (intros; exact hl; done) | (repeat intro hq))
    all_goals first
      | ((try simp only [cond_true] at *); simp only [eokI, Bool.and_true, Bool.true_and, Bool.and_false, Bool.false_and, *]; done)
      | ((try simp only [cond_true] at *); simp [eokI, *]; done)
      | ((try simp only [cond_true] at *); simp_all [eokI]; done)
end Go.LX

