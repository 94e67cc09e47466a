/- A part of the proof of the statement in the row text. -/
import Derived.Test.YtojaiockbpcilaaDoorLzV3
set_option linter.unusedVariables false
set_option linter.unusedSimpArgs false
namespace Go.LX
open Go.Proofs
attribute [local irreducible] W WO OpW RW EndQ
theorem byA_drop {xs : List UInt8} {a : Nat} (i : Nat) : byA xs ((a : Int) + (i : Int)) = (((xs.drop a).getD i 0).toNat : Int) := by
  rw [byA, getD_drop']
  congr 3
theorem stU_def (p : List UInt8) (h : p.length ≠ 0) : ((p.getD 0 0).toNat < 128 ∧ stU p = 1) ∨ (128 ≤ (p.getD 0 0).toNat ∧ (p.getD 0 0).toNat < 192 ∧ stU p = 0) ∨
    ((192 ≤ (p.getD 0 0).toNat ∧ (p.getD 0 0).toNat < 224) ∧ stU p = if 2 ≤ p.length ∧ (194 ≤ (p.getD 0 0).toNat ∧ (128 ≤ (p.getD 1 0).toNat ∧ (p.getD 1 0).toNat ≤ 191)) then 2 else 0) ∨
    ((224 ≤ (p.getD 0 0).toNat ∧ (p.getD 0 0).toNat < 240) ∧ stU p = if 3 ≤ p.length ∧ (((if (p.getD 0 0).toNat = 224 then 160 else 128) ≤ (p.getD 1 0).toNat ∧ (p.getD 1 0).toNat ≤ (if (p.getD 0 0).toNat = 237 then 159 else 191)) ∧ (128 ≤ (p.getD 2 0).toNat ∧ (p.getD 2 0).toNat ≤ 191)) then 3 else 0) ∨
    (240 ≤ (p.getD 0 0).toNat ∧ stU p = if 4 ≤ p.length ∧ ((p.getD 0 0).toNat < 245 ∧ ((if (p.getD 0 0).toNat = 240 then 144 else 128) ≤ (p.getD 1 0).toNat ∧ (p.getD 1 0).toNat ≤ (if (p.getD 0 0).toNat = 244 then 143 else 191)) ∧ (128 ≤ (p.getD 2 0).toNat ∧ (p.getD 2 0).toNat ≤ 191) ∧ (128 ≤ (p.getD 3 0).toNat ∧ (p.getD 3 0).toNat ≤ 191)) then 4 else 0) := by
  unfold stU
  simp only
  generalize (p.getD 0 0).toNat = b
  generalize (p.getD 1 0).toNat = c
  generalize (p.getD 2 0).toNat = d
  generalize (p.getD 3 0).toNat = e
  rw [if_neg h]
  by_cases h1 : b < 128
  · exact .inl ⟨h1, if_pos h1⟩
  · rw [if_neg h1]
    by_cases h2 : b < 192
    · exact .inr (.inl ⟨by omega, h2, by rw [if_neg (by omega), if_neg (by omega), if_neg (by omega)]⟩)
    · by_cases h3 : b < 224
      · refine .inr (.inr (.inl ⟨⟨by omega, h3⟩, ?_⟩))
        by_cases h4 : 194 ≤ b
        · rw [if_pos (by omega)]
          repeat' split
          all_goals omega
        · rw [if_neg (by omega), if_neg (by omega), if_neg (by omega), if_neg (by omega)]
      · by_cases h4 : b < 240
        · refine .inr (.inr (.inr (.inl ⟨⟨by omega, h4⟩, ?_⟩)))
          rw [if_neg (by omega), if_pos (by omega)]
          repeat' split
          all_goals omega
        · refine .inr (.inr (.inr (.inr ⟨by omega, ?_⟩)))
          rw [if_neg (by omega), if_neg (by omega)]
          by_cases h5 : b < 245
          · rw [if_pos (by omega)]
            repeat' split
            all_goals omega
          · rw [if_neg (by omega), if_neg (by omega)]
theorem rs_eq (xs : List UInt8) (a : Nat) (h : a ≤ xs.length) : rsM xs a = (stU (xs.drop a) : Int) := by
  have hlen : (xs.drop a).length = xs.length - a := List.length_drop ..
  have hb : byA xs (a : Int) = (((xs.drop a).getD 0 0).toNat : Int) := by
    have := byA_drop (xs := xs) (a := a) 0
    simpa using this
  show (r1X xs a).2 = _
  unfold r1X
  rw [hb]
  generalize hp : xs.drop a = p at *
  by_cases h0 : a < xs.length
  · rw [if_pos (by omega)]
    have hpl : p.length ≠ 0 := by omega
    have hcut : ∀ n : Nat, n ≤ p.length → cut (some (a : Int)) (some ((a : Int) + (n : Int))) xs = (List.range n).map fun i => p.getD i 0 := fun n hn => by
      rw [cut_two (by omega), hp, take_get p n hn]
    have b1 : byA xs ((a : Int) + (((0 : Nat) : Int) + 1)) = ((p.getD 1 0).toNat : Int) := by rw [← hp]; exact byA_drop 1
    have b2 : byA xs ((a : Int) + (((1 : Nat) : Int) + 1)) = ((p.getD 2 0).toNat : Int) := by rw [← hp]; exact byA_drop 2
    have b3 : byA xs ((a : Int) + (((2 : Nat) : Int) + 1)) = ((p.getD 3 0).toNat : Int) := by rw [← hp]; exact byA_drop 3
    rcases stU_def p hpl with ⟨q1, q2⟩ | ⟨q1, q1', q2⟩ | ⟨q1, q2⟩ | ⟨q1, q2⟩ | ⟨q1, q2⟩
    · have l1 : ldS ((p.getD 0 0).toNat : Int) = 1 := by unfold ldS; rw [if_neg (by omega), if_neg (by omega), if_neg (by omega)]
      have l2 : ldR ((p.getD 0 0).toNat : Int) = ((p.getD 0 0).toNat : Int) := by unfold ldR; rw [if_neg (by omega), if_neg (by omega), if_neg (by omega)]
      rw [l1, l2, if_neg (by omega), show ((1 : Int) - 1).toNat = 0 by decide, rnM]
      have := hcut 1 (by omega)
      rw [show ((a : Int) + ((1 : Nat) : Int)) = (a : Int) + 1 by omega] at this
      rw [this]
      simp only [rbN, List.range_succ, List.range_zero, List.nil_append, List.map_cons, List.map_nil, List.map_append, List.cons_append]
      rw [if_pos ((rb1 _ (by omega)).2 q1), q2]
      rfl
    · have l1 : ldS ((p.getD 0 0).toNat : Int) = 1 := by unfold ldS; rw [if_neg (by omega), if_neg (by omega), if_neg (by omega)]
      have l2 : ldR ((p.getD 0 0).toNat : Int) = ((p.getD 0 0).toNat : Int) := by unfold ldR; rw [if_neg (by omega), if_neg (by omega), if_neg (by omega)]
      rw [l1, l2, if_neg (by omega), show ((1 : Int) - 1).toNat = 0 by decide, rnM]
      have := hcut 1 (by omega)
      rw [show ((a : Int) + ((1 : Nat) : Int)) = (a : Int) + 1 by omega] at this
      rw [this]
      simp only [rbN, List.range_succ, List.range_zero, List.nil_append, List.map_cons, List.map_nil, List.map_append, List.cons_append]
      rw [if_neg (fun e => by have := (rb1 _ (by omega)).1 e; omega), q2]
      rfl
    · have l1 : ldS ((p.getD 0 0).toNat : Int) = 2 := by unfold ldS; rw [if_neg (by omega), if_neg (by omega), if_pos (by omega)]
      have l2 : ldR ((p.getD 0 0).toNat : Int) = ((p.getD 0 0).toNat : Int) - 192 := by unfold ldR; rw [if_neg (by omega), if_neg (by omega), if_pos (by omega)]
      rw [l1, l2, q2]
      by_cases hl : 2 ≤ p.length
      · rw [if_neg (by omega), show ((2 : Int) - 1).toNat = 1 by decide, rnM, rnM, b1]
        have := hcut 2 hl
        rw [show ((a : Int) + ((2 : Nat) : Int)) = (a : Int) + 2 by omega] at this
        rw [this]
        simp only [rbN, List.range_succ, List.range_zero, List.nil_append, List.map_cons, List.map_nil, List.map_append, List.cons_append]
        by_cases hok : 194 ≤ (p.getD 0 0).toNat ∧ (128 ≤ (p.getD 1 0).toNat ∧ (p.getD 1 0).toNat ≤ 191)
        · rw [if_pos ((rb2 _ _ q1).2 hok), if_pos ⟨hl, hok⟩]; rfl
        · rw [if_neg (fun e => hok ((rb2 _ _ q1).1 e)), if_neg (fun e => hok e.2)]; rfl
      · rw [if_pos (by omega), if_neg (fun e => hl e.1)]; rfl
    · have l1 : ldS ((p.getD 0 0).toNat : Int) = 3 := by unfold ldS; rw [if_neg (by omega), if_pos (by omega)]
      have l2 : ldR ((p.getD 0 0).toNat : Int) = ((p.getD 0 0).toNat : Int) - 224 := by unfold ldR; rw [if_neg (by omega), if_pos (by omega)]
      rw [l1, l2, q2]
      by_cases hl : 3 ≤ p.length
      · rw [if_neg (by omega), show ((3 : Int) - 1).toNat = 2 by decide, rnM, rnM, rnM, b1, b2]
        have := hcut 3 hl
        rw [show ((a : Int) + ((3 : Nat) : Int)) = (a : Int) + 3 by omega] at this
        rw [this]
        simp only [rbN, List.range_succ, List.range_zero, List.nil_append, List.map_cons, List.map_nil, List.map_append, List.cons_append]
        by_cases hok : (((if (p.getD 0 0).toNat = 224 then 160 else 128) ≤ (p.getD 1 0).toNat ∧ (p.getD 1 0).toNat ≤ (if (p.getD 0 0).toNat = 237 then 159 else 191)) ∧ (128 ≤ (p.getD 2 0).toNat ∧ (p.getD 2 0).toNat ≤ 191))
        · rw [if_pos ((rb3 _ _ _ q1).2 hok), if_pos ⟨hl, hok⟩]; rfl
        · rw [if_neg (fun e => hok ((rb3 _ _ _ q1).1 e)), if_neg (fun e => hok e.2)]; rfl
      · rw [if_pos (by omega), if_neg (fun e => hl e.1)]; rfl
    · have l1 : ldS ((p.getD 0 0).toNat : Int) = 4 := by unfold ldS; rw [if_pos (by omega)]
      have l2 : ldR ((p.getD 0 0).toNat : Int) = ((p.getD 0 0).toNat : Int) - 240 := by unfold ldR; rw [if_pos (by omega)]
      rw [l1, l2, q2]
      by_cases hl : 4 ≤ p.length
      · rw [if_neg (by omega), show ((4 : Int) - 1).toNat = 3 by decide, rnM, rnM, rnM, rnM, b1, b2, b3]
        have := hcut 4 hl
        rw [show ((a : Int) + ((4 : Nat) : Int)) = (a : Int) + 4 by omega] at this
        rw [this]
        simp only [rbN, List.range_succ, List.range_zero, List.nil_append, List.map_cons, List.map_nil, List.map_append, List.cons_append]
        by_cases hok : ((p.getD 0 0).toNat < 245 ∧ ((if (p.getD 0 0).toNat = 240 then 144 else 128) ≤ (p.getD 1 0).toNat ∧ (p.getD 1 0).toNat ≤ (if (p.getD 0 0).toNat = 244 then 143 else 191)) ∧ (128 ≤ (p.getD 2 0).toNat ∧ (p.getD 2 0).toNat ≤ 191) ∧ (128 ≤ (p.getD 3 0).toNat ∧ (p.getD 3 0).toNat ≤ 191))
        · rw [if_pos ((rb4 _ _ _ _ q1).2 hok), if_pos ⟨hl, hok⟩]; rfl
        · rw [if_neg (fun e => hok ((rb4 _ _ _ _ q1).1 e)), if_neg (fun e => hok e.2)]; rfl
      · rw [if_pos (by omega), if_neg (fun e => hl e.1)]; rfl
  · rw [if_neg (by omega)]
    have : p.length = 0 := by omega
    have e : stU p = 0 := by unfold stU; simp only; rw [if_pos this]
    rw [e]; rfl
end Go.LX
