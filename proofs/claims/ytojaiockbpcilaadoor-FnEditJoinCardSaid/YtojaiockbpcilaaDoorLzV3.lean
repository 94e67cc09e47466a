/- A part of the proof of the statement in the row text. -/
import Derived.Test.YtojaiockbpcilaaDoorLzE2
import Derived.Test.YtojaiockbpcilaaDoorLxLd
set_option linter.unusedVariables false
set_option linter.unusedSimpArgs false
namespace Go.LX
open Go.Proofs
attribute [local irreducible] W WO OpW RW EndQ
/-! The reference reads runes as Go's library does. -/
theorem getD_drop' {xs : List UInt8} {n i : Nat} : (xs.drop n).getD i 0 = xs.getD (n + i) 0 := by
  simp [List.getD_eq_getElem?_getD, List.getElem?_drop]
theorem toB_eq {n : Int} {b : UInt8} (h : 0 ≤ n ∧ n ≤ 255) : toB n = b ↔ n = (b.toNat : Int) := by
  have h1 := toB_nat n
  constructor
  · intro e; rw [← e]; omega
  · intro e
    apply UInt8.toNat_inj.1
    omega
theorem cut_two {xs : List UInt8} {a n : Nat} (h : a + n ≤ xs.length) : cut (some (a : Int)) (some ((a : Int) + n)) xs = (xs.drop a).take n := by
  simp only [cut]
  rw [show ((a : Int)).toNat = a by omega, show ((a : Int) + n).toNat - a = n by omega]
theorem take_get (p : List UInt8) : ∀ n, n ≤ p.length → p.take n = (List.range n).map fun i => p.getD i 0
  | 0, _ => by simp
  | n + 1, h => by
    rw [List.take_add_one, take_get p n (by omega), List.range_succ, List.map_append, List.getElem?_eq_getElem (by omega)]
    simp [List.getD_eq_getElem?_getD, List.getElem?_eq_getElem (show n < p.length by omega)]
theorem toB_iff {n : Int} {b : UInt8} : toB n = b ↔ n % 256 = (b.toNat : Int) := by
  have h1 := toB_nat n
  constructor
  · intro e; rw [← e]; omega
  · intro e
    apply UInt8.toNat_inj.1
    omega
theorem rb1 (B : UInt8) (h : B.toNat < 192) : rbE (B.toNat : Int) = [B] ↔ B.toNat < 128 := by
  unfold rbE
  repeat' split
  all_goals simp only [List.cons.injEq, and_true, toB_iff, List.nil_eq, reduceCtorEq, false_iff, List.cons_ne_nil]
  all_goals first
    | omega
    | (simp; omega)
theorem rb2 (B C : UInt8) (h : 192 ≤ B.toNat ∧ B.toNat < 224) : rbE (64 * ((B.toNat : Int) - 192) + C.toNat - 128) = [B, C] ↔ (194 ≤ B.toNat ∧ (128 ≤ C.toNat ∧ C.toNat ≤ 191)) := by
  have hc := C.toNat_lt
  unfold rbE
  repeat' split
  all_goals simp only [List.cons.injEq, and_true, toB_iff, reduceCtorEq, false_iff, and_false]
  all_goals omega
theorem rb3 (B C D : UInt8) (h : 224 ≤ B.toNat ∧ B.toNat < 240) : rbE (64 * (64 * ((B.toNat : Int) - 224) + C.toNat - 128) + D.toNat - 128) = [B, C, D] ↔ (((if B.toNat = 224 then 160 else 128) ≤ C.toNat ∧ C.toNat ≤ (if B.toNat = 237 then 159 else 191)) ∧ (128 ≤ D.toNat ∧ D.toNat ≤ 191)) := by
  have hc := C.toNat_lt
  have hd := D.toNat_lt
  unfold rbE
  repeat' split
  all_goals simp only [List.cons.injEq, and_true, toB_iff, reduceCtorEq, false_iff, and_false]
  all_goals omega
theorem rb4 (B C D E : UInt8) (h : 240 ≤ B.toNat) : rbE (64 * (64 * (64 * ((B.toNat : Int) - 240) + C.toNat - 128) + D.toNat - 128) + E.toNat - 128) = [B, C, D, E] ↔ (B.toNat < 245 ∧ ((if B.toNat = 240 then 144 else 128) ≤ C.toNat ∧ C.toNat ≤ (if B.toNat = 244 then 143 else 191)) ∧ (128 ≤ D.toNat ∧ D.toNat ≤ 191) ∧ (128 ≤ E.toNat ∧ E.toNat ≤ 191)) := by
  have hb := B.toNat_lt
  have hc := C.toNat_lt
  have hd := D.toNat_lt
  have he := E.toNat_lt
  unfold rbE
  repeat' split
  all_goals simp only [List.cons.injEq, and_true, toB_iff, reduceCtorEq, false_iff, and_false]
  all_goals omega
end Go.LX
