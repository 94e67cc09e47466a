/- A part of the proof of the statement in the row text. -/
import Derived.Test.YtojaiockbpcilaaDoorLzD4
import Derived.Test.YtojaiockbpcilaaDoorLxDat
set_option linter.unusedVariables false
set_option linter.unusedSimpArgs false
namespace Go.LX
open Go.Proofs
attribute [local irreducible] W WO OpW RW EndQ
set_option maxHeartbeats 4000000 in
set_option maxRecDepth 20000 in
theorem rb_out (n : Int) (h : n < 0 ∨ 1114111 < n) : FnC Tryd.prog 84 [aI n] [aX] (.one (oBy [])) := by
  refine FnC_of (fn := Tryd.f84) Tryd.func84 rfl rfl rfl ?_
  refine stp ?_ ?_ ?_ ?_ ?_ ?_ ?_ ?_ ?_ ?_ <;> (first | exact Mk.mk | exact trivial | (repeat intro hq))
def rbN (n : Int) : List UInt8 := rbE n
theorem rbN_ok (n : Int) : FnC Tryd.prog 84 [aI n] [aX] (.one (oBy (rbN n))) := by
  by_cases h : 0 ≤ n ∧ n ≤ 1114111
  · exact runebytes_ok n h
  · have e : rbN n = [] := by rw [rbN, rbE, if_pos (by omega)]
    rw [e]
    exact rb_out n (by omega)
def byA (xs : List UInt8) (i : Int) : Int := (xs.getD i.toNat 0).toNat
theorem byA_lt {xs : List UInt8} {i : Int} : 0 ≤ byA xs i ∧ byA xs i ≤ 255 := by
  have := (xs.getD i.toNat 0).toNat_lt
  unfold byA; omega
/-- The rune's number, byte by byte. -/
def rnM (xs : List UInt8) (a r0 : Int) : Nat → Int
  | 0 => r0
  | k + 1 => 64 * rnM xs a r0 k + byA xs (a + ((k : Int) + 1)) - 128
theorem rnM_b {xs : List UInt8} {a r0 : Int} (h : 0 ≤ r0 ∧ r0 ≤ 255) : ∀ {k : Nat}, k ≤ 3 → -1000000 ≤ rnM xs a r0 k ∧ rnM xs a r0 k ≤ 100000000
  | 0, _ => by simp only [rnM]; omega
  | 1, _ => by have := @byA_lt xs (a + (((0 : Nat) : Int) + 1)); simp only [rnM]; omega
  | 2, _ => by have := @byA_lt xs (a + (((0 : Nat) : Int) + 1)); have := @byA_lt xs (a + (((1 : Nat) : Int) + 1)); simp only [rnM]; omega
  | 3, _ => by have := @byA_lt xs (a + (((0 : Nat) : Int) + 1)); have := @byA_lt xs (a + (((1 : Nat) : Int) + 1)); have := @byA_lt xs (a + (((2 : Nat) : Int) + 1)); simp only [rnM]; omega
  | n + 4, h => absurd h (by omega)
/-- The size that a lead byte tells, and what it gives. -/
def ldS (b : Int) : Int := if 240 ≤ b then 4 else if 224 ≤ b then 3 else if 192 ≤ b then 2 else 1
def ldR (b : Int) : Int := if 240 ≤ b then b - 240 else if 224 ≤ b then b - 224 else if 192 ≤ b then b - 192 else b
def r1X (xs : List UInt8) (a : Int) : Int × Int :=
  if 0 ≤ a ∧ a < xs.length then (if xs.length - a < ldS (byA xs a) then (-1, 0) else if rbN (rnM xs a (ldR (byA xs a)) (ldS (byA xs a) - 1).toNat) = cut (some a) (some (a + ldS (byA xs a))) xs then (rnM xs a (ldR (byA xs a)) (ldS (byA xs a) - 1).toNat, ldS (byA xs a)) else (-1, 0)) else (-1, 0)
set_option maxHeartbeats 4000000 in
set_option maxRecDepth 20000 in
theorem rune1_ex (xs : List UInt8) (a : Int) (hl : xs.length ≤ 16777216) : FnC Tryd.prog 73 [aBy xs, aI a] [aX, aX] (.tu [(false, [sI (r1X xs a).1]), (false, [sI (r1X xs a).2])]) := by
  by_cases h0 : 0 ≤ a ∧ a < xs.length
  · have hb := @byA_lt xs a
    have hbe : ((xs.getD a.toNat (dflt Ty.u8)).toNat : Int) = byA xs a := rfl
    obtain ⟨sz, hsz0⟩ : ∃ sz, ldS (byA xs a) = sz := ⟨_, rfl⟩
    obtain ⟨r0, hr00⟩ : ∃ r0, ldR (byA xs a) = r0 := ⟨_, rfl⟩
    have hsz : ((240 ≤ byA xs a ∧ sz = 4 ∧ r0 = byA xs a - 240) ∨ (byA xs a < 240 ∧ 224 ≤ byA xs a ∧ sz = 3 ∧ r0 = byA xs a - 224) ∨ (byA xs a < 224 ∧ 192 ≤ byA xs a ∧ sz = 2 ∧ r0 = byA xs a - 192) ∨ (byA xs a < 192 ∧ sz = 1 ∧ r0 = byA xs a)) := by
      rw [← hsz0, ← hr00]
      unfold ldS ldR
      repeat' split
      all_goals omega
    by_cases hlen : xs.length - a < sz
    · have e : r1X xs a = (-1, 0) := by rw [r1X, if_pos h0, hsz0, if_pos hlen]
      rw [e]
      clear e hsz0 hr00
      refine FnC_of (fn := Tryd.f73) Tryd.func73 rfl rfl rfl ?_
      refine stp ?_ ?_ ?_ ?_ ?_ ?_ ?_ ?_ ?_ ?_ <;> (first | exact Mk.mk | exact trivial | (repeat intro hq))
    · obtain ⟨k0, hk0⟩ : ∃ k0 : Nat, sz = k0 + 1 := ⟨(sz - 1).toNat, by omega⟩
      have hr0 : 0 ≤ r0 ∧ r0 ≤ 255 := by omega
      have hk3 : k0 ≤ 3 := by omega
      have e : r1X xs a = if rbN (rnM xs a r0 k0) = cut (some a) (some (a + sz)) xs then (rnM xs a r0 k0, sz) else (-1, 0) := by
        rw [r1X, if_pos h0, hsz0, hr00, if_neg hlen, show (sz - 1).toNat = k0 by omega]
      rw [e]
      clear e hsz0 hr00
      refine FnC_of (fn := Tryd.f73) Tryd.func73 rfl rfl rfl ?_
      refine stp ?_ ?_ ?_ ?_ ?_ ?_ ?_ ?_ ?_ ?_ <;> (first | exact Mk.mk | exact trivial | (repeat intro hq))
      all_goals refine W_loopT (fun k : Nat => St.tmpl 74 [(0, .one (.d (.sl .u8) xs)), (1, .one (.d (.i .i64) a)), (7, .one (.d (.i .i64) sz)), (8, .one (.d (.i .i64) (rnM xs a r0 k))), (9, .one (.d (.i .i64) ((k : Int) + 1)))] []) (fun k => k ≤ k0) (fun k => k0 - k) 0 (Nat.zero_le _) (Wk_tmpl [] ⟨rfl, rfl, ?_, ?_, rfl, trivial⟩ trivial rfl rfl) ?_
      all_goals first
        | (refine congrArg (fun r => SV.one (C.d (Ty.i IntKind.i64) r)) ?_; show (_ : Int) = r0; (simp_all) <;> omega)
        | (refine congrArg (fun r => SV.one (C.d (Ty.i IntKind.i64) r)) ?_; show (_ : Int) = sz; (simp_all) <;> omega)
        | skip
      all_goals
        intro k hk
        have hb1 := @byA_lt xs (a + ((k : Int) + 1))
        have hbe1 : ((xs.getD (a + ((k : Int) + 1)).toNat (dflt Ty.u8)).toNat : Int) = byA xs (a + ((k : Int) + 1)) := rfl
        have hrb := rnM_b (xs := xs) (a := a) hr0 (k := k) (by omega)
      all_goals (
        have zD1 := fun {z0} (zh : True) => rbN_ok z0
        refine stpS ?_ ?_ ?_ ?_ ?_ ?_ ?_ ?_ ?_ ?_ <;> (first | exact Mk.mk | exact trivial | (repeat intro hq))
      )
      all_goals first
        | (have hlt : (k : Int) + 1 < sz := of_decide_eq_true hq
           refine ⟨k + 1, by omega, by omega, Wk_tmpl [] ⟨rfl, rfl, rfl, rfl, ?_, trivial⟩ trivial rfl rfl⟩
           refine congrArg (fun r => SV.one (C.d (Ty.i IntKind.i64) r)) ?_
           show (k : Int) + 1 + 1 = ((k + 1 : Nat) : Int) + 1
           omega)
        | skip
      all_goals have hge0 : ¬ (k : Int) + 1 < sz := of_decide_eq_false (by assumption)
      all_goals have hke : k = k0 := by omega
      all_goals subst hke
      all_goals split <;> rename_i hs <;> first
        | rfl
        | (exfalso; simp [hs] at hq; done)
        | (exfalso; exact hs (by simpa using hq))
        | (exfalso; revert hq; simp [hs]; done)
        | skip
  · have e : r1X xs a = (-1, 0) := by rw [r1X, if_neg h0]
    rw [e]
    refine FnC_of (fn := Tryd.f73) Tryd.func73 rfl rfl rfl ?_
    refine stp ?_ ?_ ?_ ?_ ?_ ?_ ?_ ?_ ?_ ?_ <;> (first | exact Mk.mk | exact trivial | (repeat intro hq))
theorem r1X_b (xs : List UInt8) (a : Int) : (0 ≤ (r1X xs a).2 ∧ (r1X xs a).2 ≤ 4) ∧ (0 < (r1X xs a).2 → 0 ≤ a ∧ a + (r1X xs a).2 ≤ xs.length) := by
  have hs : 1 ≤ ldS (byA xs a) ∧ ldS (byA xs a) ≤ 4 := by
    unfold ldS; repeat' split
    all_goals omega
  unfold r1X
  split
  · split
    · exact ⟨by decide, fun h => absurd h (by decide)⟩
    · split
      · exact ⟨by simp only; omega, by simp only; omega⟩
      · exact ⟨by decide, fun h => absurd h (by decide)⟩
  · exact ⟨by decide, fun h => absurd h (by decide)⟩
end Go.LX
