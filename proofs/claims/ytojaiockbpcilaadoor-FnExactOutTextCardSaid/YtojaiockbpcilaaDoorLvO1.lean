/- A part of the proof of the statement in the row text. -/
import Derived.Test.YtojaiockbpcilaaDoorLvShelf
import Derived.Test.YtojaiockbpcilaaDoorLxStpW
set_option linter.unusedVariables false
set_option linter.unusedSimpArgs false
namespace Go.LX
open Go.Proofs
attribute [local irreducible] W WO OpW RW EndQ
abbrev oBy (xs : List UInt8) : S0 := .own 5 .u8 false xs
/-- A number's digits; none of 0. -/
def dig0 (u : Nat) : List UInt8 := if u = 0 then [] else Lib.decDigits u
theorem dig0_step {u : Nat} (h : u ≠ 0) : dig0 u = dig0 (u / 10) ++ [UInt8.ofNat (48 + u % 10)] := by
  unfold dig0
  rw [if_neg h]
  by_cases h1 : u < 10
  · rw [if_pos (by omega), Lib.decDigits, dif_pos h1, show u % 10 = u by omega]; rfl
  · rw [if_neg (by omega), Lib.decDigits, dif_neg h1]
theorem dec_len : ∀ (k : Nat) (u : Nat), u < 10 ^ (k + 1) → (Lib.decDigits u).length ≤ k + 1
  | 0, u, h => by rw [Lib.decDigits, dif_pos (by simpa using h)]; simp
  | k + 1, u, h => by
    rw [Lib.decDigits]
    split
    · simp
    · have := dec_len k (u / 10) (by rw [Nat.pow_succ] at h; omega)
      simp only [List.length_append, List.length_cons, List.length_nil]; omega
theorem itoa_len {n : Int} (hn : -9223372036854775808 ≤ n ∧ n ≤ 9223372036854775807) : (Lib.itoa n).length ≤ 21 := by
  unfold Lib.itoa
  split
  · have := dec_len 19 n.natAbs (by omega)
    simp only [List.length_cons]; omega
  · have := dec_len 19 n.toNat (by omega)
    omega
theorem tmod_at (m : Int) : m.tmod 10 = if m < 0 then -((-m) % 10) else m % 10 := by
  split
  · rename_i h
    have : m = -(-m) := by omega
    rw [this, Int.neg_tmod, Int.neg_neg, Int.tmod_eq_emod_of_nonneg (by omega)]
  · rw [Int.tmod_eq_emod_of_nonneg (by omega)]
theorem tdiv_at (m : Int) : m.tdiv 10 = if m < 0 then -((-m) / 10) else m / 10 := by
  split
  · rename_i h
    have : m = -(-m) := by omega
    rw [this, Int.neg_tdiv, Int.neg_neg, Int.tdiv_eq_ediv_of_nonneg (by omega)]
  · rw [Int.tdiv_eq_ediv_of_nonneg (by omega)]
theorem num_dig {u : Nat} : toB (48 + ((u % 10 : Nat) : Int)) = UInt8.ofNat (48 + u % 10) := by
  unfold toB; congr 1; omega
/-- One more digit. -/
theorem num_step {n m d : Int} {out : List UInt8} (hn : -9223372036854775808 ≤ n ∧ n ≤ 9223372036854775807) (j1 : dig0 m.natAbs ++ out = Lib.decDigits n.natAbs) (j2 : m.natAbs ≤ n.natAbs) (j3 : 0 ≤ n → 0 ≤ m) (j4 : n ≤ 0 → m ≤ 0) (hm : m ≠ 0) (hd : d = ((m.natAbs % 10 : Nat) : Int)) :
    (IntKind.i64.wrap (m.tdiv 10)).natAbs < m.natAbs ∧ (dig0 (IntKind.i64.wrap (m.tdiv 10)).natAbs ++ ([toB (IntKind.i64.wrap (48 + d))] ++ out) = Lib.decDigits n.natAbs) ∧ (IntKind.i64.wrap (m.tdiv 10)).natAbs ≤ n.natAbs ∧ (0 ≤ n → 0 ≤ IntKind.i64.wrap (m.tdiv 10)) ∧ (n ≤ 0 → IntKind.i64.wrap (m.tdiv 10) ≤ 0) := by
  have hw : IntKind.i64.wrap (m.tdiv 10) = m.tdiv 10 := by
    rw [inR_wrap]; rw [tdiv_at]; simp only [inR]; split <;> omega
  have ha : (m.tdiv 10).natAbs = m.natAbs / 10 := by rw [tdiv_at]; split <;> omega
  have hs : IntKind.i64.wrap (48 + d) = 48 + d := by
    rw [inR_wrap]; simp only [inR]; omega
  rw [hw, ha, hs, hd, num_dig, ← List.append_assoc, ← dig0_step (by omega)]
  refine ⟨by omega, j1, by omega, ?_, ?_⟩
  · intro h; have := j3 h; rw [tdiv_at]; split <;> omega
  · intro h; have := j4 h; rw [tdiv_at]; split <;> omega
theorem num_neg {m : Int} (h : m.tmod 10 < 0) : IntKind.i64.wrap (0 - m.tmod 10) = ((m.natAbs % 10 : Nat) : Int) := by
  rw [tmod_at] at h ⊢
  split at h
  · rename_i hm
    rw [if_pos hm, inR_wrap] <;> (try simp only [inR]) <;> omega
  · omega
theorem num_pos {m : Int} (h : ¬ m.tmod 10 < 0) : m.tmod 10 = ((m.natAbs % 10 : Nat) : Int) := by
  rw [tmod_at] at h ⊢
  split at h
  · rename_i hm
    rw [if_pos hm]; omega
  · rename_i hm
    rw [if_neg hm]; omega
set_option maxHeartbeats 4000000 in
set_option maxRecDepth 20000 in
theorem num_ok (n : Int) (hn : -9223372036854775808 ≤ n ∧ n ≤ 9223372036854775807) : FnC Tryd.prog 76 [aI n] [aX] (.one (.d .st (Lib.itoa n))) := by
  by_cases h0 : n = 0
  · subst h0
    refine FnC_of (fn := Tryd.f76) Tryd.func76 rfl rfl rfl ?_
    refine stp ?_ ?_ ?_ ?_ ?_ ?_ ?_ ?_ ?_ ?_ ?_ ?_ ?_ ?_ ?_ ?_ <;> (first | exact Mk.mk | exact trivial | (repeat intro hq))
    rw [Lib.itoa, if_neg (by decide), show (0 : Int).toNat = 0 from rfl, Lib.decDigits, dif_pos (by decide)]; rfl
  · refine FnC_of (fn := Tryd.f76) Tryd.func76 rfl rfl rfl ?_
    refine stpW ?_ ?_ ?_ ?_ ?_ ?_ ?_ ?_ ?_ ?_ ?_ ?_ ?_ ?_ ?_ ?_ <;> (first | exact Mk.mk | exact trivial | (repeat intro hq))
    refine W_loopT (fun q : Int × List UInt8 => St.tmpl 33 [(0, .one (.d (.i .i64) n)), (3, .one (.rf 9000 .ar)), (4, .one (.d (.i .i64) q.1))] [(9000, .rows 5 .u8 false q.2)])
      (fun q => dig0 q.1.natAbs ++ q.2 = Lib.decDigits n.natAbs ∧ (q.1.natAbs ≤ n.natAbs) ∧ (0 ≤ n → 0 ≤ q.1) ∧ (n ≤ 0 → q.1 ≤ 0)) (fun q => q.1.natAbs) (n, []) ?_ ?_ ?_
    · simp only [List.append_nil, dig0]
      rw [if_neg (by omega)]
      exact ⟨rfl, Nat.le_refl _, fun h => h, fun h => h⟩
    · exact Wk_tmpl [] ⟨rfl, rfl, rfl, trivial⟩ ⟨rfl, trivial⟩ rfl rfl
    · rintro ⟨m, out⟩ ⟨j1, j2, j3, j4⟩
      simp only at j1 j2 j3 j4 ⊢
      have hlen := congrArg List.length j1
      have hd := dec_len 19 n.natAbs (by omega)
      rw [List.length_append] at hlen
      refine stpW ?_ ?_ ?_ ?_ ?_ ?_ ?_ ?_ ?_ ?_ ?_ ?_ ?_ ?_ ?_ ?_ <;> (first | exact Mk.mk | exact trivial | (repeat intro hq))
      all_goals try (exact absurd hq (by decide))
      · simp only [List.length_cons, List.length_nil]; unfold maxLen; omega
      · rename_i q1 q2
        obtain ⟨s1, s2, s3, s4, s5⟩ := num_step hn j1 j2 j3 j4 (by simpa using q2) (num_neg (of_decide_eq_true hq))
        exact ⟨(_, _), s1, ⟨s2, s3, s4, s5⟩, Wk_tmpl [(9000, 26000)] ⟨rfl, rfl, rfl, trivial⟩ ⟨rfl, trivial⟩ rfl rfl⟩
      · simp only [List.length_cons, List.length_nil]; unfold maxLen; omega
      · rename_i q1 q2
        obtain ⟨s1, s2, s3, s4, s5⟩ := num_step hn j1 j2 j3 j4 (by simpa using q2) (num_pos (of_decide_eq_false hq))
        exact ⟨(_, _), s1, ⟨s2, s3, s4, s5⟩, Wk_tmpl [(9000, 26000)] ⟨rfl, rfl, rfl, trivial⟩ ⟨rfl, trivial⟩ rfl rfl⟩
      · simp only [List.length_cons, List.length_nil]; unfold maxLen; omega
      · rename_i q1 q2
        have q2 : m = 0 := by simpa using q2
        subst q2
        have hq := of_decide_eq_true hq
        rw [Lib.itoa, if_pos hq, ← j1]; rfl
      · rename_i q1 q2
        have q2 : m = 0 := by simpa using q2
        subst q2
        have hq := of_decide_eq_false hq
        rw [Lib.itoa, if_neg hq, show n.toNat = n.natAbs by omega, ← j1]; rfl
end Go.LX
