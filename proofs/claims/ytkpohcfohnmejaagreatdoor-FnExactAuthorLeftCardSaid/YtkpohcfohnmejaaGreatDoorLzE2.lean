/- A part of the proof of the statement in the row text. -/
import Derived.Test.YtkpohcfohnmejaaGreatDoorLzD4
import Derived.Test.YtkpohcfohnmejaaGreatDoorLxStpL
set_option linter.unusedVariables false
set_option linter.unusedSimpArgs false
namespace Go.LX
open Go.Proofs
attribute [local irreducible] W WO OpW RW EndQ
set_option maxHeartbeats 4000000 in
set_option maxRecDepth 20000 in
theorem rb_out (n : Int) (h : n < 0 ∨ 1114111 < n) : FnC Tryz.prog 174 [aI n] [aX] (.one (oBy [])) := by
  refine FnC_of (fn := Tryz.f174) Tryz.func174 rfl rfl rfl ?_
  refine stp ?_ ?_ ?_ ?_ ?_ ?_ ?_ ?_ ?_ ?_ ?_ ?_ ?_ ?_ ?_ ?_ <;> (first | exact Mk.mk | exact trivial | (repeat intro hq))
def rbN (n : Int) : List UInt8 := rbE n
theorem rbN_ok (n : Int) : FnC Tryz.prog 174 [aI n] [aX] (.one (oBy (rbN n))) := by
  by_cases h : 0 ≤ n ∧ n ≤ 1114111
  · exact runebytes_ok n h
  · have e : rbN n = [] := by rw [rbN, rbE, if_pos (by omega)]
    rw [e]
    exact rb_out n (by omega)
def byA (xs : List UInt8) (i : Int) : Int := (xs.getD i.toNat 0).toNat
theorem byA_lt {xs : List UInt8} {i : Int} : 0 ≤ byA xs i ∧ byA xs i ≤ 255 := by
  have := (xs.getD i.toNat 0).toNat_lt
  unfold byA; omega
/-- The rune's number, byte by byte. -/
def rnM (xs : List UInt8) (a r0 : Int) : Nat → Int
  | 0 => r0
  | k + 1 => 64 * rnM xs a r0 k + byA xs (a + ((k : Int) + 1)) - 128
theorem rnM_b {xs : List UInt8} {a r0 : Int} (h : 0 ≤ r0 ∧ r0 ≤ 255) : ∀ {k : Nat}, k ≤ 3 → -1000000 ≤ rnM xs a r0 k ∧ rnM xs a r0 k ≤ 100000000
  | 0, _ => by simp only [rnM]; omega
  | 1, _ => by have := @byA_lt xs (a + (((0 : Nat) : Int) + 1)); simp only [rnM]; omega
  | 2, _ => by have := @byA_lt xs (a + (((0 : Nat) : Int) + 1)); have := @byA_lt xs (a + (((1 : Nat) : Int) + 1)); simp only [rnM]; omega
  | 3, _ => by have := @byA_lt xs (a + (((0 : Nat) : Int) + 1)); have := @byA_lt xs (a + (((1 : Nat) : Int) + 1)); have := @byA_lt xs (a + (((2 : Nat) : Int) + 1)); simp only [rnM]; omega
  | n + 4, h => absurd h (by omega)
/-- The size that a lead byte tells, and what it gives. -/
def ldS (b : Int) : Int := if 240 ≤ b then 4 else if 224 ≤ b then 3 else if 192 ≤ b then 2 else 1
def ldR (b : Int) : Int := if 240 ≤ b then b - 240 else if 224 ≤ b then b - 224 else if 192 ≤ b then b - 192 else b
def r1X (xs : List UInt8) (a : Int) : Int × Int :=
  if 0 ≤ a ∧ a < xs.length then (if xs.length - a < ldS (byA xs a) then (-1, 0) else if rbN (rnM xs a (ldR (byA xs a)) (ldS (byA xs a) - 1).toNat) = cut (some a) (some (a + ldS (byA xs a))) xs then (rnM xs a (ldR (byA xs a)) (ldS (byA xs a) - 1).toNat, ldS (byA xs a)) else (-1, 0)) else (-1, 0)
set_option maxHeartbeats 4000000 in
set_option maxRecDepth 20000 in
theorem rune1_ex (xs : List UInt8) (a : Int) (hl : xs.length ≤ 16777216) : FnC Tryz.prog 172 [aBy xs, aI a] [aX, aX] (.tu [(false, [sI (r1X xs a).1]), (false, [sI (r1X xs a).2])]) := by
  by_cases h0 : 0 ≤ a ∧ a < xs.length
  · have hb := @byA_lt xs a
    have hbe : ((xs.getD a.toNat (dflt Ty.u8)).toNat : Int) = byA xs a := rfl
    obtain ⟨sz, hsz0⟩ : ∃ sz, ldS (byA xs a) = sz := ⟨_, rfl⟩
    obtain ⟨r0, hr00⟩ : ∃ r0, ldR (byA xs a) = r0 := ⟨_, rfl⟩
    have hsz : ((240 ≤ byA xs a ∧ sz = 4 ∧ r0 = byA xs a - 240) ∨ (byA xs a < 240 ∧ 224 ≤ byA xs a ∧ sz = 3 ∧ r0 = byA xs a - 224) ∨ (byA xs a < 224 ∧ 192 ≤ byA xs a ∧ sz = 2 ∧ r0 = byA xs a - 192) ∨ (byA xs a < 192 ∧ sz = 1 ∧ r0 = byA xs a)) := by
      rw [← hsz0, ← hr00]
      unfold ldS ldR
      repeat' split
      all_goals omega
    by_cases hlen : xs.length - a < sz
    · have e : r1X xs a = (-1, 0) := by rw [r1X, if_pos h0, hsz0, if_pos hlen]
      rw [e]
      clear e hsz0 hr00
      refine FnC_of (fn := Tryz.f172) Tryz.func172 rfl rfl rfl ?_
      refine stp ?_ ?_ ?_ ?_ ?_ ?_ ?_ ?_ ?_ ?_ ?_ ?_ ?_ ?_ ?_ ?_ <;> (first | exact Mk.mk | exact trivial | (repeat intro hq))
    · obtain ⟨k0, hk0⟩ : ∃ k0 : Nat, sz = k0 + 1 := ⟨(sz - 1).toNat, by omega⟩
      have hr0 : 0 ≤ r0 ∧ r0 ≤ 255 := by omega
      have hk3 : k0 ≤ 3 := by omega
      have e : r1X xs a = if rbN (rnM xs a r0 k0) = cut (some a) (some (a + sz)) xs then (rnM xs a r0 k0, sz) else (-1, 0) := by
        rw [r1X, if_pos h0, hsz0, hr00, if_neg hlen, show (sz - 1).toNat = k0 by omega]
      rw [e]
      clear e hsz0 hr00
      refine FnC_of (fn := Tryz.f172) Tryz.func172 rfl rfl rfl ?_
      refine stp ?_ ?_ ?_ ?_ ?_ ?_ ?_ ?_ ?_ ?_ ?_ ?_ ?_ ?_ ?_ ?_ <;> (first | exact Mk.mk | exact trivial | (repeat intro hq))
      all_goals refine W_loopT (fun k : Nat => St.tmpl 74 [(0, .one (.d (.sl .u8) xs)), (1, .one (.d (.i .i64) a)), (7, .one (.d (.i .i64) sz)), (8, .one (.d (.i .i64) (rnM xs a r0 k))), (9, .one (.d (.i .i64) ((k : Int) + 1)))] []) (fun k => k ≤ k0) (fun k => k0 - k) 0 (Nat.zero_le _) (Wk_tmpl [] ⟨rfl, rfl, ?_, ?_, rfl, trivial⟩ trivial rfl rfl) ?_
      all_goals first
        | (refine congrArg (fun r => SV.one (C.d (Ty.i IntKind.i64) r)) ?_; show (_ : Int) = r0; (simp_all) <;> omega)
        | (refine congrArg (fun r => SV.one (C.d (Ty.i IntKind.i64) r)) ?_; show (_ : Int) = sz; (simp_all) <;> omega)
        | skip
      all_goals
        intro k hk
        have hb1 := @byA_lt xs (a + ((k : Int) + 1))
        have hbe1 : ((xs.getD (a + ((k : Int) + 1)).toNat (dflt Ty.u8)).toNat : Int) = byA xs (a + ((k : Int) + 1)) := rfl
        have hrb := rnM_b (xs := xs) (a := a) hr0 (k := k) (by omega)
      all_goals (
        have zD1 := fun {z0} (zh : True) => rbN_ok z0
        refine stp ?_ ?_ ?_ ?_ ?_ ?_ ?_ ?_ ?_ ?_ ?_ ?_ ?_ ?_ ?_ ?_ <;> (first | exact Mk.mk | exact trivial | (repeat intro hq))
      )
      all_goals first
        | (have hlt : (k : Int) + 1 < sz := of_decide_eq_true hq
           refine ⟨k + 1, by omega, by omega, Wk_tmpl [] ⟨rfl, rfl, rfl, rfl, ?_, trivial⟩ trivial rfl rfl⟩
           refine congrArg (fun r => SV.one (C.d (Ty.i IntKind.i64) r)) ?_
           show (k : Int) + 1 + 1 = ((k + 1 : Nat) : Int) + 1
           omega)
        | skip
      all_goals have hge0 : ¬ (k : Int) + 1 < sz := of_decide_eq_false (by assumption)
      all_goals have hke : k = k0 := by omega
      all_goals subst hke
      all_goals split <;> rename_i hs <;> first
        | rfl
        | (exfalso; simp [hs] at hq; done)
        | (exfalso; exact hs (by simpa using hq))
        | (exfalso; revert hq; simp [hs]; done)
        | skip
  · have e : r1X xs a = (-1, 0) := by rw [r1X, if_neg h0]
    rw [e]
    refine FnC_of (fn := Tryz.f172) Tryz.func172 rfl rfl rfl ?_
    refine stp ?_ ?_ ?_ ?_ ?_ ?_ ?_ ?_ ?_ ?_ ?_ ?_ ?_ ?_ ?_ ?_ <;> (first | exact Mk.mk | exact trivial | (repeat intro hq))
theorem r1X_b (xs : List UInt8) (a : Int) : (0 ≤ (r1X xs a).2 ∧ (r1X xs a).2 ≤ 4) ∧ (0 < (r1X xs a).2 → 0 ≤ a ∧ a + (r1X xs a).2 ≤ xs.length) := by
  have hs : 1 ≤ ldS (byA xs a) ∧ ldS (byA xs a) ≤ 4 := by
    unfold ldS; repeat' split
    all_goals omega
  unfold r1X
  split
  · split
    · exact ⟨by decide, fun h => absurd h (by decide)⟩
    · split
      · exact ⟨by simp only; omega, by simp only; omega⟩
      · exact ⟨by decide, fun h => absurd h (by decide)⟩
  · exact ⟨by decide, fun h => absurd h (by decide)⟩
end Go.LX

set_option linter.unusedVariables false
set_option linter.unusedSimpArgs false
namespace Go.LX
open Go.Proofs
attribute [local irreducible] W WO OpW RW EndQ
def r1M (xs : List UInt8) (a : Int) : Int × Int := r1X xs a
theorem r1M_ok (xs : List UInt8) (a : Int) (hl : xs.length ≤ 16777216) : ((0 ≤ (r1M xs a).2 ∧ (r1M xs a).2 ≤ 4) ∧ (0 < (r1M xs a).2 → 0 ≤ a ∧ a + (r1M xs a).2 ≤ xs.length)) ∧ FnC Tryz.prog 172 [aBy xs, aI a] [aX, aX] (.tu [(false, [sI (r1M xs a).1]), (false, [sI (r1M xs a).2])]) := ⟨r1X_b xs a, rune1_ex xs a hl⟩
/-- How long the rune at a is; 0: none. -/
noncomputable def rsM (xs : List UInt8) (a : Int) : Int := (r1M xs a).2
set_option maxHeartbeats 4000000 in
set_option maxRecDepth 20000 in
theorem runesize_ok (xs : List UInt8) (a : Int) (hl : xs.length ≤ 16777216) : FnC Tryz.prog 168 [aBy xs, aI a] [aX, aX] (.one (sI (rsM xs a))) := by
  obtain ⟨_, h⟩ := r1M_ok xs a hl
  refine FnC_of (fn := Tryz.f168) Tryz.func168 rfl rfl rfl ?_
  have zD1 := fun (zh : True) => h
  refine stp ?_ ?_ ?_ ?_ ?_ ?_ ?_ ?_ ?_ ?_ ?_ ?_ ?_ ?_ ?_ ?_ <;> (first | exact Mk.mk | exact trivial | (repeat intro hq))
theorem rsM_b {xs : List UInt8} {a : Int} (hl : xs.length ≤ 16777216) : (0 ≤ rsM xs a ∧ rsM xs a ≤ 4) ∧ (0 < rsM xs a → 0 ≤ a ∧ a + rsM xs a ≤ xs.length) := (r1M_ok xs a hl).1
/-- The places of the runes from a on, and the end. -/
noncomputable def ctM (xs : List UInt8) : Nat → Int → Option (List Int)
  | 0, _ => none
  | f + 1, a => if a < xs.length then (if rsM xs a = 0 then none else (ctM xs f (a + rsM xs a)).map (a :: ·)) else some [a]
noncomputable def cuL (xs : List UInt8) : List Int := if 400 < xs.length then [] else (ctM xs (xs.length + 1) 0).getD []
theorem ctM_in {xs : List UInt8} (hl : xs.length ≤ 16777216) : ∀ {f : Nat} {a : Int} {l : List Int}, 0 ≤ a ∧ a ≤ xs.length → ctM xs f a = some l → ∀ x ∈ l, a ≤ x ∧ x ≤ xs.length
  | 0, a, l, _, h => by cases h
  | f + 1, a, l, ha, h => by
    unfold ctM at h
    obtain ⟨⟨b1, b2⟩, b3⟩ := rsM_b (xs := xs) (a := a) hl
    split at h
    · split at h
      · cases h
      · rename_i hz
        obtain ⟨l', hl', rfl⟩ := Option.map_eq_some_iff.1 h
        have b4 := b3 (by omega)
        have ih := ctM_in hl (f := f) ⟨by omega, by omega⟩ hl'
        intro x hx
        rcases List.mem_cons.1 hx with rfl | hx
        · exact ⟨Int.le_refl _, ha.2⟩
        · have := ih x hx; omega
    · cases h
      intro x hx
      simp only [List.mem_singleton] at hx
      omega
theorem cuL_in {xs : List UInt8} (hl : xs.length ≤ 16777216) : ∀ x ∈ cuL xs, 0 ≤ x ∧ x ≤ xs.length := by
  unfold cuL
  split
  · simp
  · cases h : ctM xs (xs.length + 1) 0 with
    | none => simp
    | some l => exact ctM_in hl ⟨Int.le_refl _, by omega⟩ h
theorem ctM_len {xs : List UInt8} (hl : xs.length ≤ 16777216) : ∀ {f : Nat} {a : Int} {l : List Int}, ctM xs f a = some l → l.length ≤ f
  | 0, a, l, h => by cases h
  | f + 1, a, l, h => by
    unfold ctM at h
    split at h
    · split at h
      · cases h
      · obtain ⟨l', hl', rfl⟩ := Option.map_eq_some_iff.1 h
        have := ctM_len hl hl'
        simp only [List.length_cons]; omega
    · cases h
      simp
theorem cuL_len {xs : List UInt8} (hl : xs.length ≤ 16777216) : (cuL xs).length ≤ 401 := by
  unfold cuL
  split
  · simp
  · cases h : ctM xs (xs.length + 1) 0 with
    | none => simp
    | some l => have := ctM_len hl h; simp only [Option.getD_some]; omega
set_option maxHeartbeats 4000000 in
set_option maxRecDepth 20000 in
theorem cuts_ok (xs : List UInt8) (hl : xs.length ≤ 16777216) : FnC Tryz.prog 151 [aBy xs] [aX] (.one (.own 3 (.i .i64) false (cuL xs))) := by
  by_cases h4 : 400 < xs.length
  · rw [cuL, if_pos h4]
    refine FnC_of (fn := Tryz.f151) Tryz.func151 rfl rfl rfl ?_
    refine stp ?_ ?_ ?_ ?_ ?_ ?_ ?_ ?_ ?_ ?_ ?_ ?_ ?_ ?_ ?_ ?_ <;> (first | exact Mk.mk | exact trivial | (repeat intro hq))
  · rw [cuL, if_neg h4]
    refine FnC_of (fn := Tryz.f151) Tryz.func151 rfl rfl rfl ?_
    refine stp ?_ ?_ ?_ ?_ ?_ ?_ ?_ ?_ ?_ ?_ ?_ ?_ ?_ ?_ ?_ ?_ <;> (first | exact Mk.mk | exact trivial | (repeat intro hq))
    refine W_loopT (fun q : Nat × List Int × Int => St.tmpl 30 [(0, .one (.d (.sl .u8) xs)), (3, .one (.rf 10000 .ar)), (4, .one (.d (.i .i64) q.2.2))] [(10000, .rows 3 (.i .i64) false q.2.1)]) (fun q => (0 ≤ q.2.2 ∧ q.2.2 ≤ xs.length) ∧ xs.length - q.2.2 < q.1 ∧ q.2.1.length + q.1 ≤ 401 ∧ (ctM xs (xs.length + 1) 0) = (ctM xs q.1 q.2.2).map (q.2.1 ++ ·)) (fun q => q.1) (xs.length + 1, [], 0) ⟨⟨Int.le_refl _, by simp only; omega⟩, by simp only; omega, by simp only [List.length_nil]; omega, by simp⟩ ?_ ?_
    · exact Wk_tmpl [] ⟨rfl, rfl, rfl, trivial⟩ ⟨rfl, trivial⟩ rfl rfl
    · rintro ⟨f, out, a⟩ ⟨h1, h2, h3, h5⟩
      simp only at h1 h2 h3 h5
      obtain ⟨⟨b1, b2⟩, b3⟩ := rsM_b (xs := xs) (a := a) hl
      obtain ⟨m, rfl⟩ : ∃ m, f = m + 1 := ⟨f - 1, by omega⟩
      rw [show ctM xs (m + 1) a = if a < xs.length then (if rsM xs a = 0 then none else (ctM xs m (a + rsM xs a)).map (a :: ·)) else some [a] from rfl] at h5
      have zD1 := fun {z0} {z1} zh => runesize_ok z0 z1 zh
      refine stp ?_ ?_ ?_ ?_ ?_ ?_ ?_ ?_ ?_ ?_ ?_ ?_ ?_ ?_ ?_ ?_ <;> (first | exact Mk.mk | exact trivial | (intros; exact hl; done) | (repeat intro hq))
      · rename_i q1
        have e1 : a < xs.length := of_decide_eq_true q1
        have e2 : rsM xs a = 0 := of_decide_eq_true hq
        rw [if_pos e1, if_pos e2] at h5
        rw [h5]; rfl
      · show out.length + 1 ≤ maxLen
        unfold maxLen; omega
      · rename_i q1
        have e1 : a < xs.length := of_decide_eq_true q1
        have e2 : ¬ rsM xs a = 0 := of_decide_eq_false hq
        rw [if_pos e1, if_neg e2] at h5
        have b4 := b3 (by omega)
        refine ⟨(m, out ++ [a], a + rsM xs a), Nat.lt_succ_self m, ⟨⟨by simp only; omega, by simp only; omega⟩, by simp only; omega, by simp only [List.length_append, List.length_cons, List.length_nil]; omega, ?_⟩, Wk_tmpl [(10000, 23000)] ⟨rfl, rfl, rfl, trivial⟩ ⟨rfl, trivial⟩ rfl rfl⟩
        rw [h5, Option.map_map]
        congr 1
        funext l
        simp
      · show out.length + 1 ≤ maxLen
        unfold maxLen; omega
      · have e1 : ¬ a < xs.length := of_decide_eq_false hq
        rw [if_neg e1] at h5
        rw [h5]; rfl
/-- Is it text? -/
noncomputable def tokM (xs : List UInt8) : Bool := decide (0 < ((cuL xs).length : Int))
theorem tokM_len {xs : List UInt8} (h : tokM xs = true) : xs.length ≤ 400 := by
  refine Nat.le_of_not_lt fun h4 => ?_
  have h1 := of_decide_eq_true h
  rw [cuL, if_pos h4] at h1
  simp at h1
set_option maxHeartbeats 4000000 in
set_option maxRecDepth 20000 in
theorem textok_ok (xs : List UInt8) (hl : xs.length ≤ 16777216) : FnC Tryz.prog 108 [aBy xs] [aX] (.one (sB (tokM xs))) := by
  refine FnC_of (fn := Tryz.f108) Tryz.func108 rfl rfl rfl ?_
  have zE1 := fun {z0} zh => cuts_ok z0 zh
  refine stp ?_ ?_ ?_ ?_ ?_ ?_ ?_ ?_ ?_ ?_ ?_ ?_ ?_ ?_ ?_ ?_ <;> (first | exact Mk.mk | exact trivial | (intros; exact hl; done) | (repeat intro hq))
def rtR : List Int → Int → Nat → Int
  | [], _, _ => -1
  | x :: l, a, i => if x = a then i else rtR l a (i + 1)
theorem rtR_mem : ∀ {l : List Int} {a : Int} {i : Nat}, 0 ≤ rtR l a i → a ∈ l
  | [], _, _, h => absurd h (by show ¬ (0 : Int) ≤ -1; decide)
  | x :: l, a, i, h => by
    unfold rtR at h
    split at h
    · rename_i e; rw [e]; simp
    · exact List.mem_cons_of_mem _ (rtR_mem h)
noncomputable def rtM (xs : List UInt8) (a : Int) : Int := rtR (cuL xs) a 0
set_option maxHeartbeats 4000000 in
set_option maxRecDepth 20000 in
theorem runesto_ok (xs : List UInt8) (a : Int) (hl : xs.length ≤ 16777216) : FnC Tryz.prog 132 [aBy xs, aI a] [aX, aX] (.one (sI (rtM xs a))) := by
  have h4 := cuL_len hl
  refine FnC_of (fn := Tryz.f132) Tryz.func132 rfl rfl rfl ?_
  have zE1 := fun {z0} zh => cuts_ok z0 zh
  refine stp ?_ ?_ ?_ ?_ ?_ ?_ ?_ ?_ ?_ ?_ ?_ ?_ ?_ ?_ ?_ ?_ <;> (first | exact Mk.mk | exact trivial | (intros; exact hl; done) | (repeat intro hq))
  refine W_loopT (fun i : Nat => St.tmpl 22 [(1, .one (.d (.i .i64) a)), (5, .one (.rf 9000 .ar)), (6, .one (.d (.i .i64) (i : Int)))] [(9000, .rows 3 (.i .i64) false (cuL xs))]) (fun i => i ≤ (cuL xs).length ∧ rtR (cuL xs) a 0 = rtR ((cuL xs).drop i) a i) (fun i => (cuL xs).length - i) 0 ⟨Nat.zero_le _, rfl⟩ ?_ ?_
  · exact Wk_tmpl [] ⟨rfl, rfl, rfl, trivial⟩ ⟨rfl, trivial⟩ rfl rfl
  · rintro i ⟨hi, hm⟩
    have hd : i < (cuL xs).length → rtR ((cuL xs).drop i) a i = if (cuL xs).getD i 0 = a then (i : Int) else rtR ((cuL xs).drop (i + 1)) a (i + 1) := fun h => by
      rw [List.drop_eq_getElem_cons h, rtR, List.getD_eq_getElem?_getD, List.getElem?_eq_getElem h]
      rfl
    refine stp ?_ ?_ ?_ ?_ ?_ ?_ ?_ ?_ ?_ ?_ ?_ ?_ ?_ ?_ ?_ ?_ <;> (first | exact Mk.mk | exact trivial | (repeat intro hq))
    · rename_i q1
      have hlt : i < (cuL xs).length := by
        have : (i : Int) < ((cuL xs).length : Int) := of_decide_eq_true q1
        omega
      have e : (cuL xs).getD i 0 = a := of_decide_eq_true hq
      rw [rtM, hm, hd hlt, if_pos e]
    · rename_i q1
      have hlt : i < (cuL xs).length := by
        have : (i : Int) < ((cuL xs).length : Int) := of_decide_eq_true q1
        omega
      have e : ¬ (cuL xs).getD i 0 = a := of_decide_eq_false hq
      exact ⟨i + 1, by omega, ⟨by omega, by rw [hm, hd hlt, if_neg e]⟩, Wk_tmpl [] ⟨rfl, rfl, rfl, trivial⟩ ⟨rfl, trivial⟩ rfl rfl⟩
    · have hge : ¬ (i : Int) < ((cuL xs).length : Int) := of_decide_eq_false hq
      rw [rtM, hm, List.drop_eq_nil_of_le (by omega)]; rfl
set_option maxHeartbeats 4000000 in
set_option maxRecDepth 20000 in
theorem cutok_ok (xs : List UInt8) (a : Int) (hl : xs.length ≤ 16777216) : FnC Tryz.prog 89 [aBy xs, aI a] [aX, aX] (.one (sB (decide (0 ≤ rtM xs a)))) := by
  refine FnC_of (fn := Tryz.f89) Tryz.func89 rfl rfl rfl ?_
  have zD1 := fun {z0} {z1} zh => runesto_ok z0 z1 zh
  refine stp ?_ ?_ ?_ ?_ ?_ ?_ ?_ ?_ ?_ ?_ ?_ ?_ ?_ ?_ ?_ ?_ <;> (first | exact Mk.mk | exact trivial | (intros; exact hl; done) | (repeat intro hq))
theorem cut_in {xs : List UInt8} {a : Int} (hl : xs.length ≤ 16777216) (h : 0 ≤ rtM xs a) : 0 ≤ a ∧ a ≤ xs.length := cuL_in hl a (rtR_mem h)
end Go.LX

