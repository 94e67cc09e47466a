/- A part of the proof of the statement in the row text. -/
import Derived.Test.YtojaiockbpcilaaDoorLzT1
import Derived.Test.YtojaiockbpcilaaDoorLzV6
import Derived.Test.YtojaiockbpcilaaDoorLzR2
import Derived.Test.YtojaiockbpcilaaDoorLxDat
set_option linter.unusedVariables false
set_option linter.unusedSimpArgs false
namespace Go.LX
open Go.Proofs
attribute [local irreducible] W WO OpW RW EndQ
theorem cutok_c {xs : List UInt8} (hl : xs.length ≤ 16777216) (h : tokM xs = true) (a : Int) : FnC Tryd.prog 62 [aBy xs, aI a] [aX, aX] (.one (sB (cutB xs a))) := by
  have := cutok_ok xs a hl
  rwa [rtM_nn h] at this
theorem tok_drop {w : List UInt8} {a : Nat} (h : tokM w = true) (hc : cutB w a = true) : tokM (w.drop a) = true := by
  have := tokM_len h
  rw [tokM_eq, ((cut_iff (tok_vld h)).1 hc).2, Bool.and_true]
  exact decide_eq_true (by rw [List.length_drop]; omega)
/-- What is known while the first place is looked for. -/
structure AtJ (w s : List UInt8) (a i : Nat) : Prop where
  a1 : a ≤ i
  i1 : i ≤ w.length + 1
  i2 : i ≤ s.length + 1
  c1 : cutB w a = true
  c2 : cutB s a = true
  eq : w.take a = s.take a
  mx : ∀ j : Nat, j < i → cutB w j = true → cutB s j = true → j ≤ a
theorem AtJ.stop {w s : List UInt8} {a i : Nat} (h : AtJ w s a i) (he : ¬ (i ≤ w.length ∧ i ≤ s.length ∧ w.take i = s.take i)) : IsAt w s a := by
  refine ⟨h.c1, h.c2, h.eq, fun j h1 h2 h3 => h.mx j ?_ h1 h2⟩
  have b1 := cutB_in h1
  have b2 := cutB_in h2
  refine Nat.lt_of_not_le fun hle => he ⟨by omega, by omega, ?_⟩
  have := congrArg (List.take i) h3
  rwa [List.take_take, List.take_take, Nat.min_eq_left hle] at this
theorem AtJ.yes {w s : List UInt8} {a i : Nat} (h : AtJ w s a i) (h1 : i ≤ w.length) (h2 : i ≤ s.length) (h3 : w.take i = s.take i) (h4 : cutB w i = true) (h5 : cutB s i = true) : AtJ w s i (i + 1) :=
  ⟨by omega, by omega, by omega, h4, h5, h3, fun j hj _ _ => by omega⟩
theorem AtJ.no {w s : List UInt8} {a i : Nat} (h : AtJ w s a i) (h1 : i ≤ w.length) (h2 : i ≤ s.length) (h4 : ¬ (cutB w i = true ∧ cutB s i = true)) : AtJ w s a (i + 1) :=
  ⟨by have := h.a1; omega, by omega, by omega, h.c1, h.c2, h.eq, fun j hj k1 k2 => by
    by_cases e : j = i
    · subst e; exact absurd ⟨k1, k2⟩ h4
    · exact h.mx j (by omega) k1 k2⟩
theorem AtJ.init {w s : List UInt8} (hw : tokM w = true) (hs : tokM s = true) : AtJ w s 0 0 :=
  ⟨Nat.le_refl _, Nat.zero_le _, Nat.zero_le _, cut_0 (tok_vld hw), cut_0 (tok_vld hs), rfl, fun j hj => by omega⟩
structure KpJ (w s : List UInt8) (a k i : Nat) : Prop where
  k1 : k ≤ i
  i1 : a + i ≤ w.length + 1
  i2 : a + i ≤ s.length + 1
  l1 : a + k ≤ w.length
  l2 : a + k ≤ s.length
  c1 : cutB w ((w.length - k : Nat) : Int) = true
  c2 : cutB s ((s.length - k : Nat) : Int) = true
  eq : w.drop (w.length - k) = s.drop (s.length - k)
  mx : ∀ j : Nat, j < i → cutB w ((w.length - j : Nat) : Int) = true → cutB s ((s.length - j : Nat) : Int) = true → j ≤ k
theorem KpJ.stop {w s : List UInt8} {a k i : Nat} (h : KpJ w s a k i) (he : ¬ (a + i ≤ w.length ∧ a + i ≤ s.length ∧ w.drop (w.length - i) = s.drop (s.length - i))) : IsKp w s a k := by
  refine ⟨h.l1, h.l2, h.c1, h.c2, h.eq, fun j b1 b2 h1 h2 h3 => h.mx j ?_ h1 h2⟩
  refine Nat.lt_of_not_le fun hle => he ⟨by omega, by omega, ?_⟩
  have := congrArg (List.drop (j - i)) h3
  rwa [List.drop_drop, List.drop_drop, show w.length - j + (j - i) = w.length - i by omega, show s.length - j + (j - i) = s.length - i by omega] at this
theorem KpJ.yes {w s : List UInt8} {a k i : Nat} (h : KpJ w s a k i) (h1 : a + i ≤ w.length) (h2 : a + i ≤ s.length) (h3 : w.drop (w.length - i) = s.drop (s.length - i)) (h4 : cutB w ((w.length - i : Nat) : Int) = true) (h5 : cutB s ((s.length - i : Nat) : Int) = true) : KpJ w s a i (i + 1) :=
  ⟨by omega, by omega, by omega, h1, h2, h4, h5, h3, fun j hj _ _ => by omega⟩
theorem KpJ.no {w s : List UInt8} {a k i : Nat} (h : KpJ w s a k i) (h1 : a + i ≤ w.length) (h2 : a + i ≤ s.length) (h4 : ¬ (cutB w ((w.length - i : Nat) : Int) = true ∧ cutB s ((s.length - i : Nat) : Int) = true)) : KpJ w s a k (i + 1) :=
  ⟨by have := h.k1; omega, by omega, by omega, h.l1, h.l2, h.c1, h.c2, h.eq, fun j hj q1 q2 => by
    by_cases e : j = i
    · subst e; exact absurd ⟨q1, q2⟩ h4
    · exact h.mx j (by omega) q1 q2⟩
theorem KpJ.init {w s : List UInt8} {a : Nat} (h : IsAt w s a) : KpJ w s a 0 0 := by
  have b1 := cutB_in h.c1
  have b2 := cutB_in h.c2
  exact ⟨Nat.le_refl _, by omega, by omega, by omega, by omega, by simp [cutB], by simp [cutB], by simp, fun j hj => by omega⟩
theorem cut_none {xs : List UInt8} {k : Int} : cut none (some k) xs = xs.take k.toNat := by simp [cut]
theorem kp_len {w : List UInt8} {a : Nat} : (cut (some (a : Int)) none w).length = w.length - a := by
  show (w.drop (a : Int).toNat).length = _
  rw [List.length_drop]; omega
theorem kp_cut {w : List UInt8} {a i : Nat} (hv : vld w = true) (ha : cutB w a = true) (h : a + i ≤ w.length) : cutB (cut (some (a : Int)) none w) (((cut (some (a : Int)) none w).length : Int) - (i : Int)) = cutB w ((w.length - i : Nat) : Int) := by
  rw [kp_len, show ((w.length - a : Nat) : Int) - (i : Int) = ((w.length - i - a : Nat) : Int) by omega]
  refine (cut_suf hv ha).trans ?_
  rw [show a + (w.length - i - a) = w.length - i by omega]
theorem kp_drop {w : List UInt8} {a i : Nat} (h : a + i ≤ w.length) : cut (some (((cut (some (a : Int)) none w).length : Int) - (i : Int))) none (cut (some (a : Int)) none w) = w.drop (w.length - i) := by
  rw [kp_len, show ((w.length - a : Nat) : Int) - (i : Int) = ((w.length - i - a : Nat) : Int) by omega]
  show (w.drop (a : Int).toNat).drop _ = _
  rw [List.drop_drop]; congr 1; omega
theorem kp_put {w : List UInt8} {a i : Nat} (h : a + i ≤ w.length) : cut none (some (((cut (some (a : Int)) none w).length : Int) - (i : Int))) (cut (some (a : Int)) none w) = (w.drop a).take (w.length - i - a) := by
  rw [kp_len, show ((w.length - a : Nat) : Int) - (i : Int) = ((w.length - i - a : Nat) : Int) by omega]
  show (w.drop (a : Int).toNat).take _ = _
  congr 1
abbrev rEd (e : Ed) : RS := .tu [(true, [sI e.1, sI e.2.1, oBy e.2.2]), (false, [sB true])]
set_option maxHeartbeats 4000000 in
set_option maxRecDepth 20000 in
theorem seditof_r (w s : List UInt8) (hw : tokM w = true) (hs : tokM s = true) : FnR Tryd.prog 38 [aBy w, aBy s] (fun _ : Nat × Nat => [aX, aX]) (fun r => rEd (edE w s r)) (fun r => EdOK w s r) := by
  have lw := tokM_len hw
  have ls := tokM_len hs
  have t1 := textok_ok w (by omega)
  have t2 := textok_ok s (by omega)
  rw [hw] at t1
  rw [hs] at t2
  have k1 := cutok_c (by omega) hw
  have k2 := cutok_c (by omega) hs
  refine FnR_of (fn := Tryd.f38) Tryd.func38 rfl rfl rfl ?_
  have zD1 := fun (zh : True) => t1
  have zD2 := fun (zh : True) => t2
  refine stp ?_ ?_ ?_ ?_ ?_ ?_ ?_ ?_ ?_ ?_ <;> (first | exact Mk.mk | exact trivial | (repeat intro hq))
  refine W_loopT (fun q : Nat × Nat => St.tmpl 117 [(0, .one (.d (.sl .u8) w)), (1, .one (.d (.sl .u8) s)), (4, .one (.rf 5000 (.pb 0))), (6, .one (.d (.i .i64) (q.1 : Int))), (7, .one (.d (.i .i64) (q.2 : Int)))] [(5000, .cells [.d (.i .i64) 0, .d (.i .i64) 0, .nl])])
    (fun q => AtJ w s q.1 q.2) (fun q => w.length + 1 - q.2) (0, 0) (AtJ.init hw hs) ?_ ?_
  · exact Wk_tmpl [] ⟨rfl, rfl, rfl, rfl, rfl, trivial⟩ ⟨rfl, trivial⟩ rfl rfl
  · rintro ⟨a, i⟩ hj
    simp only at hj ⊢
    have ba := cutB_in hj.c1
    have bb := cutB_in hj.c2
    have zD1 := fun {z0} (zh : True) => k1 z0
    have zD2 := fun {z0} (zh : True) => k2 z0
    refine stpMS ?_ ?_ ?_ ?_ ?_ ?_ ?_ ?_ ?_ ?_ ?_ ?_ ?_ ?_ ?_ ?_ ?_ ?_ ?_ ?_ ?_ ?_ ?_ ?_ ?_ ?_ ?_ ?_ ?_ ?_ <;> (first | exact Mk.mk | exact trivial | (repeat intro hq))
    all_goals simp only [cond_true, cond_false, decide_eq_true_eq, decide_eq_false_iff_not, cut_none] at *
    · rename_i q1 q2 q3 q4
      exact ⟨(i, i + 1), by simp only; omega, hj.yes (by omega) (by omega) (by simpa using hq) q1 q2, Wk_tmpl [] ⟨rfl, rfl, rfl, rfl, rfl, trivial⟩ ⟨rfl, trivial⟩ rfl rfl⟩
    · rename_i q1 q2 q3 q4
      exact ⟨(a, i + 1), by simp only; omega, hj.no (by omega) (by omega) (fun h => by rw [q2] at h; cases h.2), Wk_tmpl [] ⟨rfl, rfl, rfl, rfl, rfl, trivial⟩ ⟨rfl, trivial⟩ rfl rfl⟩
    · rename_i q1 q2 q3
      exact ⟨(a, i + 1), by simp only; omega, hj.no (by omega) (by omega) (fun h => by rw [q1] at h; cases h.1), Wk_tmpl [] ⟨rfl, rfl, rfl, rfl, rfl, trivial⟩ ⟨rfl, trivial⟩ rfl rfl⟩
    all_goals
      have hA : IsAt w s a := hj.stop (by first | (rintro ⟨_, _, h⟩; exact hq (by simpa using h)) | omega)
      clear hj hq
      have ta := tok_drop hw hA.c1
      have tb := tok_drop hs hA.c2
      have k3 := cutok_c (xs := cut (some (a : Int)) none w) (by show (w.drop (a : Int).toNat).length ≤ _; rw [List.length_drop]; omega) ta
      have k4 := cutok_c (xs := cut (some (a : Int)) none s) (by show (s.drop (a : Int).toNat).length ≤ _; rw [List.length_drop]; omega) tb
      have va := kp_len (w := w) (a := a)
      have vb := kp_len (w := s) (a := a)
      refine W_loopT (fun q : Nat × Nat => St.tmpl 117 [(4, .one (.rf 5000 (.pb 0))), (6, .one (.d (.i .i64) (a : Int))), (8, .one (.d (.sl .u8) (cut (some (a : Int)) none w))), (9, .one (.d (.sl .u8) (cut (some (a : Int)) none s))), (10, .one (.d (.i .i64) (q.1 : Int))), (11, .one (.d (.i .i64) (q.2 : Int)))] [(5000, .cells [.d (.i .i64) 0, .d (.i .i64) 0, .nl])])
        (fun q => KpJ w s a q.1 q.2) (fun q => w.length + 1 - q.2) (0, 0) (KpJ.init hA) ?_ ?_
      · exact Wk_tmpl [] ⟨rfl, rfl, rfl, rfl, rfl, rfl, trivial⟩ ⟨rfl, trivial⟩ rfl rfl
      · rintro ⟨k, i⟩ hj
        simp only at hj ⊢
        have ba := hj.l1
        have bb := hj.l2
        have bc := hj.i1
        have bd := hj.i2
        have zD1 := fun {z0} (zh : True) => k3 z0
        have zD2 := fun {z0} (zh : True) => k4 z0
        refine stpMS ?_ ?_ ?_ ?_ ?_ ?_ ?_ ?_ ?_ ?_ ?_ ?_ ?_ ?_ ?_ ?_ ?_ ?_ ?_ ?_ ?_ ?_ ?_ ?_ ?_ ?_ ?_ ?_ ?_ ?_ <;> (first | exact Mk.mk | exact trivial | (repeat intro hq))
        all_goals simp only [cond_true, cond_false, decide_eq_true_eq, decide_eq_false_iff_not] at *
        · rename_i q1 q2 q3 q4
          rw [kp_cut (tok_vld hw) hA.c1 (by omega)] at q1
          rw [kp_cut (tok_vld hs) hA.c2 (by omega)] at q2
          rw [kp_drop (by omega), kp_drop (by omega)] at hq
          exact ⟨(i, i + 1), by simp only; omega, hj.yes (by omega) (by omega) hq q1 q2, Wk_tmpl [] ⟨rfl, rfl, rfl, rfl, rfl, rfl, trivial⟩ ⟨rfl, trivial⟩ rfl rfl⟩
        · rename_i q1 q2 q3 q4
          rw [kp_cut (tok_vld hs) hA.c2 (by omega)] at q2
          exact ⟨(k, i + 1), by simp only; omega, hj.no (by omega) (by omega) (fun h => by rw [q2] at h; cases h.2), Wk_tmpl [] ⟨rfl, rfl, rfl, rfl, rfl, rfl, trivial⟩ ⟨rfl, trivial⟩ rfl rfl⟩
        · rename_i q1 q2 q3
          rw [kp_cut (tok_vld hw) hA.c1 (by omega)] at q1
          exact ⟨(k, i + 1), by simp only; omega, hj.no (by omega) (by omega) (fun h => by rw [q1] at h; cases h.1), Wk_tmpl [] ⟨rfl, rfl, rfl, rfl, rfl, rfl, trivial⟩ ⟨rfl, trivial⟩ rfl rfl⟩
        all_goals first
          | (rw [kp_put (by omega)]; simp only [List.length_nil, List.length_take, List.length_drop]; omega)
          | (rw [kp_put (by omega)]; simp only [List.length_nil, List.length_take, List.length_drop]; unfold maxLen; omega)
          | skip
        all_goals
          have hK : IsKp w s a k := hj.stop (by first | (rintro ⟨h1, h2, h⟩; rw [kp_drop h1, kp_drop h2] at hq; exact hq h) | omega)
          refine endR (a, k) ?_ ⟨hA, hK⟩
          refine stp ?_ ?_ ?_ ?_ ?_ ?_ ?_ ?_ ?_ ?_ <;> (first | exact Mk.mk | exact trivial | (repeat intro hq))
        all_goals first
          | (show ((cut (some (a : Int)) none w).length : Int) - (k : Int) = (w.length : Int) - (k : Int) - (a : Int); rw [kp_len]; omega)
          | (rw [kp_put (by omega)]; rfl)
end Go.LX
