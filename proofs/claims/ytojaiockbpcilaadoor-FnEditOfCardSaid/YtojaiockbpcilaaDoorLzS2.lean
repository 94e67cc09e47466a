/- A part of the proof of the statement in the row text. -/
import Derived.Test.YtojaiockbpcilaaDoorLzR4
import Derived.Test.YtojaiockbpcilaaDoorLzW3
import Derived.Test.YtojaiockbpcilaaDoorLxDat
set_option linter.unusedVariables false
set_option linter.unusedSimpArgs false
namespace Go.LX
open Go.Proofs
attribute [local irreducible] W WO OpW RW EndQ
abbrev aSel (a b : Int) : SA := .ag [sI a, sI b]
abbrev aSel0 : SA := .ag [.any, .any]
/-- The place of a letter, or -1. -/
noncomputable def plM (xs : List UInt8) (n : Int) : Int := if 0 ≤ n ∧ n < (cuL xs).length then (cuL xs).getD n.toNat 0 else -1
set_option maxHeartbeats 4000000 in
set_option maxRecDepth 20000 in
theorem placeof_ok (xs : List UInt8) (n : Int) (hl : xs.length ≤ 16777216) : FnC Tryd.prog 25 [aBy xs, aI n] [aX, aX] (.one (sI (plM xs n))) := by
  have h4 := cuL_len hl
  have hp : ¬ (0 ≤ n ∧ n < (cuL xs).length) → plM xs n = -1 := fun h => if_neg h
  have hq2 : 0 ≤ n ∧ n < (cuL xs).length → plM xs n = (cuL xs).getD n.toNat 0 := fun h => if_pos h
  refine FnC_of (fn := Tryd.f25) Tryd.func25 rfl rfl rfl ?_
  have zE1 := fun {z0} zh => cuts_ok z0 zh
  refine stp ?_ ?_ ?_ ?_ ?_ ?_ ?_ ?_ ?_ ?_ <;> (first | exact Mk.mk | exact trivial | (intros; exact hl; done) | (repeat intro hq))
  all_goals first
    | (refine (hp ?_).symm; rintro ⟨x1, x2⟩; simp_all; done)
    | (refine (hp ?_).symm; rintro ⟨x1, x2⟩; simp_all; omega)
    | (refine (hq2 ?_).symm; simp_all; done)
    | (refine (hq2 ?_).symm; simp_all; omega)
theorem placeof_r (xs : List UInt8) (n : Int) (h : xs.length ≤ 16777216) : FnR Tryd.prog 25 [aBy xs, aI n] (fun _ : Int => [aX, aX]) (fun r => .one (sI r)) (fun r => True) := FnC.rel (r := plM xs n) (placeof_ok xs n h) trivial
noncomputable def sokM (t : List UInt8) (a b : Int) : Bool := decide (0 ≤ rtM t a) && decide (0 ≤ rtM t b)
theorem sok_eq {t : List UInt8} {a b : Int} : sokM t a b = (tokM t && (cutB t a && cutB t b)) := by
  unfold sokM
  cases h : tokM t with
  | true => rw [rtM_nn h, rtM_nn h]; rfl
  | false =>
    have : rtM t a = -1 := by
      unfold rtM
      have h0 : (cuL t).length = 0 := by
        have := of_decide_eq_false h
        omega
      rw [List.eq_nil_of_length_eq_zero h0]; rfl
    rw [this]; rfl
set_option maxHeartbeats 4000000 in
set_option maxRecDepth 20000 in
theorem sselok_ok (t : List UInt8) (a b : Int) (hl : t.length ≤ 16777216) : FnC Tryd.prog 27 [aBy t, aSel a b] [aX, aSel0] (.one (sB (sokM t a b))) := by
  have h1 := cutok_ok t a hl
  have h2 := cutok_ok t b hl
  refine FnC_of (fn := Tryd.f27) Tryd.func27 rfl rfl rfl ?_
  have zD1 := fun (zh : True) => h1
  have zD2 := fun (zh : True) => h2
  refine stp ?_ ?_ ?_ ?_ ?_ ?_ ?_ ?_ ?_ ?_ <;> (first | exact Mk.mk | exact trivial | (repeat intro hq))
  all_goals (simp_all [sokM] <;> (intros; omega))
set_option maxHeartbeats 4000000 in
set_option maxRecDepth 20000 in
theorem iselok_ok (t : List UInt8) (a b : Int) (hl : t.length ≤ 16777216) : FnC Tryd.prog 28 [aBy t, aSel a b] [aX, aSel0] (.one (sB (sokM t a b))) := by
  rw [sok_eq]
  have h0 := istext_ok t hl
  have h1 := iscut_ok t a hl
  have h2 := iscut_ok t b hl
  refine FnC_of (fn := Tryd.f28) Tryd.func28 rfl rfl rfl ?_
  have zD1 := fun (zh : True) => h0
  have zD2 := fun (zh : True) => h1
  have zD3 := fun (zh : True) => h2
  refine stp ?_ ?_ ?_ ?_ ?_ ?_ ?_ ?_ ?_ ?_ <;> (first | exact Mk.mk | exact trivial | (repeat intro hq))
  all_goals (simp_all; done)
/-- A selection after an edit. -/
def selM (e : Ed) (a b : Int) (own : Bool) : Int × Int := (posM e a (own || decide (b < a)), posM e b (own || decide (a < b)))
set_option maxHeartbeats 4000000 in
set_option maxRecDepth 20000 in
theorem sselmove_ok (e : Ed) (a b : Int) (own : Bool) (h : smE e = true) (ha : 0 ≤ a ∧ a ≤ 800) (hb : 0 ≤ b ∧ b ≤ 800) : FnC Tryd.prog 30 [aSel a b, aEd e, aB own] [aSel0, aEd0, aX] (.ag [sI (selM e a b own).1, sI (selM e a b own).2]) := by
  have hsm := l05small_ok e
  rw [h] at hsm
  have h1 := splace_ok a
  have h2 := splace_ok b
  rw [decide_eq_true ha.1, decide_eq_true ha.2] at h1
  rw [decide_eq_true hb.1, decide_eq_true hb.2] at h2
  have h3 := fun r => sposmove_ok e a r h ha
  have h4 := fun r => sposmove_ok e b r h hb
  cases own
  · refine FnC_of (fn := Tryd.f30) Tryd.func30 rfl rfl rfl ?_
    have zD1 := fun (zh : True) => hsm
    have zD2 := fun (zh : True) => h1
    have zD3 := fun (zh : True) => h2
    have zD4 := fun {z0} (zh : True) => h3 z0
    have zD5 := fun {z0} (zh : True) => h4 z0
    refine stp ?_ ?_ ?_ ?_ ?_ ?_ ?_ ?_ ?_ ?_ <;> (first | exact Mk.mk | exact trivial | (repeat intro hq))
  · refine FnC_of (fn := Tryd.f30) Tryd.func30 rfl rfl rfl ?_
    have zD1 := fun (zh : True) => hsm
    have zD2 := fun (zh : True) => h1
    have zD3 := fun (zh : True) => h2
    have zD4 := fun {z0} (zh : True) => h3 z0
    have zD5 := fun {z0} (zh : True) => h4 z0
    refine stp ?_ ?_ ?_ ?_ ?_ ?_ ?_ ?_ ?_ ?_ <;> (first | exact Mk.mk | exact trivial | (repeat intro hq))
set_option maxHeartbeats 4000000 in
set_option maxRecDepth 20000 in
theorem isel_ok (e : Ed) (a b : Int) (own : Bool) (h : smE e = true) (ha : 0 ≤ a ∧ a ≤ 800) (hb : 0 ≤ b ∧ b ≤ 800) : FnC Tryd.prog 65 [aEd e, aSel a b, aB own] [aEd0, aSel0, aX] (.ag [sI (selM e a b own).1, sI (selM e a b own).2]) := by
  have h3 := fun r => pos_ok e a r h ha
  have h4 := fun r => pos_ok e b r h hb
  cases own
  · refine FnC_of (fn := Tryd.f65) Tryd.func65 rfl rfl rfl ?_
    have zD1 := fun {z0} (zh : True) => h3 z0
    have zD2 := fun {z0} (zh : True) => h4 z0
    refine stp ?_ ?_ ?_ ?_ ?_ ?_ ?_ ?_ ?_ ?_ <;> (first | exact Mk.mk | exact trivial | (repeat intro hq))
  · refine FnC_of (fn := Tryd.f65) Tryd.func65 rfl rfl rfl ?_
    have zD1 := fun {z0} (zh : True) => h3 z0
    have zD2 := fun {z0} (zh : True) => h4 z0
    refine stp ?_ ?_ ?_ ?_ ?_ ?_ ?_ ?_ ?_ ?_ <;> (first | exact Mk.mk | exact trivial | (repeat intro hq))
set_option maxHeartbeats 4000000 in
set_option maxRecDepth 20000 in
theorem iselmove_ok (e : Ed) (a b : Int) (own : Bool) (h : smE e = true) (ha : 0 ≤ a ∧ a ≤ 800) (hb : 0 ≤ b ∧ b ≤ 800) : FnC Tryd.prog 29 [aSel a b, aEd e, aB own] [aSel0, aEd0, aX] (.ag [sI (selM e a b own).1, sI (selM e a b own).2]) := by
  have hsm := issmall_ok e
  rw [h] at hsm
  have h1 := ispos_ok a
  have h2 := ispos_ok b
  rw [decide_eq_true ha.1, decide_eq_true ha.2] at h1
  rw [decide_eq_true hb.1, decide_eq_true hb.2] at h2
  have h3 := isel_ok e a b own h ha hb
  refine FnC_of (fn := Tryd.f29) Tryd.func29 rfl rfl rfl ?_
  have zD1 := fun (zh : True) => hsm
  have zD2 := fun (zh : True) => h1
  have zD3 := fun (zh : True) => h2
  have zD4 := fun (zh : True) => h3
  refine stp ?_ ?_ ?_ ?_ ?_ ?_ ?_ ?_ ?_ ?_ <;> (first | exact Mk.mk | exact trivial | (repeat intro hq))
end Go.LX

set_option linter.unusedVariables false
set_option linter.unusedSimpArgs false
namespace Go.LX
open Go.Proofs
attribute [local irreducible] W WO OpW RW EndQ
theorem drawed_r (code : List UInt8) (hl : code.length ≤ 16777216) : FnR Tryd.prog 24 [aBy code] (fun _ : List UInt8 × Ed => [aX]) (fun r => .tu [(false, [sBy r.1]), (true, [sI r.2.1, sI r.2.2.1, oBy r.2.2.2])]) (fun r => r.1.length ≤ 1001 ∧ r.2.2.2.length ≤ 1001) := by
  obtain ⟨r, h1, h2, h3⟩ := drawed_ex code hl
  exact FnC.rel (r := r) h3 ⟨h1, h2⟩
theorem posM_mono {e : Ed} {p q : Int} {r r' : Bool} (h : smE e = true) (hpq : p < q ∨ (p ≤ q ∧ r = r')) (hr : r = true → r' = true) : posM e p r ≤ posM e q r' := by
  obtain ⟨h1, h2, h3⟩ := smE_ok h
  unfold posM
  cases r <;> cases r' <;> simp_all <;> (repeat' split) <;> omega
theorem sel_mono {e : Ed} {a b : Int} {own : Bool} (h : smE e = true) (hab : a ≤ b) : (selM e a b own).1 ≤ (selM e a b own).2 := by
  unfold selM
  by_cases e1 : a = b
  · subst e1; exact Int.le_refl _
  · cases own with
    | true => exact posM_mono h (.inr ⟨hab, rfl⟩) (fun h => h)
    | false =>
      rw [decide_eq_false (show ¬ b < a by omega), decide_eq_true (show a < b by omega)]
      exact posM_mono h (.inl (by omega)) (fun h => by cases h)
theorem sel_mono2 {e : Ed} {a b : Int} {own : Bool} (h : smE e = true) (hab : b ≤ a) : (selM e a b own).2 ≤ (selM e a b own).1 := sel_mono (own := own) h hab
set_option maxHeartbeats 4000000 in
set_option maxRecDepth 20000 in
theorem lawSL_big (code : List UInt8) (hl : 1048576 < code.length) : FnC Tryd.prog 5 [aBy code] [aX] (.one (sB true)) := by
  refine FnC_of (fn := Tryd.f5) Tryd.func5 rfl rfl rfl ?_
  have zD1 := fun {z0} (zh : True) => big_ok z0
  refine stp ?_ ?_ ?_ ?_ ?_ ?_ ?_ ?_ ?_ ?_ <;> (first | exact Mk.mk | exact trivial | (repeat intro hq))
set_option maxHeartbeats 4000000 in
set_option maxRecDepth 20000 in
theorem lawSL_sm (code : List UInt8) (hl : code.length ≤ 1048576) : FnC Tryd.prog 5 [aBy code] [aX] (.one (sB true)) := by
  refine FnC_of (fn := Tryd.f5) Tryd.func5 rfl rfl rfl ?_
  have zD1 := fun {z0} (zh : True) => big_ok z0
  have zR1 := fun (zh : True) => drawed_r code (Nat.le_trans hl (by decide))
  have zR2 := fun {z0} {z1} zh => lpick_r code z0 z1 (Nat.le_trans hl (by decide)) zh
  have zR3 := fun {z0} {z1} zh => placeof_r z0 z1 zh
  refine stpD ?_ ?_ ?_ ?_ ?_ ?_ ?_ ?_ ?_ ?_ <;> (first | exact Mk.mk | exact trivial | (intros))
  rename_i r x A y B hr hx hA hy hB hq
  refine OpW_weak (Wk_freeze (o := 15003) rfl) ?_
  clear hx hA hy hB
  obtain ⟨t, e⟩ := r
  obtain ⟨hr1, hr2⟩ := hr
  simp only at hr1 hr2 ⊢
  have h1 := editok_ok t e (by omega) (by omega)
  have h2 := sselok_ok t A B (by omega)
  have h3 := iselok_ok t A B (by omega)
  cases hv : eokM t e && sokM t A B with
  | false =>
    rw [Bool.and_eq_false_iff] at hv
    generalize eokM t e = v1 at *
    generalize sokM t A B = v2 at *
    have zD1 := fun (zh : True) => h1
    have zD2 := fun (zh : True) => h2
    have zD3 := fun (zh : True) => h3
    refine stp ?_ ?_ ?_ ?_ ?_ ?_ ?_ ?_ ?_ ?_ <;> (first | exact Mk.mk | exact trivial | (repeat intro hq))
    all_goals (simp; done)
  | true =>
    rw [Bool.and_eq_true] at hv
    obtain ⟨v1, v2⟩ := hv
    have s2 := v2
    rw [sok_eq, Bool.and_eq_true, Bool.and_eq_true] at s2
    obtain ⟨t1, c1, c2⟩ := s2
    have b1 := cutB_in c1
    have b2 := cutB_in c2
    have tl := tokM_len t1
    obtain ⟨p1, p2, p3, p4, p5⟩ := eokM_ok (by omega) v1
    have se : smE e = true := by
      simp only [smE, Bool.and_eq_true, decide_eq_true_eq]; omega
    have h4 := sdo_yes t e (by omega) (by omega) v1
    have tu := tok_do (by omega) v1
    have lu := tokM_len tu
    have h5 := iselmove_ok e A B false se (by omega) (by omega)
    have h6 := iselmove_ok e A B true se (by omega) (by omega)
    have h7 := sselmove_ok e A B false se (by omega) (by omega)
    have u1 : sokM (doE t e) (selM e A B false).1 (selM e A B false).2 = true := by
      rw [sok_eq, tu]; simp only [selM, cut_do (by omega) v1 c1, cut_do (by omega) v1 c2]; rfl
    have u2 : sokM (doE t e) (selM e A B true).1 (selM e A B true).2 = true := by
      rw [sok_eq, tu]; simp only [selM, cut_do (by omega) v1 c1, cut_do (by omega) v1 c2]; rfl
    have h8 := iselok_ok (doE t e) (selM e A B false).1 (selM e A B false).2 (by omega)
    have h9 := iselok_ok (doE t e) (selM e A B true).1 (selM e A B true).2 (by omega)
    rw [u1] at h8
    rw [u2] at h9
    have m1 := fun h => sel_mono (own := false) (a := A) (b := B) se h
    have m2 := fun h => sel_mono (own := true) (a := A) (b := B) se h
    have m3 := fun h => sel_mono2 (own := false) (a := A) (b := B) se h
    have m4 := fun h => sel_mono2 (own := true) (a := A) (b := B) se h
    rw [v1] at h1
    rw [v2] at h2
    clear u1 u2 h3
    generalize selM e A B false = q1 at *
    generalize selM e A B true = q2 at *
    generalize doE t e = u at *
    have zD1 := fun (zh : True) => h1
    have zD2 := fun (zh : True) => h2
    have zE1 := fun (zh : True) => h4
    have zD3 := fun (zh : True) => h5
    have zD4 := fun (zh : True) => h6
    have zD5 := fun (zh : True) => h7
    have zE2 := fun (zh : True) => h8
    have zE3 := fun (zh : True) => h9
    refine stpEG ?_ ?_ ?_ ?_ ?_ ?_ ?_ ?_ ?_ ?_ <;> (first | exact Mk.mk | exact trivial | (repeat intro hq))
    all_goals first
      | (simp_all; done)
      | (simp_all; omega)
      | (have k1 := m3 (by simp_all; omega); have k2 := m4 (by simp_all; omega); simp [k1, k2]; done)
theorem lawSL_ok (code : List UInt8) (hw : WfT (.sl .u8) code) : FnC Tryd.prog 5 [aBy code] [aX] (.one (sB true)) := by
  by_cases hl : code.length ≤ 1048576
  · exact lawSL_sm code hl
  · exact lawSL_big code (by omega)
end Go.LX

