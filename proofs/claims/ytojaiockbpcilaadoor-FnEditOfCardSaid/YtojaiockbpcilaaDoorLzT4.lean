/- A part of the proof of the statement in the row text. -/
import Derived.Test.YtojaiockbpcilaaDoorLzT3
import Derived.Test.YtojaiockbpcilaaDoorLzS2
import Derived.Test.YtojaiockbpcilaaDoorLxDat
set_option linter.unusedVariables false
set_option linter.unusedSimpArgs false
namespace Go.LX
open Go.Proofs
attribute [local irreducible] W WO OpW RW EndQ
set_option maxHeartbeats 4000000 in
set_option maxRecDepth 20000 in
theorem runeat_ok (xs : List UInt8) (a : Int) (hl : xs.length ≤ 16777216) : FnC Tryd.prog 40 [aBy xs, aI a] [aX, aX] (.one (sI (r1X xs a).1)) := by
  refine FnC_of (fn := Tryd.f40) Tryd.func40 rfl rfl rfl ?_
  have zD1 := fun (zh : True) => rune1_ex xs a hl
  refine stp ?_ ?_ ?_ ?_ ?_ ?_ ?_ ?_ ?_ ?_ <;> (first | exact Mk.mk | exact trivial | (repeat intro hq))
set_option maxHeartbeats 4000000 in
set_option maxRecDepth 20000 in
theorem draweo_r (code : List UInt8) (hl : code.length ≤ 16777216) : FnR Tryd.prog 37 [aBy code] (fun _ : List UInt8 × List UInt8 => [aX]) (fun r => .tu [(false, [sBy r.1]), (false, [sBy r.2])]) (fun r => r.1.length ≤ 1001 ∧ r.2.length ≤ 1001) := by
  have ho := open_ok code hl
  refine FnR_of (fn := Tryd.f37) Tryd.func37 rfl rfl rfl ?_
  have zX1 := fun (zh : True) => ho
  have zQ1 := fun {z0} {z1} {z2} zh => badtext_r code z0 z1 z2 hl zh
  refine stpD ?_ ?_ ?_ ?_ ?_ ?_ ?_ ?_ ?_ ?_ <;> (first | exact Mk.mk | exact trivial | (intros))
  rename_i r1 h1
  refine OpW_weak (Wk_freeze (o := 12000) rfl) ?_
  have zQ1 := fun {z0} {z1} {z2} zh => badtext_r code z0 z1 z2 hl zh
  have zQ2 := fun {z0} {z1} {z2} {z3} zh => edits_r code z0 z1 z2 z3 hl zh
  refine stpD ?_ ?_ ?_ ?_ ?_ ?_ ?_ ?_ ?_ ?_ <;> (first | exact Mk.mk | exact trivial | (intros))
  rename_i r2 h2
  refine OpW_weak (Wk_freeze (o := 17000) rfl) ?_
  have hw : ∀ e ∈ r2.1, e.2.2.length ≤ 16777216 := fun e he => Nat.le_trans (h2.1.2 e he) (by decide)
  have l1 : r1.1.length ≤ 1001 := Int.ofNat_le.1 h1.1
  have l2 : r2.1.length ≤ 2 := Int.ofNat_le.1 h2.1.1
  have key : ∃ u : List UInt8, ∃ n : Int, u.length ≤ 1001 ∧ FnC Tryd.prog 32 [aBy r1.1, aEs r2.1] [aX, aX] (.tu [(false, [oBy u]), (false, [sI n])]) := by
    cases ht : tokM r1.1 with
    | true => exact ⟨_, _, Nat.le_trans (tokM_len (dos_tok (by omega) ht)) (by decide), seditsdo_ok r1.1 r2.1 (by omega) (by omega) hw ht⟩
    | false => exact ⟨_, _, by simp, seditsdo_no r1.1 r2.1 (by omega) ht⟩
  obtain ⟨u, n, hu, he⟩ := key
  have zD1 := fun (zh : True) => he
  refine stpD ?_ ?_ ?_ ?_ ?_ ?_ ?_ ?_ ?_ ?_ <;> (first | exact Mk.mk | exact trivial | (repeat intro hq))
  refine OpW_weak (Wk_freeze (o := 18000) rfl) ?_
  have zQ1 := fun {z0} {z1} {z2} zh => once_r code z0 z1 z2 hl zh
  have zQ2 := fun {z0} {z1} {z2} zh => badtext_r code z0 z1 z2 hl zh
  refine stp ?_ ?_ ?_ ?_ ?_ ?_ ?_ ?_ ?_ ?_ <;> (first | exact Mk.mk | exact trivial | (intros))
  · rename_i r3 r4 h3 h4 q
    refine' endR (_, _) ?_ ?_
    rotate_left 2
    · refine EndQ_weak (Wk_freeze (o := 24000) rfl) ?_
      refine stp ?_ ?_ ?_ ?_ ?_ ?_ ?_ ?_ ?_ ?_ <;> (first | exact Mk.mk | exact trivial | (repeat intro hq))
    · exact ⟨l1, Int.ofNat_le.1 h4.1⟩
  · skip
    refine' endR (_, _) ?_ ?_
    rotate_left 2
    · skip
      refine stp ?_ ?_ ?_ ?_ ?_ ?_ ?_ ?_ ?_ ?_ <;> (first | exact Mk.mk | exact trivial | (repeat intro hq))
    · exact ⟨l1, hu⟩
set_option maxHeartbeats 4000000 in
set_option maxRecDepth 20000 in
theorem lawEO_big (code : List UInt8) (hl : 1048576 < code.length) : FnC Tryd.prog 8 [aBy code] [aX] (.one (sB true)) := by
  refine FnC_of (fn := Tryd.f8) Tryd.func8 rfl rfl rfl ?_
  have zD1 := fun {z0} (zh : True) => big_ok z0
  refine stp ?_ ?_ ?_ ?_ ?_ ?_ ?_ ?_ ?_ ?_ <;> (first | exact Mk.mk | exact trivial | (repeat intro hq))
set_option maxHeartbeats 4000000 in
set_option maxRecDepth 20000 in
theorem lawEO_sm (code : List UInt8) (hl : code.length ≤ 1048576) : FnC Tryd.prog 8 [aBy code] [aX] (.one (sB true)) := by
  refine FnC_of (fn := Tryd.f8) Tryd.func8 rfl rfl rfl ?_
  have zD1 := fun {z0} (zh : True) => big_ok z0
  have zR1 := fun (zh : True) => draweo_r code (Nat.le_trans hl (by decide))
  refine stpD ?_ ?_ ?_ ?_ ?_ ?_ ?_ ?_ ?_ ?_ <;> (first | exact Mk.mk | exact trivial | (intros))
  rename_i r hr hq
  obtain ⟨w, s⟩ := r
  obtain ⟨lw, ls⟩ := hr
  simp only at lw ls ⊢
  cases hv : tokM w && tokM s with
  | false =>
    have h1 := seditof_no w s (by omega) (by omega) hv
    have h2 := ieditof_no w s (by omega) (by omega) hv
    have h3 := sameedit_ok (0, 0, []) (0, 0, []) (by simp) (by simp)
    rw [sameE_refl] at h3
    have zE1 := fun (zh : True) => h1
    have zE2 := fun (zh : True) => h2
    have zE3 := fun (zh : True) => h3
    refine stp ?_ ?_ ?_ ?_ ?_ ?_ ?_ ?_ ?_ ?_ <;> (first | exact Mk.mk | exact trivial | (repeat intro hq))
  | true =>
    rw [Bool.and_eq_true] at hv
    obtain ⟨hw, hs⟩ := hv
    have zR1 := fun (zh : True) => seditof_r w s hw hs
    have zR2 := fun (zh : True) => ieditof_r w s hw hs
    refine stpD ?_ ?_ ?_ ?_ ?_ ?_ ?_ ?_ ?_ ?_ <;> (first | exact Mk.mk | exact trivial | (intros))
    rename_i r r2 hr hr2
    obtain rfl := hr.one hr2
    have ok := ed_ok hw hs hr
    obtain ⟨p1, p2⟩ := ed_put (tok_vld hs) hr
    have tl := tokM_len hw
    have tl2 := tokM_len hs
    have hdo := ed_do hr
    have h1 := sameedit_ok (edE w s r) (edE w s r) (by omega) (by omega)
    rw [sameE_refl] at h1
    have h2 := ieditdo_ok w (edE w s r) (by omega) (by omega)
    rw [ok, doR, if_pos ok, hdo] at h2
    have h3 := runeat_ok w (edE w s r).1 (by omega)
    have h4 := runeat_ok (edE w s r).2.2 0 (by omega)
    have hne := ed_rune (tok_vld hw) (tok_vld hs) hr
    have hb : ∀ a : Int, -10000000000 ≤ a → True := fun _ _ => trivial
    clear ok hdo hr hr2
    generalize edE w s r = e at *
    generalize (r1X w e.1).1 = x at *
    generalize (r1X e.2.2 0).1 = y at *
    have zE1 := fun (zh : True) => h1
    have zE2 := fun (zh : True) => h2
    have zE3 := fun (zh : True) => h3
    have zE4 := fun (zh : True) => h4
    refine stpG ?_ ?_ ?_ ?_ ?_ ?_ ?_ ?_ ?_ ?_ <;> (first | exact Mk.mk | exact trivial | (repeat intro hq))
    all_goals
      simp only [cond_true, cond_false, decide_eq_true_eq, decide_eq_false_iff_not] at *
      simp_all
theorem lawEO_ok (code : List UInt8) (hw : WfT (.sl .u8) code) : FnC Tryd.prog 8 [aBy code] [aX] (.one (sB true)) := by
  by_cases hl : code.length ≤ 1048576
  · exact lawEO_sm code hl
  · exact lawEO_big code (by omega)
end Go.LX
