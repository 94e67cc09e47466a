/- A part of the proof of the statement in the row text. -/
import Derived.Test.YtojaiockbpcilaaDoorLzT2
import Derived.Test.YtojaiockbpcilaaDoorLzR2
import Derived.Test.YtojaiockbpcilaaDoorLxDat
set_option linter.unusedVariables false
set_option linter.unusedSimpArgs false
namespace Go.LX
open Go.Proofs
attribute [local irreducible] W WO OpW RW EndQ
set_option maxHeartbeats 4000000 in
set_option maxRecDepth 20000 in
theorem beq_ok (a b : List UInt8) : FnC Tryd.prog 99 [aBy a, aBy b] [aX, aX] (.one (sB (decide (a = b)))) := by
  refine FnC_of (fn := Tryd.f99) Tryd.func99 rfl rfl rfl ?_
  refine stpG ?_ ?_ ?_ ?_ ?_ ?_ ?_ ?_ ?_ ?_ <;> (first | exact Mk.mk | exact trivial | (repeat intro hq))
theorem kq {n k : Nat} (h : k ≤ n) : (n : Int) - (k : Int) = ((n - k : Nat) : Int) := by omega
set_option maxHeartbeats 4000000 in
set_option maxRecDepth 20000 in
theorem ieditof0_r (w s : List UInt8) (hw : tokM w = true) (hs : tokM s = true) : FnR Tryd.prog 72 [aBy w, aBy s] (fun _ : Nat × Nat => [aX, aX]) (fun r => .ag [sI (edE w s r).1, sI (edE w s r).2.1, oBy (edE w s r).2.2]) (fun r => EdOK w s r) := by
  have lw := tokM_len hw
  have ls := tokM_len hs
  have k1 := fun a => iscut_ok w a (by omega)
  have k2 := fun a => iscut_ok s a (by omega)
  refine FnR_of (fn := Tryd.f72) Tryd.func72 rfl rfl rfl ?_
  refine stp ?_ ?_ ?_ ?_ ?_ ?_ ?_ ?_ ?_ ?_ <;> (first | exact Mk.mk | exact trivial | (repeat intro hq))
  refine W_loopT (fun q : Nat × Nat => St.tmpl 91 [(0, .one (.d (.sl .u8) w)), (1, .one (.d (.sl .u8) s)), (4, .one (.rf 5000 (.pb 0))), (5, .one (.d (.i .i64) (q.1 : Int))), (16, .one (.d (.i .i64) (min (w.length : Int) s.length + 1))), (17, .one (.d (.i .i64) (q.2 : Int)))] [(5000, .cells [.d (.i .i64) 0, .d (.i .i64) 0, .nl])])
    (fun q => AtJ w s q.1 q.2) (fun q => w.length + 1 - q.2) (0, 0) (AtJ.init hw hs) ?_ ?_
  · exact Wk_tmpl [] ⟨rfl, rfl, rfl, rfl, rfl, rfl, trivial⟩ ⟨rfl, trivial⟩ rfl rfl
  · rintro ⟨a, i⟩ hj
    simp only at hj ⊢
    have ba := cutB_in hj.c1
    have bb := cutB_in hj.c2
    have zD1 := fun {z0} {z1} (zh : True) => beq_ok z0 z1
    have zD2 := fun {z0} (zh : True) => k1 z0
    have zD3 := fun {z0} (zh : True) => k2 z0
    refine stpM ?_ ?_ ?_ ?_ ?_ ?_ ?_ ?_ ?_ ?_ ?_ ?_ ?_ ?_ ?_ ?_ ?_ ?_ ?_ ?_ ?_ ?_ ?_ ?_ ?_ ?_ ?_ ?_ ?_ ?_ <;> (first | exact Mk.mk | exact trivial | (repeat intro hq))
    all_goals simp only [cond_true, cond_false, Bool.not_eq_true', Bool.not_eq_false', decide_eq_true_eq, decide_eq_false_iff_not, cut_none] at *
    rotate_left
    · rename_i q1 q2 q3
      exact ⟨(i, i + 1), by simp only; omega, hj.yes (by omega) (by omega) (by simpa using hq) q1 q2, Wk_tmpl [] ⟨rfl, rfl, rfl, rfl, rfl, rfl, trivial⟩ ⟨rfl, trivial⟩ rfl rfl⟩
    · rename_i q1 q2 q3
      exact ⟨(a, i + 1), by simp only; omega, hj.no (by omega) (by omega) (fun h => by rw [q2] at h; cases h.2), Wk_tmpl [] ⟨rfl, rfl, rfl, rfl, rfl, rfl, trivial⟩ ⟨rfl, trivial⟩ rfl rfl⟩
    · rename_i q1 q2
      exact ⟨(a, i + 1), by simp only; omega, hj.no (by omega) (by omega) (fun h => by rw [q1] at h; cases h.1), Wk_tmpl [] ⟨rfl, rfl, rfl, rfl, rfl, rfl, trivial⟩ ⟨rfl, trivial⟩ rfl rfl⟩
    all_goals
      have hA : IsAt w s a := hj.stop (by first | (rintro ⟨_, _, h⟩; exact hq (by simpa using h)) | omega)
      clear hj hq
      refine W_loopT (fun q : Nat × Nat => St.tmpl 91 [(0, .one (.d (.sl .u8) w)), (1, .one (.d (.sl .u8) s)), (4, .one (.rf 5000 (.pb 0))), (5, .one (.d (.i .i64) (a : Int))), (7, .one (.d (.i .i64) (q.1 : Int))), (45, .one (.d (.i .i64) (min (w.length : Int) s.length - (a : Int) + 1))), (46, .one (.d (.i .i64) (q.2 : Int)))] [(5000, .cells [.d (.i .i64) 0, .d (.i .i64) 0, .nl])])
        (fun q => KpJ w s a q.1 q.2) (fun q => w.length + 1 - q.2) (0, 0) (KpJ.init hA) ?_ ?_
      · exact Wk_tmpl [] ⟨rfl, rfl, rfl, rfl, rfl, rfl, rfl, trivial⟩ ⟨rfl, trivial⟩ rfl rfl
      · rintro ⟨k, i⟩ hj
        simp only at hj ⊢
        have ba := hj.l1
        have bb := hj.l2
        have bc := hj.i1
        have bd := hj.i2
        have zD1 := fun {z0} {z1} (zh : True) => beq_ok z0 z1
        have zD2 := fun {z0} (zh : True) => k1 z0
        have zD3 := fun {z0} (zh : True) => k2 z0
        have zD4 := fun {z0} zh => clone_ok z0 zh
        refine stpM ?_ ?_ ?_ ?_ ?_ ?_ ?_ ?_ ?_ ?_ ?_ ?_ ?_ ?_ ?_ ?_ ?_ ?_ ?_ ?_ ?_ ?_ ?_ ?_ ?_ ?_ ?_ ?_ ?_ ?_ <;> (first | exact Mk.mk | exact trivial | (repeat intro hq))
        all_goals simp only [cond_true, cond_false, Bool.not_eq_true', Bool.not_eq_false', decide_eq_true_eq, decide_eq_false_iff_not] at *
        rotate_left 2
        · rename_i q1 q2 q3
          rw [kq (by omega)] at q1 q2 hq
          rw [kq (by omega)] at hq
          exact ⟨(i, i + 1), by simp only; omega, hj.yes (by omega) (by omega) hq q1 q2, Wk_tmpl [] ⟨rfl, rfl, rfl, rfl, rfl, rfl, rfl, trivial⟩ ⟨rfl, trivial⟩ rfl rfl⟩
        · rename_i q1 q2 q3
          rw [kq (by omega)] at q2
          exact ⟨(k, i + 1), by simp only; omega, hj.no (by omega) (by omega) (fun h => by rw [q2] at h; cases h.2), Wk_tmpl [] ⟨rfl, rfl, rfl, rfl, rfl, rfl, rfl, trivial⟩ ⟨rfl, trivial⟩ rfl rfl⟩
        · rename_i q1 q3
          rw [kq (by omega)] at q1
          exact ⟨(k, i + 1), by simp only; omega, hj.no (by omega) (by omega) (fun h => by rw [q1] at h; cases h.1), Wk_tmpl [] ⟨rfl, rfl, rfl, rfl, rfl, rfl, rfl, trivial⟩ ⟨rfl, trivial⟩ rfl rfl⟩
        all_goals first
          | (simp only [cut, List.length_take, List.length_drop]; omega)
          | skip
        all_goals
          have hK : IsKp w s a k := hj.stop (by first | (rintro ⟨h1, h2, h⟩; rw [kq (by omega), kq (by omega)] at hq; exact hq h) | omega)
          refine endR (a, k) ?_ ⟨hA, hK⟩
          refine stp ?_ ?_ ?_ ?_ ?_ ?_ ?_ ?_ ?_ ?_ <;> (first | exact Mk.mk | exact trivial | (repeat intro hq))
        all_goals (simp only [cut, edE]; rw [show (a : Int).toNat = a from rfl, show ((s.length : Int) - (k : Int)).toNat - a = s.length - k - a by omega])
set_option maxHeartbeats 4000000 in
set_option maxRecDepth 20000 in
theorem ieditof_r (w s : List UInt8) (hw : tokM w = true) (hs : tokM s = true) : FnR Tryd.prog 39 [aBy w, aBy s] (fun _ : Nat × Nat => [aX, aX]) (fun r => rEd (edE w s r)) (fun r => EdOK w s r) := by
  have lw := tokM_len hw
  have ls := tokM_len hs
  have t1 := istext_ok w (by omega)
  have t2 := istext_ok s (by omega)
  rw [hw] at t1
  rw [hs] at t2
  refine FnR_of (fn := Tryd.f39) Tryd.func39 rfl rfl rfl ?_
  have zD1 := fun (zh : True) => t1
  have zD2 := fun (zh : True) => t2
  have zR1 := fun (zh : True) => ieditof0_r w s hw hs
  refine stp ?_ ?_ ?_ ?_ ?_ ?_ ?_ ?_ ?_ ?_ <;> (first | exact Mk.mk | exact trivial | (intros))
  rename_i r hr
  refine endR r ?_ hr
  refine stp ?_ ?_ ?_ ?_ ?_ ?_ ?_ ?_ ?_ ?_ <;> (first | exact Mk.mk | exact trivial | (repeat intro hq))
set_option maxHeartbeats 4000000 in
set_option maxRecDepth 20000 in
theorem ieditof_no (w s : List UInt8) (lw : w.length ≤ 16777216) (ls : s.length ≤ 16777216) (h : (tokM w && tokM s) = false) : FnC Tryd.prog 39 [aBy w, aBy s] [aX, aX] (.tu [(true, [sI 0, sI 0, oBy []]), (false, [sB false])]) := by
  have t1 := istext_ok w (by omega)
  have t2 := istext_ok s (by omega)
  refine FnC_of (fn := Tryd.f39) Tryd.func39 rfl rfl rfl ?_
  have zD1 := fun (zh : True) => t1
  have zD2 := fun (zh : True) => t2
  refine stp ?_ ?_ ?_ ?_ ?_ ?_ ?_ ?_ ?_ ?_ <;> (first | exact Mk.mk | exact trivial | (repeat intro hq))
set_option maxHeartbeats 4000000 in
set_option maxRecDepth 20000 in
theorem seditof_no (w s : List UInt8) (lw : w.length ≤ 16777216) (ls : s.length ≤ 16777216) (h : (tokM w && tokM s) = false) : FnC Tryd.prog 38 [aBy w, aBy s] [aX, aX] (.tu [(true, [sI 0, sI 0, oBy []]), (false, [sB false])]) := by
  have t1 := textok_ok w (by omega)
  have t2 := textok_ok s (by omega)
  refine FnC_of (fn := Tryd.f38) Tryd.func38 rfl rfl rfl ?_
  have zD1 := fun (zh : True) => t1
  have zD2 := fun (zh : True) => t2
  refine stp ?_ ?_ ?_ ?_ ?_ ?_ ?_ ?_ ?_ ?_ <;> (first | exact Mk.mk | exact trivial | (repeat intro hq))
end Go.LX
