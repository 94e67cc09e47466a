/- A part of the proof of the statement in the row text. -/
import Derived.Test.YtojaiockbpcilaaDoorLzX1
import Derived.Test.YtojaiockbpcilaaDoorLzW2
import Derived.Test.YtojaiockbpcilaaDoorLxDat
set_option linter.unusedVariables false
set_option linter.unusedSimpArgs false
namespace Go.LX
open Go.Proofs
attribute [local irreducible] W WO OpW RW EndQ
set_option maxHeartbeats 4000000 in
set_option maxRecDepth 20000 in
theorem ieditdo_yes (t : List UInt8) (e : Ed) (hl : t.length ≤ 16777216) (hp : e.2.2.length ≤ 16777216) (h : eokM t e = true) : FnC Tryd.prog 17 [aBy t, aEd e] [aX, aEd0] (.tu [(false, [oBy (doE t e)]), (false, [sB true])]) := by
  obtain ⟨k1, k2, k3, k4, k5⟩ := eokM_ok hl h
  have h1 := isedit_ok t e hl hp
  rw [h] at h1
  have h2 := ido_ok t e k1 k5 k2 ⟨k3, k4⟩
  refine FnC_of (fn := Tryd.f17) Tryd.func17 rfl rfl rfl ?_
  have zD1 := fun (zh : True) => h1
  have zD2 := fun (zh : True) => h2
  refine stp ?_ ?_ ?_ ?_ ?_ ?_ ?_ ?_ ?_ ?_ <;> (first | exact Mk.mk | exact trivial | (repeat intro hq))
set_option maxHeartbeats 4000000 in
set_option maxRecDepth 20000 in
theorem ieditdo_no (t : List UInt8) (e : Ed) (hl : t.length ≤ 16777216) (hp : e.2.2.length ≤ 16777216) (h : eokM t e = false) : FnC Tryd.prog 17 [aBy t, aEd e] [aX, aEd0] (.tu [(false, [oBy []]), (false, [sB false])]) := by
  have h1 := isedit_ok t e hl hp
  rw [h] at h1
  refine FnC_of (fn := Tryd.f17) Tryd.func17 rfl rfl rfl ?_
  have zD1 := fun (zh : True) => h1
  refine stp ?_ ?_ ?_ ?_ ?_ ?_ ?_ ?_ ?_ ?_ <;> (first | exact Mk.mk | exact trivial | (repeat intro hq))
theorem ieditdo_ok (t : List UInt8) (e : Ed) (hl : t.length ≤ 16777216) (hp : e.2.2.length ≤ 16777216) : FnC Tryd.prog 17 [aBy t, aEd e] [aX, aEd0] (.tu [(false, [oBy (doR t e)]), (false, [sB (eokM t e)])]) := by
  cases h : eokM t e with
  | true => rw [doR, if_pos h]; exact ieditdo_yes t e hl hp h
  | false => rw [doR, if_neg (by rw [h]; simp)]; exact ieditdo_no t e hl hp h
set_option maxHeartbeats 4000000 in
set_option maxRecDepth 20000 in
theorem iback_ok (t : List UInt8) (e : Ed) (hl : t.length ≤ 400) (h1 : 0 ≤ e.1 ∧ e.1 ≤ t.length) (h2 : 0 ≤ e.2.1 ∧ e.1 + e.2.1 ≤ t.length) (hp : e.2.2.length ≤ 400) : FnC Tryd.prog 56 [aEd e, aBy t] [aEd0, aX] (.ag [sI e.1, sI e.2.2.length, oBy (cut (some e.1) (some (e.1 + e.2.1)) t)]) := by
  have k6 := cut_len (xs := t) (a := e.1) (b := e.1 + e.2.1) ⟨h1.1, by omega, h2.2⟩
  refine FnC_of (fn := Tryd.f56) Tryd.func56 rfl rfl rfl ?_
  have zD1 := fun zh => clone_ok (cut (some e.1) (some (e.1 + e.2.1)) t) zh
  refine stp ?_ ?_ ?_ ?_ ?_ ?_ ?_ ?_ ?_ ?_ <;> (first | exact Mk.mk | exact trivial | (repeat intro hq))
set_option maxHeartbeats 4000000 in
set_option maxRecDepth 20000 in
theorem ieditback_yes (t : List UInt8) (e : Ed) (hl : t.length ≤ 16777216) (hp : e.2.2.length ≤ 16777216) (h : eokM t e = true) : FnC Tryd.prog 20 [aBy t, aEd e] [aX, aEd0] (.tu [(true, [sI e.1, sI e.2.2.length, oBy (cut (some e.1) (some (e.1 + e.2.1)) t)]), (false, [sB true])]) := by
  obtain ⟨k1, k2, k3, k4, k5⟩ := eokM_ok hl h
  have h1 := isedit_ok t e hl hp
  rw [h] at h1
  have h2 := iback_ok t e k1 k2 ⟨k3, k4⟩ k5
  refine FnC_of (fn := Tryd.f20) Tryd.func20 rfl rfl rfl ?_
  have zD1 := fun (zh : True) => h1
  have zD2 := fun (zh : True) => h2
  refine stp ?_ ?_ ?_ ?_ ?_ ?_ ?_ ?_ ?_ ?_ <;> (first | exact Mk.mk | exact trivial | (repeat intro hq))
set_option maxHeartbeats 4000000 in
set_option maxRecDepth 20000 in
theorem ieditback_no (t : List UInt8) (e : Ed) (hl : t.length ≤ 16777216) (hp : e.2.2.length ≤ 16777216) (h : eokM t e = false) : FnC Tryd.prog 20 [aBy t, aEd e] [aX, aEd0] (.tu [(true, [sI 0, sI 0, oBy []]), (false, [sB false])]) := by
  have h1 := isedit_ok t e hl hp
  rw [h] at h1
  refine FnC_of (fn := Tryd.f20) Tryd.func20 rfl rfl rfl ?_
  have zD1 := fun (zh : True) => h1
  refine stp ?_ ?_ ?_ ?_ ?_ ?_ ?_ ?_ ?_ ?_ <;> (first | exact Mk.mk | exact trivial | (repeat intro hq))
set_option maxHeartbeats 4000000 in
set_option maxRecDepth 20000 in
theorem bytesof_ok (xs : List UInt8) (hl : xs.length ≤ 16777216) : FnC Tryd.prog 22 [aBy xs] [aX] (.one (oBy xs)) := by
  refine FnC_of (fn := Tryd.f22) Tryd.func22 rfl rfl rfl ?_
  refine stp ?_ ?_ ?_ ?_ ?_ ?_ ?_ ?_ ?_ ?_ <;> (first | exact Mk.mk | exact trivial | (repeat intro hq))
  all_goals (show 0 + xs.length ≤ maxLen; unfold maxLen; omega)
end Go.LX
