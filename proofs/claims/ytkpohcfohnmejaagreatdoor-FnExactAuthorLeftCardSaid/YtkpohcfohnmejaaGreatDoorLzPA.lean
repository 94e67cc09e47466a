/- A part of the proof of the statement in the row text. -/
import Derived.Test.YtkpohcfohnmejaaGreatDoorLzAB
import Derived.Test.YtkpohcfohnmejaaGreatDoorLzP1
import Derived.Test.YtkpohcfohnmejaaGreatDoorLxStpL
set_option linter.unusedVariables false
set_option linter.unusedSimpArgs false
namespace Go.LX
open Go.Proofs
attribute [local irreducible] W WO OpW RW EndQ
theorem mem_sum {α : Type} {f : α → Nat} : ∀ {l : List α} {x : α}, x ∈ l → f x ≤ (l.map f).sum
  | a :: l, x, h => by
    rw [List.map_cons, List.sum_cons]
    rcases List.mem_cons.1 h with rfl | h
    · omega
    · have := mem_sum (f := f) h
      omega
theorem bn_szT {n : Nat} : ∀ {t : Ty} {x : t.T}, szT t x ≤ n → bn n t x
  | .sl e, xs, h => by
    have h : List.length (α := e.T) xs + ((xs : List e.T).map (szT e)).sum ≤ n := h
    refine ⟨by omega, fun x hx => bn_szT ?_⟩
    have : szT e x ≤ ((xs : List e.T).map (szT e)).sum := mem_sum hx
    omega
  | .pr a b, x, h => by
    have h : szT a x.1 + szT b x.2 ≤ n := h
    exact ⟨bn_szT (by omega), bn_szT (by omega)⟩
  | .i _, _, _ => trivial | .u8, _, _ => trivial | .bo, _, _ => trivial | .st, _, _ => trivial | .un, _, _ => trivial
theorem bn_sz {t : Ty} {x : t.T} (h : Sz t x) : bn 1048576 t x := bn_szT h.le
set_option maxHeartbeats 4000000 in
set_option maxRecDepth 20000 in
theorem lawAL_big (d : Dc) (s : Int) (hw : Wf TDc d) (hb : ¬ szT TDc d ≤ 1048576) : FnC Tryz.prog 4 [aDc d, aI s] [aDc0, aX] (.one (sB true)) := by
  have k1 := szDoc_ok d 1048576 (by decide) hw
  rw [szL_no (by omega)] at k1
  refine FnC_of (fn := Tryz.f4) Tryz.func4 rfl rfl rfl ?_
  have zD1 := fun (zh : True) => k1
  refine stp ?_ ?_ ?_ ?_ ?_ ?_ ?_ ?_ ?_ ?_ ?_ ?_ ?_ ?_ ?_ ?_ <;> (first | exact Mk.mk | exact trivial | (repeat intro hq))
set_option maxHeartbeats 4000000 in
set_option maxRecDepth 20000 in
theorem lawAL_sm (d : Dc) (s : Int) (hw : Wf TDc d) (hb : szT TDc d ≤ 1048576) : FnC Tryz.prog 4 [aDc d, aI s] [aDc0, aX] (.one (sB true)) := by
  have hz : Sz TDc d := ⟨hb⟩
  have hn := bn_sz hz
  have k1 := szDoc_ok d 1048576 (by decide) hw
  rw [szL_yes (by omega)] at k1
  have k2 := toDoc_ok d hz
  have k3 := sleft_ok d s hn
  have k4 := ileft_ok d s hn
  have k5 := eqDoc_ok d hz
  refine FnC_of (fn := Tryz.f4) Tryz.func4 rfl rfl rfl ?_
  have zD1 := fun (zh : True) => k1
  have zD2 := fun (zh : True) => k2
  have zE1 := fun (zh : True) => k3
  have zE2 := fun (zh : True) => k4
  have zE3 := fun (zh : True) => k5
  refine stp ?_ ?_ ?_ ?_ ?_ ?_ ?_ ?_ ?_ ?_ ?_ ?_ ?_ ?_ ?_ ?_ <;> (first | exact Mk.mk | exact trivial | (repeat intro hq))
theorem lawAL_ok (d : Dc) (hw : WfT TDc d) (s : Int) (_ : WfT (.i .i64) s) : FnC Tryz.prog 4 [aDc d, aI s] [aDc0, aX] (.one (sB true)) := by
  by_cases h : szT TDc d ≤ 1048576
  · exact lawAL_sm d s ⟨hw⟩ h
  · exact lawAL_big d s ⟨hw⟩ h
end Go.LX
