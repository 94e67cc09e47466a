/- A part of the proof of the statement in the row text. -/
import Derived.Test.YtkpohcfohnmejaaDoorLzUB
import Derived.Test.YtkpohcfohnmejaaDoorLxFrz
set_option linter.unusedVariables false
set_option linter.unusedSimpArgs false
namespace Go.LX
open Go.Proofs
attribute [local irreducible] W WO OpW RW EndQ
set_option maxHeartbeats 4000000 in
set_option maxRecDepth 20000 in
theorem lawRP_big (cs : List (List UInt8)) (a : Int) (hl : cs.length ≤ 9223372036854775807) (hw : ∀ e ∈ cs, e.length ≤ 9223372036854775807) (hb : 1048576 < cs.length + cs.flatten.length) : FnC Tryd.prog 4 [aRp cs, aI a] [aRp0, aX] (.one (sB true)) := by
  have k1 := szrope_ok cs 1048576 (by decide) hl hw
  rw [szL_big hb] at k1
  refine FnC_of (fn := Tryd.f4) Tryd.func4 rfl rfl rfl ?_
  have zD1 := fun (zh : True) => k1
  refine stp ?_ ?_ ?_ ?_ ?_ ?_ ?_ ?_ ?_ ?_ ?_ ?_ ?_ ?_ ?_ ?_ <;> (first | exact Mk.mk | exact trivial | (repeat intro hq))
set_option maxHeartbeats 4000000 in
set_option maxRecDepth 20000 in
theorem lawRP_sm (cs : List (List UInt8)) (a : Int) (hb : cs.length + cs.flatten.length ≤ 1048576) : FnC Tryd.prog 4 [aRp cs, aI a] [aRp0, aX] (.one (sB true)) := by
  have hw : ∀ e ∈ cs, e.length ≤ 1048576 := fun e he => by have := fl_mem he; omega
  have k1 := szrope_ok cs 1048576 (by decide) (by omega) (fun e he => Nat.le_trans (hw e he) (by decide))
  rw [szL_small hb] at k1
  have k2 := torope_ok cs (by omega) hw
  have hw' : ∀ e ∈ cs, e.length ≤ 16777216 := fun e he => Nat.le_trans (hw e he) (by decide)
  have k4 := sropesplit_ok cs a (by omega) hw'
  have k5 := iropesplit_ok cs a (by omega) hw'
  obtain ⟨⟨r1, r2, r3⟩, r4, r5, r6⟩ := sp_len (cs := cs) (a := a)
  obtain ⟨A, hA⟩ : ∃ A, spA cs a = A := ⟨_, rfl⟩
  obtain ⟨B, hB⟩ : ∃ B, spB cs a = B := ⟨_, rfl⟩
  obtain ⟨ok, hok⟩ : ∃ ok, l04M cs a = ok := ⟨_, rfl⟩
  rw [hA] at k4 k5 r1 r2 r3
  rw [hB] at k4 k5 r4 r5 r6
  rw [hok] at k4 k5
  clear hA hB hok
  have k6 := eqrope_ok A (by omega) (fun e he => Nat.le_trans (r3 e he) (by decide))
  have k7 := eqrope_ok B (by omega) (fun e he => Nat.le_trans (r6 e he) (by decide))
  have k8 := eqrope_ok cs (by omega) hw
  have k9 := heldrope_ok A 1 (by decide) (by omega) (by omega)
  have k10 := heldrope_ok B (1 + A.flatten.length) (by omega) (by omega) (by omega)
  have k11 := fun (n : Int) (h0 : 0 ≤ n ∧ n ≤ 100000000) => markrope_ok cs n h0 (by omega) (by omega)
  have k12 := fun (n : Int) (h0 : 0 ≤ n ∧ n ≤ 100000000) => markrope_ok A n h0 (by omega) (by omega)
  have k13 := fun (n : Int) (h0 : 0 ≤ n ∧ n ≤ 100000000) => markrope_ok B n h0 (by omega) (by omega)
  refine FnC_of (fn := Tryd.f4) Tryd.func4 rfl rfl rfl ?_
  have zD1 := fun (zh : True) => k1
  have zD2 := fun (zh : True) => k2
  have zE1 := fun (zh : True) => k4
  have zE2 := fun (zh : True) => k5
  have zE3 := fun (zh : True) => k6
  have zE4 := fun (zh : True) => k7
  have zE5 := fun (zh : True) => k8
  have zM1 := fun {z0} zh => k11 z0 zh
  have zM2 := fun {z0} zh => k12 z0 zh
  have zM3 := fun {z0} zh => k13 z0 zh
  have zE6 := fun (zh : True) => k9
  have zE7 := fun (zh : True) => k10
  refine stp ?_ ?_ ?_ ?_ ?_ ?_ ?_ ?_ ?_ ?_ ?_ ?_ ?_ ?_ ?_ ?_ <;> (first | exact Mk.mk | exact trivial | (repeat intro hq))
theorem lawRP_ok (cs : List (List UInt8)) (hw : WfT (.sl TCh) cs) (a : Int) (_ : WfT (.i .i64) a) : FnC Tryd.prog 4 [aRp cs, aI a] [aRp0, aX] (.one (sB true)) := by
  by_cases h2 : cs.length + cs.flatten.length ≤ 1048576
  · exact lawRP_sm cs a h2
  · exact lawRP_big cs a (Nat.le_trans hw.1 (by decide)) (fun e he => Nat.le_trans (hw.2 e he).1 (by decide)) (by omega)
end Go.LX
