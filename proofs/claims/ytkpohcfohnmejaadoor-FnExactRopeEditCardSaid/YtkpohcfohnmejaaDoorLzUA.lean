/- A part of the proof of the statement in the row text. -/
import Derived.Test.YtkpohcfohnmejaaDoorLzU9
import Derived.Test.YtkpohcfohnmejaaDoorLxFrz
set_option linter.unusedVariables false
set_option linter.unusedSimpArgs false
namespace Go.LX
open Go.Proofs
attribute [local irreducible] W WO OpW RW EndQ
set_option maxHeartbeats 4000000 in
set_option maxRecDepth 20000 in
theorem lawRE_long (cs : List (List UInt8)) (a c : Int) (put : List UInt8) (hp : 1048576 < put.length) : FnC Tryd.prog 3 [aRp cs, aI a, aI c, aBy put] [aRp0, aX, aX, aX] (.one (sB true)) := by
  refine FnC_of (fn := Tryd.f3) Tryd.func3 rfl rfl rfl ?_
  refine stp ?_ ?_ ?_ ?_ ?_ ?_ ?_ ?_ ?_ ?_ ?_ ?_ ?_ ?_ ?_ ?_ <;> (first | exact Mk.mk | exact trivial | (repeat intro hq))
set_option maxHeartbeats 4000000 in
set_option maxRecDepth 20000 in
theorem lawRE_big (cs : List (List UInt8)) (a c : Int) (put : List UInt8) (hp : put.length ≤ 1048576) (hl : cs.length ≤ 9223372036854775807) (hw : ∀ e ∈ cs, e.length ≤ 9223372036854775807) (hb : 1048576 < cs.length + cs.flatten.length) : FnC Tryd.prog 3 [aRp cs, aI a, aI c, aBy put] [aRp0, aX, aX, aX] (.one (sB true)) := by
  have k1 := szrope_ok cs 1048576 (by decide) hl hw
  rw [szL_big hb] at k1
  refine FnC_of (fn := Tryd.f3) Tryd.func3 rfl rfl rfl ?_
  have zD1 := fun (zh : True) => k1
  refine stp ?_ ?_ ?_ ?_ ?_ ?_ ?_ ?_ ?_ ?_ ?_ ?_ ?_ ?_ ?_ ?_ <;> (first | exact Mk.mk | exact trivial | (repeat intro hq))
set_option maxHeartbeats 4000000 in
set_option maxRecDepth 20000 in
theorem lawRE_sm (cs : List (List UInt8)) (a c : Int) (put : List UInt8) (hp : put.length ≤ 1048576) (hb : cs.length + cs.flatten.length ≤ 1048576) : FnC Tryd.prog 3 [aRp cs, aI a, aI c, aBy put] [aRp0, aX, aX, aX] (.one (sB true)) := by
  have hw : ∀ e ∈ cs, e.length ≤ 1048576 := fun e he => by have := fl_mem he; omega
  have k1 := szrope_ok cs 1048576 (by decide) (by omega) (fun e he => Nat.le_trans (hw e he) (by decide))
  rw [szL_small hb] at k1
  have k2 := torope_ok cs (by omega) hw
  have k3 := tobytes_ok put (by omega)
  have hw' : ∀ e ∈ cs, e.length ≤ 16777216 := fun e he => Nat.le_trans (hw e he) (by decide)
  have k4 := sropeedit_ok cs a c put (by omega) hw' (by omega)
  have k5 := iropeedit_ok cs a c put (by omega) hw' (by omega)
  obtain ⟨r1, r2, r3⟩ := ropeR_len (cs := cs) (a := a) (c := c) (put := put)
  obtain ⟨r, hr⟩ : ∃ r, ropeR cs a c put = r := ⟨_, rfl⟩
  obtain ⟨ok, hok⟩ : ∃ ok, rokM cs a c put = ok := ⟨_, rfl⟩
  rw [hr] at k4 k5 r1 r2 r3
  rw [hok] at k4 k5
  clear hr hok
  have k6 := eqrope_ok r (by omega) (fun e he => Nat.le_trans (r3 e he) (by decide))
  have k7 := eqrope_ok cs (by omega) hw
  have k8 := eqbytes_ok put put (by omega) rfl
  have k9 := heldrope_ok r 1 (by decide) (by omega) (by omega)
  have k10 := fun (n : Int) (h0 : 0 ≤ n ∧ n ≤ 1000000000) => markbytesE_ok 5 put n h0 (by omega)
  have k11 := fun (n : Int) (h0 : 0 ≤ n ∧ n ≤ 100000000) => markrope_ok cs n h0 (by omega) (by omega)
  have k12 := fun (n : Int) (h0 : 0 ≤ n ∧ n ≤ 100000000) => markrope_ok r n h0 (by omega) (by omega)
  refine FnC_of (fn := Tryd.f3) Tryd.func3 rfl rfl rfl ?_
  have zD1 := fun (zh : True) => k1
  have zD2 := fun (zh : True) => k2
  have zD3 := fun (zh : True) => k3
  have zE1 := fun (zh : True) => k4
  have zE2 := fun (zh : True) => k5
  have zE3 := fun (zh : True) => k6
  have zE4 := fun (zh : True) => k7
  have zE5 := fun (zh : True) => k8
  have zM1 := fun {z0} zh => k11 z0 zh
  have zM2 := fun {z0} zh => k12 z0 zh
  have zO1 := fun {z0} zh => k10 z0 zh
  have zE6 := fun (zh : True) => k9
  refine stp ?_ ?_ ?_ ?_ ?_ ?_ ?_ ?_ ?_ ?_ ?_ ?_ ?_ ?_ ?_ ?_ <;> (first | exact Mk.mk | exact trivial | (repeat intro hq))
theorem lawRE_ok (cs : List (List UInt8)) (hw : WfT (.sl TCh) cs) (a : Int) (_ : WfT (.i .i64) a) (c : Int) (_ : WfT (.i .i64) c) (put : List UInt8) (hp : WfT (.sl .u8) put) : FnC Tryd.prog 3 [aRp cs, aI a, aI c, aBy put] [aRp0, aX, aX, aX] (.one (sB true)) := by
  by_cases h1 : put.length ≤ 1048576
  · by_cases h2 : cs.length + cs.flatten.length ≤ 1048576
    · exact lawRE_sm cs a c put h1 h2
    · exact lawRE_big cs a c put h1 (Nat.le_trans hw.1 (by decide)) (fun e he => Nat.le_trans (hw.2 e he).1 (by decide)) (by omega)
  · exact lawRE_long cs a c put (by omega)
end Go.LX
