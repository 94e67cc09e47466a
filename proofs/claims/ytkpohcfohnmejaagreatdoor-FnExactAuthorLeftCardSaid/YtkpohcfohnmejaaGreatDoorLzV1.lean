/- A part of the proof of the statement in the row text. -/
import Derived.Test.YtkpohcfohnmejaaGreatDoorLzSeat
import Derived.Test.YtkpohcfohnmejaaGreatDoorLxLd
import Derived.Test.YtkpohcfohnmejaaGreatDoorLxStpL
set_option linter.unusedVariables false
set_option linter.unusedSimpArgs false
namespace Go.LX
open Go.Proofs
attribute [local irreducible] W WO OpW RW EndQ
set_option maxHeartbeats 4000000 in
set_option maxRecDepth 20000 in
theorem word_ok (xs : List UInt8) (hl : 8 ≤ xs.length) (hu : xs.length ≤ 16777216) : FnC Tryz.prog 159 [aBy xs] [aX] (.one (.d (.i .u64) (wdN xs : Int))) := by
  have h0 := byI_lt xs 0; have h1 := byI_lt xs 1; have h2 := byI_lt xs 2; have h3 := byI_lt xs 3; have h4 := byI_lt xs 4; have h5 := byI_lt xs 5; have h6 := byI_lt xs 6; have h7 := byI_lt xs 7
  rw [← wdN_or]
  refine FnC_of (fn := Tryz.f159) Tryz.func159 rfl rfl rfl ?_
  refine stp ?_ ?_ ?_ ?_ ?_ ?_ ?_ ?_ ?_ ?_ ?_ ?_ ?_ ?_ ?_ ?_ <;> (first | exact Mk.mk | exact trivial | (repeat intro hq))
  · show (byI xs 1 : Int) * 256 ≤ _
    omega
  · show (byI xs 2 : Int) * 65536 ≤ _
    omega
  · show (byI xs 3 : Int) * 16777216 ≤ _
    omega
  · show (byI xs 4 : Int) * 4294967296 ≤ _
    omega
  · show (byI xs 5 : Int) * 1099511627776 ≤ _
    omega
  · show (byI xs 6 : Int) * 281474976710656 ≤ _
    omega
  · show (byI xs 7 : Int) * 72057594037927936 ≤ _
    omega
set_option maxHeartbeats 4000000 in
set_option maxRecDepth 20000 in
theorem runestart_ok (b : UInt8) : FnC Tryz.prog 152 [.c (.d .u8 b)] [aX] (.one (sB (!decide (128 ≤ b.toNat ∧ b.toNat ≤ 191)))) := by
  refine FnC_of (fn := Tryz.f152) Tryz.func152 rfl rfl rfl ?_
  refine stp ?_ ?_ ?_ ?_ ?_ ?_ ?_ ?_ ?_ ?_ ?_ ?_ ?_ ?_ ?_ ?_ <;> (first | exact Mk.mk | exact trivial | (repeat intro hq))
  have key : ∀ n : Fin 256, (!decide (((UInt8.ofNat n.val &&& 192).toNat : Int) = ((128 : UInt8).toNat : Int))) = !decide (128 ≤ (UInt8.ofNat n.val).toNat ∧ (UInt8.ofNat n.val).toNat ≤ 191) := by decide
  have h := key ⟨b.toNat, b.toNat_lt⟩
  rw [UInt8.ofNat_toNat] at h
  exact h
end Go.LX
