/- A part of the proof of the statement in the row text. -/
import Derived.Test.YtkpohcfohnmejaaGreatDoorLxCv
import Derived.Test.YtkpohcfohnmejaaGreatDoorProg
import Derived.Test.YtkpohcfohnmejaaGreatDoorLxLd
set_option linter.unusedVariables false
set_option linter.unusedSimpArgs false
namespace Go.LX
/-- The two tables of unicode/utf8. -/
instance : Glob := ⟨fun n => match n with
  | 0 => some ⟨.u8, firstL⟩
  | 1 => some ⟨.pr .u8 .u8, accL⟩
  | _ => none, fun _ => false⟩
abbrev aI (n : Int) : SA := .c (.d (.i .i64) n)
abbrev aB (b : Bool) : SA := .c (.d .bo b)
abbrev aBy (xs : List UInt8) : SA := .c (.d (.sl .u8) xs)
abbrev aX : SA := .c .any
abbrev sI (n : Int) : S0 := .d (.i .i64) n
abbrev sB (b : Bool) : S0 := .d .bo b
abbrev sBy (xs : List UInt8) : S0 := .d (.sl .u8) xs
theorem iOr_nat {a b : Nat} (ha : a < 256) (hb : b < 256) : iOr .i64 ((a : Int) * 256) b = a * 256 + b := by
  have key : ((BitVec.ofInt 64 ((a : Int) * 256) ||| BitVec.ofInt 64 (b : Int) : BitVec 64).toNat : Int) = a * 256 + b := by
    rw [show ((a : Int) * 256) = ((a * 256 : Nat) : Int) by omega, BitVec.ofInt_natCast, BitVec.ofInt_natCast, BitVec.toNat_or, BitVec.toNat_ofNat, BitVec.toNat_ofNat, Nat.mod_eq_of_lt (by omega), Nat.mod_eq_of_lt (by omega)]
    have := Nat.shiftLeft_add_eq_or_of_lt (i := 8) hb a
    rw [show a <<< 8 = a * 256 by simp [Nat.shiftLeft_eq]] at this
    rw [← this]; omega
  show IntKind.i64.wrap ((BitVec.ofInt 64 ((a : Int) * 256) ||| BitVec.ofInt 64 (b : Int) : BitVec 64).toNat : Int) = _
  rw [key, inR_wrap]
  simp only [inR]; omega
end Go.LX
