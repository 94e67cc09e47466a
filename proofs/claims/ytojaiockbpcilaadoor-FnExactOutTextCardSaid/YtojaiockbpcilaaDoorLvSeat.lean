/- A part of the proof of the statement in the row text. -/
import Derived.Test.YtojaiockbpcilaaDoorLxCv
import Derived.Lib.ItoaNum
import Derived.Test.YtojaiockbpcilaaDoorProg
set_option linter.unusedVariables false
set_option linter.unusedSimpArgs false
namespace Go.LX
/-- The table of the powers of ten. -/
instance : Glob := ⟨fun n => match n with
  | 2 => some ⟨.i .u64, Lib.pow10Tab⟩
  | _ => none, fun n => Nat.beq n 2⟩
abbrev aI (n : Int) : SA := .c (.d (.i .i64) n)
abbrev aB (b : Bool) : SA := .c (.d .bo b)
abbrev aBy (xs : List UInt8) : SA := .c (.d (.sl .u8) xs)
abbrev aS (s : List UInt8) : SA := .c (.d .st s)
abbrev aX : SA := .c .any
abbrev sI (n : Int) : S0 := .d (.i .i64) n
abbrev sB (b : Bool) : S0 := .d .bo b
abbrev sBy (xs : List UInt8) : S0 := .d (.sl .u8) xs
abbrev sS (s : List UInt8) : S0 := .d .st s
end Go.LX
