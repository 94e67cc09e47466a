import Derived.Test.YtbebnlhgnbnjoaaAxNil
import Derived.Test.YtbebnlhgnbnjoaaProg
set_option linter.unusedVariables false
set_option linter.unusedSimpArgs false
namespace Go.AX
abbrev dI (n : Int) : D := .v (.int .i64 n)
abbrev rB (b : Bool) : SV := .one (.d (.v (.bool b)))
abbrev rI (n : Int) : SV := .one (.d (.v (.int .i64 n)))
abbrev rBy (xs : List Int) : SV := .one (.ow 5 1 0 (bD xs))
/-- A struct Edit: at, cut, put. -/
abbrev aEd (a b : Int) (p : List Int) : Bool × List D := (true, [dI a, dI b, .sl (bD p)])
end Go.AX
