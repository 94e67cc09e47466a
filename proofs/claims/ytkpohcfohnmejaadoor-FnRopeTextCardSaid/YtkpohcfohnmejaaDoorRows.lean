/-
  NARROWER THAN 'FOR EVERY INPUT', by the rows' own cells (each row's printed sentence says how): FnExactRopeEdit: laid · FnExactRopeSplit: laid · FnRopeSplit: laid · FnRopeText: laid · FnExactWitness: laid.
  DERIVED. THE GIVEN ROWS OF THIS SEAT. 5 by the template 'for every input the law returns true; each argument reads behind the call as it read before'; 0 by the template 'total and deterministic' (their statements: YtkpohcfohnmejaaDoorTotals.lean).
  GIVEN WITH THE SEED: the statements are not yours to turn. If you find one false, say at which input.
  Laid BY PROGRAM, IN A SANDBOX (cutbox-rows.mjs): the forced cells as the released guide's own fill.sh prints them over the translation d8c76c0cd98a2c77… (all of the seat's roots in one cut). By AI agents, Wed Nov 11 2026. No macro, syntax, notation, axiom, sorry.
-/
import Derived.Test.YtkpohcfohnmejaaDoorChecked
import GoSem.PinnedTables
import GoSem.Claim
import GoSem.ClaimJoined
import GoSem.ClaimMapViews
import Derived.JoinedTies
import Derived.KernelRfl
namespace Go.Proofs.YtkpohcfohnmejaaDoor
/- THE CELL 'sum', in the pinned program and in every row, IS THE sha256 OF THE DUMP (.gsa) THAT YtkpohcfohnmejaaDoorProg.lean LOADS. Nothing in Lean hashes anything: it is a label: what it is worth is what the hold of that sum in a sandbox is worth. -/
noncomputable def Tryd.pinned : Pinned := { name := "ytkpohcfohnmejaadoor", sum := "d8c76c0cd98a2c778ac94fd3e65def79c45859e2f42544a2b76fb283fb60a065", checked := Tryd.checked }
namespace Rows
def none {H : Type} : Left H := { results := [], args := [] }

/- WHAT THE LISTED PACKAGE-LEVEL VARIABLES READ AS WHEN THE CALL BEGINS. Each datum BY PROGRAM (the guide's laid-datum.mjs) off the statement by which the dump's own 'gosem.cut.vars' lays the variable. In a bare row this is a premise. The card (YtkpohcfohnmejaaDoorCards.lean) ties it to the program's text. -/
def laid_unicode_utf8_acceptRanges {H : Type} : DataW H := .agg [.agg [.lit (.int .u8 128), .lit (.int .u8 191)], .agg [.lit (.int .u8 160), .lit (.int .u8 191)], .agg [.lit (.int .u8 128), .lit (.int .u8 159)], .agg [.lit (.int .u8 144), .lit (.int .u8 191)], .agg [.lit (.int .u8 128), .lit (.int .u8 143)], .agg [.lit (.int .u8 0), .lit (.int .u8 0)], .agg [.lit (.int .u8 0), .lit (.int .u8 0)], .agg [.lit (.int .u8 0), .lit (.int .u8 0)], .agg [.lit (.int .u8 0), .lit (.int .u8 0)], .agg [.lit (.int .u8 0), .lit (.int .u8 0)], .agg [.lit (.int .u8 0), .lit (.int .u8 0)], .agg [.lit (.int .u8 0), .lit (.int .u8 0)], .agg [.lit (.int .u8 0), .lit (.int .u8 0)], .agg [.lit (.int .u8 0), .lit (.int .u8 0)], .agg [.lit (.int .u8 0), .lit (.int .u8 0)], .agg [.lit (.int .u8 0), .lit (.int .u8 0)]]
/-- One of Go's own tables, pinned by name: the form's constant. -/
def laid_unicode_utf8_first : DataW Unit := Go.Pinned.utf8First

/-- 'laws.FnExactRopeEdit': WHATEVER THE INPUT: true; the input reads as it did. -/
def fnExactRopeEditSpec : ChangeSpec := { name := "fnExactRopeEdit", fn := fun _ => fun
  | [d1, d2, d3, d4] => { results := [.lit (.bool true)], args := [d1, d2, d3, d4] }
  | _ => none }
def fnExactRopeEditRow : OpenClaim := { program := "ytkpohcfohnmejaadoor", sum := "d8c76c0cd98a2c778ac94fd3e65def79c45859e2f42544a2b76fb283fb60a065", func := "loop.example/g00677/laws.FnExactRopeEdit", spec := "fnExactRopeEdit", named := ["unicode/utf8.first", "unicode/utf8.acceptRanges"], apart := false, laid := [("unicode/utf8.acceptRanges", laid_unicode_utf8_acceptRanges), ("unicode/utf8.first", laid_unicode_utf8_first)] }
def FnExactRopeEditSaid : Prop := fnExactRopeEditRow.holds Tryd.pinned (OpenSpec.ofChange fnExactRopeEditSpec)

/-- ITS FALSE NEIGHBOUR: 'it returns false'. Refute it at one input. -/
def fnExactRopeEditWrong : ChangeSpec := { name := "fnExactRopeEdit", fn := fun _ => fun
  | [d1, d2, d3, d4] => { results := [.lit (.bool false)], args := [d1, d2, d3, d4] }
  | _ => none }
def FnExactRopeEditWrongFalsely : Prop := fnExactRopeEditRow.holds Tryd.pinned (OpenSpec.ofChange fnExactRopeEditWrong)

/-- 'laws.FnExactRopeSplit': WHATEVER THE INPUT: true; the input reads as it did. -/
def fnExactRopeSplitSpec : ChangeSpec := { name := "fnExactRopeSplit", fn := fun _ => fun
  | [d1, d2] => { results := [.lit (.bool true)], args := [d1, d2] }
  | _ => none }
def fnExactRopeSplitRow : OpenClaim := { program := "ytkpohcfohnmejaadoor", sum := "d8c76c0cd98a2c778ac94fd3e65def79c45859e2f42544a2b76fb283fb60a065", func := "loop.example/g00677/laws.FnExactRopeSplit", spec := "fnExactRopeSplit", named := ["unicode/utf8.first", "unicode/utf8.acceptRanges"], apart := false, laid := [("unicode/utf8.acceptRanges", laid_unicode_utf8_acceptRanges), ("unicode/utf8.first", laid_unicode_utf8_first)] }
def FnExactRopeSplitSaid : Prop := fnExactRopeSplitRow.holds Tryd.pinned (OpenSpec.ofChange fnExactRopeSplitSpec)

/-- ITS FALSE NEIGHBOUR: 'it returns false'. Refute it at one input. -/
def fnExactRopeSplitWrong : ChangeSpec := { name := "fnExactRopeSplit", fn := fun _ => fun
  | [d1, d2] => { results := [.lit (.bool false)], args := [d1, d2] }
  | _ => none }
def FnExactRopeSplitWrongFalsely : Prop := fnExactRopeSplitRow.holds Tryd.pinned (OpenSpec.ofChange fnExactRopeSplitWrong)

/-- 'laws.FnRopeSplit': WHATEVER THE INPUT: true; the input reads as it did. -/
def fnRopeSplitSpec : ChangeSpec := { name := "fnRopeSplit", fn := fun _ => fun
  | [d] => { results := [.lit (.bool true)], args := [d] }
  | _ => none }
def fnRopeSplitRow : OpenClaim := { program := "ytkpohcfohnmejaadoor", sum := "d8c76c0cd98a2c778ac94fd3e65def79c45859e2f42544a2b76fb283fb60a065", func := "loop.example/g00677/laws.FnRopeSplit", spec := "fnRopeSplit", inPlace := ["internal/bytealg.Count", "internal/bytealg.IndexByte", "internal/bytealg.Index"], named := ["unicode/utf8.first", "unicode/utf8.acceptRanges", "internal/bytealg.MaxLen"], apart := false, laid := [("unicode/utf8.acceptRanges", laid_unicode_utf8_acceptRanges), ("unicode/utf8.first", laid_unicode_utf8_first)] }
def FnRopeSplitSaid : Prop := fnRopeSplitRow.holds Tryd.pinned (OpenSpec.ofChange fnRopeSplitSpec)

/-- ITS FALSE NEIGHBOUR: 'it returns false'. Refute it at one input. -/
def fnRopeSplitWrong : ChangeSpec := { name := "fnRopeSplit", fn := fun _ => fun
  | [d] => { results := [.lit (.bool false)], args := [d] }
  | _ => none }
def FnRopeSplitWrongFalsely : Prop := fnRopeSplitRow.holds Tryd.pinned (OpenSpec.ofChange fnRopeSplitWrong)

/-- 'laws.FnRopeText': WHATEVER THE INPUT: true; the input reads as it did. -/
def fnRopeTextSpec : ChangeSpec := { name := "fnRopeText", fn := fun _ => fun
  | [d] => { results := [.lit (.bool true)], args := [d] }
  | _ => none }
def fnRopeTextRow : OpenClaim := { program := "ytkpohcfohnmejaadoor", sum := "d8c76c0cd98a2c778ac94fd3e65def79c45859e2f42544a2b76fb283fb60a065", func := "loop.example/g00677/laws.FnRopeText", spec := "fnRopeText", inPlace := ["internal/bytealg.Count", "internal/bytealg.IndexByte", "internal/bytealg.Index"], named := ["unicode/utf8.first", "unicode/utf8.acceptRanges", "internal/bytealg.MaxLen"], apart := false, laid := [("unicode/utf8.acceptRanges", laid_unicode_utf8_acceptRanges), ("unicode/utf8.first", laid_unicode_utf8_first)] }
def FnRopeTextSaid : Prop := fnRopeTextRow.holds Tryd.pinned (OpenSpec.ofChange fnRopeTextSpec)

/-- ITS FALSE NEIGHBOUR: 'it returns false'. Refute it at one input. -/
def fnRopeTextWrong : ChangeSpec := { name := "fnRopeText", fn := fun _ => fun
  | [d] => { results := [.lit (.bool false)], args := [d] }
  | _ => none }
def FnRopeTextWrongFalsely : Prop := fnRopeTextRow.holds Tryd.pinned (OpenSpec.ofChange fnRopeTextWrong)

/-- 'laws.FnExactWitness': WHATEVER THE INPUT: true; the input reads as it did. -/
def fnExactWitnessSpec : ChangeSpec := { name := "fnExactWitness", fn := fun _ => fun
  | [d1, d2] => { results := [.lit (.bool true)], args := [d1, d2] }
  | _ => none }
def fnExactWitnessRow : OpenClaim := { program := "ytkpohcfohnmejaadoor", sum := "d8c76c0cd98a2c778ac94fd3e65def79c45859e2f42544a2b76fb283fb60a065", func := "loop.example/g00677/laws.FnExactWitness", spec := "fnExactWitness", unfollowed := true, recurses := true, named := ["unicode/utf8.first", "unicode/utf8.acceptRanges"], apart := false, laid := [("unicode/utf8.acceptRanges", laid_unicode_utf8_acceptRanges), ("unicode/utf8.first", laid_unicode_utf8_first)] }
def FnExactWitnessSaid : Prop := fnExactWitnessRow.holds Tryd.pinned (OpenSpec.ofChange fnExactWitnessSpec)

/-- ITS FALSE NEIGHBOUR: 'it returns false'. Refute it at one input. -/
def fnExactWitnessWrong : ChangeSpec := { name := "fnExactWitness", fn := fun _ => fun
  | [d1, d2] => { results := [.lit (.bool false)], args := [d1, d2] }
  | _ => none }
def FnExactWitnessWrongFalsely : Prop := fnExactWitnessRow.holds Tryd.pinned (OpenSpec.ofChange fnExactWitnessWrong)

/- THE SECOND FORM. 'bulk': how many values and letters a reading holds, each counted each time it is reached (what is shared counts as often as it is met; a slice's spare places count too). A statement '..UptoSaid' is the law's where the arguments, and the package variables that the reading takes, are together of bulk at most 1048576: NARROWER than '..Said'. Prove '..Said' where nothing that the law and all that it calls make is longer than what came in: it says more and counts as full. Else prove '..UptoSaid'. A law counts once. -/
mutual
def uptoBulk {H : Type} : DataW H → Nat
  | .lit (.string bytes) => bytes.length + 1
  | .lit _ => 1
  | .nil => 1
  | .ptr d => uptoBulk d + 1
  | .slice elems spare => uptoBulkAll elems + uptoBulkAll spare + 1
  | .agg parts => uptoBulkAll parts + 1
  | .iface _ d => uptoBulk d + 1
  | .map entries => uptoBulkEntries entries + 1
  | .held _ => 1
def uptoBulkAll {H : Type} : List (DataW H) → Nat
  | [] => 0
  | d :: r => uptoBulk d + uptoBulkAll r
def uptoBulkEntries {H : Type} : List (Lit × DataW H) → Nat
  | [] => 0
  | x :: r => uptoBulkEntry x + uptoBulkEntries r
def uptoBulkEntry {H : Type} : Lit × DataW H → Nat
  | (.string bytes, d) => bytes.length + uptoBulk d + 1
  | (_, d) => uptoBulk d + 1
 end
def uptoSmall : (H : Type) → List (DataW H) → Bool := fun _ ds => decide (uptoBulkAll ds ≤ 1048576)
def OpenSpec.upto (s : _root_.Go.ChangeSpec) : _root_.Go.OpenSpec := { _root_.Go.OpenSpec.ofChange s with cond := some uptoSmall }

/-- 'laws.FnExactRopeEdit', WHERE WHAT IT READS IS OF BULK AT MOST 1048576: true; the input reads as it did. -/
def fnExactRopeEditUptoRow : OpenClaim := { program := "ytkpohcfohnmejaadoor", sum := "d8c76c0cd98a2c778ac94fd3e65def79c45859e2f42544a2b76fb283fb60a065", func := "loop.example/g00677/laws.FnExactRopeEdit", spec := "fnExactRopeEdit", named := ["unicode/utf8.first", "unicode/utf8.acceptRanges"], apart := false, laid := [("unicode/utf8.acceptRanges", laid_unicode_utf8_acceptRanges), ("unicode/utf8.first", laid_unicode_utf8_first)], narrowed := true }
def FnExactRopeEditUptoSaid : Prop := fnExactRopeEditUptoRow.holds Tryd.pinned (OpenSpec.upto fnExactRopeEditSpec)

/-- 'laws.FnExactRopeSplit', WHERE WHAT IT READS IS OF BULK AT MOST 1048576: true; the input reads as it did. -/
def fnExactRopeSplitUptoRow : OpenClaim := { program := "ytkpohcfohnmejaadoor", sum := "d8c76c0cd98a2c778ac94fd3e65def79c45859e2f42544a2b76fb283fb60a065", func := "loop.example/g00677/laws.FnExactRopeSplit", spec := "fnExactRopeSplit", named := ["unicode/utf8.first", "unicode/utf8.acceptRanges"], apart := false, laid := [("unicode/utf8.acceptRanges", laid_unicode_utf8_acceptRanges), ("unicode/utf8.first", laid_unicode_utf8_first)], narrowed := true }
def FnExactRopeSplitUptoSaid : Prop := fnExactRopeSplitUptoRow.holds Tryd.pinned (OpenSpec.upto fnExactRopeSplitSpec)

/-- 'laws.FnRopeSplit', WHERE WHAT IT READS IS OF BULK AT MOST 1048576: true; the input reads as it did. -/
def fnRopeSplitUptoRow : OpenClaim := { program := "ytkpohcfohnmejaadoor", sum := "d8c76c0cd98a2c778ac94fd3e65def79c45859e2f42544a2b76fb283fb60a065", func := "loop.example/g00677/laws.FnRopeSplit", spec := "fnRopeSplit", inPlace := ["internal/bytealg.Count", "internal/bytealg.IndexByte", "internal/bytealg.Index"], named := ["unicode/utf8.first", "unicode/utf8.acceptRanges", "internal/bytealg.MaxLen"], apart := false, laid := [("unicode/utf8.acceptRanges", laid_unicode_utf8_acceptRanges), ("unicode/utf8.first", laid_unicode_utf8_first)], narrowed := true }
def FnRopeSplitUptoSaid : Prop := fnRopeSplitUptoRow.holds Tryd.pinned (OpenSpec.upto fnRopeSplitSpec)

/-- 'laws.FnRopeText', WHERE WHAT IT READS IS OF BULK AT MOST 1048576: true; the input reads as it did. -/
def fnRopeTextUptoRow : OpenClaim := { program := "ytkpohcfohnmejaadoor", sum := "d8c76c0cd98a2c778ac94fd3e65def79c45859e2f42544a2b76fb283fb60a065", func := "loop.example/g00677/laws.FnRopeText", spec := "fnRopeText", inPlace := ["internal/bytealg.Count", "internal/bytealg.IndexByte", "internal/bytealg.Index"], named := ["unicode/utf8.first", "unicode/utf8.acceptRanges", "internal/bytealg.MaxLen"], apart := false, laid := [("unicode/utf8.acceptRanges", laid_unicode_utf8_acceptRanges), ("unicode/utf8.first", laid_unicode_utf8_first)], narrowed := true }
def FnRopeTextUptoSaid : Prop := fnRopeTextUptoRow.holds Tryd.pinned (OpenSpec.upto fnRopeTextSpec)

/-- 'laws.FnExactWitness', WHERE WHAT IT READS IS OF BULK AT MOST 1048576: true; the input reads as it did. -/
def fnExactWitnessUptoRow : OpenClaim := { program := "ytkpohcfohnmejaadoor", sum := "d8c76c0cd98a2c778ac94fd3e65def79c45859e2f42544a2b76fb283fb60a065", func := "loop.example/g00677/laws.FnExactWitness", spec := "fnExactWitness", unfollowed := true, recurses := true, named := ["unicode/utf8.first", "unicode/utf8.acceptRanges"], apart := false, laid := [("unicode/utf8.acceptRanges", laid_unicode_utf8_acceptRanges), ("unicode/utf8.first", laid_unicode_utf8_first)], narrowed := true }
def FnExactWitnessUptoSaid : Prop := fnExactWitnessUptoRow.holds Tryd.pinned (OpenSpec.upto fnExactWitnessSpec)

end Rows
end Go.Proofs.YtkpohcfohnmejaaDoor
