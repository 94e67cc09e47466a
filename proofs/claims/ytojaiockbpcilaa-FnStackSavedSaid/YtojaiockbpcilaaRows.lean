/-
  No cell of these rows narrows 'for every input' (looked for: loops, veiled, ifaces, maps, wideKeys, modest, calm, conditions, laid).
  DERIVED. THE GIVEN ROWS OF THIS SEAT. 5 by the template 'for every input the law returns true; each argument reads behind the call as it read before'; 0 by the template 'total and deterministic' (their statements: YtojaiockbpcilaaTotals.lean).
  GIVEN WITH THE SEED: the statements are not yours to turn. If you find one false, say at which input.
  Laid BY PROGRAM, IN A SANDBOX (cutbox-rows.mjs): the forced cells as the released guide's own fill.sh prints them over the translation c3717a9f4fc85ac0… (all of the seat's roots in one cut). By AI agents, Wed Nov 11 2026. No macro, syntax, notation, axiom, sorry.
-/
import Derived.Test.YtojaiockbpcilaaChecked
import GoSem.Claim
import GoSem.ClaimJoined
import GoSem.ClaimMapViews
import Derived.JoinedTies
import Derived.KernelRfl
namespace Go.Proofs.Ytojaiockbpcilaa
/- THE CELL 'sum', in the pinned program and in every row, IS THE sha256 OF THE DUMP (.gsa) THAT YtojaiockbpcilaaProg.lean LOADS. Nothing in Lean hashes anything: it is a label: what it is worth is what the hold of that sum in a sandbox is worth. -/
noncomputable def Try.pinned : Pinned := { name := "ytojaiockbpcilaa", sum := "c3717a9f4fc85ac076a5ff2fa52cbc3985c065b1d00eb5b85a3dfa06888dd447", checked := Try.checked }
namespace Rows
def none {H : Type} : Left H := { results := [], args := [] }

/-- 'laws.FnStack': WHATEVER THE INPUT: true; the input reads as it did. -/
def fnStackSpec : ChangeSpec := { name := "fnStack", fn := fun _ => fun
  | [d] => { results := [.lit (.bool true)], args := [d] }
  | _ => none }
def fnStackRow : OpenClaim := { program := "ytojaiockbpcilaa", sum := "c3717a9f4fc85ac076a5ff2fa52cbc3985c065b1d00eb5b85a3dfa06888dd447", func := "loop.example/g00677/laws.FnStack", spec := "fnStack", unfollowed := true, recurses := true, apart := false }
def FnStackSaid : Prop := fnStackRow.holds Try.pinned (OpenSpec.ofChange fnStackSpec)

/-- ITS FALSE NEIGHBOUR: 'it returns false'. Refute it at one input. -/
def fnStackWrong : ChangeSpec := { name := "fnStack", fn := fun _ => fun
  | [d] => { results := [.lit (.bool false)], args := [d] }
  | _ => none }
def FnStackWrongFalsely : Prop := fnStackRow.holds Try.pinned (OpenSpec.ofChange fnStackWrong)

/-- 'laws.FnPosBack': WHATEVER THE INPUT: true; the input reads as it did. -/
def fnPosBackSpec : ChangeSpec := { name := "fnPosBack", fn := fun _ => fun
  | [d] => { results := [.lit (.bool true)], args := [d] }
  | _ => none }
def fnPosBackRow : OpenClaim := { program := "ytojaiockbpcilaa", sum := "c3717a9f4fc85ac076a5ff2fa52cbc3985c065b1d00eb5b85a3dfa06888dd447", func := "loop.example/g00677/laws.FnPosBack", spec := "fnPosBack", apart := false }
def FnPosBackSaid : Prop := fnPosBackRow.holds Try.pinned (OpenSpec.ofChange fnPosBackSpec)

/-- ITS FALSE NEIGHBOUR: 'it returns false'. Refute it at one input. -/
def fnPosBackWrong : ChangeSpec := { name := "fnPosBack", fn := fun _ => fun
  | [d] => { results := [.lit (.bool false)], args := [d] }
  | _ => none }
def FnPosBackWrongFalsely : Prop := fnPosBackRow.holds Try.pinned (OpenSpec.ofChange fnPosBackWrong)

/-- 'laws.FnApart': WHATEVER THE INPUT: true; the input reads as it did. -/
def fnApartSpec : ChangeSpec := { name := "fnApart", fn := fun _ => fun
  | [d] => { results := [.lit (.bool true)], args := [d] }
  | _ => none }
def fnApartRow : OpenClaim := { program := "ytojaiockbpcilaa", sum := "c3717a9f4fc85ac076a5ff2fa52cbc3985c065b1d00eb5b85a3dfa06888dd447", func := "loop.example/g00677/laws.FnApart", spec := "fnApart", apart := false }
def FnApartSaid : Prop := fnApartRow.holds Try.pinned (OpenSpec.ofChange fnApartSpec)

/-- ITS FALSE NEIGHBOUR: 'it returns false'. Refute it at one input. -/
def fnApartWrong : ChangeSpec := { name := "fnApart", fn := fun _ => fun
  | [d] => { results := [.lit (.bool false)], args := [d] }
  | _ => none }
def FnApartWrongFalsely : Prop := fnApartRow.holds Try.pinned (OpenSpec.ofChange fnApartWrong)

/-- 'laws.FnStackSaved': WHATEVER THE INPUT: true; the input reads as it did. -/
def fnStackSavedSpec : ChangeSpec := { name := "fnStackSaved", fn := fun _ => fun
  | [d] => { results := [.lit (.bool true)], args := [d] }
  | _ => none }
def fnStackSavedRow : OpenClaim := { program := "ytojaiockbpcilaa", sum := "c3717a9f4fc85ac076a5ff2fa52cbc3985c065b1d00eb5b85a3dfa06888dd447", func := "loop.example/g00677/laws.FnStackSaved", spec := "fnStackSaved", unfollowed := true, recurses := true, apart := false }
def FnStackSavedSaid : Prop := fnStackSavedRow.holds Try.pinned (OpenSpec.ofChange fnStackSavedSpec)

/-- ITS FALSE NEIGHBOUR: 'it returns false'. Refute it at one input. -/
def fnStackSavedWrong : ChangeSpec := { name := "fnStackSaved", fn := fun _ => fun
  | [d] => { results := [.lit (.bool false)], args := [d] }
  | _ => none }
def FnStackSavedWrongFalsely : Prop := fnStackSavedRow.holds Try.pinned (OpenSpec.ofChange fnStackSavedWrong)

/-- 'laws.FnStackMoved': WHATEVER THE INPUT: true; the input reads as it did. -/
def fnStackMovedSpec : ChangeSpec := { name := "fnStackMoved", fn := fun _ => fun
  | [d] => { results := [.lit (.bool true)], args := [d] }
  | _ => none }
def fnStackMovedRow : OpenClaim := { program := "ytojaiockbpcilaa", sum := "c3717a9f4fc85ac076a5ff2fa52cbc3985c065b1d00eb5b85a3dfa06888dd447", func := "loop.example/g00677/laws.FnStackMoved", spec := "fnStackMoved", unfollowed := true, recurses := true, apart := false }
def FnStackMovedSaid : Prop := fnStackMovedRow.holds Try.pinned (OpenSpec.ofChange fnStackMovedSpec)

/-- ITS FALSE NEIGHBOUR: 'it returns false'. Refute it at one input. -/
def fnStackMovedWrong : ChangeSpec := { name := "fnStackMoved", fn := fun _ => fun
  | [d] => { results := [.lit (.bool false)], args := [d] }
  | _ => none }
def FnStackMovedWrongFalsely : Prop := fnStackMovedRow.holds Try.pinned (OpenSpec.ofChange fnStackMovedWrong)

/- THE SECOND FORM. 'bulk': how many values and letters a reading holds, each counted each time it is reached (what is shared counts as often as it is met; a slice's spare places count too). A statement '..UptoSaid' is the law's where the arguments, and the package variables that the reading takes, are together of bulk at most 1048576: NARROWER than '..Said'. Prove '..Said' where nothing that the law and all that it calls make is longer than what came in: it says more and counts as full. Else prove '..UptoSaid'. A law counts once. -/
mutual
def uptoBulk {H : Type} : DataW H → Nat
  | .lit (.string bytes) => bytes.length + 1
  | .lit _ => 1
  | .nil => 1
  | .ptr d => uptoBulk d + 1
  | .slice elems spare => uptoBulkAll elems + uptoBulkAll spare + 1
  | .agg parts => uptoBulkAll parts + 1
  | .iface _ d => uptoBulk d + 1
  | .map entries => uptoBulkEntries entries + 1
  | .held _ => 1
def uptoBulkAll {H : Type} : List (DataW H) → Nat
  | [] => 0
  | d :: r => uptoBulk d + uptoBulkAll r
def uptoBulkEntries {H : Type} : List (Lit × DataW H) → Nat
  | [] => 0
  | x :: r => uptoBulkEntry x + uptoBulkEntries r
def uptoBulkEntry {H : Type} : Lit × DataW H → Nat
  | (.string bytes, d) => bytes.length + uptoBulk d + 1
  | (_, d) => uptoBulk d + 1
 end
def uptoSmall : (H : Type) → List (DataW H) → Bool := fun _ ds => decide (uptoBulkAll ds ≤ 1048576)
def OpenSpec.upto (s : _root_.Go.ChangeSpec) : _root_.Go.OpenSpec := { _root_.Go.OpenSpec.ofChange s with cond := some uptoSmall }

/-- 'laws.FnStack', WHERE WHAT IT READS IS OF BULK AT MOST 1048576: true; the input reads as it did. -/
def fnStackUptoRow : OpenClaim := { program := "ytojaiockbpcilaa", sum := "c3717a9f4fc85ac076a5ff2fa52cbc3985c065b1d00eb5b85a3dfa06888dd447", func := "loop.example/g00677/laws.FnStack", spec := "fnStack", unfollowed := true, recurses := true, apart := false, narrowed := true }
def FnStackUptoSaid : Prop := fnStackUptoRow.holds Try.pinned (OpenSpec.upto fnStackSpec)

/-- 'laws.FnPosBack', WHERE WHAT IT READS IS OF BULK AT MOST 1048576: true; the input reads as it did. -/
def fnPosBackUptoRow : OpenClaim := { program := "ytojaiockbpcilaa", sum := "c3717a9f4fc85ac076a5ff2fa52cbc3985c065b1d00eb5b85a3dfa06888dd447", func := "loop.example/g00677/laws.FnPosBack", spec := "fnPosBack", apart := false, narrowed := true }
def FnPosBackUptoSaid : Prop := fnPosBackUptoRow.holds Try.pinned (OpenSpec.upto fnPosBackSpec)

/-- 'laws.FnApart', WHERE WHAT IT READS IS OF BULK AT MOST 1048576: true; the input reads as it did. -/
def fnApartUptoRow : OpenClaim := { program := "ytojaiockbpcilaa", sum := "c3717a9f4fc85ac076a5ff2fa52cbc3985c065b1d00eb5b85a3dfa06888dd447", func := "loop.example/g00677/laws.FnApart", spec := "fnApart", apart := false, narrowed := true }
def FnApartUptoSaid : Prop := fnApartUptoRow.holds Try.pinned (OpenSpec.upto fnApartSpec)

/-- 'laws.FnStackSaved', WHERE WHAT IT READS IS OF BULK AT MOST 1048576: true; the input reads as it did. -/
def fnStackSavedUptoRow : OpenClaim := { program := "ytojaiockbpcilaa", sum := "c3717a9f4fc85ac076a5ff2fa52cbc3985c065b1d00eb5b85a3dfa06888dd447", func := "loop.example/g00677/laws.FnStackSaved", spec := "fnStackSaved", unfollowed := true, recurses := true, apart := false, narrowed := true }
def FnStackSavedUptoSaid : Prop := fnStackSavedUptoRow.holds Try.pinned (OpenSpec.upto fnStackSavedSpec)

/-- 'laws.FnStackMoved', WHERE WHAT IT READS IS OF BULK AT MOST 1048576: true; the input reads as it did. -/
def fnStackMovedUptoRow : OpenClaim := { program := "ytojaiockbpcilaa", sum := "c3717a9f4fc85ac076a5ff2fa52cbc3985c065b1d00eb5b85a3dfa06888dd447", func := "loop.example/g00677/laws.FnStackMoved", spec := "fnStackMoved", unfollowed := true, recurses := true, apart := false, narrowed := true }
def FnStackMovedUptoSaid : Prop := fnStackMovedUptoRow.holds Try.pinned (OpenSpec.upto fnStackMovedSpec)

end Rows
end Go.Proofs.Ytojaiockbpcilaa
