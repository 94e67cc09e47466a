/-
  No cell of these rows narrows 'for every input' (looked for: loops, veiled, ifaces, maps, wideKeys, modest, calm, conditions, laid).
  DERIVED. THE GIVEN ROWS OF THIS SEAT. 6 by the template 'for every input the law returns true; each argument reads behind the call as it read before'; 0 by the template 'total and deterministic' (their statements: YtbebnlhgnbnjoaaTotals.lean).
  GIVEN WITH THE SEED: the statements are not yours to turn. If you find one false, say at which input.
  Laid BY PROGRAM, IN A SANDBOX (cutbox-rows.mjs): the forced cells as the released guide's own fill.sh prints them over the translation c65b142ad62704c6… (all of the seat's roots in one cut). By AI agents, Wed Nov 11 2026. No macro, syntax, notation, axiom, sorry.
-/
import Derived.Test.YtbebnlhgnbnjoaaChecked
import GoSem.Claim
import GoSem.ClaimJoined
import GoSem.ClaimMapViews
import Derived.JoinedTies
import Derived.KernelRfl
namespace Go.Proofs.Ytbebnlhgnbnjoaa
/- THE CELL 'sum', in the pinned program and in every row, IS THE sha256 OF THE DUMP (.gsa) THAT YtbebnlhgnbnjoaaProg.lean LOADS. Nothing in Lean hashes anything: it is a label: what it is worth is what the hold of that sum in a sandbox is worth. -/
noncomputable def Try.pinned : Pinned := { name := "ytbebnlhgnbnjoaa", sum := "c65b142ad62704c6ca717974245f5d5f6e334ef6c5fb6ede89d7781a9525a798", checked := Try.checked }
namespace Rows
def none {H : Type} : Left H := { results := [], args := [] }

/-- 'laws.FnExactAuthorRuns': WHATEVER THE INPUT: true; the input reads as it did. -/
def fnExactAuthorRunsSpec : ChangeSpec := { name := "fnExactAuthorRuns", fn := fun _ => fun
  | [d] => { results := [.lit (.bool true)], args := [d] }
  | _ => none }
def fnExactAuthorRunsRow : OpenClaim := { program := "ytbebnlhgnbnjoaa", sum := "c65b142ad62704c6ca717974245f5d5f6e334ef6c5fb6ede89d7781a9525a798", func := "loop.example/g00677/laws.FnExactAuthorRuns", spec := "fnExactAuthorRuns", apart := false }
def FnExactAuthorRunsSaid : Prop := fnExactAuthorRunsRow.holds Try.pinned (OpenSpec.ofChange fnExactAuthorRunsSpec)

/-- ITS FALSE NEIGHBOUR: 'it returns false'. Refute it at one input. -/
def fnExactAuthorRunsWrong : ChangeSpec := { name := "fnExactAuthorRuns", fn := fun _ => fun
  | [d] => { results := [.lit (.bool false)], args := [d] }
  | _ => none }
def FnExactAuthorRunsWrongFalsely : Prop := fnExactAuthorRunsRow.holds Try.pinned (OpenSpec.ofChange fnExactAuthorRunsWrong)

/-- 'laws.FnExactEditBytes': WHATEVER THE INPUT: true; the input reads as it did. -/
def fnExactEditBytesSpec : ChangeSpec := { name := "fnExactEditBytes", fn := fun _ => fun
  | [d] => { results := [.lit (.bool true)], args := [d] }
  | _ => none }
def fnExactEditBytesRow : OpenClaim := { program := "ytbebnlhgnbnjoaa", sum := "c65b142ad62704c6ca717974245f5d5f6e334ef6c5fb6ede89d7781a9525a798", func := "loop.example/g00677/laws.FnExactEditBytes", spec := "fnExactEditBytes", apart := false }
def FnExactEditBytesSaid : Prop := fnExactEditBytesRow.holds Try.pinned (OpenSpec.ofChange fnExactEditBytesSpec)

/-- ITS FALSE NEIGHBOUR: 'it returns false'. Refute it at one input. -/
def fnExactEditBytesWrong : ChangeSpec := { name := "fnExactEditBytes", fn := fun _ => fun
  | [d] => { results := [.lit (.bool false)], args := [d] }
  | _ => none }
def FnExactEditBytesWrongFalsely : Prop := fnExactEditBytesRow.holds Try.pinned (OpenSpec.ofChange fnExactEditBytesWrong)

/-- 'laws.FnExactEditRead': WHATEVER THE INPUT: true; the input reads as it did. -/
def fnExactEditReadSpec : ChangeSpec := { name := "fnExactEditRead", fn := fun _ => fun
  | [d1, d2] => { results := [.lit (.bool true)], args := [d1, d2] }
  | _ => none }
def fnExactEditReadRow : OpenClaim := { program := "ytbebnlhgnbnjoaa", sum := "c65b142ad62704c6ca717974245f5d5f6e334ef6c5fb6ede89d7781a9525a798", func := "loop.example/g00677/laws.FnExactEditRead", spec := "fnExactEditRead", apart := false }
def FnExactEditReadSaid : Prop := fnExactEditReadRow.holds Try.pinned (OpenSpec.ofChange fnExactEditReadSpec)

/-- ITS FALSE NEIGHBOUR: 'it returns false'. Refute it at one input. -/
def fnExactEditReadWrong : ChangeSpec := { name := "fnExactEditRead", fn := fun _ => fun
  | [d1, d2] => { results := [.lit (.bool false)], args := [d1, d2] }
  | _ => none }
def FnExactEditReadWrongFalsely : Prop := fnExactEditReadRow.holds Try.pinned (OpenSpec.ofChange fnExactEditReadWrong)

/-- 'laws.FnExactAuthorsOf': WHATEVER THE INPUT: true; the input reads as it did. -/
def fnExactAuthorsOfSpec : ChangeSpec := { name := "fnExactAuthorsOf", fn := fun _ => fun
  | [d] => { results := [.lit (.bool true)], args := [d] }
  | _ => none }
def fnExactAuthorsOfRow : OpenClaim := { program := "ytbebnlhgnbnjoaa", sum := "c65b142ad62704c6ca717974245f5d5f6e334ef6c5fb6ede89d7781a9525a798", func := "loop.example/g00677/laws.FnExactAuthorsOf", spec := "fnExactAuthorsOf", apart := false }
def FnExactAuthorsOfSaid : Prop := fnExactAuthorsOfRow.holds Try.pinned (OpenSpec.ofChange fnExactAuthorsOfSpec)

/-- ITS FALSE NEIGHBOUR: 'it returns false'. Refute it at one input. -/
def fnExactAuthorsOfWrong : ChangeSpec := { name := "fnExactAuthorsOf", fn := fun _ => fun
  | [d] => { results := [.lit (.bool false)], args := [d] }
  | _ => none }
def FnExactAuthorsOfWrongFalsely : Prop := fnExactAuthorsOfRow.holds Try.pinned (OpenSpec.ofChange fnExactAuthorsOfWrong)

/-- 'laws.FnExactStackRead': WHATEVER THE INPUT: true; the input reads as it did. -/
def fnExactStackReadSpec : ChangeSpec := { name := "fnExactStackRead", fn := fun _ => fun
  | [d1, d2] => { results := [.lit (.bool true)], args := [d1, d2] }
  | _ => none }
def fnExactStackReadRow : OpenClaim := { program := "ytbebnlhgnbnjoaa", sum := "c65b142ad62704c6ca717974245f5d5f6e334ef6c5fb6ede89d7781a9525a798", func := "loop.example/g00677/laws.FnExactStackRead", spec := "fnExactStackRead", unfollowed := true, recurses := true, apart := false }
def FnExactStackReadSaid : Prop := fnExactStackReadRow.holds Try.pinned (OpenSpec.ofChange fnExactStackReadSpec)

/-- ITS FALSE NEIGHBOUR: 'it returns false'. Refute it at one input. -/
def fnExactStackReadWrong : ChangeSpec := { name := "fnExactStackRead", fn := fun _ => fun
  | [d1, d2] => { results := [.lit (.bool false)], args := [d1, d2] }
  | _ => none }
def FnExactStackReadWrongFalsely : Prop := fnExactStackReadRow.holds Try.pinned (OpenSpec.ofChange fnExactStackReadWrong)

/-- 'laws.FnExactStackBytes': WHATEVER THE INPUT: true; the input reads as it did. -/
def fnExactStackBytesSpec : ChangeSpec := { name := "fnExactStackBytes", fn := fun _ => fun
  | [d] => { results := [.lit (.bool true)], args := [d] }
  | _ => none }
def fnExactStackBytesRow : OpenClaim := { program := "ytbebnlhgnbnjoaa", sum := "c65b142ad62704c6ca717974245f5d5f6e334ef6c5fb6ede89d7781a9525a798", func := "loop.example/g00677/laws.FnExactStackBytes", spec := "fnExactStackBytes", unfollowed := true, recurses := true, apart := false }
def FnExactStackBytesSaid : Prop := fnExactStackBytesRow.holds Try.pinned (OpenSpec.ofChange fnExactStackBytesSpec)

/-- ITS FALSE NEIGHBOUR: 'it returns false'. Refute it at one input. -/
def fnExactStackBytesWrong : ChangeSpec := { name := "fnExactStackBytes", fn := fun _ => fun
  | [d] => { results := [.lit (.bool false)], args := [d] }
  | _ => none }
def FnExactStackBytesWrongFalsely : Prop := fnExactStackBytesRow.holds Try.pinned (OpenSpec.ofChange fnExactStackBytesWrong)

/- THE SECOND FORM. 'bulk': how many values and letters a reading holds, each counted each time it is reached (what is shared counts as often as it is met; a slice's spare places count too). A statement '..UptoSaid' is the law's where the arguments, and the package variables that the reading takes, are together of bulk at most 1048576: NARROWER than '..Said'. Prove '..Said' where nothing that the law and all that it calls make is longer than what came in: it says more and counts as full. Else prove '..UptoSaid'. A law counts once. -/
mutual
def uptoBulk {H : Type} : DataW H → Nat
  | .lit (.string bytes) => bytes.length + 1
  | .lit _ => 1
  | .nil => 1
  | .ptr d => uptoBulk d + 1
  | .slice elems spare => uptoBulkAll elems + uptoBulkAll spare + 1
  | .agg parts => uptoBulkAll parts + 1
  | .iface _ d => uptoBulk d + 1
  | .map entries => uptoBulkEntries entries + 1
  | .held _ => 1
def uptoBulkAll {H : Type} : List (DataW H) → Nat
  | [] => 0
  | d :: r => uptoBulk d + uptoBulkAll r
def uptoBulkEntries {H : Type} : List (Lit × DataW H) → Nat
  | [] => 0
  | x :: r => uptoBulkEntry x + uptoBulkEntries r
def uptoBulkEntry {H : Type} : Lit × DataW H → Nat
  | (.string bytes, d) => bytes.length + uptoBulk d + 1
  | (_, d) => uptoBulk d + 1
 end
def uptoSmall : (H : Type) → List (DataW H) → Bool := fun _ ds => decide (uptoBulkAll ds ≤ 1048576)
def OpenSpec.upto (s : _root_.Go.ChangeSpec) : _root_.Go.OpenSpec := { _root_.Go.OpenSpec.ofChange s with cond := some uptoSmall }

/-- 'laws.FnExactAuthorRuns', WHERE WHAT IT READS IS OF BULK AT MOST 1048576: true; the input reads as it did. -/
def fnExactAuthorRunsUptoRow : OpenClaim := { program := "ytbebnlhgnbnjoaa", sum := "c65b142ad62704c6ca717974245f5d5f6e334ef6c5fb6ede89d7781a9525a798", func := "loop.example/g00677/laws.FnExactAuthorRuns", spec := "fnExactAuthorRuns", apart := false, narrowed := true }
def FnExactAuthorRunsUptoSaid : Prop := fnExactAuthorRunsUptoRow.holds Try.pinned (OpenSpec.upto fnExactAuthorRunsSpec)

/-- 'laws.FnExactEditBytes', WHERE WHAT IT READS IS OF BULK AT MOST 1048576: true; the input reads as it did. -/
def fnExactEditBytesUptoRow : OpenClaim := { program := "ytbebnlhgnbnjoaa", sum := "c65b142ad62704c6ca717974245f5d5f6e334ef6c5fb6ede89d7781a9525a798", func := "loop.example/g00677/laws.FnExactEditBytes", spec := "fnExactEditBytes", apart := false, narrowed := true }
def FnExactEditBytesUptoSaid : Prop := fnExactEditBytesUptoRow.holds Try.pinned (OpenSpec.upto fnExactEditBytesSpec)

/-- 'laws.FnExactEditRead', WHERE WHAT IT READS IS OF BULK AT MOST 1048576: true; the input reads as it did. -/
def fnExactEditReadUptoRow : OpenClaim := { program := "ytbebnlhgnbnjoaa", sum := "c65b142ad62704c6ca717974245f5d5f6e334ef6c5fb6ede89d7781a9525a798", func := "loop.example/g00677/laws.FnExactEditRead", spec := "fnExactEditRead", apart := false, narrowed := true }
def FnExactEditReadUptoSaid : Prop := fnExactEditReadUptoRow.holds Try.pinned (OpenSpec.upto fnExactEditReadSpec)

/-- 'laws.FnExactAuthorsOf', WHERE WHAT IT READS IS OF BULK AT MOST 1048576: true; the input reads as it did. -/
def fnExactAuthorsOfUptoRow : OpenClaim := { program := "ytbebnlhgnbnjoaa", sum := "c65b142ad62704c6ca717974245f5d5f6e334ef6c5fb6ede89d7781a9525a798", func := "loop.example/g00677/laws.FnExactAuthorsOf", spec := "fnExactAuthorsOf", apart := false, narrowed := true }
def FnExactAuthorsOfUptoSaid : Prop := fnExactAuthorsOfUptoRow.holds Try.pinned (OpenSpec.upto fnExactAuthorsOfSpec)

/-- 'laws.FnExactStackRead', WHERE WHAT IT READS IS OF BULK AT MOST 1048576: true; the input reads as it did. -/
def fnExactStackReadUptoRow : OpenClaim := { program := "ytbebnlhgnbnjoaa", sum := "c65b142ad62704c6ca717974245f5d5f6e334ef6c5fb6ede89d7781a9525a798", func := "loop.example/g00677/laws.FnExactStackRead", spec := "fnExactStackRead", unfollowed := true, recurses := true, apart := false, narrowed := true }
def FnExactStackReadUptoSaid : Prop := fnExactStackReadUptoRow.holds Try.pinned (OpenSpec.upto fnExactStackReadSpec)

/-- 'laws.FnExactStackBytes', WHERE WHAT IT READS IS OF BULK AT MOST 1048576: true; the input reads as it did. -/
def fnExactStackBytesUptoRow : OpenClaim := { program := "ytbebnlhgnbnjoaa", sum := "c65b142ad62704c6ca717974245f5d5f6e334ef6c5fb6ede89d7781a9525a798", func := "loop.example/g00677/laws.FnExactStackBytes", spec := "fnExactStackBytes", unfollowed := true, recurses := true, apart := false, narrowed := true }
def FnExactStackBytesUptoSaid : Prop := fnExactStackBytesUptoRow.holds Try.pinned (OpenSpec.upto fnExactStackBytesSpec)

end Rows
end Go.Proofs.Ytbebnlhgnbnjoaa
