/-
  NARROWER THAN 'FOR EVERY INPUT', by the rows' own cells (each row's printed sentence says how): FnExactDocSame: laid · FnExactAuthorLeft: laid · FnExactSquash: laid · FnExactDocBytes: laid · FnExactAuthorsAt: laid · FnExactAuthors: laid · FnExactDocRead: laid.
  DERIVED. THE GIVEN ROWS OF THIS SEAT. 7 by the template 'for every input the law returns true; each argument reads behind the call as it read before'; 0 by the template 'total and deterministic' (their statements: YtkpohcfohnmejaaGreatDoorTotals.lean).
  GIVEN WITH THE SEED: the statements are not yours to turn. If you find one false, say at which input.
  Laid BY PROGRAM, IN A SANDBOX (cutbox-rows.mjs): the forced cells as the released guide's own fill.sh prints them over the translation 1e6cf5a4c6bedcfa… (all of the seat's roots in one cut). By AI agents, Wed Nov 11 2026. No macro, syntax, notation, axiom, sorry.
-/
import Derived.Test.YtkpohcfohnmejaaGreatDoorChecked
import GoSem.PinnedTables
import GoSem.Claim
import GoSem.ClaimJoined
import GoSem.ClaimMapViews
import Derived.JoinedTies
import Derived.KernelRfl
namespace Go.Proofs.YtkpohcfohnmejaaGreatDoor
/- THE CELL 'sum', in the pinned program and in every row, IS THE sha256 OF THE DUMP (.gsa) THAT YtkpohcfohnmejaaGreatDoorProg.lean LOADS. Nothing in Lean hashes anything: it is a label: what it is worth is what the hold of that sum in a sandbox is worth. -/
noncomputable def Tryz.pinned : Pinned := { name := "ytkpohcfohnmejaagreatdoor", sum := "1e6cf5a4c6bedcfaabbd784b84cc342d4ef331202d1647b158145290f0bcbc7d", checked := Tryz.checked }
namespace Rows
def none {H : Type} : Left H := { results := [], args := [] }

/- WHAT THE LISTED PACKAGE-LEVEL VARIABLES READ AS WHEN THE CALL BEGINS. Each datum BY PROGRAM (the guide's laid-datum.mjs) off the statement by which the dump's own 'gosem.cut.vars' lays the variable. In a bare row this is a premise. The card (YtkpohcfohnmejaaGreatDoorCards.lean) ties it to the program's text. -/
def laid_unicode_utf8_acceptRanges {H : Type} : DataW H := .agg [.agg [.lit (.int .u8 128), .lit (.int .u8 191)], .agg [.lit (.int .u8 160), .lit (.int .u8 191)], .agg [.lit (.int .u8 128), .lit (.int .u8 159)], .agg [.lit (.int .u8 144), .lit (.int .u8 191)], .agg [.lit (.int .u8 128), .lit (.int .u8 143)], .agg [.lit (.int .u8 0), .lit (.int .u8 0)], .agg [.lit (.int .u8 0), .lit (.int .u8 0)], .agg [.lit (.int .u8 0), .lit (.int .u8 0)], .agg [.lit (.int .u8 0), .lit (.int .u8 0)], .agg [.lit (.int .u8 0), .lit (.int .u8 0)], .agg [.lit (.int .u8 0), .lit (.int .u8 0)], .agg [.lit (.int .u8 0), .lit (.int .u8 0)], .agg [.lit (.int .u8 0), .lit (.int .u8 0)], .agg [.lit (.int .u8 0), .lit (.int .u8 0)], .agg [.lit (.int .u8 0), .lit (.int .u8 0)], .agg [.lit (.int .u8 0), .lit (.int .u8 0)]]
/-- One of Go's own tables, pinned by name: the form's constant. -/
def laid_unicode_utf8_first : DataW Unit := Go.Pinned.utf8First

/-- 'laws.FnExactDocSame': WHATEVER THE INPUT: true; the input reads as it did. -/
def fnExactDocSameSpec : ChangeSpec := { name := "fnExactDocSame", fn := fun _ => fun
  | [d1, d2] => { results := [.lit (.bool true)], args := [d1, d2] }
  | _ => none }
def fnExactDocSameRow : OpenClaim := { program := "ytkpohcfohnmejaagreatdoor", sum := "1e6cf5a4c6bedcfaabbd784b84cc342d4ef331202d1647b158145290f0bcbc7d", func := "loop.example/g00677/laws.FnExactDocSame", spec := "fnExactDocSame", unfollowed := true, recurses := true, named := ["unicode/utf8.first", "unicode/utf8.acceptRanges"], apart := false, laid := [("unicode/utf8.acceptRanges", laid_unicode_utf8_acceptRanges), ("unicode/utf8.first", laid_unicode_utf8_first)] }
def FnExactDocSameSaid : Prop := fnExactDocSameRow.holds Tryz.pinned (OpenSpec.ofChange fnExactDocSameSpec)

/-- ITS FALSE NEIGHBOUR: 'it returns false'. Refute it at one input. -/
def fnExactDocSameWrong : ChangeSpec := { name := "fnExactDocSame", fn := fun _ => fun
  | [d1, d2] => { results := [.lit (.bool false)], args := [d1, d2] }
  | _ => none }
def FnExactDocSameWrongFalsely : Prop := fnExactDocSameRow.holds Tryz.pinned (OpenSpec.ofChange fnExactDocSameWrong)

/-- 'laws.FnExactAuthorLeft': WHATEVER THE INPUT: true; the input reads as it did. -/
def fnExactAuthorLeftSpec : ChangeSpec := { name := "fnExactAuthorLeft", fn := fun _ => fun
  | [d1, d2] => { results := [.lit (.bool true)], args := [d1, d2] }
  | _ => none }
def fnExactAuthorLeftRow : OpenClaim := { program := "ytkpohcfohnmejaagreatdoor", sum := "1e6cf5a4c6bedcfaabbd784b84cc342d4ef331202d1647b158145290f0bcbc7d", func := "loop.example/g00677/laws.FnExactAuthorLeft", spec := "fnExactAuthorLeft", unfollowed := true, recurses := true, named := ["unicode/utf8.first", "unicode/utf8.acceptRanges"], apart := false, laid := [("unicode/utf8.acceptRanges", laid_unicode_utf8_acceptRanges), ("unicode/utf8.first", laid_unicode_utf8_first)] }
def FnExactAuthorLeftSaid : Prop := fnExactAuthorLeftRow.holds Tryz.pinned (OpenSpec.ofChange fnExactAuthorLeftSpec)

/-- ITS FALSE NEIGHBOUR: 'it returns false'. Refute it at one input. -/
def fnExactAuthorLeftWrong : ChangeSpec := { name := "fnExactAuthorLeft", fn := fun _ => fun
  | [d1, d2] => { results := [.lit (.bool false)], args := [d1, d2] }
  | _ => none }
def FnExactAuthorLeftWrongFalsely : Prop := fnExactAuthorLeftRow.holds Tryz.pinned (OpenSpec.ofChange fnExactAuthorLeftWrong)

/-- 'laws.FnExactSquash': WHATEVER THE INPUT: true; the input reads as it did. -/
def fnExactSquashSpec : ChangeSpec := { name := "fnExactSquash", fn := fun _ => fun
  | [d] => { results := [.lit (.bool true)], args := [d] }
  | _ => none }
def fnExactSquashRow : OpenClaim := { program := "ytkpohcfohnmejaagreatdoor", sum := "1e6cf5a4c6bedcfaabbd784b84cc342d4ef331202d1647b158145290f0bcbc7d", func := "loop.example/g00677/laws.FnExactSquash", spec := "fnExactSquash", unfollowed := true, recurses := true, named := ["unicode/utf8.first", "unicode/utf8.acceptRanges"], apart := false, laid := [("unicode/utf8.acceptRanges", laid_unicode_utf8_acceptRanges), ("unicode/utf8.first", laid_unicode_utf8_first)] }
def FnExactSquashSaid : Prop := fnExactSquashRow.holds Tryz.pinned (OpenSpec.ofChange fnExactSquashSpec)

/-- ITS FALSE NEIGHBOUR: 'it returns false'. Refute it at one input. -/
def fnExactSquashWrong : ChangeSpec := { name := "fnExactSquash", fn := fun _ => fun
  | [d] => { results := [.lit (.bool false)], args := [d] }
  | _ => none }
def FnExactSquashWrongFalsely : Prop := fnExactSquashRow.holds Tryz.pinned (OpenSpec.ofChange fnExactSquashWrong)

/-- 'laws.FnExactDocBytes': WHATEVER THE INPUT: true; the input reads as it did. -/
def fnExactDocBytesSpec : ChangeSpec := { name := "fnExactDocBytes", fn := fun _ => fun
  | [d] => { results := [.lit (.bool true)], args := [d] }
  | _ => none }
def fnExactDocBytesRow : OpenClaim := { program := "ytkpohcfohnmejaagreatdoor", sum := "1e6cf5a4c6bedcfaabbd784b84cc342d4ef331202d1647b158145290f0bcbc7d", func := "loop.example/g00677/laws.FnExactDocBytes", spec := "fnExactDocBytes", unfollowed := true, recurses := true, named := ["unicode/utf8.first", "unicode/utf8.acceptRanges"], apart := false, laid := [("unicode/utf8.acceptRanges", laid_unicode_utf8_acceptRanges), ("unicode/utf8.first", laid_unicode_utf8_first)] }
def FnExactDocBytesSaid : Prop := fnExactDocBytesRow.holds Tryz.pinned (OpenSpec.ofChange fnExactDocBytesSpec)

/-- ITS FALSE NEIGHBOUR: 'it returns false'. Refute it at one input. -/
def fnExactDocBytesWrong : ChangeSpec := { name := "fnExactDocBytes", fn := fun _ => fun
  | [d] => { results := [.lit (.bool false)], args := [d] }
  | _ => none }
def FnExactDocBytesWrongFalsely : Prop := fnExactDocBytesRow.holds Tryz.pinned (OpenSpec.ofChange fnExactDocBytesWrong)

/-- 'laws.FnExactAuthorsAt': WHATEVER THE INPUT: true; the input reads as it did. -/
def fnExactAuthorsAtSpec : ChangeSpec := { name := "fnExactAuthorsAt", fn := fun _ => fun
  | [d1, d2] => { results := [.lit (.bool true)], args := [d1, d2] }
  | _ => none }
def fnExactAuthorsAtRow : OpenClaim := { program := "ytkpohcfohnmejaagreatdoor", sum := "1e6cf5a4c6bedcfaabbd784b84cc342d4ef331202d1647b158145290f0bcbc7d", func := "loop.example/g00677/laws.FnExactAuthorsAt", spec := "fnExactAuthorsAt", unfollowed := true, recurses := true, named := ["unicode/utf8.first", "unicode/utf8.acceptRanges"], apart := false, laid := [("unicode/utf8.acceptRanges", laid_unicode_utf8_acceptRanges), ("unicode/utf8.first", laid_unicode_utf8_first)] }
def FnExactAuthorsAtSaid : Prop := fnExactAuthorsAtRow.holds Tryz.pinned (OpenSpec.ofChange fnExactAuthorsAtSpec)

/-- ITS FALSE NEIGHBOUR: 'it returns false'. Refute it at one input. -/
def fnExactAuthorsAtWrong : ChangeSpec := { name := "fnExactAuthorsAt", fn := fun _ => fun
  | [d1, d2] => { results := [.lit (.bool false)], args := [d1, d2] }
  | _ => none }
def FnExactAuthorsAtWrongFalsely : Prop := fnExactAuthorsAtRow.holds Tryz.pinned (OpenSpec.ofChange fnExactAuthorsAtWrong)

/-- 'laws.FnExactAuthors': WHATEVER THE INPUT: true; the input reads as it did. -/
def fnExactAuthorsSpec : ChangeSpec := { name := "fnExactAuthors", fn := fun _ => fun
  | [d] => { results := [.lit (.bool true)], args := [d] }
  | _ => none }
def fnExactAuthorsRow : OpenClaim := { program := "ytkpohcfohnmejaagreatdoor", sum := "1e6cf5a4c6bedcfaabbd784b84cc342d4ef331202d1647b158145290f0bcbc7d", func := "loop.example/g00677/laws.FnExactAuthors", spec := "fnExactAuthors", unfollowed := true, recurses := true, named := ["unicode/utf8.first", "unicode/utf8.acceptRanges"], apart := false, laid := [("unicode/utf8.acceptRanges", laid_unicode_utf8_acceptRanges), ("unicode/utf8.first", laid_unicode_utf8_first)] }
def FnExactAuthorsSaid : Prop := fnExactAuthorsRow.holds Tryz.pinned (OpenSpec.ofChange fnExactAuthorsSpec)

/-- ITS FALSE NEIGHBOUR: 'it returns false'. Refute it at one input. -/
def fnExactAuthorsWrong : ChangeSpec := { name := "fnExactAuthors", fn := fun _ => fun
  | [d] => { results := [.lit (.bool false)], args := [d] }
  | _ => none }
def FnExactAuthorsWrongFalsely : Prop := fnExactAuthorsRow.holds Tryz.pinned (OpenSpec.ofChange fnExactAuthorsWrong)

/-- 'laws.FnExactDocRead': WHATEVER THE INPUT: true; the input reads as it did. -/
def fnExactDocReadSpec : ChangeSpec := { name := "fnExactDocRead", fn := fun _ => fun
  | [d] => { results := [.lit (.bool true)], args := [d] }
  | _ => none }
def fnExactDocReadRow : OpenClaim := { program := "ytkpohcfohnmejaagreatdoor", sum := "1e6cf5a4c6bedcfaabbd784b84cc342d4ef331202d1647b158145290f0bcbc7d", func := "loop.example/g00677/laws.FnExactDocRead", spec := "fnExactDocRead", unfollowed := true, recurses := true, named := ["unicode/utf8.first", "unicode/utf8.acceptRanges"], apart := false, laid := [("unicode/utf8.acceptRanges", laid_unicode_utf8_acceptRanges), ("unicode/utf8.first", laid_unicode_utf8_first)] }
def FnExactDocReadSaid : Prop := fnExactDocReadRow.holds Tryz.pinned (OpenSpec.ofChange fnExactDocReadSpec)

/-- ITS FALSE NEIGHBOUR: 'it returns false'. Refute it at one input. -/
def fnExactDocReadWrong : ChangeSpec := { name := "fnExactDocRead", fn := fun _ => fun
  | [d] => { results := [.lit (.bool false)], args := [d] }
  | _ => none }
def FnExactDocReadWrongFalsely : Prop := fnExactDocReadRow.holds Tryz.pinned (OpenSpec.ofChange fnExactDocReadWrong)

/- THE SECOND FORM. 'bulk': how many values and letters a reading holds, each counted each time it is reached (what is shared counts as often as it is met; a slice's spare places count too). A statement '..UptoSaid' is the law's where the arguments, and the package variables that the reading takes, are together of bulk at most 1048576: NARROWER than '..Said'. Prove '..Said' where nothing that the law and all that it calls make is longer than what came in: it says more and counts as full. Else prove '..UptoSaid'. A law counts once. -/
mutual
def uptoBulk {H : Type} : DataW H → Nat
  | .lit (.string bytes) => bytes.length + 1
  | .lit _ => 1
  | .nil => 1
  | .ptr d => uptoBulk d + 1
  | .slice elems spare => uptoBulkAll elems + uptoBulkAll spare + 1
  | .agg parts => uptoBulkAll parts + 1
  | .iface _ d => uptoBulk d + 1
  | .map entries => uptoBulkEntries entries + 1
  | .held _ => 1
def uptoBulkAll {H : Type} : List (DataW H) → Nat
  | [] => 0
  | d :: r => uptoBulk d + uptoBulkAll r
def uptoBulkEntries {H : Type} : List (Lit × DataW H) → Nat
  | [] => 0
  | x :: r => uptoBulkEntry x + uptoBulkEntries r
def uptoBulkEntry {H : Type} : Lit × DataW H → Nat
  | (.string bytes, d) => bytes.length + uptoBulk d + 1
  | (_, d) => uptoBulk d + 1
 end
def uptoSmall : (H : Type) → List (DataW H) → Bool := fun _ ds => decide (uptoBulkAll ds ≤ 1048576)
def OpenSpec.upto (s : _root_.Go.ChangeSpec) : _root_.Go.OpenSpec := { _root_.Go.OpenSpec.ofChange s with cond := some uptoSmall }

/-- 'laws.FnExactDocSame', WHERE WHAT IT READS IS OF BULK AT MOST 1048576: true; the input reads as it did. -/
def fnExactDocSameUptoRow : OpenClaim := { program := "ytkpohcfohnmejaagreatdoor", sum := "1e6cf5a4c6bedcfaabbd784b84cc342d4ef331202d1647b158145290f0bcbc7d", func := "loop.example/g00677/laws.FnExactDocSame", spec := "fnExactDocSame", unfollowed := true, recurses := true, named := ["unicode/utf8.first", "unicode/utf8.acceptRanges"], apart := false, laid := [("unicode/utf8.acceptRanges", laid_unicode_utf8_acceptRanges), ("unicode/utf8.first", laid_unicode_utf8_first)], narrowed := true }
def FnExactDocSameUptoSaid : Prop := fnExactDocSameUptoRow.holds Tryz.pinned (OpenSpec.upto fnExactDocSameSpec)

/-- 'laws.FnExactAuthorLeft', WHERE WHAT IT READS IS OF BULK AT MOST 1048576: true; the input reads as it did. -/
def fnExactAuthorLeftUptoRow : OpenClaim := { program := "ytkpohcfohnmejaagreatdoor", sum := "1e6cf5a4c6bedcfaabbd784b84cc342d4ef331202d1647b158145290f0bcbc7d", func := "loop.example/g00677/laws.FnExactAuthorLeft", spec := "fnExactAuthorLeft", unfollowed := true, recurses := true, named := ["unicode/utf8.first", "unicode/utf8.acceptRanges"], apart := false, laid := [("unicode/utf8.acceptRanges", laid_unicode_utf8_acceptRanges), ("unicode/utf8.first", laid_unicode_utf8_first)], narrowed := true }
def FnExactAuthorLeftUptoSaid : Prop := fnExactAuthorLeftUptoRow.holds Tryz.pinned (OpenSpec.upto fnExactAuthorLeftSpec)

/-- 'laws.FnExactSquash', WHERE WHAT IT READS IS OF BULK AT MOST 1048576: true; the input reads as it did. -/
def fnExactSquashUptoRow : OpenClaim := { program := "ytkpohcfohnmejaagreatdoor", sum := "1e6cf5a4c6bedcfaabbd784b84cc342d4ef331202d1647b158145290f0bcbc7d", func := "loop.example/g00677/laws.FnExactSquash", spec := "fnExactSquash", unfollowed := true, recurses := true, named := ["unicode/utf8.first", "unicode/utf8.acceptRanges"], apart := false, laid := [("unicode/utf8.acceptRanges", laid_unicode_utf8_acceptRanges), ("unicode/utf8.first", laid_unicode_utf8_first)], narrowed := true }
def FnExactSquashUptoSaid : Prop := fnExactSquashUptoRow.holds Tryz.pinned (OpenSpec.upto fnExactSquashSpec)

/-- 'laws.FnExactDocBytes', WHERE WHAT IT READS IS OF BULK AT MOST 1048576: true; the input reads as it did. -/
def fnExactDocBytesUptoRow : OpenClaim := { program := "ytkpohcfohnmejaagreatdoor", sum := "1e6cf5a4c6bedcfaabbd784b84cc342d4ef331202d1647b158145290f0bcbc7d", func := "loop.example/g00677/laws.FnExactDocBytes", spec := "fnExactDocBytes", unfollowed := true, recurses := true, named := ["unicode/utf8.first", "unicode/utf8.acceptRanges"], apart := false, laid := [("unicode/utf8.acceptRanges", laid_unicode_utf8_acceptRanges), ("unicode/utf8.first", laid_unicode_utf8_first)], narrowed := true }
def FnExactDocBytesUptoSaid : Prop := fnExactDocBytesUptoRow.holds Tryz.pinned (OpenSpec.upto fnExactDocBytesSpec)

/-- 'laws.FnExactAuthorsAt', WHERE WHAT IT READS IS OF BULK AT MOST 1048576: true; the input reads as it did. -/
def fnExactAuthorsAtUptoRow : OpenClaim := { program := "ytkpohcfohnmejaagreatdoor", sum := "1e6cf5a4c6bedcfaabbd784b84cc342d4ef331202d1647b158145290f0bcbc7d", func := "loop.example/g00677/laws.FnExactAuthorsAt", spec := "fnExactAuthorsAt", unfollowed := true, recurses := true, named := ["unicode/utf8.first", "unicode/utf8.acceptRanges"], apart := false, laid := [("unicode/utf8.acceptRanges", laid_unicode_utf8_acceptRanges), ("unicode/utf8.first", laid_unicode_utf8_first)], narrowed := true }
def FnExactAuthorsAtUptoSaid : Prop := fnExactAuthorsAtUptoRow.holds Tryz.pinned (OpenSpec.upto fnExactAuthorsAtSpec)

/-- 'laws.FnExactAuthors', WHERE WHAT IT READS IS OF BULK AT MOST 1048576: true; the input reads as it did. -/
def fnExactAuthorsUptoRow : OpenClaim := { program := "ytkpohcfohnmejaagreatdoor", sum := "1e6cf5a4c6bedcfaabbd784b84cc342d4ef331202d1647b158145290f0bcbc7d", func := "loop.example/g00677/laws.FnExactAuthors", spec := "fnExactAuthors", unfollowed := true, recurses := true, named := ["unicode/utf8.first", "unicode/utf8.acceptRanges"], apart := false, laid := [("unicode/utf8.acceptRanges", laid_unicode_utf8_acceptRanges), ("unicode/utf8.first", laid_unicode_utf8_first)], narrowed := true }
def FnExactAuthorsUptoSaid : Prop := fnExactAuthorsUptoRow.holds Tryz.pinned (OpenSpec.upto fnExactAuthorsSpec)

/-- 'laws.FnExactDocRead', WHERE WHAT IT READS IS OF BULK AT MOST 1048576: true; the input reads as it did. -/
def fnExactDocReadUptoRow : OpenClaim := { program := "ytkpohcfohnmejaagreatdoor", sum := "1e6cf5a4c6bedcfaabbd784b84cc342d4ef331202d1647b158145290f0bcbc7d", func := "loop.example/g00677/laws.FnExactDocRead", spec := "fnExactDocRead", unfollowed := true, recurses := true, named := ["unicode/utf8.first", "unicode/utf8.acceptRanges"], apart := false, laid := [("unicode/utf8.acceptRanges", laid_unicode_utf8_acceptRanges), ("unicode/utf8.first", laid_unicode_utf8_first)], narrowed := true }
def FnExactDocReadUptoSaid : Prop := fnExactDocReadUptoRow.holds Tryz.pinned (OpenSpec.upto fnExactDocReadSpec)

end Rows
end Go.Proofs.YtkpohcfohnmejaaGreatDoor
