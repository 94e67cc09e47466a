/-
  DERIVED. GIVEN WITH THE SEED: THE CARDS: each row of YtkpohcfohnmejaaGreatDoorRows.lean that lists a variable, with what it lists TIED to the program's text (the seventh form; the later family's looks); each row that meets fmt, with fmt's text TOLD by the authors' own Lean function (tested against real Go, not proved from fmt's source: count such statements apart). THE CARD IS WHAT COUNTS. Prove the row's statement (the work); the ties are given (YtkpohcfohnmejaaGreatDoorTie.lean); close each card by the builder's one call (the guide's Derived/Test/ToyasCard.lean, 'card_holds'). Laid BY PROGRAM, IN A SANDBOX (cutbox-door.mjs). By AI agents, Wed Nov 11 2026. No macro, syntax, notation, axiom, sorry.
-/
import Derived.Test.YtkpohcfohnmejaaGreatDoorRows
import GoSem.ClaimSeven
namespace Go.Proofs.YtkpohcfohnmejaaGreatDoor
namespace Rows

/-- THE TIED CARD OF 'laws.FnExactDocSame'. -/
def fnExactDocSameCard : Claim7 := { stood := { row := fnExactDocSameRow, standIns := [], harness := (true, "872e5bb4cb6ba1e917fb437f51ba42ebf40813fe9f2c5234aee785ea02e1b715"), looks := false }, kinds := [], alts := [], laidByText := true, laidKinds := [.data, .pinned], laidTests := true, laidLooks := .later }
def FnExactDocSameCardSaid : Prop := Claim7.holds Tryz.pinned (.plain (OpenSpec.ofChange fnExactDocSameSpec)) fnExactDocSameCard

/-- THE TIED CARD OF 'laws.FnExactAuthorLeft'. -/
def fnExactAuthorLeftCard : Claim7 := { stood := { row := fnExactAuthorLeftRow, standIns := [], harness := (true, "872e5bb4cb6ba1e917fb437f51ba42ebf40813fe9f2c5234aee785ea02e1b715"), looks := false }, kinds := [], alts := [], laidByText := true, laidKinds := [.data, .pinned], laidTests := true, laidLooks := .later }
def FnExactAuthorLeftCardSaid : Prop := Claim7.holds Tryz.pinned (.plain (OpenSpec.ofChange fnExactAuthorLeftSpec)) fnExactAuthorLeftCard

/-- THE TIED CARD OF 'laws.FnExactSquash'. -/
def fnExactSquashCard : Claim7 := { stood := { row := fnExactSquashRow, standIns := [], harness := (true, "872e5bb4cb6ba1e917fb437f51ba42ebf40813fe9f2c5234aee785ea02e1b715"), looks := false }, kinds := [], alts := [], laidByText := true, laidKinds := [.data, .pinned], laidTests := true, laidLooks := .later }
def FnExactSquashCardSaid : Prop := Claim7.holds Tryz.pinned (.plain (OpenSpec.ofChange fnExactSquashSpec)) fnExactSquashCard

/-- THE TIED CARD OF 'laws.FnExactDocBytes'. -/
def fnExactDocBytesCard : Claim7 := { stood := { row := fnExactDocBytesRow, standIns := [], harness := (true, "872e5bb4cb6ba1e917fb437f51ba42ebf40813fe9f2c5234aee785ea02e1b715"), looks := false }, kinds := [], alts := [], laidByText := true, laidKinds := [.data, .pinned], laidTests := true, laidLooks := .later }
def FnExactDocBytesCardSaid : Prop := Claim7.holds Tryz.pinned (.plain (OpenSpec.ofChange fnExactDocBytesSpec)) fnExactDocBytesCard

/-- THE TIED CARD OF 'laws.FnExactAuthorsAt'. -/
def fnExactAuthorsAtCard : Claim7 := { stood := { row := fnExactAuthorsAtRow, standIns := [], harness := (true, "872e5bb4cb6ba1e917fb437f51ba42ebf40813fe9f2c5234aee785ea02e1b715"), looks := false }, kinds := [], alts := [], laidByText := true, laidKinds := [.data, .pinned], laidTests := true, laidLooks := .later }
def FnExactAuthorsAtCardSaid : Prop := Claim7.holds Tryz.pinned (.plain (OpenSpec.ofChange fnExactAuthorsAtSpec)) fnExactAuthorsAtCard

/-- THE TIED CARD OF 'laws.FnExactAuthors'. -/
def fnExactAuthorsCard : Claim7 := { stood := { row := fnExactAuthorsRow, standIns := [], harness := (true, "872e5bb4cb6ba1e917fb437f51ba42ebf40813fe9f2c5234aee785ea02e1b715"), looks := false }, kinds := [], alts := [], laidByText := true, laidKinds := [.data, .pinned], laidTests := true, laidLooks := .later }
def FnExactAuthorsCardSaid : Prop := Claim7.holds Tryz.pinned (.plain (OpenSpec.ofChange fnExactAuthorsSpec)) fnExactAuthorsCard

/-- THE TIED CARD OF 'laws.FnExactDocRead'. -/
def fnExactDocReadCard : Claim7 := { stood := { row := fnExactDocReadRow, standIns := [], harness := (true, "872e5bb4cb6ba1e917fb437f51ba42ebf40813fe9f2c5234aee785ea02e1b715"), looks := false }, kinds := [], alts := [], laidByText := true, laidKinds := [.data, .pinned], laidTests := true, laidLooks := .later }
def FnExactDocReadCardSaid : Prop := Claim7.holds Tryz.pinned (.plain (OpenSpec.ofChange fnExactDocReadSpec)) fnExactDocReadCard

/-- THE SECOND FORM's CARD OF 'laws.FnExactDocSame'. -/
def fnExactDocSameUptoCard : Claim7 := { stood := { row := fnExactDocSameUptoRow, standIns := [], harness := (true, "872e5bb4cb6ba1e917fb437f51ba42ebf40813fe9f2c5234aee785ea02e1b715"), looks := false }, kinds := [], alts := [], laidByText := true, laidKinds := [.data, .pinned], laidTests := true, laidLooks := .later }
def FnExactDocSameUptoCardSaid : Prop := Claim7.holds Tryz.pinned (.plain (OpenSpec.upto fnExactDocSameSpec)) fnExactDocSameUptoCard

/-- THE SECOND FORM's CARD OF 'laws.FnExactAuthorLeft'. -/
def fnExactAuthorLeftUptoCard : Claim7 := { stood := { row := fnExactAuthorLeftUptoRow, standIns := [], harness := (true, "872e5bb4cb6ba1e917fb437f51ba42ebf40813fe9f2c5234aee785ea02e1b715"), looks := false }, kinds := [], alts := [], laidByText := true, laidKinds := [.data, .pinned], laidTests := true, laidLooks := .later }
def FnExactAuthorLeftUptoCardSaid : Prop := Claim7.holds Tryz.pinned (.plain (OpenSpec.upto fnExactAuthorLeftSpec)) fnExactAuthorLeftUptoCard

/-- THE SECOND FORM's CARD OF 'laws.FnExactSquash'. -/
def fnExactSquashUptoCard : Claim7 := { stood := { row := fnExactSquashUptoRow, standIns := [], harness := (true, "872e5bb4cb6ba1e917fb437f51ba42ebf40813fe9f2c5234aee785ea02e1b715"), looks := false }, kinds := [], alts := [], laidByText := true, laidKinds := [.data, .pinned], laidTests := true, laidLooks := .later }
def FnExactSquashUptoCardSaid : Prop := Claim7.holds Tryz.pinned (.plain (OpenSpec.upto fnExactSquashSpec)) fnExactSquashUptoCard

/-- THE SECOND FORM's CARD OF 'laws.FnExactDocBytes'. -/
def fnExactDocBytesUptoCard : Claim7 := { stood := { row := fnExactDocBytesUptoRow, standIns := [], harness := (true, "872e5bb4cb6ba1e917fb437f51ba42ebf40813fe9f2c5234aee785ea02e1b715"), looks := false }, kinds := [], alts := [], laidByText := true, laidKinds := [.data, .pinned], laidTests := true, laidLooks := .later }
def FnExactDocBytesUptoCardSaid : Prop := Claim7.holds Tryz.pinned (.plain (OpenSpec.upto fnExactDocBytesSpec)) fnExactDocBytesUptoCard

/-- THE SECOND FORM's CARD OF 'laws.FnExactAuthorsAt'. -/
def fnExactAuthorsAtUptoCard : Claim7 := { stood := { row := fnExactAuthorsAtUptoRow, standIns := [], harness := (true, "872e5bb4cb6ba1e917fb437f51ba42ebf40813fe9f2c5234aee785ea02e1b715"), looks := false }, kinds := [], alts := [], laidByText := true, laidKinds := [.data, .pinned], laidTests := true, laidLooks := .later }
def FnExactAuthorsAtUptoCardSaid : Prop := Claim7.holds Tryz.pinned (.plain (OpenSpec.upto fnExactAuthorsAtSpec)) fnExactAuthorsAtUptoCard

/-- THE SECOND FORM's CARD OF 'laws.FnExactAuthors'. -/
def fnExactAuthorsUptoCard : Claim7 := { stood := { row := fnExactAuthorsUptoRow, standIns := [], harness := (true, "872e5bb4cb6ba1e917fb437f51ba42ebf40813fe9f2c5234aee785ea02e1b715"), looks := false }, kinds := [], alts := [], laidByText := true, laidKinds := [.data, .pinned], laidTests := true, laidLooks := .later }
def FnExactAuthorsUptoCardSaid : Prop := Claim7.holds Tryz.pinned (.plain (OpenSpec.upto fnExactAuthorsSpec)) fnExactAuthorsUptoCard

/-- THE SECOND FORM's CARD OF 'laws.FnExactDocRead'. -/
def fnExactDocReadUptoCard : Claim7 := { stood := { row := fnExactDocReadUptoRow, standIns := [], harness := (true, "872e5bb4cb6ba1e917fb437f51ba42ebf40813fe9f2c5234aee785ea02e1b715"), looks := false }, kinds := [], alts := [], laidByText := true, laidKinds := [.data, .pinned], laidTests := true, laidLooks := .later }
def FnExactDocReadUptoCardSaid : Prop := Claim7.holds Tryz.pinned (.plain (OpenSpec.upto fnExactDocReadSpec)) fnExactDocReadUptoCard
end Rows
end Go.Proofs.YtkpohcfohnmejaaGreatDoor
