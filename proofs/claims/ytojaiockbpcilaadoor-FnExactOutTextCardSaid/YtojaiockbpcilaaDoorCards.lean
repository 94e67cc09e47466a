/-
  DERIVED. GIVEN WITH THE SEED: THE CARDS: each row of YtojaiockbpcilaaDoorRows.lean that lists a variable, with what it lists TIED to the program's text (the seventh form; the later family's looks); each row that meets fmt, with fmt's text TOLD by the authors' own Lean function (tested against real Go, not proved from fmt's source: count such statements apart). THE CARD IS WHAT COUNTS. Prove the row's statement (the work); the ties are given (YtojaiockbpcilaaDoorTie.lean); close each card by the builder's one call (the guide's Derived/Test/ToyasCard.lean, 'card_holds'). Laid BY PROGRAM, IN A SANDBOX (cutbox-door.mjs). By AI agents, Wed Nov 11 2026. No macro, syntax, notation, axiom, sorry.
-/
import Derived.Test.YtojaiockbpcilaaDoorRows
import GoSem.ClaimSeven
namespace Go.Proofs.YtojaiockbpcilaaDoor
namespace Rows

/-- THE TIED CARD OF 'laws.FnEditJoin'. -/
def fnEditJoinCard : Claim7 := { stood := { row := fnEditJoinRow, standIns := [], harness := (true, "e4ec091f3a888460a3fa8d83f42e8708b3bd8e9c812e86672aacac684f793817"), looks := false }, kinds := [], alts := [], laidByText := true, laidKinds := [.data, .pinned], laidTests := true, laidLooks := .later }
def FnEditJoinCardSaid : Prop := Claim7.holds Tryd.pinned (.plain (OpenSpec.ofChange fnEditJoinSpec)) fnEditJoinCard

/-- THE TIED CARD OF 'laws.FnEditBack'. -/
def fnEditBackCard : Claim7 := { stood := { row := fnEditBackRow, standIns := [], harness := (true, "e4ec091f3a888460a3fa8d83f42e8708b3bd8e9c812e86672aacac684f793817"), looks := false }, kinds := [], alts := [], laidByText := true, laidKinds := [.data, .pinned], laidTests := true, laidLooks := .later }
def FnEditBackCardSaid : Prop := Claim7.holds Tryd.pinned (.plain (OpenSpec.ofChange fnEditBackSpec)) fnEditBackCard

/-- THE TIED CARD OF 'laws.FnSels'. -/
def fnSelsCard : Claim7 := { stood := { row := fnSelsRow, standIns := [], harness := (true, "e4ec091f3a888460a3fa8d83f42e8708b3bd8e9c812e86672aacac684f793817"), looks := false }, kinds := [], alts := [], laidByText := true, laidKinds := [.data, .pinned], laidTests := true, laidLooks := .later }
def FnSelsCardSaid : Prop := Claim7.holds Tryd.pinned (.plain (OpenSpec.ofChange fnSelsSpec)) fnSelsCard

/-- THE TIED CARD OF 'laws.FnEditsDo'. -/
def fnEditsDoCard : Claim7 := { stood := { row := fnEditsDoRow, standIns := [], harness := (true, "e4ec091f3a888460a3fa8d83f42e8708b3bd8e9c812e86672aacac684f793817"), looks := false }, kinds := [], alts := [], laidByText := true, laidKinds := [.data, .pinned], laidTests := true, laidLooks := .later }
def FnEditsDoCardSaid : Prop := Claim7.holds Tryd.pinned (.plain (OpenSpec.ofChange fnEditsDoSpec)) fnEditsDoCard

/-- THE TIED CARD OF 'laws.FnMoved'. -/
def fnMovedCard : Claim7 := { stood := { row := fnMovedRow, standIns := [], harness := (true, "e4ec091f3a888460a3fa8d83f42e8708b3bd8e9c812e86672aacac684f793817"), looks := false }, kinds := [], alts := [], laidByText := true, laidKinds := [.data, .pinned], laidTests := true, laidLooks := .later }
def FnMovedCardSaid : Prop := Claim7.holds Tryd.pinned (.plain (OpenSpec.ofChange fnMovedSpec)) fnMovedCard

/-- THE TIED CARD OF 'laws.FnEditOf'. -/
def fnEditOfCard : Claim7 := { stood := { row := fnEditOfRow, standIns := [], harness := (true, "e4ec091f3a888460a3fa8d83f42e8708b3bd8e9c812e86672aacac684f793817"), looks := false }, kinds := [], alts := [], laidByText := true, laidKinds := [.data, .pinned], laidTests := true, laidLooks := .later }
def FnEditOfCardSaid : Prop := Claim7.holds Tryd.pinned (.plain (OpenSpec.ofChange fnEditOfSpec)) fnEditOfCard

/-- THE TIED CARD OF 'laws.FnExactOutText'. -/
def fnExactOutTextCard : Claim7 := { stood := { row := fnExactOutTextRow, standIns := [], harness := (true, "e4ec091f3a888460a3fa8d83f42e8708b3bd8e9c812e86672aacac684f793817"), looks := false }, kinds := [], alts := [], laidByText := true, laidKinds := [.data, .data, .data], laidTests := true, laidLooks := .later }
def FnExactOutTextCardSaid : Prop := Claim7.holds Tryd.pinned (.plain (OpenSpec.ofChange fnExactOutTextSpec)) fnExactOutTextCard

/-- THE SECOND FORM's CARD OF 'laws.FnEditJoin'. -/
def fnEditJoinUptoCard : Claim7 := { stood := { row := fnEditJoinUptoRow, standIns := [], harness := (true, "e4ec091f3a888460a3fa8d83f42e8708b3bd8e9c812e86672aacac684f793817"), looks := false }, kinds := [], alts := [], laidByText := true, laidKinds := [.data, .pinned], laidTests := true, laidLooks := .later }
def FnEditJoinUptoCardSaid : Prop := Claim7.holds Tryd.pinned (.plain (OpenSpec.upto fnEditJoinSpec)) fnEditJoinUptoCard

/-- THE SECOND FORM's CARD OF 'laws.FnEditBack'. -/
def fnEditBackUptoCard : Claim7 := { stood := { row := fnEditBackUptoRow, standIns := [], harness := (true, "e4ec091f3a888460a3fa8d83f42e8708b3bd8e9c812e86672aacac684f793817"), looks := false }, kinds := [], alts := [], laidByText := true, laidKinds := [.data, .pinned], laidTests := true, laidLooks := .later }
def FnEditBackUptoCardSaid : Prop := Claim7.holds Tryd.pinned (.plain (OpenSpec.upto fnEditBackSpec)) fnEditBackUptoCard

/-- THE SECOND FORM's CARD OF 'laws.FnSels'. -/
def fnSelsUptoCard : Claim7 := { stood := { row := fnSelsUptoRow, standIns := [], harness := (true, "e4ec091f3a888460a3fa8d83f42e8708b3bd8e9c812e86672aacac684f793817"), looks := false }, kinds := [], alts := [], laidByText := true, laidKinds := [.data, .pinned], laidTests := true, laidLooks := .later }
def FnSelsUptoCardSaid : Prop := Claim7.holds Tryd.pinned (.plain (OpenSpec.upto fnSelsSpec)) fnSelsUptoCard

/-- THE SECOND FORM's CARD OF 'laws.FnEditsDo'. -/
def fnEditsDoUptoCard : Claim7 := { stood := { row := fnEditsDoUptoRow, standIns := [], harness := (true, "e4ec091f3a888460a3fa8d83f42e8708b3bd8e9c812e86672aacac684f793817"), looks := false }, kinds := [], alts := [], laidByText := true, laidKinds := [.data, .pinned], laidTests := true, laidLooks := .later }
def FnEditsDoUptoCardSaid : Prop := Claim7.holds Tryd.pinned (.plain (OpenSpec.upto fnEditsDoSpec)) fnEditsDoUptoCard

/-- THE SECOND FORM's CARD OF 'laws.FnMoved'. -/
def fnMovedUptoCard : Claim7 := { stood := { row := fnMovedUptoRow, standIns := [], harness := (true, "e4ec091f3a888460a3fa8d83f42e8708b3bd8e9c812e86672aacac684f793817"), looks := false }, kinds := [], alts := [], laidByText := true, laidKinds := [.data, .pinned], laidTests := true, laidLooks := .later }
def FnMovedUptoCardSaid : Prop := Claim7.holds Tryd.pinned (.plain (OpenSpec.upto fnMovedSpec)) fnMovedUptoCard

/-- THE SECOND FORM's CARD OF 'laws.FnEditOf'. -/
def fnEditOfUptoCard : Claim7 := { stood := { row := fnEditOfUptoRow, standIns := [], harness := (true, "e4ec091f3a888460a3fa8d83f42e8708b3bd8e9c812e86672aacac684f793817"), looks := false }, kinds := [], alts := [], laidByText := true, laidKinds := [.data, .pinned], laidTests := true, laidLooks := .later }
def FnEditOfUptoCardSaid : Prop := Claim7.holds Tryd.pinned (.plain (OpenSpec.upto fnEditOfSpec)) fnEditOfUptoCard

/-- THE SECOND FORM's CARD OF 'laws.FnExactOutText'. -/
def fnExactOutTextUptoCard : Claim7 := { stood := { row := fnExactOutTextUptoRow, standIns := [], harness := (true, "e4ec091f3a888460a3fa8d83f42e8708b3bd8e9c812e86672aacac684f793817"), looks := false }, kinds := [], alts := [], laidByText := true, laidKinds := [.data, .data, .data], laidTests := true, laidLooks := .later }
def FnExactOutTextUptoCardSaid : Prop := Claim7.holds Tryd.pinned (.plain (OpenSpec.upto fnExactOutTextSpec)) fnExactOutTextUptoCard
end Rows
end Go.Proofs.YtojaiockbpcilaaDoor
