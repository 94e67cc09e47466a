/-
  DERIVED. GIVEN WITH THE SEED: THE CARDS: each row of YtkpohcfohnmejaaDoorRows.lean that lists a variable, with what it lists TIED to the program's text (the seventh form; the later family's looks); each row that meets fmt, with fmt's text TOLD by the authors' own Lean function (tested against real Go, not proved from fmt's source: count such statements apart). THE CARD IS WHAT COUNTS. Prove the row's statement (the work); the ties are given (YtkpohcfohnmejaaDoorTie.lean); close each card by the builder's one call (the guide's Derived/Test/ToyasCard.lean, 'card_holds'). Laid BY PROGRAM, IN A SANDBOX (cutbox-door.mjs). By AI agents, Wed Nov 11 2026. No macro, syntax, notation, axiom, sorry.
-/
import Derived.Test.YtkpohcfohnmejaaDoorRows
import GoSem.ClaimSeven
namespace Go.Proofs.YtkpohcfohnmejaaDoor
namespace Rows

/-- THE TIED CARD OF 'laws.FnExactRopeEdit'. -/
def fnExactRopeEditCard : Claim7 := { stood := { row := fnExactRopeEditRow, standIns := [], harness := (true, "e8917d82f5d71eb0570c549a08db48d016afca06d7f465ef9dcb6aa30e7247b6"), looks := false }, kinds := [], alts := [], laidByText := true, laidKinds := [.data, .pinned], laidTests := true, laidLooks := .later }
def FnExactRopeEditCardSaid : Prop := Claim7.holds Tryd.pinned (.plain (OpenSpec.ofChange fnExactRopeEditSpec)) fnExactRopeEditCard

/-- THE TIED CARD OF 'laws.FnExactRopeSplit'. -/
def fnExactRopeSplitCard : Claim7 := { stood := { row := fnExactRopeSplitRow, standIns := [], harness := (true, "e8917d82f5d71eb0570c549a08db48d016afca06d7f465ef9dcb6aa30e7247b6"), looks := false }, kinds := [], alts := [], laidByText := true, laidKinds := [.data, .pinned], laidTests := true, laidLooks := .later }
def FnExactRopeSplitCardSaid : Prop := Claim7.holds Tryd.pinned (.plain (OpenSpec.ofChange fnExactRopeSplitSpec)) fnExactRopeSplitCard

/-- THE TIED CARD OF 'laws.FnRopeSplit'. -/
def fnRopeSplitCard : Claim7 := { stood := { row := fnRopeSplitRow, standIns := [], harness := (true, "e8917d82f5d71eb0570c549a08db48d016afca06d7f465ef9dcb6aa30e7247b6"), looks := false }, kinds := [], alts := [], laidByText := true, laidKinds := [.data, .pinned], laidTests := true, laidLooks := .later }
def FnRopeSplitCardSaid : Prop := Claim7.holds Tryd.pinned (.plain (OpenSpec.ofChange fnRopeSplitSpec)) fnRopeSplitCard

/-- THE TIED CARD OF 'laws.FnRopeText'. -/
def fnRopeTextCard : Claim7 := { stood := { row := fnRopeTextRow, standIns := [], harness := (true, "e8917d82f5d71eb0570c549a08db48d016afca06d7f465ef9dcb6aa30e7247b6"), looks := false }, kinds := [], alts := [], laidByText := true, laidKinds := [.data, .pinned], laidTests := true, laidLooks := .later }
def FnRopeTextCardSaid : Prop := Claim7.holds Tryd.pinned (.plain (OpenSpec.ofChange fnRopeTextSpec)) fnRopeTextCard

/-- THE TIED CARD OF 'laws.FnExactWitness'. -/
def fnExactWitnessCard : Claim7 := { stood := { row := fnExactWitnessRow, standIns := [], harness := (true, "e8917d82f5d71eb0570c549a08db48d016afca06d7f465ef9dcb6aa30e7247b6"), looks := false }, kinds := [], alts := [], laidByText := true, laidKinds := [.data, .pinned], laidTests := true, laidLooks := .later }
def FnExactWitnessCardSaid : Prop := Claim7.holds Tryd.pinned (.plain (OpenSpec.ofChange fnExactWitnessSpec)) fnExactWitnessCard

/-- THE SECOND FORM's CARD OF 'laws.FnExactRopeEdit'. -/
def fnExactRopeEditUptoCard : Claim7 := { stood := { row := fnExactRopeEditUptoRow, standIns := [], harness := (true, "e8917d82f5d71eb0570c549a08db48d016afca06d7f465ef9dcb6aa30e7247b6"), looks := false }, kinds := [], alts := [], laidByText := true, laidKinds := [.data, .pinned], laidTests := true, laidLooks := .later }
def FnExactRopeEditUptoCardSaid : Prop := Claim7.holds Tryd.pinned (.plain (OpenSpec.upto fnExactRopeEditSpec)) fnExactRopeEditUptoCard

/-- THE SECOND FORM's CARD OF 'laws.FnExactRopeSplit'. -/
def fnExactRopeSplitUptoCard : Claim7 := { stood := { row := fnExactRopeSplitUptoRow, standIns := [], harness := (true, "e8917d82f5d71eb0570c549a08db48d016afca06d7f465ef9dcb6aa30e7247b6"), looks := false }, kinds := [], alts := [], laidByText := true, laidKinds := [.data, .pinned], laidTests := true, laidLooks := .later }
def FnExactRopeSplitUptoCardSaid : Prop := Claim7.holds Tryd.pinned (.plain (OpenSpec.upto fnExactRopeSplitSpec)) fnExactRopeSplitUptoCard

/-- THE SECOND FORM's CARD OF 'laws.FnRopeSplit'. -/
def fnRopeSplitUptoCard : Claim7 := { stood := { row := fnRopeSplitUptoRow, standIns := [], harness := (true, "e8917d82f5d71eb0570c549a08db48d016afca06d7f465ef9dcb6aa30e7247b6"), looks := false }, kinds := [], alts := [], laidByText := true, laidKinds := [.data, .pinned], laidTests := true, laidLooks := .later }
def FnRopeSplitUptoCardSaid : Prop := Claim7.holds Tryd.pinned (.plain (OpenSpec.upto fnRopeSplitSpec)) fnRopeSplitUptoCard

/-- THE SECOND FORM's CARD OF 'laws.FnRopeText'. -/
def fnRopeTextUptoCard : Claim7 := { stood := { row := fnRopeTextUptoRow, standIns := [], harness := (true, "e8917d82f5d71eb0570c549a08db48d016afca06d7f465ef9dcb6aa30e7247b6"), looks := false }, kinds := [], alts := [], laidByText := true, laidKinds := [.data, .pinned], laidTests := true, laidLooks := .later }
def FnRopeTextUptoCardSaid : Prop := Claim7.holds Tryd.pinned (.plain (OpenSpec.upto fnRopeTextSpec)) fnRopeTextUptoCard

/-- THE SECOND FORM's CARD OF 'laws.FnExactWitness'. -/
def fnExactWitnessUptoCard : Claim7 := { stood := { row := fnExactWitnessUptoRow, standIns := [], harness := (true, "e8917d82f5d71eb0570c549a08db48d016afca06d7f465ef9dcb6aa30e7247b6"), looks := false }, kinds := [], alts := [], laidByText := true, laidKinds := [.data, .pinned], laidTests := true, laidLooks := .later }
def FnExactWitnessUptoCardSaid : Prop := Claim7.holds Tryd.pinned (.plain (OpenSpec.upto fnExactWitnessSpec)) fnExactWitnessUptoCard
end Rows
end Go.Proofs.YtkpohcfohnmejaaDoor
