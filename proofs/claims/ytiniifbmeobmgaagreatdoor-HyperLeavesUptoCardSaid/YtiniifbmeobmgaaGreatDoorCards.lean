/-
  DERIVED. GIVEN WITH THE SEED: THE CARDS: each row of YtiniifbmeobmgaaGreatDoorRows.lean that lists a variable, with what it lists TIED to the program's text (the seventh form; the later family's looks); each row that meets fmt, with fmt's text TOLD by the authors' own Lean function (tested against real Go, not proved from fmt's source: count such statements apart). THE CARD IS WHAT COUNTS. Prove the row's statement (the work); the ties are given (YtiniifbmeobmgaaGreatDoorTie.lean); close each card by the builder's one call (the guide's Derived/Test/ToyasCard.lean, 'card_holds'). Laid BY PROGRAM, IN A SANDBOX (cutbox-door.mjs). By AI agents, Wed Nov 11 2026. No macro, syntax, notation, axiom, sorry.
-/
import Derived.Test.YtiniifbmeobmgaaGreatDoorRows
import GoSem.ClaimSeven
namespace Go.Proofs.YtiniifbmeobmgaaGreatDoor
namespace Rows

/-- THE TIED CARD OF 'environlaw19.HyperChecks'. -/
def hyperChecksCard : Claim7 := { stood := { row := hyperChecksRow, standIns := [], harness := (true, "cd3d9d5c266fdca2f9492d4f30c614dcfc49d9acafe3c2352e71eff063d55312"), looks := true }, kinds := [], alts := [], laidByText := true, laidKinds := [.data, .pinned], laidTests := true, laidLooks := .later }
def HyperChecksCardSaid : Prop := Claim7.holds Tryz.pinned (.plain (OpenSpec.ofChange hyperChecksSpec)) hyperChecksCard

/-- THE TIED CARD OF 'environlaw19.HyperProduces'. -/
def hyperProducesCard : Claim7 := { stood := { row := hyperProducesRow, standIns := [], harness := (true, "cd3d9d5c266fdca2f9492d4f30c614dcfc49d9acafe3c2352e71eff063d55312"), looks := true }, kinds := [], alts := [], laidByText := true, laidKinds := [.data, .pinned], laidTests := true, laidLooks := .later }
def HyperProducesCardSaid : Prop := Claim7.holds Tryz.pinned (.plain (OpenSpec.ofChange hyperProducesSpec)) hyperProducesCard

/-- THE TIED CARD OF 'environlaw19.HyperReads'. -/
def hyperReadsCard : Claim7 := { stood := { row := hyperReadsRow, standIns := [], harness := (true, "cd3d9d5c266fdca2f9492d4f30c614dcfc49d9acafe3c2352e71eff063d55312"), looks := true }, kinds := [], alts := [], laidByText := true, laidKinds := [.data, .pinned], laidTests := true, laidLooks := .later }
def HyperReadsCardSaid : Prop := Claim7.holds Tryz.pinned (.plain (OpenSpec.ofChange hyperReadsSpec)) hyperReadsCard

/-- THE TIED CARD OF 'environlaw19.HyperMatches'. -/
def hyperMatchesCard : Claim7 := { stood := { row := hyperMatchesRow, standIns := [], harness := (true, "cd3d9d5c266fdca2f9492d4f30c614dcfc49d9acafe3c2352e71eff063d55312"), looks := true }, kinds := [], alts := [], laidByText := true, laidKinds := [.data, .pinned], laidTests := true, laidLooks := .later }
def HyperMatchesCardSaid : Prop := Claim7.holds Tryz.pinned (.plain (OpenSpec.ofChange hyperMatchesSpec)) hyperMatchesCard

/-- THE TIED CARD OF 'environlaw19.HyperMeans'. -/
def hyperMeansCard : Claim7 := { stood := { row := hyperMeansRow, standIns := [], harness := (true, "cd3d9d5c266fdca2f9492d4f30c614dcfc49d9acafe3c2352e71eff063d55312"), looks := true }, kinds := [], alts := [], laidByText := true, laidKinds := [.data, .pinned], laidTests := true, laidLooks := .later }
def HyperMeansCardSaid : Prop := Claim7.holds Tryz.pinned (.plain (OpenSpec.ofChange hyperMeansSpec)) hyperMeansCard

/-- THE TIED CARD OF 'environlaw19.HyperWrites'. -/
def hyperWritesCard : Claim7 := { stood := { row := hyperWritesRow, standIns := [], harness := (true, "cd3d9d5c266fdca2f9492d4f30c614dcfc49d9acafe3c2352e71eff063d55312"), looks := true }, kinds := [], alts := [], laidByText := true, laidKinds := [.data, .pinned], laidTests := true, laidLooks := .later }
def HyperWritesCardSaid : Prop := Claim7.holds Tryz.pinned (.plain (OpenSpec.ofChange hyperWritesSpec)) hyperWritesCard

/-- THE TIED CARD OF 'environlaw19.HyperBack'. -/
def hyperBackCard : Claim7 := { stood := { row := hyperBackRow, standIns := [], harness := (true, "cd3d9d5c266fdca2f9492d4f30c614dcfc49d9acafe3c2352e71eff063d55312"), looks := true }, kinds := [], alts := [], laidByText := true, laidKinds := [.data, .pinned], laidTests := true, laidLooks := .later }
def HyperBackCardSaid : Prop := Claim7.holds Tryz.pinned (.plain (OpenSpec.ofChange hyperBackSpec)) hyperBackCard

/-- THE TIED CARD OF 'environlaw19.HyperRenames'. -/
def hyperRenamesCard : Claim7 := { stood := { row := hyperRenamesRow, standIns := [], harness := (true, "cd3d9d5c266fdca2f9492d4f30c614dcfc49d9acafe3c2352e71eff063d55312"), looks := true }, kinds := [], alts := [], laidByText := true, laidKinds := [.data, .pinned], laidTests := true, laidLooks := .later }
def HyperRenamesCardSaid : Prop := Claim7.holds Tryz.pinned (.plain (OpenSpec.ofChange hyperRenamesSpec)) hyperRenamesCard

/-- THE TIED CARD OF 'environlaw19.HyperVerifies'. -/
def hyperVerifiesCard : Claim7 := { stood := { row := hyperVerifiesRow, standIns := [], harness := (true, "cd3d9d5c266fdca2f9492d4f30c614dcfc49d9acafe3c2352e71eff063d55312"), looks := true }, kinds := [], alts := [], laidByText := true, laidKinds := [.data, .pinned], laidTests := true, laidLooks := .later }
def HyperVerifiesCardSaid : Prop := Claim7.holds Tryz.pinned (.plain (OpenSpec.ofChange hyperVerifiesSpec)) hyperVerifiesCard

/-- THE TIED CARD OF 'environlaw19.HyperLeaves'. -/
def hyperLeavesCard : Claim7 := { stood := { row := hyperLeavesRow, standIns := [], harness := (true, "cd3d9d5c266fdca2f9492d4f30c614dcfc49d9acafe3c2352e71eff063d55312"), looks := true }, kinds := [], alts := [], laidByText := true, laidKinds := [.data, .pinned], laidTests := true, laidLooks := .later }
def HyperLeavesCardSaid : Prop := Claim7.holds Tryz.pinned (.plain (OpenSpec.ofChange hyperLeavesSpec)) hyperLeavesCard

/-- THE SECOND FORM's CARD OF 'environlaw19.HyperChecks'. -/
def hyperChecksUptoCard : Claim7 := { stood := { row := hyperChecksUptoRow, standIns := [], harness := (true, "cd3d9d5c266fdca2f9492d4f30c614dcfc49d9acafe3c2352e71eff063d55312"), looks := true }, kinds := [], alts := [], laidByText := true, laidKinds := [.data, .pinned], laidTests := true, laidLooks := .later }
def HyperChecksUptoCardSaid : Prop := Claim7.holds Tryz.pinned (.plain (OpenSpec.upto hyperChecksSpec)) hyperChecksUptoCard

/-- THE SECOND FORM's CARD OF 'environlaw19.HyperProduces'. -/
def hyperProducesUptoCard : Claim7 := { stood := { row := hyperProducesUptoRow, standIns := [], harness := (true, "cd3d9d5c266fdca2f9492d4f30c614dcfc49d9acafe3c2352e71eff063d55312"), looks := true }, kinds := [], alts := [], laidByText := true, laidKinds := [.data, .pinned], laidTests := true, laidLooks := .later }
def HyperProducesUptoCardSaid : Prop := Claim7.holds Tryz.pinned (.plain (OpenSpec.upto hyperProducesSpec)) hyperProducesUptoCard

/-- THE SECOND FORM's CARD OF 'environlaw19.HyperReads'. -/
def hyperReadsUptoCard : Claim7 := { stood := { row := hyperReadsUptoRow, standIns := [], harness := (true, "cd3d9d5c266fdca2f9492d4f30c614dcfc49d9acafe3c2352e71eff063d55312"), looks := true }, kinds := [], alts := [], laidByText := true, laidKinds := [.data, .pinned], laidTests := true, laidLooks := .later }
def HyperReadsUptoCardSaid : Prop := Claim7.holds Tryz.pinned (.plain (OpenSpec.upto hyperReadsSpec)) hyperReadsUptoCard

/-- THE SECOND FORM's CARD OF 'environlaw19.HyperMatches'. -/
def hyperMatchesUptoCard : Claim7 := { stood := { row := hyperMatchesUptoRow, standIns := [], harness := (true, "cd3d9d5c266fdca2f9492d4f30c614dcfc49d9acafe3c2352e71eff063d55312"), looks := true }, kinds := [], alts := [], laidByText := true, laidKinds := [.data, .pinned], laidTests := true, laidLooks := .later }
def HyperMatchesUptoCardSaid : Prop := Claim7.holds Tryz.pinned (.plain (OpenSpec.upto hyperMatchesSpec)) hyperMatchesUptoCard

/-- THE SECOND FORM's CARD OF 'environlaw19.HyperMeans'. -/
def hyperMeansUptoCard : Claim7 := { stood := { row := hyperMeansUptoRow, standIns := [], harness := (true, "cd3d9d5c266fdca2f9492d4f30c614dcfc49d9acafe3c2352e71eff063d55312"), looks := true }, kinds := [], alts := [], laidByText := true, laidKinds := [.data, .pinned], laidTests := true, laidLooks := .later }
def HyperMeansUptoCardSaid : Prop := Claim7.holds Tryz.pinned (.plain (OpenSpec.upto hyperMeansSpec)) hyperMeansUptoCard

/-- THE SECOND FORM's CARD OF 'environlaw19.HyperWrites'. -/
def hyperWritesUptoCard : Claim7 := { stood := { row := hyperWritesUptoRow, standIns := [], harness := (true, "cd3d9d5c266fdca2f9492d4f30c614dcfc49d9acafe3c2352e71eff063d55312"), looks := true }, kinds := [], alts := [], laidByText := true, laidKinds := [.data, .pinned], laidTests := true, laidLooks := .later }
def HyperWritesUptoCardSaid : Prop := Claim7.holds Tryz.pinned (.plain (OpenSpec.upto hyperWritesSpec)) hyperWritesUptoCard

/-- THE SECOND FORM's CARD OF 'environlaw19.HyperBack'. -/
def hyperBackUptoCard : Claim7 := { stood := { row := hyperBackUptoRow, standIns := [], harness := (true, "cd3d9d5c266fdca2f9492d4f30c614dcfc49d9acafe3c2352e71eff063d55312"), looks := true }, kinds := [], alts := [], laidByText := true, laidKinds := [.data, .pinned], laidTests := true, laidLooks := .later }
def HyperBackUptoCardSaid : Prop := Claim7.holds Tryz.pinned (.plain (OpenSpec.upto hyperBackSpec)) hyperBackUptoCard

/-- THE SECOND FORM's CARD OF 'environlaw19.HyperRenames'. -/
def hyperRenamesUptoCard : Claim7 := { stood := { row := hyperRenamesUptoRow, standIns := [], harness := (true, "cd3d9d5c266fdca2f9492d4f30c614dcfc49d9acafe3c2352e71eff063d55312"), looks := true }, kinds := [], alts := [], laidByText := true, laidKinds := [.data, .pinned], laidTests := true, laidLooks := .later }
def HyperRenamesUptoCardSaid : Prop := Claim7.holds Tryz.pinned (.plain (OpenSpec.upto hyperRenamesSpec)) hyperRenamesUptoCard

/-- THE SECOND FORM's CARD OF 'environlaw19.HyperVerifies'. -/
def hyperVerifiesUptoCard : Claim7 := { stood := { row := hyperVerifiesUptoRow, standIns := [], harness := (true, "cd3d9d5c266fdca2f9492d4f30c614dcfc49d9acafe3c2352e71eff063d55312"), looks := true }, kinds := [], alts := [], laidByText := true, laidKinds := [.data, .pinned], laidTests := true, laidLooks := .later }
def HyperVerifiesUptoCardSaid : Prop := Claim7.holds Tryz.pinned (.plain (OpenSpec.upto hyperVerifiesSpec)) hyperVerifiesUptoCard

/-- THE SECOND FORM's CARD OF 'environlaw19.HyperLeaves'. -/
def hyperLeavesUptoCard : Claim7 := { stood := { row := hyperLeavesUptoRow, standIns := [], harness := (true, "cd3d9d5c266fdca2f9492d4f30c614dcfc49d9acafe3c2352e71eff063d55312"), looks := true }, kinds := [], alts := [], laidByText := true, laidKinds := [.data, .pinned], laidTests := true, laidLooks := .later }
def HyperLeavesUptoCardSaid : Prop := Claim7.holds Tryz.pinned (.plain (OpenSpec.upto hyperLeavesSpec)) hyperLeavesUptoCard
end Rows
end Go.Proofs.YtiniifbmeobmgaaGreatDoor
