/-
  DERIVED. GIVEN WITH THE SEED: THE CARDS: each row of YteikomnahelckaaGreatDoorRows.lean that lists a variable, with what it lists TIED to the program's text (the seventh form; the later family's looks); each row that meets fmt, with fmt's text TOLD by the authors' own Lean function (tested against real Go, not proved from fmt's source: count such statements apart). THE CARD IS WHAT COUNTS. Prove the row's statement (the work); the ties are given (YteikomnahelckaaGreatDoorTie.lean); close each card by the builder's one call (the guide's Derived/Test/ToyasCard.lean, 'card_holds'). Laid BY PROGRAM, IN A SANDBOX (cutbox-door.mjs). By AI agents, Wed Nov 11 2026. No macro, syntax, notation, axiom, sorry.
-/
import Derived.Test.YteikomnahelckaaGreatDoorRows
import GoSem.ClaimSeven
namespace Go.Proofs.YteikomnahelckaaGreatDoor
namespace Rows

/-- THE TIED CARD OF 'environlaw30.FramesSums'. -/
def framesSumsCard : Claim7 := { stood := { row := framesSumsRow, standIns := [], harness := (true, "f65747af070358024576abca64f30149f0bf1e499fc7cd223472ef164a847c2a"), looks := false }, kinds := [], alts := [], laidByText := true, laidKinds := [.data, .data, .data, .data, .listed, .data, .data, .data, .pinned], laidTests := true, laidLooks := .later }
def FramesSumsCardSaid : Prop := Claim7.holds Tryz.pinned (.plain (OpenSpec.ofChange framesSumsSpec)) framesSumsCard

/-- THE TIED CARD OF 'environlaw30.FramesLayouts'. -/
def framesLayoutsCard : Claim7 := { stood := { row := framesLayoutsRow, standIns := [], harness := (true, "f65747af070358024576abca64f30149f0bf1e499fc7cd223472ef164a847c2a"), looks := false }, kinds := [], alts := [], laidByText := true, laidKinds := [.data, .data, .data, .data, .listed, .data, .data, .data, .pinned], laidTests := true, laidLooks := .later }
def FramesLayoutsCardSaid : Prop := Claim7.holds Tryz.pinned (.plain (OpenSpec.ofChange framesLayoutsSpec)) framesLayoutsCard

/-- THE TIED CARD OF 'environlaw30.FramesLimits'. -/
def framesLimitsCard : Claim7 := { stood := { row := framesLimitsRow, standIns := [], harness := (true, "f65747af070358024576abca64f30149f0bf1e499fc7cd223472ef164a847c2a"), looks := false }, kinds := [], alts := [], laidByText := true, laidKinds := [.data, .data, .data, .data, .listed, .data, .data, .data, .pinned], laidTests := true, laidLooks := .later }
def FramesLimitsCardSaid : Prop := Claim7.holds Tryz.pinned (.plain (OpenSpec.ofChange framesLimitsSpec)) framesLimitsCard

/-- THE TIED CARD OF 'environlaw30.FramesAdds'. -/
def framesAddsCard : Claim7 := { stood := { row := framesAddsRow, standIns := [], harness := (true, "f65747af070358024576abca64f30149f0bf1e499fc7cd223472ef164a847c2a"), looks := false }, kinds := [], alts := [], laidByText := true, laidKinds := [.data, .data, .data, .data, .listed, .data, .data, .data, .pinned], laidTests := true, laidLooks := .later }
def FramesAddsCardSaid : Prop := Claim7.holds Tryz.pinned (.plain (OpenSpec.ofChange framesAddsSpec)) framesAddsCard

/-- THE TIED CARD OF 'environlaw30.FramesNil'. -/
def framesNilCard : Claim7 := { stood := { row := framesNilRow, standIns := [], harness := (true, "f65747af070358024576abca64f30149f0bf1e499fc7cd223472ef164a847c2a"), looks := false }, kinds := [], alts := [], laidByText := true, laidKinds := [.data, .data, .data, .data, .listed, .data, .data, .data, .pinned], laidTests := true, laidLooks := .later }
def FramesNilCardSaid : Prop := Claim7.holds Tryz.pinned (.plain (OpenSpec.ofChange framesNilSpec)) framesNilCard

/-- THE SECOND FORM's CARD OF 'environlaw30.FramesSums'. -/
def framesSumsUptoCard : Claim7 := { stood := { row := framesSumsUptoRow, standIns := [], harness := (true, "f65747af070358024576abca64f30149f0bf1e499fc7cd223472ef164a847c2a"), looks := false }, kinds := [], alts := [], laidByText := true, laidKinds := [.data, .data, .data, .data, .listed, .data, .data, .data, .pinned], laidTests := true, laidLooks := .later }
def FramesSumsUptoCardSaid : Prop := Claim7.holds Tryz.pinned (.plain (OpenSpec.upto framesSumsSpec)) framesSumsUptoCard

/-- THE SECOND FORM's CARD OF 'environlaw30.FramesLayouts'. -/
def framesLayoutsUptoCard : Claim7 := { stood := { row := framesLayoutsUptoRow, standIns := [], harness := (true, "f65747af070358024576abca64f30149f0bf1e499fc7cd223472ef164a847c2a"), looks := false }, kinds := [], alts := [], laidByText := true, laidKinds := [.data, .data, .data, .data, .listed, .data, .data, .data, .pinned], laidTests := true, laidLooks := .later }
def FramesLayoutsUptoCardSaid : Prop := Claim7.holds Tryz.pinned (.plain (OpenSpec.upto framesLayoutsSpec)) framesLayoutsUptoCard

/-- THE SECOND FORM's CARD OF 'environlaw30.FramesLimits'. -/
def framesLimitsUptoCard : Claim7 := { stood := { row := framesLimitsUptoRow, standIns := [], harness := (true, "f65747af070358024576abca64f30149f0bf1e499fc7cd223472ef164a847c2a"), looks := false }, kinds := [], alts := [], laidByText := true, laidKinds := [.data, .data, .data, .data, .listed, .data, .data, .data, .pinned], laidTests := true, laidLooks := .later }
def FramesLimitsUptoCardSaid : Prop := Claim7.holds Tryz.pinned (.plain (OpenSpec.upto framesLimitsSpec)) framesLimitsUptoCard

/-- THE SECOND FORM's CARD OF 'environlaw30.FramesAdds'. -/
def framesAddsUptoCard : Claim7 := { stood := { row := framesAddsUptoRow, standIns := [], harness := (true, "f65747af070358024576abca64f30149f0bf1e499fc7cd223472ef164a847c2a"), looks := false }, kinds := [], alts := [], laidByText := true, laidKinds := [.data, .data, .data, .data, .listed, .data, .data, .data, .pinned], laidTests := true, laidLooks := .later }
def FramesAddsUptoCardSaid : Prop := Claim7.holds Tryz.pinned (.plain (OpenSpec.upto framesAddsSpec)) framesAddsUptoCard

/-- THE SECOND FORM's CARD OF 'environlaw30.FramesNil'. -/
def framesNilUptoCard : Claim7 := { stood := { row := framesNilUptoRow, standIns := [], harness := (true, "f65747af070358024576abca64f30149f0bf1e499fc7cd223472ef164a847c2a"), looks := false }, kinds := [], alts := [], laidByText := true, laidKinds := [.data, .data, .data, .data, .listed, .data, .data, .data, .pinned], laidTests := true, laidLooks := .later }
def FramesNilUptoCardSaid : Prop := Claim7.holds Tryz.pinned (.plain (OpenSpec.upto framesNilSpec)) framesNilUptoCard
end Rows
end Go.Proofs.YteikomnahelckaaGreatDoor
