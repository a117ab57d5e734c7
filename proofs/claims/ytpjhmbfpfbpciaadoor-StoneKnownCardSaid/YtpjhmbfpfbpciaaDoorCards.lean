/-
  DERIVED. GIVEN WITH THE SEED: THE CARDS: each row of YtpjhmbfpfbpciaaDoorRows.lean that lists a variable, with what it lists TIED to the program's text (the seventh form; the later family's looks); each row that meets fmt, with fmt's text TOLD by the authors' own Lean function (tested against real Go, not proved from fmt's source: count such statements apart). THE CARD IS WHAT COUNTS. Prove the row's statement (the work); the ties are given (YtpjhmbfpfbpciaaDoorTie.lean); close each card by the builder's one call (the guide's Derived/Test/ToyasCard.lean, 'card_holds'). Laid BY PROGRAM, IN A SANDBOX (cutbox-door.mjs). By AI agents, Wed Nov 11 2026. No macro, syntax, notation, axiom, sorry.
-/
import Derived.Test.YtpjhmbfpfbpciaaDoorRows
import GoSem.ClaimSeven
namespace Go.Proofs.YtpjhmbfpfbpciaaDoor
namespace Rows

/-- THE TIED CARD OF 'macadamlaw03.StoneYards'. -/
def stoneYardsCard : Claim7 := { stood := { row := stoneYardsRow, standIns := [], harness := (true, "da256fcf1394ea280a165c33a4076498d47d269fe77c43da1c520592e186f86e"), looks := false }, kinds := [], alts := [], laidByText := true, laidKinds := [.funcs, .data], laidTests := true, laidLooks := .later }
def StoneYardsCardSaid : Prop := Claim7.holds Tryd.pinned (.plain (OpenSpec.ofChange stoneYardsSpec)) stoneYardsCard

/-- THE TIED CARD OF 'macadamlaw03.StoneOwes'. -/
def stoneOwesCard : Claim7 := { stood := { row := stoneOwesRow, standIns := [], harness := (true, "da256fcf1394ea280a165c33a4076498d47d269fe77c43da1c520592e186f86e"), looks := false }, kinds := [], alts := [], laidByText := true, laidKinds := [.funcs, .data], laidTests := true, laidLooks := .later }
def StoneOwesCardSaid : Prop := Claim7.holds Tryd.pinned (.plain (OpenSpec.ofChange stoneOwesSpec)) stoneOwesCard

/-- THE TIED CARD OF 'macadamlaw03.StoneFits'. -/
def stoneFitsCard : Claim7 := { stood := { row := stoneFitsRow, standIns := [], harness := (true, "da256fcf1394ea280a165c33a4076498d47d269fe77c43da1c520592e186f86e"), looks := false }, kinds := [], alts := [], laidByText := true, laidKinds := [.funcs, .data], laidTests := true, laidLooks := .later }
def StoneFitsCardSaid : Prop := Claim7.holds Tryd.pinned (.plain (OpenSpec.ofChange stoneFitsSpec)) stoneFitsCard

/-- THE TIED CARD OF 'macadamlaw03.StoneTrue'. -/
def stoneTrueCard : Claim7 := { stood := { row := stoneTrueRow, standIns := [], harness := (true, "da256fcf1394ea280a165c33a4076498d47d269fe77c43da1c520592e186f86e"), looks := false }, kinds := [], alts := [], laidByText := true, laidKinds := [.funcs, .data], laidTests := true, laidLooks := .later }
def StoneTrueCardSaid : Prop := Claim7.holds Tryd.pinned (.plain (OpenSpec.ofChange stoneTrueSpec)) stoneTrueCard

/-- THE TIED CARD OF 'macadamlaw03.StoneEach'. -/
def stoneEachCard : Claim7 := { stood := { row := stoneEachRow, standIns := [], harness := (true, "da256fcf1394ea280a165c33a4076498d47d269fe77c43da1c520592e186f86e"), looks := false }, kinds := [], alts := [], laidByText := true, laidKinds := [.funcs, .data], laidTests := true, laidLooks := .later }
def StoneEachCardSaid : Prop := Claim7.holds Tryd.pinned (.plain (OpenSpec.ofChange stoneEachSpec)) stoneEachCard

/-- THE TIED CARD OF 'macadamlaw03.StoneHeap'. -/
def stoneHeapCard : Claim7 := { stood := { row := stoneHeapRow, standIns := [], harness := (true, "da256fcf1394ea280a165c33a4076498d47d269fe77c43da1c520592e186f86e"), looks := false }, kinds := [], alts := [], laidByText := true, laidKinds := [.funcs, .data], laidTests := true, laidLooks := .later }
def StoneHeapCardSaid : Prop := Claim7.holds Tryd.pinned (.plain (OpenSpec.ofChange stoneHeapSpec)) stoneHeapCard

/-- THE TIED CARD OF 'macadamlaw03.StoneMore'. -/
def stoneMoreCard : Claim7 := { stood := { row := stoneMoreRow, standIns := [], harness := (true, "da256fcf1394ea280a165c33a4076498d47d269fe77c43da1c520592e186f86e"), looks := false }, kinds := [], alts := [], laidByText := true, laidKinds := [.funcs, .data], laidTests := true, laidLooks := .later }
def StoneMoreCardSaid : Prop := Claim7.holds Tryd.pinned (.plain (OpenSpec.ofChange stoneMoreSpec)) stoneMoreCard

/-- THE TIED CARD OF 'macadamlaw03.StoneHonest'. -/
def stoneHonestCard : Claim7 := { stood := { row := stoneHonestRow, standIns := [], harness := (true, "da256fcf1394ea280a165c33a4076498d47d269fe77c43da1c520592e186f86e"), looks := false }, kinds := [], alts := [], laidByText := true, laidKinds := [.funcs, .data], laidTests := true, laidLooks := .later }
def StoneHonestCardSaid : Prop := Claim7.holds Tryd.pinned (.plain (OpenSpec.ofChange stoneHonestSpec)) stoneHonestCard

/-- THE TIED CARD OF 'macadamlaw03.StoneLiar'. -/
def stoneLiarCard : Claim7 := { stood := { row := stoneLiarRow, standIns := [], harness := (true, "da256fcf1394ea280a165c33a4076498d47d269fe77c43da1c520592e186f86e"), looks := false }, kinds := [], alts := [], laidByText := true, laidKinds := [.funcs, .data], laidTests := true, laidLooks := .later }
def StoneLiarCardSaid : Prop := Claim7.holds Tryd.pinned (.plain (OpenSpec.ofChange stoneLiarSpec)) stoneLiarCard

/-- THE TIED CARD OF 'macadamlaw03.StoneOwed'. -/
def stoneOwedCard : Claim7 := { stood := { row := stoneOwedRow, standIns := [], harness := (true, "da256fcf1394ea280a165c33a4076498d47d269fe77c43da1c520592e186f86e"), looks := false }, kinds := [], alts := [], laidByText := true, laidKinds := [.funcs, .data], laidTests := true, laidLooks := .later }
def StoneOwedCardSaid : Prop := Claim7.holds Tryd.pinned (.plain (OpenSpec.ofChange stoneOwedSpec)) stoneOwedCard

/-- THE TIED CARD OF 'macadamlaw03.StoneWrong'. -/
def stoneWrongCard : Claim7 := { stood := { row := stoneWrongRow, standIns := [], harness := (true, "da256fcf1394ea280a165c33a4076498d47d269fe77c43da1c520592e186f86e"), looks := false }, kinds := [], alts := [], laidByText := true, laidKinds := [.funcs, .data], laidTests := true, laidLooks := .later }
def StoneWrongCardSaid : Prop := Claim7.holds Tryd.pinned (.plain (OpenSpec.ofChange stoneWrongSpec)) stoneWrongCard

/-- THE TIED CARD OF 'macadamlaw03.StoneKnown'. -/
def stoneKnownCard : Claim7 := { stood := { row := stoneKnownRow, standIns := [], harness := (true, "da256fcf1394ea280a165c33a4076498d47d269fe77c43da1c520592e186f86e"), looks := false }, kinds := [], alts := [], laidByText := true, laidKinds := [.funcs, .data], laidTests := true, laidLooks := .later }
def StoneKnownCardSaid : Prop := Claim7.holds Tryd.pinned (.plain (OpenSpec.ofChange stoneKnownSpec)) stoneKnownCard

/-- THE SECOND FORM's CARD OF 'macadamlaw03.StoneYards'. -/
def stoneYardsUptoCard : Claim7 := { stood := { row := stoneYardsUptoRow, standIns := [], harness := (true, "da256fcf1394ea280a165c33a4076498d47d269fe77c43da1c520592e186f86e"), looks := false }, kinds := [], alts := [], laidByText := true, laidKinds := [.funcs, .data], laidTests := true, laidLooks := .later }
def StoneYardsUptoCardSaid : Prop := Claim7.holds Tryd.pinned (.plain (OpenSpec.upto stoneYardsSpec)) stoneYardsUptoCard

/-- THE SECOND FORM's CARD OF 'macadamlaw03.StoneOwes'. -/
def stoneOwesUptoCard : Claim7 := { stood := { row := stoneOwesUptoRow, standIns := [], harness := (true, "da256fcf1394ea280a165c33a4076498d47d269fe77c43da1c520592e186f86e"), looks := false }, kinds := [], alts := [], laidByText := true, laidKinds := [.funcs, .data], laidTests := true, laidLooks := .later }
def StoneOwesUptoCardSaid : Prop := Claim7.holds Tryd.pinned (.plain (OpenSpec.upto stoneOwesSpec)) stoneOwesUptoCard

/-- THE SECOND FORM's CARD OF 'macadamlaw03.StoneFits'. -/
def stoneFitsUptoCard : Claim7 := { stood := { row := stoneFitsUptoRow, standIns := [], harness := (true, "da256fcf1394ea280a165c33a4076498d47d269fe77c43da1c520592e186f86e"), looks := false }, kinds := [], alts := [], laidByText := true, laidKinds := [.funcs, .data], laidTests := true, laidLooks := .later }
def StoneFitsUptoCardSaid : Prop := Claim7.holds Tryd.pinned (.plain (OpenSpec.upto stoneFitsSpec)) stoneFitsUptoCard

/-- THE SECOND FORM's CARD OF 'macadamlaw03.StoneTrue'. -/
def stoneTrueUptoCard : Claim7 := { stood := { row := stoneTrueUptoRow, standIns := [], harness := (true, "da256fcf1394ea280a165c33a4076498d47d269fe77c43da1c520592e186f86e"), looks := false }, kinds := [], alts := [], laidByText := true, laidKinds := [.funcs, .data], laidTests := true, laidLooks := .later }
def StoneTrueUptoCardSaid : Prop := Claim7.holds Tryd.pinned (.plain (OpenSpec.upto stoneTrueSpec)) stoneTrueUptoCard

/-- THE SECOND FORM's CARD OF 'macadamlaw03.StoneEach'. -/
def stoneEachUptoCard : Claim7 := { stood := { row := stoneEachUptoRow, standIns := [], harness := (true, "da256fcf1394ea280a165c33a4076498d47d269fe77c43da1c520592e186f86e"), looks := false }, kinds := [], alts := [], laidByText := true, laidKinds := [.funcs, .data], laidTests := true, laidLooks := .later }
def StoneEachUptoCardSaid : Prop := Claim7.holds Tryd.pinned (.plain (OpenSpec.upto stoneEachSpec)) stoneEachUptoCard

/-- THE SECOND FORM's CARD OF 'macadamlaw03.StoneHeap'. -/
def stoneHeapUptoCard : Claim7 := { stood := { row := stoneHeapUptoRow, standIns := [], harness := (true, "da256fcf1394ea280a165c33a4076498d47d269fe77c43da1c520592e186f86e"), looks := false }, kinds := [], alts := [], laidByText := true, laidKinds := [.funcs, .data], laidTests := true, laidLooks := .later }
def StoneHeapUptoCardSaid : Prop := Claim7.holds Tryd.pinned (.plain (OpenSpec.upto stoneHeapSpec)) stoneHeapUptoCard

/-- THE SECOND FORM's CARD OF 'macadamlaw03.StoneMore'. -/
def stoneMoreUptoCard : Claim7 := { stood := { row := stoneMoreUptoRow, standIns := [], harness := (true, "da256fcf1394ea280a165c33a4076498d47d269fe77c43da1c520592e186f86e"), looks := false }, kinds := [], alts := [], laidByText := true, laidKinds := [.funcs, .data], laidTests := true, laidLooks := .later }
def StoneMoreUptoCardSaid : Prop := Claim7.holds Tryd.pinned (.plain (OpenSpec.upto stoneMoreSpec)) stoneMoreUptoCard

/-- THE SECOND FORM's CARD OF 'macadamlaw03.StoneHonest'. -/
def stoneHonestUptoCard : Claim7 := { stood := { row := stoneHonestUptoRow, standIns := [], harness := (true, "da256fcf1394ea280a165c33a4076498d47d269fe77c43da1c520592e186f86e"), looks := false }, kinds := [], alts := [], laidByText := true, laidKinds := [.funcs, .data], laidTests := true, laidLooks := .later }
def StoneHonestUptoCardSaid : Prop := Claim7.holds Tryd.pinned (.plain (OpenSpec.upto stoneHonestSpec)) stoneHonestUptoCard

/-- THE SECOND FORM's CARD OF 'macadamlaw03.StoneLiar'. -/
def stoneLiarUptoCard : Claim7 := { stood := { row := stoneLiarUptoRow, standIns := [], harness := (true, "da256fcf1394ea280a165c33a4076498d47d269fe77c43da1c520592e186f86e"), looks := false }, kinds := [], alts := [], laidByText := true, laidKinds := [.funcs, .data], laidTests := true, laidLooks := .later }
def StoneLiarUptoCardSaid : Prop := Claim7.holds Tryd.pinned (.plain (OpenSpec.upto stoneLiarSpec)) stoneLiarUptoCard

/-- THE SECOND FORM's CARD OF 'macadamlaw03.StoneOwed'. -/
def stoneOwedUptoCard : Claim7 := { stood := { row := stoneOwedUptoRow, standIns := [], harness := (true, "da256fcf1394ea280a165c33a4076498d47d269fe77c43da1c520592e186f86e"), looks := false }, kinds := [], alts := [], laidByText := true, laidKinds := [.funcs, .data], laidTests := true, laidLooks := .later }
def StoneOwedUptoCardSaid : Prop := Claim7.holds Tryd.pinned (.plain (OpenSpec.upto stoneOwedSpec)) stoneOwedUptoCard

/-- THE SECOND FORM's CARD OF 'macadamlaw03.StoneWrong'. -/
def stoneWrongUptoCard : Claim7 := { stood := { row := stoneWrongUptoRow, standIns := [], harness := (true, "da256fcf1394ea280a165c33a4076498d47d269fe77c43da1c520592e186f86e"), looks := false }, kinds := [], alts := [], laidByText := true, laidKinds := [.funcs, .data], laidTests := true, laidLooks := .later }
def StoneWrongUptoCardSaid : Prop := Claim7.holds Tryd.pinned (.plain (OpenSpec.upto stoneWrongSpec)) stoneWrongUptoCard

/-- THE SECOND FORM's CARD OF 'macadamlaw03.StoneKnown'. -/
def stoneKnownUptoCard : Claim7 := { stood := { row := stoneKnownUptoRow, standIns := [], harness := (true, "da256fcf1394ea280a165c33a4076498d47d269fe77c43da1c520592e186f86e"), looks := false }, kinds := [], alts := [], laidByText := true, laidKinds := [.funcs, .data], laidTests := true, laidLooks := .later }
def StoneKnownUptoCardSaid : Prop := Claim7.holds Tryd.pinned (.plain (OpenSpec.upto stoneKnownSpec)) stoneKnownUptoCard
end Rows
end Go.Proofs.YtpjhmbfpfbpciaaDoor
