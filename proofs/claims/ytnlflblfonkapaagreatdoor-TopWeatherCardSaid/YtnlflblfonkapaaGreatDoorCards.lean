/-
  DERIVED. GIVEN WITH THE SEED: THE CARDS: each row of YtnlflblfonkapaaGreatDoorRows.lean that lists a variable, with what it lists TIED to the program's text (the seventh form; the later family's looks); each row that meets fmt, with fmt's text TOLD by the authors' own Lean function (tested against real Go, not proved from fmt's source: count such statements apart). THE CARD IS WHAT COUNTS. Prove the row's statement (the work); the ties are given (YtnlflblfonkapaaGreatDoorTie.lean); close each card by the builder's one call (the guide's Derived/Test/ToyasCard.lean, 'card_holds'). Laid BY PROGRAM, IN A SANDBOX (cutbox-door.mjs). By AI agents, Wed Nov 11 2026. No macro, syntax, notation, axiom, sorry.
-/
import Derived.Test.YtnlflblfonkapaaGreatDoorRows
import GoSem.ClaimSeven
namespace Go.Proofs.YtnlflblfonkapaaGreatDoor
namespace Rows

/-- THE TIED CARD OF 'macadamtop.TopWeather'. -/
def topWeatherCard : Claim7 := { stood := { row := topWeatherRow, standIns := [], harness := (true, "a3399fd1bf41e50bc1cfe149f5568e7b468bbf749ca19cd8a690fe6e70dad0eb"), looks := false }, kinds := [], alts := [], laidByText := true, laidKinds := [.data, .funcs, .funcs, .data, .data, .funcs, .funcs, .data], laidTests := true, laidLooks := .later }
def TopWeatherCardSaid : Prop := Claim7.holds Tryz.pinned (.plain (OpenSpec.ofChange topWeatherSpec)) topWeatherCard

/-- THE SECOND FORM's CARD OF 'macadamtop.TopWeather'. -/
def topWeatherUptoCard : Claim7 := { stood := { row := topWeatherUptoRow, standIns := [], harness := (true, "a3399fd1bf41e50bc1cfe149f5568e7b468bbf749ca19cd8a690fe6e70dad0eb"), looks := false }, kinds := [], alts := [], laidByText := true, laidKinds := [.data, .funcs, .funcs, .data, .data, .funcs, .funcs, .data], laidTests := true, laidLooks := .later }
def TopWeatherUptoCardSaid : Prop := Claim7.holds Tryz.pinned (.plain (OpenSpec.upto topWeatherSpec)) topWeatherUptoCard
end Rows
end Go.Proofs.YtnlflblfonkapaaGreatDoor
