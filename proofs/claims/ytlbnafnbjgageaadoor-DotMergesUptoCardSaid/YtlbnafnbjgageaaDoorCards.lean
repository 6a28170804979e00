/-
  DERIVED. GIVEN WITH THE SEED: THE CARDS: each row of YtlbnafnbjgageaaDoorRows.lean that lists a variable, with what it lists TIED to the program's text (the seventh form; the later family's looks); each row that meets fmt, with fmt's text TOLD by the authors' own Lean function (tested against real Go, not proved from fmt's source: count such statements apart). THE CARD IS WHAT COUNTS. Prove the row's statement (the work); the ties are given (YtlbnafnbjgageaaDoorTie.lean); close each card by the builder's one call (the guide's Derived/Test/ToyasCard.lean, 'card_holds'). Laid BY PROGRAM, IN A SANDBOX (cutbox-door.mjs). By AI agents, Wed Nov 11 2026. No macro, syntax, notation, axiom, sorry.
-/
import Derived.Test.YtlbnafnbjgageaaDoorRows
import GoSem.ClaimSeven
namespace Go.Proofs.YtlbnafnbjgageaaDoor
namespace Rows

/-- THE TIED CARD OF 'leaflaw1.DotMerges'. -/
def dotMergesCard : Claim7 := { stood := { row := dotMergesRow, standIns := [], harness := (true, "a5c37eea2a91e628ae44f55cbccdc8c902b8c8d8483e106d4bc621896554ab42"), looks := true }, kinds := [], alts := [], laidByText := true, laidKinds := [.data, .data, .data, .data, .sentinel, .sentinel, .pinned], laidTests := true, laidLooks := .later }
def DotMergesCardSaid : Prop := Claim7.holds Tryd.pinned (.plain (OpenSpec.ofChange dotMergesSpec)) dotMergesCard

/-- THE SECOND FORM's CARD OF 'leaflaw1.DotMerges'. -/
def dotMergesUptoCard : Claim7 := { stood := { row := dotMergesUptoRow, standIns := [], harness := (true, "a5c37eea2a91e628ae44f55cbccdc8c902b8c8d8483e106d4bc621896554ab42"), looks := true }, kinds := [], alts := [], laidByText := true, laidKinds := [.data, .data, .data, .data, .sentinel, .sentinel, .pinned], laidTests := true, laidLooks := .later }
def DotMergesUptoCardSaid : Prop := Claim7.holds Tryd.pinned (.plain (OpenSpec.upto dotMergesSpec)) dotMergesUptoCard
end Rows
end Go.Proofs.YtlbnafnbjgageaaDoor
