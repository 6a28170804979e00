/-
  DERIVED. GIVEN WITH THE SEED: THE CARDS: each row of YtlbnafnbjgageaaGreatDoorRows.lean that lists a variable, with what it lists TIED to the program's text (the seventh form; the later family's looks); each row that meets fmt, with fmt's text TOLD by the authors' own Lean function (tested against real Go, not proved from fmt's source: count such statements apart). THE CARD IS WHAT COUNTS. Prove the row's statement (the work); the ties are given (YtlbnafnbjgageaaGreatDoorTie.lean); close each card by the builder's one call (the guide's Derived/Test/ToyasCard.lean, 'card_holds'). Laid BY PROGRAM, IN A SANDBOX (cutbox-door.mjs). By AI agents, Wed Nov 11 2026. No macro, syntax, notation, axiom, sorry.
-/
import Derived.Test.YtlbnafnbjgageaaGreatDoorRows
import GoSem.ClaimSeven
namespace Go.Proofs.YtlbnafnbjgageaaGreatDoor
namespace Rows

/-- THE TIED CARD OF 'leaflaw3.LogKeeps'. -/
def logKeepsCard : Claim7 := { stood := { row := logKeepsRow, standIns := [], harness := (true, "77419c26bd97fdb75ab1a411873721c0ea2d3d48e3cbad74b21a1b1a5873eb73"), looks := true }, kinds := [], alts := [], laidByText := true, laidKinds := [.handle], laidTests := true, laidLooks := .later }
def LogKeepsCardSaid : Prop := Claim7.holds Tryz.pinned (.plain (OpenSpec.ofChange logKeepsSpec)) logKeepsCard

/-- THE TIED CARD OF 'leaflaw3.BackTells'. -/
def backTellsCard : Claim7 := { stood := { row := backTellsRow, standIns := [], harness := (true, "77419c26bd97fdb75ab1a411873721c0ea2d3d48e3cbad74b21a1b1a5873eb73"), looks := true }, kinds := [], alts := [], laidByText := true, laidKinds := [.handle], laidTests := true, laidLooks := .later }
def BackTellsCardSaid : Prop := Claim7.holds Tryz.pinned (.plain (OpenSpec.ofChange backTellsSpec)) backTellsCard

/-- THE TIED CARD OF 'leaflaw2.SyncTells'. -/
def syncTellsCard : Claim7 := { stood := { row := syncTellsRow, standIns := [], harness := (true, "77419c26bd97fdb75ab1a411873721c0ea2d3d48e3cbad74b21a1b1a5873eb73"), looks := true }, kinds := [], alts := [], laidByText := true, laidKinds := [.handle], laidTests := true, laidLooks := .later }
def SyncTellsCardSaid : Prop := Claim7.holds Tryz.pinned (.plain (OpenSpec.ofChange syncTellsSpec)) syncTellsCard

/-- THE TIED CARD OF 'leaflaw4.BackAll'. -/
def backAllCard : Claim7 := { stood := { row := backAllRow, standIns := [], harness := (true, "77419c26bd97fdb75ab1a411873721c0ea2d3d48e3cbad74b21a1b1a5873eb73"), looks := true }, kinds := [], alts := [], laidByText := true, laidKinds := [.handle], laidTests := true, laidLooks := .later }
def BackAllCardSaid : Prop := Claim7.holds Tryz.pinned (.plain (OpenSpec.ofChange backAllSpec)) backAllCard

/-- THE TIED CARD OF 'leaflaw1.DotTells'. -/
def dotTellsCard : Claim7 := { stood := { row := dotTellsRow, standIns := [], harness := (true, "77419c26bd97fdb75ab1a411873721c0ea2d3d48e3cbad74b21a1b1a5873eb73"), looks := true }, kinds := [], alts := [], laidByText := true, laidKinds := [.data, .data, .data, .data, .handle, .sentinel, .sentinel, .pinned], laidTests := true, laidLooks := .later }
def DotTellsCardSaid : Prop := Claim7.holds Tryz.pinned (.plain (OpenSpec.ofChange dotTellsSpec)) dotTellsCard

/-- THE TIED CARD OF 'leaflaw3.FindTells'. -/
def findTellsCard : Claim7 := { stood := { row := findTellsRow, standIns := [], harness := (true, "77419c26bd97fdb75ab1a411873721c0ea2d3d48e3cbad74b21a1b1a5873eb73"), looks := true }, kinds := [], alts := [], laidByText := true, laidKinds := [.handle], laidTests := true, laidLooks := .later }
def FindTellsCardSaid : Prop := Claim7.holds Tryz.pinned (.plain (OpenSpec.ofChange findTellsSpec)) findTellsCard

/-- THE TIED CARD OF 'leaflaw2.CausalPlays'. -/
def causalPlaysCard : Claim7 := { stood := { row := causalPlaysRow, standIns := [], harness := (true, "77419c26bd97fdb75ab1a411873721c0ea2d3d48e3cbad74b21a1b1a5873eb73"), looks := true }, kinds := [], alts := [], laidByText := true, laidKinds := [.handle], laidTests := true, laidLooks := .later }
def CausalPlaysCardSaid : Prop := Claim7.holds Tryz.pinned (.plain (OpenSpec.ofChange causalPlaysSpec)) causalPlaysCard

/-- THE TIED CARD OF 'leaflaw2.CausalMeets'. -/
def causalMeetsCard : Claim7 := { stood := { row := causalMeetsRow, standIns := [], harness := (true, "77419c26bd97fdb75ab1a411873721c0ea2d3d48e3cbad74b21a1b1a5873eb73"), looks := true }, kinds := [], alts := [], laidByText := true, laidKinds := [.handle], laidTests := true, laidLooks := .later }
def CausalMeetsCardSaid : Prop := Claim7.holds Tryz.pinned (.plain (OpenSpec.ofChange causalMeetsSpec)) causalMeetsCard

/-- THE TIED CARD OF 'leaflaw3.NetMeets'. -/
def netMeetsCard : Claim7 := { stood := { row := netMeetsRow, standIns := [], harness := (true, "77419c26bd97fdb75ab1a411873721c0ea2d3d48e3cbad74b21a1b1a5873eb73"), looks := true }, kinds := [], alts := [], laidByText := true, laidKinds := [.handle], laidTests := true, laidLooks := .later }
def NetMeetsCardSaid : Prop := Claim7.holds Tryz.pinned (.plain (OpenSpec.ofChange netMeetsSpec)) netMeetsCard

/-- THE TIED CARD OF 'leaflaw4.NetTypes'. -/
def netTypesCard : Claim7 := { stood := { row := netTypesRow, standIns := [], harness := (true, "77419c26bd97fdb75ab1a411873721c0ea2d3d48e3cbad74b21a1b1a5873eb73"), looks := true }, kinds := [], alts := [], laidByText := true, laidKinds := [.handle], laidTests := true, laidLooks := .later }
def NetTypesCardSaid : Prop := Claim7.holds Tryz.pinned (.plain (OpenSpec.ofChange netTypesSpec)) netTypesCard

/-- THE TIED CARD OF 'leaflaw3.NetPlays'. -/
def netPlaysCard : Claim7 := { stood := { row := netPlaysRow, standIns := [], harness := (true, "77419c26bd97fdb75ab1a411873721c0ea2d3d48e3cbad74b21a1b1a5873eb73"), looks := true }, kinds := [], alts := [], laidByText := true, laidKinds := [.handle], laidTests := true, laidLooks := .later }
def NetPlaysCardSaid : Prop := Claim7.holds Tryz.pinned (.plain (OpenSpec.ofChange netPlaysSpec)) netPlaysCard

/-- THE TIED CARD OF 'leaflaw3.RunAnswers'. -/
def runAnswersCard : Claim7 := { stood := { row := runAnswersRow, standIns := [], harness := (true, "77419c26bd97fdb75ab1a411873721c0ea2d3d48e3cbad74b21a1b1a5873eb73"), looks := true }, kinds := [], alts := [], laidByText := true, laidKinds := [.data, .data, .data, .handle, .sentinel, .sentinel, .wider], laidTests := true, laidLooks := .later }
def RunAnswersCardSaid : Prop := Claim7.holds Tryz.pinned (.plain (OpenSpec.ofChange runAnswersSpec)) runAnswersCard

/-- THE TIED CARD OF 'leaflaw3.RunBegins'. -/
def runBeginsCard : Claim7 := { stood := { row := runBeginsRow, standIns := [], harness := (true, "77419c26bd97fdb75ab1a411873721c0ea2d3d48e3cbad74b21a1b1a5873eb73"), looks := true }, kinds := [], alts := [], laidByText := true, laidKinds := [.data, .data, .data, .handle, .sentinel, .sentinel, .wider], laidTests := true, laidLooks := .later }
def RunBeginsCardSaid : Prop := Claim7.holds Tryz.pinned (.plain (OpenSpec.ofChange runBeginsSpec)) runBeginsCard

/-- THE TIED CARD OF 'leaflaw3.RunTypes'. -/
def runTypesCard : Claim7 := { stood := { row := runTypesRow, standIns := [], harness := (true, "77419c26bd97fdb75ab1a411873721c0ea2d3d48e3cbad74b21a1b1a5873eb73"), looks := true }, kinds := [], alts := [], laidByText := true, laidKinds := [.data, .data, .data, .handle, .sentinel, .sentinel, .wider], laidTests := true, laidLooks := .later }
def RunTypesCardSaid : Prop := Claim7.holds Tryz.pinned (.plain (OpenSpec.ofChange runTypesSpec)) runTypesCard

/-- THE TIED CARD OF 'leaftop.TopTogether'. -/
def topTogetherCard : Claim7 := { stood := { row := topTogetherRow, standIns := [], harness := (true, "77419c26bd97fdb75ab1a411873721c0ea2d3d48e3cbad74b21a1b1a5873eb73"), looks := true }, kinds := [], alts := [], laidByText := true, laidKinds := [.handle], laidTests := true, laidLooks := .later }
def TopTogetherCardSaid : Prop := Claim7.holds Tryz.pinned (.plain (OpenSpec.ofChange topTogetherSpec)) topTogetherCard

/-- THE SECOND FORM's CARD OF 'leaflaw3.LogKeeps'. -/
def logKeepsUptoCard : Claim7 := { stood := { row := logKeepsUptoRow, standIns := [], harness := (true, "77419c26bd97fdb75ab1a411873721c0ea2d3d48e3cbad74b21a1b1a5873eb73"), looks := true }, kinds := [], alts := [], laidByText := true, laidKinds := [.handle], laidTests := true, laidLooks := .later }
def LogKeepsUptoCardSaid : Prop := Claim7.holds Tryz.pinned (.plain (OpenSpec.upto logKeepsSpec)) logKeepsUptoCard

/-- THE SECOND FORM's CARD OF 'leaflaw3.BackTells'. -/
def backTellsUptoCard : Claim7 := { stood := { row := backTellsUptoRow, standIns := [], harness := (true, "77419c26bd97fdb75ab1a411873721c0ea2d3d48e3cbad74b21a1b1a5873eb73"), looks := true }, kinds := [], alts := [], laidByText := true, laidKinds := [.handle], laidTests := true, laidLooks := .later }
def BackTellsUptoCardSaid : Prop := Claim7.holds Tryz.pinned (.plain (OpenSpec.upto backTellsSpec)) backTellsUptoCard

/-- THE SECOND FORM's CARD OF 'leaflaw2.SyncTells'. -/
def syncTellsUptoCard : Claim7 := { stood := { row := syncTellsUptoRow, standIns := [], harness := (true, "77419c26bd97fdb75ab1a411873721c0ea2d3d48e3cbad74b21a1b1a5873eb73"), looks := true }, kinds := [], alts := [], laidByText := true, laidKinds := [.handle], laidTests := true, laidLooks := .later }
def SyncTellsUptoCardSaid : Prop := Claim7.holds Tryz.pinned (.plain (OpenSpec.upto syncTellsSpec)) syncTellsUptoCard

/-- THE SECOND FORM's CARD OF 'leaflaw4.BackAll'. -/
def backAllUptoCard : Claim7 := { stood := { row := backAllUptoRow, standIns := [], harness := (true, "77419c26bd97fdb75ab1a411873721c0ea2d3d48e3cbad74b21a1b1a5873eb73"), looks := true }, kinds := [], alts := [], laidByText := true, laidKinds := [.handle], laidTests := true, laidLooks := .later }
def BackAllUptoCardSaid : Prop := Claim7.holds Tryz.pinned (.plain (OpenSpec.upto backAllSpec)) backAllUptoCard

/-- THE SECOND FORM's CARD OF 'leaflaw1.DotTells'. -/
def dotTellsUptoCard : Claim7 := { stood := { row := dotTellsUptoRow, standIns := [], harness := (true, "77419c26bd97fdb75ab1a411873721c0ea2d3d48e3cbad74b21a1b1a5873eb73"), looks := true }, kinds := [], alts := [], laidByText := true, laidKinds := [.data, .data, .data, .data, .handle, .sentinel, .sentinel, .pinned], laidTests := true, laidLooks := .later }
def DotTellsUptoCardSaid : Prop := Claim7.holds Tryz.pinned (.plain (OpenSpec.upto dotTellsSpec)) dotTellsUptoCard

/-- THE SECOND FORM's CARD OF 'leaflaw3.FindTells'. -/
def findTellsUptoCard : Claim7 := { stood := { row := findTellsUptoRow, standIns := [], harness := (true, "77419c26bd97fdb75ab1a411873721c0ea2d3d48e3cbad74b21a1b1a5873eb73"), looks := true }, kinds := [], alts := [], laidByText := true, laidKinds := [.handle], laidTests := true, laidLooks := .later }
def FindTellsUptoCardSaid : Prop := Claim7.holds Tryz.pinned (.plain (OpenSpec.upto findTellsSpec)) findTellsUptoCard

/-- THE SECOND FORM's CARD OF 'leaflaw2.CausalPlays'. -/
def causalPlaysUptoCard : Claim7 := { stood := { row := causalPlaysUptoRow, standIns := [], harness := (true, "77419c26bd97fdb75ab1a411873721c0ea2d3d48e3cbad74b21a1b1a5873eb73"), looks := true }, kinds := [], alts := [], laidByText := true, laidKinds := [.handle], laidTests := true, laidLooks := .later }
def CausalPlaysUptoCardSaid : Prop := Claim7.holds Tryz.pinned (.plain (OpenSpec.upto causalPlaysSpec)) causalPlaysUptoCard

/-- THE SECOND FORM's CARD OF 'leaflaw2.CausalMeets'. -/
def causalMeetsUptoCard : Claim7 := { stood := { row := causalMeetsUptoRow, standIns := [], harness := (true, "77419c26bd97fdb75ab1a411873721c0ea2d3d48e3cbad74b21a1b1a5873eb73"), looks := true }, kinds := [], alts := [], laidByText := true, laidKinds := [.handle], laidTests := true, laidLooks := .later }
def CausalMeetsUptoCardSaid : Prop := Claim7.holds Tryz.pinned (.plain (OpenSpec.upto causalMeetsSpec)) causalMeetsUptoCard

/-- THE SECOND FORM's CARD OF 'leaflaw3.NetMeets'. -/
def netMeetsUptoCard : Claim7 := { stood := { row := netMeetsUptoRow, standIns := [], harness := (true, "77419c26bd97fdb75ab1a411873721c0ea2d3d48e3cbad74b21a1b1a5873eb73"), looks := true }, kinds := [], alts := [], laidByText := true, laidKinds := [.handle], laidTests := true, laidLooks := .later }
def NetMeetsUptoCardSaid : Prop := Claim7.holds Tryz.pinned (.plain (OpenSpec.upto netMeetsSpec)) netMeetsUptoCard

/-- THE SECOND FORM's CARD OF 'leaflaw4.NetTypes'. -/
def netTypesUptoCard : Claim7 := { stood := { row := netTypesUptoRow, standIns := [], harness := (true, "77419c26bd97fdb75ab1a411873721c0ea2d3d48e3cbad74b21a1b1a5873eb73"), looks := true }, kinds := [], alts := [], laidByText := true, laidKinds := [.handle], laidTests := true, laidLooks := .later }
def NetTypesUptoCardSaid : Prop := Claim7.holds Tryz.pinned (.plain (OpenSpec.upto netTypesSpec)) netTypesUptoCard

/-- THE SECOND FORM's CARD OF 'leaflaw3.NetPlays'. -/
def netPlaysUptoCard : Claim7 := { stood := { row := netPlaysUptoRow, standIns := [], harness := (true, "77419c26bd97fdb75ab1a411873721c0ea2d3d48e3cbad74b21a1b1a5873eb73"), looks := true }, kinds := [], alts := [], laidByText := true, laidKinds := [.handle], laidTests := true, laidLooks := .later }
def NetPlaysUptoCardSaid : Prop := Claim7.holds Tryz.pinned (.plain (OpenSpec.upto netPlaysSpec)) netPlaysUptoCard

/-- THE SECOND FORM's CARD OF 'leaflaw3.RunAnswers'. -/
def runAnswersUptoCard : Claim7 := { stood := { row := runAnswersUptoRow, standIns := [], harness := (true, "77419c26bd97fdb75ab1a411873721c0ea2d3d48e3cbad74b21a1b1a5873eb73"), looks := true }, kinds := [], alts := [], laidByText := true, laidKinds := [.data, .data, .data, .handle, .sentinel, .sentinel, .wider], laidTests := true, laidLooks := .later }
def RunAnswersUptoCardSaid : Prop := Claim7.holds Tryz.pinned (.plain (OpenSpec.upto runAnswersSpec)) runAnswersUptoCard

/-- THE SECOND FORM's CARD OF 'leaflaw3.RunBegins'. -/
def runBeginsUptoCard : Claim7 := { stood := { row := runBeginsUptoRow, standIns := [], harness := (true, "77419c26bd97fdb75ab1a411873721c0ea2d3d48e3cbad74b21a1b1a5873eb73"), looks := true }, kinds := [], alts := [], laidByText := true, laidKinds := [.data, .data, .data, .handle, .sentinel, .sentinel, .wider], laidTests := true, laidLooks := .later }
def RunBeginsUptoCardSaid : Prop := Claim7.holds Tryz.pinned (.plain (OpenSpec.upto runBeginsSpec)) runBeginsUptoCard

/-- THE SECOND FORM's CARD OF 'leaflaw3.RunTypes'. -/
def runTypesUptoCard : Claim7 := { stood := { row := runTypesUptoRow, standIns := [], harness := (true, "77419c26bd97fdb75ab1a411873721c0ea2d3d48e3cbad74b21a1b1a5873eb73"), looks := true }, kinds := [], alts := [], laidByText := true, laidKinds := [.data, .data, .data, .handle, .sentinel, .sentinel, .wider], laidTests := true, laidLooks := .later }
def RunTypesUptoCardSaid : Prop := Claim7.holds Tryz.pinned (.plain (OpenSpec.upto runTypesSpec)) runTypesUptoCard

/-- THE SECOND FORM's CARD OF 'leaftop.TopTogether'. -/
def topTogetherUptoCard : Claim7 := { stood := { row := topTogetherUptoRow, standIns := [], harness := (true, "77419c26bd97fdb75ab1a411873721c0ea2d3d48e3cbad74b21a1b1a5873eb73"), looks := true }, kinds := [], alts := [], laidByText := true, laidKinds := [.handle], laidTests := true, laidLooks := .later }
def TopTogetherUptoCardSaid : Prop := Claim7.holds Tryz.pinned (.plain (OpenSpec.upto topTogetherSpec)) topTogetherUptoCard
end Rows
end Go.Proofs.YtlbnafnbjgageaaGreatDoor
