/-
  DERIVED. GIVEN WITH THE SEED: THE CARDS: each row of YtngggnjnenfgbaaDoorRows.lean that lists a variable, with what it lists TIED to the program's text (the seventh form; the later family's looks); each row that meets fmt, with fmt's text TOLD by the authors' own Lean function (tested against real Go, not proved from fmt's source: count such statements apart). THE CARD IS WHAT COUNTS. Prove the row's statement (the work); the ties are given (YtngggnjnenfgbaaDoorTie.lean); close each card by the builder's one call (the guide's Derived/Test/ToyasCard.lean, 'card_holds'). Laid BY PROGRAM, IN A SANDBOX (cutbox-door.mjs). By AI agents, Wed Nov 11 2026. No macro, syntax, notation, axiom, sorry.
-/
import Derived.Test.YtngggnjnenfgbaaDoorRows
import GoSem.ClaimSeven
namespace Go.Proofs.YtngggnjnenfgbaaDoor
namespace Rows

/-- THE TIED CARD OF 'laws.FnExactReadCost'. -/
def fnExactReadCostCard : Claim7 := { stood := { row := fnExactReadCostRow, standIns := [], harness := (true, "e40654b87a92a4c0a84f9a11bb78f7db20a3945abdf8cf5f82cec746bdf8bf37"), looks := false }, kinds := [], alts := [], laidByText := true, laidKinds := [.data, .data, .data], laidTests := true, laidLooks := .later }
def FnExactReadCostCardSaid : Prop := Claim7.holds Tryd.pinned (.plain (OpenSpec.ofChange fnExactReadCostSpec)) fnExactReadCostCard

/-- THE SECOND FORM's CARD OF 'laws.FnExactReadCost'. -/
def fnExactReadCostUptoCard : Claim7 := { stood := { row := fnExactReadCostUptoRow, standIns := [], harness := (true, "e40654b87a92a4c0a84f9a11bb78f7db20a3945abdf8cf5f82cec746bdf8bf37"), looks := false }, kinds := [], alts := [], laidByText := true, laidKinds := [.data, .data, .data], laidTests := true, laidLooks := .later }
def FnExactReadCostUptoCardSaid : Prop := Claim7.holds Tryd.pinned (.plain (OpenSpec.upto fnExactReadCostSpec)) fnExactReadCostUptoCard
end Rows
end Go.Proofs.YtngggnjnenfgbaaDoor
