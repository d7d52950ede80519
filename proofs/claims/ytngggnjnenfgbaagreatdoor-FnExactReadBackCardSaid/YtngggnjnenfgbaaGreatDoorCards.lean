/-
  DERIVED. GIVEN WITH THE SEED: THE CARDS: each row of YtngggnjnenfgbaaGreatDoorRows.lean that lists a variable, with what it lists TIED to the program's text (the seventh form; the later family's looks); each row that meets fmt, with fmt's text TOLD by the authors' own Lean function (tested against real Go, not proved from fmt's source: count such statements apart). THE CARD IS WHAT COUNTS. Prove the row's statement (the work); the ties are given (YtngggnjnenfgbaaGreatDoorTie.lean); close each card by the builder's one call (the guide's Derived/Test/ToyasCard.lean, 'card_holds'). Laid BY PROGRAM, IN A SANDBOX (cutbox-door.mjs). By AI agents, Wed Nov 11 2026. No macro, syntax, notation, axiom, sorry.
-/
import Derived.Test.YtngggnjnenfgbaaGreatDoorRows
import GoSem.ClaimSeven
namespace Go.Proofs.YtngggnjnenfgbaaGreatDoor
namespace Rows

/-- THE TIED CARD OF 'laws.FnExactReadOrigins'. -/
def fnExactReadOriginsCard : Claim7 := { stood := { row := fnExactReadOriginsRow, standIns := [], harness := (true, "dc161d386cc6954d56ed14786d5d9191bd1e1af4332ce236ec48314a7c8af4b6"), looks := false }, kinds := [], alts := [], laidByText := true, laidKinds := [.data, .data, .data], laidTests := true, laidLooks := .later }
def FnExactReadOriginsCardSaid : Prop := Claim7.holds Tryz.pinned (.plain (OpenSpec.ofChange fnExactReadOriginsSpec)) fnExactReadOriginsCard

/-- THE TIED CARD OF 'laws.FnExactSharedAgents'. -/
def fnExactSharedAgentsCard : Claim7 := { stood := { row := fnExactSharedAgentsRow, standIns := [], harness := (true, "dc161d386cc6954d56ed14786d5d9191bd1e1af4332ce236ec48314a7c8af4b6"), looks := false }, kinds := [], alts := [], laidByText := true, laidKinds := [.data, .data, .data], laidTests := true, laidLooks := .later }
def FnExactSharedAgentsCardSaid : Prop := Claim7.holds Tryz.pinned (.plain (OpenSpec.ofChange fnExactSharedAgentsSpec)) fnExactSharedAgentsCard

/-- THE TIED CARD OF 'laws.FnExactReadBack'. -/
def fnExactReadBackCard : Claim7 := { stood := { row := fnExactReadBackRow, standIns := [], harness := (true, "dc161d386cc6954d56ed14786d5d9191bd1e1af4332ce236ec48314a7c8af4b6"), looks := false }, kinds := [], alts := [], laidByText := true, laidKinds := [.data, .data, .data], laidTests := true, laidLooks := .later }
def FnExactReadBackCardSaid : Prop := Claim7.holds Tryz.pinned (.plain (OpenSpec.ofChange fnExactReadBackSpec)) fnExactReadBackCard

/-- THE TIED CARD OF 'laws.FnExactFamilyOf'. -/
def fnExactFamilyOfCard : Claim7 := { stood := { row := fnExactFamilyOfRow, standIns := [], harness := (true, "dc161d386cc6954d56ed14786d5d9191bd1e1af4332ce236ec48314a7c8af4b6"), looks := false }, kinds := [], alts := [], laidByText := true, laidKinds := [.data, .data, .data], laidTests := true, laidLooks := .later }
def FnExactFamilyOfCardSaid : Prop := Claim7.holds Tryz.pinned (.plain (OpenSpec.ofChange fnExactFamilyOfSpec)) fnExactFamilyOfCard

/-- THE SECOND FORM's CARD OF 'laws.FnExactReadOrigins'. -/
def fnExactReadOriginsUptoCard : Claim7 := { stood := { row := fnExactReadOriginsUptoRow, standIns := [], harness := (true, "dc161d386cc6954d56ed14786d5d9191bd1e1af4332ce236ec48314a7c8af4b6"), looks := false }, kinds := [], alts := [], laidByText := true, laidKinds := [.data, .data, .data], laidTests := true, laidLooks := .later }
def FnExactReadOriginsUptoCardSaid : Prop := Claim7.holds Tryz.pinned (.plain (OpenSpec.upto fnExactReadOriginsSpec)) fnExactReadOriginsUptoCard

/-- THE SECOND FORM's CARD OF 'laws.FnExactSharedAgents'. -/
def fnExactSharedAgentsUptoCard : Claim7 := { stood := { row := fnExactSharedAgentsUptoRow, standIns := [], harness := (true, "dc161d386cc6954d56ed14786d5d9191bd1e1af4332ce236ec48314a7c8af4b6"), looks := false }, kinds := [], alts := [], laidByText := true, laidKinds := [.data, .data, .data], laidTests := true, laidLooks := .later }
def FnExactSharedAgentsUptoCardSaid : Prop := Claim7.holds Tryz.pinned (.plain (OpenSpec.upto fnExactSharedAgentsSpec)) fnExactSharedAgentsUptoCard

/-- THE SECOND FORM's CARD OF 'laws.FnExactReadBack'. -/
def fnExactReadBackUptoCard : Claim7 := { stood := { row := fnExactReadBackUptoRow, standIns := [], harness := (true, "dc161d386cc6954d56ed14786d5d9191bd1e1af4332ce236ec48314a7c8af4b6"), looks := false }, kinds := [], alts := [], laidByText := true, laidKinds := [.data, .data, .data], laidTests := true, laidLooks := .later }
def FnExactReadBackUptoCardSaid : Prop := Claim7.holds Tryz.pinned (.plain (OpenSpec.upto fnExactReadBackSpec)) fnExactReadBackUptoCard

/-- THE SECOND FORM's CARD OF 'laws.FnExactFamilyOf'. -/
def fnExactFamilyOfUptoCard : Claim7 := { stood := { row := fnExactFamilyOfUptoRow, standIns := [], harness := (true, "dc161d386cc6954d56ed14786d5d9191bd1e1af4332ce236ec48314a7c8af4b6"), looks := false }, kinds := [], alts := [], laidByText := true, laidKinds := [.data, .data, .data], laidTests := true, laidLooks := .later }
def FnExactFamilyOfUptoCardSaid : Prop := Claim7.holds Tryz.pinned (.plain (OpenSpec.upto fnExactFamilyOfSpec)) fnExactFamilyOfUptoCard
end Rows
end Go.Proofs.YtngggnjnenfgbaaGreatDoor
