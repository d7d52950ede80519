/-
  No cell of these rows narrows 'for every input' (looked for: loops, veiled, ifaces, maps, wideKeys, modest, calm, conditions, laid).
  DERIVED. THE GIVEN ROWS OF THIS SEAT. 7 by the template 'for every input the law returns true; each argument reads behind the call as it read before'; 0 by the template 'total and deterministic' (their statements: YtomgmnacnchbeaaTotals.lean).
  GIVEN WITH THE SEED: the statements are not yours to turn. If you find one false, say at which input.
  Laid BY PROGRAM, IN A SANDBOX (cutbox-rows.mjs): the forced cells as the released guide's own fill.sh prints them over the translation 002e23a25b1ed8f6… (all of the seat's roots in one cut). By AI agents, Wed Nov 11 2026. No macro, syntax, notation, axiom, sorry.
-/
import Derived.Test.YtomgmnacnchbeaaChecked
import GoSem.Claim
import GoSem.ClaimJoined
import GoSem.ClaimMapViews
import Derived.JoinedTies
import Derived.KernelRfl
namespace Go.Proofs.Ytomgmnacnchbeaa
/- THE CELL 'sum', in the pinned program and in every row, IS THE sha256 OF THE DUMP (.gsa) THAT YtomgmnacnchbeaaProg.lean LOADS. Nothing in Lean hashes anything: it is a label: what it is worth is what the hold of that sum in a sandbox is worth. -/
noncomputable def Try.pinned : Pinned := { name := "ytomgmnacnchbeaa", sum := "002e23a25b1ed8f69fdf50926ca256283286dda9ba99e21217113ccd00178800", checked := Try.checked }
namespace Rows
def none {H : Type} : Left H := { results := [], args := [] }

/-- 'laws.FnExactCellsFor': WHATEVER THE INPUT: true; the input reads as it did. -/
def fnExactCellsForSpec : ChangeSpec := { name := "fnExactCellsFor", fn := fun _ => fun
  | [d] => { results := [.lit (.bool true)], args := [d] }
  | _ => none }
def fnExactCellsForRow : OpenClaim := { program := "ytomgmnacnchbeaa", sum := "002e23a25b1ed8f69fdf50926ca256283286dda9ba99e21217113ccd00178800", func := "loop.example/g01074/laws.FnExactCellsFor", spec := "fnExactCellsFor", unfollowed := true, recurses := true, plainKeys := false, apart := false }
def FnExactCellsForSaid : Prop := fnExactCellsForRow.holds Try.pinned (OpenSpec.ofChange fnExactCellsForSpec)

/-- ITS FALSE NEIGHBOUR: 'it returns false'. Refute it at one input. -/
def fnExactCellsForWrong : ChangeSpec := { name := "fnExactCellsFor", fn := fun _ => fun
  | [d] => { results := [.lit (.bool false)], args := [d] }
  | _ => none }
def FnExactCellsForWrongFalsely : Prop := fnExactCellsForRow.holds Try.pinned (OpenSpec.ofChange fnExactCellsForWrong)

/-- 'laws.FnExactExchangePorts': WHATEVER THE INPUT: true; the input reads as it did. -/
def fnExactExchangePortsSpec : ChangeSpec := { name := "fnExactExchangePorts", fn := fun _ => fun
  | [d1, d2, d3] => { results := [.lit (.bool true)], args := [d1, d2, d3] }
  | _ => none }
def fnExactExchangePortsRow : OpenClaim := { program := "ytomgmnacnchbeaa", sum := "002e23a25b1ed8f69fdf50926ca256283286dda9ba99e21217113ccd00178800", func := "loop.example/g01074/laws.FnExactExchangePorts", spec := "fnExactExchangePorts", unfollowed := true, recurses := true, plainKeys := false, apart := false }
def FnExactExchangePortsSaid : Prop := fnExactExchangePortsRow.holds Try.pinned (OpenSpec.ofChange fnExactExchangePortsSpec)

/-- ITS FALSE NEIGHBOUR: 'it returns false'. Refute it at one input. -/
def fnExactExchangePortsWrong : ChangeSpec := { name := "fnExactExchangePorts", fn := fun _ => fun
  | [d1, d2, d3] => { results := [.lit (.bool false)], args := [d1, d2, d3] }
  | _ => none }
def FnExactExchangePortsWrongFalsely : Prop := fnExactExchangePortsRow.holds Try.pinned (OpenSpec.ofChange fnExactExchangePortsWrong)

/-- 'laws.FnExactFromWires': WHATEVER THE INPUT: true; the input reads as it did. -/
def fnExactFromWiresSpec : ChangeSpec := { name := "fnExactFromWires", fn := fun _ => fun
  | [d1, d2] => { results := [.lit (.bool true)], args := [d1, d2] }
  | _ => none }
def fnExactFromWiresRow : OpenClaim := { program := "ytomgmnacnchbeaa", sum := "002e23a25b1ed8f69fdf50926ca256283286dda9ba99e21217113ccd00178800", func := "loop.example/g01074/laws.FnExactFromWires", spec := "fnExactFromWires", unfollowed := true, recurses := true, plainKeys := false, apart := false }
def FnExactFromWiresSaid : Prop := fnExactFromWiresRow.holds Try.pinned (OpenSpec.ofChange fnExactFromWiresSpec)

/-- ITS FALSE NEIGHBOUR: 'it returns false'. Refute it at one input. -/
def fnExactFromWiresWrong : ChangeSpec := { name := "fnExactFromWires", fn := fun _ => fun
  | [d1, d2] => { results := [.lit (.bool false)], args := [d1, d2] }
  | _ => none }
def FnExactFromWiresWrongFalsely : Prop := fnExactFromWiresRow.holds Try.pinned (OpenSpec.ofChange fnExactFromWiresWrong)

/-- 'laws.FnExactValidGrid': WHATEVER THE INPUT: true; the input reads as it did. -/
def fnExactValidGridSpec : ChangeSpec := { name := "fnExactValidGrid", fn := fun _ => fun
  | [d] => { results := [.lit (.bool true)], args := [d] }
  | _ => none }
def fnExactValidGridRow : OpenClaim := { program := "ytomgmnacnchbeaa", sum := "002e23a25b1ed8f69fdf50926ca256283286dda9ba99e21217113ccd00178800", func := "loop.example/g01074/laws.FnExactValidGrid", spec := "fnExactValidGrid", unfollowed := true, recurses := true, plainKeys := false, apart := false }
def FnExactValidGridSaid : Prop := fnExactValidGridRow.holds Try.pinned (OpenSpec.ofChange fnExactValidGridSpec)

/-- ITS FALSE NEIGHBOUR: 'it returns false'. Refute it at one input. -/
def fnExactValidGridWrong : ChangeSpec := { name := "fnExactValidGrid", fn := fun _ => fun
  | [d] => { results := [.lit (.bool false)], args := [d] }
  | _ => none }
def FnExactValidGridWrongFalsely : Prop := fnExactValidGridRow.holds Try.pinned (OpenSpec.ofChange fnExactValidGridWrong)

/-- 'laws.FnExactRedexClass': WHATEVER THE INPUT: true; the input reads as it did. -/
def fnExactRedexClassSpec : ChangeSpec := { name := "fnExactRedexClass", fn := fun _ => fun
  | [d1, d2] => { results := [.lit (.bool true)], args := [d1, d2] }
  | _ => none }
def fnExactRedexClassRow : OpenClaim := { program := "ytomgmnacnchbeaa", sum := "002e23a25b1ed8f69fdf50926ca256283286dda9ba99e21217113ccd00178800", func := "loop.example/g01074/laws.FnExactRedexClass", spec := "fnExactRedexClass", unfollowed := true, recurses := true, plainKeys := false, apart := false }
def FnExactRedexClassSaid : Prop := fnExactRedexClassRow.holds Try.pinned (OpenSpec.ofChange fnExactRedexClassSpec)

/-- ITS FALSE NEIGHBOUR: 'it returns false'. Refute it at one input. -/
def fnExactRedexClassWrong : ChangeSpec := { name := "fnExactRedexClass", fn := fun _ => fun
  | [d1, d2] => { results := [.lit (.bool false)], args := [d1, d2] }
  | _ => none }
def FnExactRedexClassWrongFalsely : Prop := fnExactRedexClassRow.holds Try.pinned (OpenSpec.ofChange fnExactRedexClassWrong)

/-- 'laws.FnExactTidyMemory': WHATEVER THE INPUT: true; the input reads as it did. -/
def fnExactTidyMemorySpec : ChangeSpec := { name := "fnExactTidyMemory", fn := fun _ => fun
  | [d] => { results := [.lit (.bool true)], args := [d] }
  | _ => none }
def fnExactTidyMemoryRow : OpenClaim := { program := "ytomgmnacnchbeaa", sum := "002e23a25b1ed8f69fdf50926ca256283286dda9ba99e21217113ccd00178800", func := "loop.example/g01074/laws.FnExactTidyMemory", spec := "fnExactTidyMemory", unfollowed := true, recurses := true, plainKeys := false, apart := false }
def FnExactTidyMemorySaid : Prop := fnExactTidyMemoryRow.holds Try.pinned (OpenSpec.ofChange fnExactTidyMemorySpec)

/-- ITS FALSE NEIGHBOUR: 'it returns false'. Refute it at one input. -/
def fnExactTidyMemoryWrong : ChangeSpec := { name := "fnExactTidyMemory", fn := fun _ => fun
  | [d] => { results := [.lit (.bool false)], args := [d] }
  | _ => none }
def FnExactTidyMemoryWrongFalsely : Prop := fnExactTidyMemoryRow.holds Try.pinned (OpenSpec.ofChange fnExactTidyMemoryWrong)

/-- 'laws.FnExactLoadNet': WHATEVER THE INPUT: true; the input reads as it did. -/
def fnExactLoadNetSpec : ChangeSpec := { name := "fnExactLoadNet", fn := fun _ => fun
  | [d1, d2] => { results := [.lit (.bool true)], args := [d1, d2] }
  | _ => none }
def fnExactLoadNetRow : OpenClaim := { program := "ytomgmnacnchbeaa", sum := "002e23a25b1ed8f69fdf50926ca256283286dda9ba99e21217113ccd00178800", func := "loop.example/g01074/laws.FnExactLoadNet", spec := "fnExactLoadNet", unfollowed := true, recurses := true, plainKeys := false, apart := false }
def FnExactLoadNetSaid : Prop := fnExactLoadNetRow.holds Try.pinned (OpenSpec.ofChange fnExactLoadNetSpec)

/-- ITS FALSE NEIGHBOUR: 'it returns false'. Refute it at one input. -/
def fnExactLoadNetWrong : ChangeSpec := { name := "fnExactLoadNet", fn := fun _ => fun
  | [d1, d2] => { results := [.lit (.bool false)], args := [d1, d2] }
  | _ => none }
def FnExactLoadNetWrongFalsely : Prop := fnExactLoadNetRow.holds Try.pinned (OpenSpec.ofChange fnExactLoadNetWrong)

/- THE SECOND FORM. 'bulk': how many values and letters a reading holds, each counted each time it is reached (what is shared counts as often as it is met; a slice's spare places count too). A statement '..UptoSaid' is the law's where the arguments, and the package variables that the reading takes, are together of bulk at most 1048576: NARROWER than '..Said'. Prove '..Said' where nothing that the law and all that it calls make is longer than what came in: it says more and counts as full. Else prove '..UptoSaid'. A law counts once. -/
mutual
def uptoBulk {H : Type} : DataW H → Nat
  | .lit (.string bytes) => bytes.length + 1
  | .lit _ => 1
  | .nil => 1
  | .ptr d => uptoBulk d + 1
  | .slice elems spare => uptoBulkAll elems + uptoBulkAll spare + 1
  | .agg parts => uptoBulkAll parts + 1
  | .iface _ d => uptoBulk d + 1
  | .map entries => uptoBulkEntries entries + 1
  | .held _ => 1
def uptoBulkAll {H : Type} : List (DataW H) → Nat
  | [] => 0
  | d :: r => uptoBulk d + uptoBulkAll r
def uptoBulkEntries {H : Type} : List (Lit × DataW H) → Nat
  | [] => 0
  | x :: r => uptoBulkEntry x + uptoBulkEntries r
def uptoBulkEntry {H : Type} : Lit × DataW H → Nat
  | (.string bytes, d) => bytes.length + uptoBulk d + 1
  | (_, d) => uptoBulk d + 1
 end
def uptoSmall : (H : Type) → List (DataW H) → Bool := fun _ ds => decide (uptoBulkAll ds ≤ 1048576)
def OpenSpec.upto (s : _root_.Go.ChangeSpec) : _root_.Go.OpenSpec := { _root_.Go.OpenSpec.ofChange s with cond := some uptoSmall }

/-- 'laws.FnExactCellsFor', WHERE WHAT IT READS IS OF BULK AT MOST 1048576: true; the input reads as it did. -/
def fnExactCellsForUptoRow : OpenClaim := { program := "ytomgmnacnchbeaa", sum := "002e23a25b1ed8f69fdf50926ca256283286dda9ba99e21217113ccd00178800", func := "loop.example/g01074/laws.FnExactCellsFor", spec := "fnExactCellsFor", unfollowed := true, recurses := true, plainKeys := false, apart := false, narrowed := true }
def FnExactCellsForUptoSaid : Prop := fnExactCellsForUptoRow.holds Try.pinned (OpenSpec.upto fnExactCellsForSpec)

/-- 'laws.FnExactExchangePorts', WHERE WHAT IT READS IS OF BULK AT MOST 1048576: true; the input reads as it did. -/
def fnExactExchangePortsUptoRow : OpenClaim := { program := "ytomgmnacnchbeaa", sum := "002e23a25b1ed8f69fdf50926ca256283286dda9ba99e21217113ccd00178800", func := "loop.example/g01074/laws.FnExactExchangePorts", spec := "fnExactExchangePorts", unfollowed := true, recurses := true, plainKeys := false, apart := false, narrowed := true }
def FnExactExchangePortsUptoSaid : Prop := fnExactExchangePortsUptoRow.holds Try.pinned (OpenSpec.upto fnExactExchangePortsSpec)

/-- 'laws.FnExactFromWires', WHERE WHAT IT READS IS OF BULK AT MOST 1048576: true; the input reads as it did. -/
def fnExactFromWiresUptoRow : OpenClaim := { program := "ytomgmnacnchbeaa", sum := "002e23a25b1ed8f69fdf50926ca256283286dda9ba99e21217113ccd00178800", func := "loop.example/g01074/laws.FnExactFromWires", spec := "fnExactFromWires", unfollowed := true, recurses := true, plainKeys := false, apart := false, narrowed := true }
def FnExactFromWiresUptoSaid : Prop := fnExactFromWiresUptoRow.holds Try.pinned (OpenSpec.upto fnExactFromWiresSpec)

/-- 'laws.FnExactValidGrid', WHERE WHAT IT READS IS OF BULK AT MOST 1048576: true; the input reads as it did. -/
def fnExactValidGridUptoRow : OpenClaim := { program := "ytomgmnacnchbeaa", sum := "002e23a25b1ed8f69fdf50926ca256283286dda9ba99e21217113ccd00178800", func := "loop.example/g01074/laws.FnExactValidGrid", spec := "fnExactValidGrid", unfollowed := true, recurses := true, plainKeys := false, apart := false, narrowed := true }
def FnExactValidGridUptoSaid : Prop := fnExactValidGridUptoRow.holds Try.pinned (OpenSpec.upto fnExactValidGridSpec)

/-- 'laws.FnExactRedexClass', WHERE WHAT IT READS IS OF BULK AT MOST 1048576: true; the input reads as it did. -/
def fnExactRedexClassUptoRow : OpenClaim := { program := "ytomgmnacnchbeaa", sum := "002e23a25b1ed8f69fdf50926ca256283286dda9ba99e21217113ccd00178800", func := "loop.example/g01074/laws.FnExactRedexClass", spec := "fnExactRedexClass", unfollowed := true, recurses := true, plainKeys := false, apart := false, narrowed := true }
def FnExactRedexClassUptoSaid : Prop := fnExactRedexClassUptoRow.holds Try.pinned (OpenSpec.upto fnExactRedexClassSpec)

/-- 'laws.FnExactTidyMemory', WHERE WHAT IT READS IS OF BULK AT MOST 1048576: true; the input reads as it did. -/
def fnExactTidyMemoryUptoRow : OpenClaim := { program := "ytomgmnacnchbeaa", sum := "002e23a25b1ed8f69fdf50926ca256283286dda9ba99e21217113ccd00178800", func := "loop.example/g01074/laws.FnExactTidyMemory", spec := "fnExactTidyMemory", unfollowed := true, recurses := true, plainKeys := false, apart := false, narrowed := true }
def FnExactTidyMemoryUptoSaid : Prop := fnExactTidyMemoryUptoRow.holds Try.pinned (OpenSpec.upto fnExactTidyMemorySpec)

/-- 'laws.FnExactLoadNet', WHERE WHAT IT READS IS OF BULK AT MOST 1048576: true; the input reads as it did. -/
def fnExactLoadNetUptoRow : OpenClaim := { program := "ytomgmnacnchbeaa", sum := "002e23a25b1ed8f69fdf50926ca256283286dda9ba99e21217113ccd00178800", func := "loop.example/g01074/laws.FnExactLoadNet", spec := "fnExactLoadNet", unfollowed := true, recurses := true, plainKeys := false, apart := false, narrowed := true }
def FnExactLoadNetUptoSaid : Prop := fnExactLoadNetUptoRow.holds Try.pinned (OpenSpec.upto fnExactLoadNetSpec)

end Rows
end Go.Proofs.Ytomgmnacnchbeaa
