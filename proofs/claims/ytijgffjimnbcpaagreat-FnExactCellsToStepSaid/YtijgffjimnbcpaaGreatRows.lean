/-
  No cell of these rows narrows 'for every input' (looked for: loops, veiled, ifaces, maps, wideKeys, modest, calm, conditions, laid).
  DERIVED. THE GIVEN ROWS OF THIS SEAT. 4 by the template 'for every input the law returns true; each argument reads behind the call as it read before'; 0 by the template 'total and deterministic' (their statements: YtijgffjimnbcpaaGreatTotals.lean).
  GIVEN WITH THE SEED: the statements are not yours to turn. If you find one false, say at which input.
  Laid BY PROGRAM, IN A SANDBOX (cutbox-rows.mjs): the forced cells as the released guide's own fill.sh prints them over the translation 83b9d299a287190a… (all of the seat's roots in one cut). By AI agents, Wed Nov 11 2026. No macro, syntax, notation, axiom, sorry.
-/
import Derived.Test.YtijgffjimnbcpaaGreatChecked
import GoSem.Claim
import GoSem.ClaimJoined
import GoSem.ClaimMapViews
import Derived.JoinedTies
import Derived.KernelRfl
namespace Go.Proofs.YtijgffjimnbcpaaGreat
/- THE CELL 'sum', in the pinned program and in every row, IS THE sha256 OF THE DUMP (.gsa) THAT YtijgffjimnbcpaaGreatProg.lean LOADS. Nothing in Lean hashes anything: it is a label: what it is worth is what the hold of that sum in a sandbox is worth. -/
noncomputable def Tryz.pinned : Pinned := { name := "ytijgffjimnbcpaagreat", sum := "83b9d299a287190abb5058a69e573019f3c0c2a4e07e00ab541652ee200a1d65", checked := Tryz.checked }
namespace Rows
def none {H : Type} : Left H := { results := [], args := [] }

/-- 'laws.FnExactCompactMemory': WHATEVER THE INPUT: true; the input reads as it did. -/
def fnExactCompactMemorySpec : ChangeSpec := { name := "fnExactCompactMemory", fn := fun _ => fun
  | [d] => { results := [.lit (.bool true)], args := [d] }
  | _ => none }
def fnExactCompactMemoryRow : OpenClaim := { program := "ytijgffjimnbcpaagreat", sum := "83b9d299a287190abb5058a69e573019f3c0c2a4e07e00ab541652ee200a1d65", func := "loop.example/g01074/laws.FnExactCompactMemory", spec := "fnExactCompactMemory", unfollowed := true, recurses := true, apart := false }
def FnExactCompactMemorySaid : Prop := fnExactCompactMemoryRow.holds Tryz.pinned (OpenSpec.ofChange fnExactCompactMemorySpec)

/-- ITS FALSE NEIGHBOUR: 'it returns false'. Refute it at one input. -/
def fnExactCompactMemoryWrong : ChangeSpec := { name := "fnExactCompactMemory", fn := fun _ => fun
  | [d] => { results := [.lit (.bool false)], args := [d] }
  | _ => none }
def FnExactCompactMemoryWrongFalsely : Prop := fnExactCompactMemoryRow.holds Tryz.pinned (OpenSpec.ofChange fnExactCompactMemoryWrong)

/-- 'laws.FnExactUnloadNet': WHATEVER THE INPUT: true; the input reads as it did. -/
def fnExactUnloadNetSpec : ChangeSpec := { name := "fnExactUnloadNet", fn := fun _ => fun
  | [d] => { results := [.lit (.bool true)], args := [d] }
  | _ => none }
def fnExactUnloadNetRow : OpenClaim := { program := "ytijgffjimnbcpaagreat", sum := "83b9d299a287190abb5058a69e573019f3c0c2a4e07e00ab541652ee200a1d65", func := "loop.example/g01074/laws.FnExactUnloadNet", spec := "fnExactUnloadNet", unfollowed := true, recurses := true, apart := false }
def FnExactUnloadNetSaid : Prop := fnExactUnloadNetRow.holds Tryz.pinned (OpenSpec.ofChange fnExactUnloadNetSpec)

/-- ITS FALSE NEIGHBOUR: 'it returns false'. Refute it at one input. -/
def fnExactUnloadNetWrong : ChangeSpec := { name := "fnExactUnloadNet", fn := fun _ => fun
  | [d] => { results := [.lit (.bool false)], args := [d] }
  | _ => none }
def FnExactUnloadNetWrongFalsely : Prop := fnExactUnloadNetRow.holds Tryz.pinned (OpenSpec.ofChange fnExactUnloadNetWrong)

/-- 'laws.FnExactNewPool': WHATEVER THE INPUT: true; the input reads as it did. -/
def fnExactNewPoolSpec : ChangeSpec := { name := "fnExactNewPool", fn := fun _ => fun
  | [d1, d2, d3] => { results := [.lit (.bool true)], args := [d1, d2, d3] }
  | _ => none }
def fnExactNewPoolRow : OpenClaim := { program := "ytijgffjimnbcpaagreat", sum := "83b9d299a287190abb5058a69e573019f3c0c2a4e07e00ab541652ee200a1d65", func := "loop.example/g01074/laws.FnExactNewPool", spec := "fnExactNewPool", unfollowed := true, recurses := true, apart := false }
def FnExactNewPoolSaid : Prop := fnExactNewPoolRow.holds Tryz.pinned (OpenSpec.ofChange fnExactNewPoolSpec)

/-- ITS FALSE NEIGHBOUR: 'it returns false'. Refute it at one input. -/
def fnExactNewPoolWrong : ChangeSpec := { name := "fnExactNewPool", fn := fun _ => fun
  | [d1, d2, d3] => { results := [.lit (.bool false)], args := [d1, d2, d3] }
  | _ => none }
def FnExactNewPoolWrongFalsely : Prop := fnExactNewPoolRow.holds Tryz.pinned (OpenSpec.ofChange fnExactNewPoolWrong)

/-- 'laws.FnExactCellsToStep': WHATEVER THE INPUT: true; the input reads as it did. -/
def fnExactCellsToStepSpec : ChangeSpec := { name := "fnExactCellsToStep", fn := fun _ => fun
  | [d1, d2, d3] => { results := [.lit (.bool true)], args := [d1, d2, d3] }
  | _ => none }
def fnExactCellsToStepRow : OpenClaim := { program := "ytijgffjimnbcpaagreat", sum := "83b9d299a287190abb5058a69e573019f3c0c2a4e07e00ab541652ee200a1d65", func := "loop.example/g01074/laws.FnExactCellsToStep", spec := "fnExactCellsToStep", unfollowed := true, recurses := true, apart := false }
def FnExactCellsToStepSaid : Prop := fnExactCellsToStepRow.holds Tryz.pinned (OpenSpec.ofChange fnExactCellsToStepSpec)

/-- ITS FALSE NEIGHBOUR: 'it returns false'. Refute it at one input. -/
def fnExactCellsToStepWrong : ChangeSpec := { name := "fnExactCellsToStep", fn := fun _ => fun
  | [d1, d2, d3] => { results := [.lit (.bool false)], args := [d1, d2, d3] }
  | _ => none }
def FnExactCellsToStepWrongFalsely : Prop := fnExactCellsToStepRow.holds Tryz.pinned (OpenSpec.ofChange fnExactCellsToStepWrong)

/- THE SECOND FORM. 'bulk': how many values and letters a reading holds, each counted each time it is reached (what is shared counts as often as it is met; a slice's spare places count too). A statement '..UptoSaid' is the law's where the arguments, and the package variables that the reading takes, are together of bulk at most 1048576: NARROWER than '..Said'. Prove '..Said' where nothing that the law and all that it calls make is longer than what came in: it says more and counts as full. Else prove '..UptoSaid'. A law counts once. -/
mutual
def uptoBulk {H : Type} : DataW H → Nat
  | .lit (.string bytes) => bytes.length + 1
  | .lit _ => 1
  | .nil => 1
  | .ptr d => uptoBulk d + 1
  | .slice elems spare => uptoBulkAll elems + uptoBulkAll spare + 1
  | .agg parts => uptoBulkAll parts + 1
  | .iface _ d => uptoBulk d + 1
  | .map entries => uptoBulkEntries entries + 1
  | .held _ => 1
def uptoBulkAll {H : Type} : List (DataW H) → Nat
  | [] => 0
  | d :: r => uptoBulk d + uptoBulkAll r
def uptoBulkEntries {H : Type} : List (Lit × DataW H) → Nat
  | [] => 0
  | x :: r => uptoBulkEntry x + uptoBulkEntries r
def uptoBulkEntry {H : Type} : Lit × DataW H → Nat
  | (.string bytes, d) => bytes.length + uptoBulk d + 1
  | (_, d) => uptoBulk d + 1
 end
def uptoSmall : (H : Type) → List (DataW H) → Bool := fun _ ds => decide (uptoBulkAll ds ≤ 1048576)
def OpenSpec.upto (s : _root_.Go.ChangeSpec) : _root_.Go.OpenSpec := { _root_.Go.OpenSpec.ofChange s with cond := some uptoSmall }

/-- 'laws.FnExactCompactMemory', WHERE WHAT IT READS IS OF BULK AT MOST 1048576: true; the input reads as it did. -/
def fnExactCompactMemoryUptoRow : OpenClaim := { program := "ytijgffjimnbcpaagreat", sum := "83b9d299a287190abb5058a69e573019f3c0c2a4e07e00ab541652ee200a1d65", func := "loop.example/g01074/laws.FnExactCompactMemory", spec := "fnExactCompactMemory", unfollowed := true, recurses := true, apart := false, narrowed := true }
def FnExactCompactMemoryUptoSaid : Prop := fnExactCompactMemoryUptoRow.holds Tryz.pinned (OpenSpec.upto fnExactCompactMemorySpec)

/-- 'laws.FnExactUnloadNet', WHERE WHAT IT READS IS OF BULK AT MOST 1048576: true; the input reads as it did. -/
def fnExactUnloadNetUptoRow : OpenClaim := { program := "ytijgffjimnbcpaagreat", sum := "83b9d299a287190abb5058a69e573019f3c0c2a4e07e00ab541652ee200a1d65", func := "loop.example/g01074/laws.FnExactUnloadNet", spec := "fnExactUnloadNet", unfollowed := true, recurses := true, apart := false, narrowed := true }
def FnExactUnloadNetUptoSaid : Prop := fnExactUnloadNetUptoRow.holds Tryz.pinned (OpenSpec.upto fnExactUnloadNetSpec)

/-- 'laws.FnExactNewPool', WHERE WHAT IT READS IS OF BULK AT MOST 1048576: true; the input reads as it did. -/
def fnExactNewPoolUptoRow : OpenClaim := { program := "ytijgffjimnbcpaagreat", sum := "83b9d299a287190abb5058a69e573019f3c0c2a4e07e00ab541652ee200a1d65", func := "loop.example/g01074/laws.FnExactNewPool", spec := "fnExactNewPool", unfollowed := true, recurses := true, apart := false, narrowed := true }
def FnExactNewPoolUptoSaid : Prop := fnExactNewPoolUptoRow.holds Tryz.pinned (OpenSpec.upto fnExactNewPoolSpec)

/-- 'laws.FnExactCellsToStep', WHERE WHAT IT READS IS OF BULK AT MOST 1048576: true; the input reads as it did. -/
def fnExactCellsToStepUptoRow : OpenClaim := { program := "ytijgffjimnbcpaagreat", sum := "83b9d299a287190abb5058a69e573019f3c0c2a4e07e00ab541652ee200a1d65", func := "loop.example/g01074/laws.FnExactCellsToStep", spec := "fnExactCellsToStep", unfollowed := true, recurses := true, apart := false, narrowed := true }
def FnExactCellsToStepUptoSaid : Prop := fnExactCellsToStepUptoRow.holds Tryz.pinned (OpenSpec.upto fnExactCellsToStepSpec)

end Rows
end Go.Proofs.YtijgffjimnbcpaaGreat
