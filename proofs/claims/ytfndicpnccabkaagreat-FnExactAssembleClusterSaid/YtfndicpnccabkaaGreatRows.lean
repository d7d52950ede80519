/-
  No cell of these rows narrows 'for every input' (looked for: loops, veiled, ifaces, maps, wideKeys, modest, calm, conditions, laid).
  DERIVED. THE GIVEN ROWS OF THIS SEAT. 4 by the template 'for every input the law returns true; each argument reads behind the call as it read before'; 0 by the template 'total and deterministic' (their statements: YtfndicpnccabkaaGreatTotals.lean).
  GIVEN WITH THE SEED: the statements are not yours to turn. If you find one false, say at which input.
  Laid BY PROGRAM, IN A SANDBOX (cutbox-rows.mjs): the forced cells as the released guide's own fill.sh prints them over the translation 6a9590e452410012… (all of the seat's roots in one cut). By AI agents, Wed Nov 11 2026. No macro, syntax, notation, axiom, sorry.
-/
import Derived.Test.YtfndicpnccabkaaGreatChecked
import GoSem.Claim
import GoSem.ClaimJoined
import GoSem.ClaimMapViews
import Derived.JoinedTies
import Derived.KernelRfl
namespace Go.Proofs.YtfndicpnccabkaaGreat
/- THE CELL 'sum', in the pinned program and in every row, IS THE sha256 OF THE DUMP (.gsa) THAT YtfndicpnccabkaaGreatProg.lean LOADS. Nothing in Lean hashes anything: it is a label: what it is worth is what the hold of that sum in a sandbox is worth. -/
noncomputable def Tryz.pinned : Pinned := { name := "ytfndicpnccabkaagreat", sum := "6a9590e4524100120b27922313a3a90d5cbc79495975cd601615d9e92eefd19d", checked := Tryz.checked }
namespace Rows
def none {H : Type} : Left H := { results := [], args := [] }

/-- 'laws.FnExactAssembleGrid': WHATEVER THE INPUT: true; the input reads as it did. -/
def fnExactAssembleGridSpec : ChangeSpec := { name := "fnExactAssembleGrid", fn := fun _ => fun
  | [d] => { results := [.lit (.bool true)], args := [d] }
  | _ => none }
def fnExactAssembleGridRow : OpenClaim := { program := "ytfndicpnccabkaagreat", sum := "6a9590e4524100120b27922313a3a90d5cbc79495975cd601615d9e92eefd19d", func := "loop.example/g01074/laws.FnExactAssembleGrid", spec := "fnExactAssembleGrid", unfollowed := true, recurses := true, plainKeys := false, apart := false }
def FnExactAssembleGridSaid : Prop := fnExactAssembleGridRow.holds Tryz.pinned (OpenSpec.ofChange fnExactAssembleGridSpec)

/-- ITS FALSE NEIGHBOUR: 'it returns false'. Refute it at one input. -/
def fnExactAssembleGridWrong : ChangeSpec := { name := "fnExactAssembleGrid", fn := fun _ => fun
  | [d] => { results := [.lit (.bool false)], args := [d] }
  | _ => none }
def FnExactAssembleGridWrongFalsely : Prop := fnExactAssembleGridRow.holds Tryz.pinned (OpenSpec.ofChange fnExactAssembleGridWrong)

/-- 'laws.FnExactAssembleCluster': WHATEVER THE INPUT: true; the input reads as it did. -/
def fnExactAssembleClusterSpec : ChangeSpec := { name := "fnExactAssembleCluster", fn := fun _ => fun
  | [d] => { results := [.lit (.bool true)], args := [d] }
  | _ => none }
def fnExactAssembleClusterRow : OpenClaim := { program := "ytfndicpnccabkaagreat", sum := "6a9590e4524100120b27922313a3a90d5cbc79495975cd601615d9e92eefd19d", func := "loop.example/g01074/laws.FnExactAssembleCluster", spec := "fnExactAssembleCluster", unfollowed := true, recurses := true, plainKeys := false, apart := false }
def FnExactAssembleClusterSaid : Prop := fnExactAssembleClusterRow.holds Tryz.pinned (OpenSpec.ofChange fnExactAssembleClusterSpec)

/-- ITS FALSE NEIGHBOUR: 'it returns false'. Refute it at one input. -/
def fnExactAssembleClusterWrong : ChangeSpec := { name := "fnExactAssembleCluster", fn := fun _ => fun
  | [d] => { results := [.lit (.bool false)], args := [d] }
  | _ => none }
def FnExactAssembleClusterWrongFalsely : Prop := fnExactAssembleClusterRow.holds Tryz.pinned (OpenSpec.ofChange fnExactAssembleClusterWrong)

/-- 'laws.FnExactSplitNet': WHATEVER THE INPUT: true; the input reads as it did. -/
def fnExactSplitNetSpec : ChangeSpec := { name := "fnExactSplitNet", fn := fun _ => fun
  | [d1, d2, d3] => { results := [.lit (.bool true)], args := [d1, d2, d3] }
  | _ => none }
def fnExactSplitNetRow : OpenClaim := { program := "ytfndicpnccabkaagreat", sum := "6a9590e4524100120b27922313a3a90d5cbc79495975cd601615d9e92eefd19d", func := "loop.example/g01074/laws.FnExactSplitNet", spec := "fnExactSplitNet", unfollowed := true, recurses := true, plainKeys := false, apart := false }
def FnExactSplitNetSaid : Prop := fnExactSplitNetRow.holds Tryz.pinned (OpenSpec.ofChange fnExactSplitNetSpec)

/-- ITS FALSE NEIGHBOUR: 'it returns false'. Refute it at one input. -/
def fnExactSplitNetWrong : ChangeSpec := { name := "fnExactSplitNet", fn := fun _ => fun
  | [d1, d2, d3] => { results := [.lit (.bool false)], args := [d1, d2, d3] }
  | _ => none }
def FnExactSplitNetWrongFalsely : Prop := fnExactSplitNetRow.holds Tryz.pinned (OpenSpec.ofChange fnExactSplitNetWrong)

/-- 'laws.FnExactNewCluster': WHATEVER THE INPUT: true; the input reads as it did. -/
def fnExactNewClusterSpec : ChangeSpec := { name := "fnExactNewCluster", fn := fun _ => fun
  | [d1, d2, d3] => { results := [.lit (.bool true)], args := [d1, d2, d3] }
  | _ => none }
def fnExactNewClusterRow : OpenClaim := { program := "ytfndicpnccabkaagreat", sum := "6a9590e4524100120b27922313a3a90d5cbc79495975cd601615d9e92eefd19d", func := "loop.example/g01074/laws.FnExactNewCluster", spec := "fnExactNewCluster", unfollowed := true, recurses := true, plainKeys := false, apart := false }
def FnExactNewClusterSaid : Prop := fnExactNewClusterRow.holds Tryz.pinned (OpenSpec.ofChange fnExactNewClusterSpec)

/-- ITS FALSE NEIGHBOUR: 'it returns false'. Refute it at one input. -/
def fnExactNewClusterWrong : ChangeSpec := { name := "fnExactNewCluster", fn := fun _ => fun
  | [d1, d2, d3] => { results := [.lit (.bool false)], args := [d1, d2, d3] }
  | _ => none }
def FnExactNewClusterWrongFalsely : Prop := fnExactNewClusterRow.holds Tryz.pinned (OpenSpec.ofChange fnExactNewClusterWrong)

/- THE SECOND FORM. 'bulk': how many values and letters a reading holds, each counted each time it is reached (what is shared counts as often as it is met; a slice's spare places count too). A statement '..UptoSaid' is the law's where the arguments, and the package variables that the reading takes, are together of bulk at most 1048576: NARROWER than '..Said'. Prove '..Said' where nothing that the law and all that it calls make is longer than what came in: it says more and counts as full. Else prove '..UptoSaid'. A law counts once. -/
mutual
def uptoBulk {H : Type} : DataW H → Nat
  | .lit (.string bytes) => bytes.length + 1
  | .lit _ => 1
  | .nil => 1
  | .ptr d => uptoBulk d + 1
  | .slice elems spare => uptoBulkAll elems + uptoBulkAll spare + 1
  | .agg parts => uptoBulkAll parts + 1
  | .iface _ d => uptoBulk d + 1
  | .map entries => uptoBulkEntries entries + 1
  | .held _ => 1
def uptoBulkAll {H : Type} : List (DataW H) → Nat
  | [] => 0
  | d :: r => uptoBulk d + uptoBulkAll r
def uptoBulkEntries {H : Type} : List (Lit × DataW H) → Nat
  | [] => 0
  | x :: r => uptoBulkEntry x + uptoBulkEntries r
def uptoBulkEntry {H : Type} : Lit × DataW H → Nat
  | (.string bytes, d) => bytes.length + uptoBulk d + 1
  | (_, d) => uptoBulk d + 1
 end
def uptoSmall : (H : Type) → List (DataW H) → Bool := fun _ ds => decide (uptoBulkAll ds ≤ 1048576)
def OpenSpec.upto (s : _root_.Go.ChangeSpec) : _root_.Go.OpenSpec := { _root_.Go.OpenSpec.ofChange s with cond := some uptoSmall }

/-- 'laws.FnExactAssembleGrid', WHERE WHAT IT READS IS OF BULK AT MOST 1048576: true; the input reads as it did. -/
def fnExactAssembleGridUptoRow : OpenClaim := { program := "ytfndicpnccabkaagreat", sum := "6a9590e4524100120b27922313a3a90d5cbc79495975cd601615d9e92eefd19d", func := "loop.example/g01074/laws.FnExactAssembleGrid", spec := "fnExactAssembleGrid", unfollowed := true, recurses := true, plainKeys := false, apart := false, narrowed := true }
def FnExactAssembleGridUptoSaid : Prop := fnExactAssembleGridUptoRow.holds Tryz.pinned (OpenSpec.upto fnExactAssembleGridSpec)

/-- 'laws.FnExactAssembleCluster', WHERE WHAT IT READS IS OF BULK AT MOST 1048576: true; the input reads as it did. -/
def fnExactAssembleClusterUptoRow : OpenClaim := { program := "ytfndicpnccabkaagreat", sum := "6a9590e4524100120b27922313a3a90d5cbc79495975cd601615d9e92eefd19d", func := "loop.example/g01074/laws.FnExactAssembleCluster", spec := "fnExactAssembleCluster", unfollowed := true, recurses := true, plainKeys := false, apart := false, narrowed := true }
def FnExactAssembleClusterUptoSaid : Prop := fnExactAssembleClusterUptoRow.holds Tryz.pinned (OpenSpec.upto fnExactAssembleClusterSpec)

/-- 'laws.FnExactSplitNet', WHERE WHAT IT READS IS OF BULK AT MOST 1048576: true; the input reads as it did. -/
def fnExactSplitNetUptoRow : OpenClaim := { program := "ytfndicpnccabkaagreat", sum := "6a9590e4524100120b27922313a3a90d5cbc79495975cd601615d9e92eefd19d", func := "loop.example/g01074/laws.FnExactSplitNet", spec := "fnExactSplitNet", unfollowed := true, recurses := true, plainKeys := false, apart := false, narrowed := true }
def FnExactSplitNetUptoSaid : Prop := fnExactSplitNetUptoRow.holds Tryz.pinned (OpenSpec.upto fnExactSplitNetSpec)

/-- 'laws.FnExactNewCluster', WHERE WHAT IT READS IS OF BULK AT MOST 1048576: true; the input reads as it did. -/
def fnExactNewClusterUptoRow : OpenClaim := { program := "ytfndicpnccabkaagreat", sum := "6a9590e4524100120b27922313a3a90d5cbc79495975cd601615d9e92eefd19d", func := "loop.example/g01074/laws.FnExactNewCluster", spec := "fnExactNewCluster", unfollowed := true, recurses := true, plainKeys := false, apart := false, narrowed := true }
def FnExactNewClusterUptoSaid : Prop := fnExactNewClusterUptoRow.holds Tryz.pinned (OpenSpec.upto fnExactNewClusterSpec)

end Rows
end Go.Proofs.YtfndicpnccabkaaGreat
