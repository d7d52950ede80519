/-
  No cell of these rows narrows 'for every input' (looked for: loops, veiled, ifaces, maps, wideKeys, modest, calm, conditions, laid).
  DERIVED. THE GIVEN ROWS OF THIS SEAT. 8 by the template 'for every input the law returns true; each argument reads behind the call as it read before'; 0 by the template 'total and deterministic' (their statements: YtghfkejdmcpmhaaTotals.lean).
  GIVEN WITH THE SEED: the statements are not yours to turn. If you find one false, say at which input.
  Laid BY PROGRAM, IN A SANDBOX (cutbox-rows.mjs): the forced cells as the released guide's own fill.sh prints them over the translation c610259d97534015… (all of the seat's roots in one cut). By AI agents, Wed Nov 11 2026. No macro, syntax, notation, axiom, sorry.
-/
import Derived.Test.YtghfkejdmcpmhaaChecked
import GoSem.Claim
import GoSem.ClaimJoined
import GoSem.ClaimMapViews
import Derived.JoinedTies
import Derived.KernelRfl
namespace Go.Proofs.Ytghfkejdmcpmhaa
/- THE CELL 'sum', in the pinned program and in every row, IS THE sha256 OF THE DUMP (.gsa) THAT YtghfkejdmcpmhaaProg.lean LOADS. Nothing in Lean hashes anything: it is a label: what it is worth is what the hold of that sum in a sandbox is worth. -/
noncomputable def Try.pinned : Pinned := { name := "ytghfkejdmcpmhaa", sum := "c610259d975340150cd1e233a9158c3fa963054dc99e4e7e1b96e51bfd557d83", checked := Try.checked }
namespace Rows
def none {H : Type} : Left H := { results := [], args := [] }

/-- 'laws.FnExactSameShard': WHATEVER THE INPUT: true; the input reads as it did. -/
def fnExactSameShardSpec : ChangeSpec := { name := "fnExactSameShard", fn := fun _ => fun
  | [d1, d2] => { results := [.lit (.bool true)], args := [d1, d2] }
  | _ => none }
def fnExactSameShardRow : OpenClaim := { program := "ytghfkejdmcpmhaa", sum := "c610259d975340150cd1e233a9158c3fa963054dc99e4e7e1b96e51bfd557d83", func := "loop.example/g01074/laws.FnExactSameShard", spec := "fnExactSameShard", unfollowed := true, recurses := true, apart := false }
def FnExactSameShardSaid : Prop := fnExactSameShardRow.holds Try.pinned (OpenSpec.ofChange fnExactSameShardSpec)

/-- ITS FALSE NEIGHBOUR: 'it returns false'. Refute it at one input. -/
def fnExactSameShardWrong : ChangeSpec := { name := "fnExactSameShard", fn := fun _ => fun
  | [d1, d2] => { results := [.lit (.bool false)], args := [d1, d2] }
  | _ => none }
def FnExactSameShardWrongFalsely : Prop := fnExactSameShardRow.holds Try.pinned (OpenSpec.ofChange fnExactSameShardWrong)

/-- 'laws.FnExactSameGrid': WHATEVER THE INPUT: true; the input reads as it did. -/
def fnExactSameGridSpec : ChangeSpec := { name := "fnExactSameGrid", fn := fun _ => fun
  | [d1, d2] => { results := [.lit (.bool true)], args := [d1, d2] }
  | _ => none }
def fnExactSameGridRow : OpenClaim := { program := "ytghfkejdmcpmhaa", sum := "c610259d975340150cd1e233a9158c3fa963054dc99e4e7e1b96e51bfd557d83", func := "loop.example/g01074/laws.FnExactSameGrid", spec := "fnExactSameGrid", unfollowed := true, recurses := true, apart := false }
def FnExactSameGridSaid : Prop := fnExactSameGridRow.holds Try.pinned (OpenSpec.ofChange fnExactSameGridSpec)

/-- ITS FALSE NEIGHBOUR: 'it returns false'. Refute it at one input. -/
def fnExactSameGridWrong : ChangeSpec := { name := "fnExactSameGrid", fn := fun _ => fun
  | [d1, d2] => { results := [.lit (.bool false)], args := [d1, d2] }
  | _ => none }
def FnExactSameGridWrongFalsely : Prop := fnExactSameGridRow.holds Try.pinned (OpenSpec.ofChange fnExactSameGridWrong)

/-- 'laws.FnExactSamePool': WHATEVER THE INPUT: true; the input reads as it did. -/
def fnExactSamePoolSpec : ChangeSpec := { name := "fnExactSamePool", fn := fun _ => fun
  | [d1, d2] => { results := [.lit (.bool true)], args := [d1, d2] }
  | _ => none }
def fnExactSamePoolRow : OpenClaim := { program := "ytghfkejdmcpmhaa", sum := "c610259d975340150cd1e233a9158c3fa963054dc99e4e7e1b96e51bfd557d83", func := "loop.example/g01074/laws.FnExactSamePool", spec := "fnExactSamePool", unfollowed := true, recurses := true, apart := false }
def FnExactSamePoolSaid : Prop := fnExactSamePoolRow.holds Try.pinned (OpenSpec.ofChange fnExactSamePoolSpec)

/-- ITS FALSE NEIGHBOUR: 'it returns false'. Refute it at one input. -/
def fnExactSamePoolWrong : ChangeSpec := { name := "fnExactSamePool", fn := fun _ => fun
  | [d1, d2] => { results := [.lit (.bool false)], args := [d1, d2] }
  | _ => none }
def FnExactSamePoolWrongFalsely : Prop := fnExactSamePoolRow.holds Try.pinned (OpenSpec.ofChange fnExactSamePoolWrong)

/-- 'laws.FnExactSameCluster': WHATEVER THE INPUT: true; the input reads as it did. -/
def fnExactSameClusterSpec : ChangeSpec := { name := "fnExactSameCluster", fn := fun _ => fun
  | [d1, d2] => { results := [.lit (.bool true)], args := [d1, d2] }
  | _ => none }
def fnExactSameClusterRow : OpenClaim := { program := "ytghfkejdmcpmhaa", sum := "c610259d975340150cd1e233a9158c3fa963054dc99e4e7e1b96e51bfd557d83", func := "loop.example/g01074/laws.FnExactSameCluster", spec := "fnExactSameCluster", unfollowed := true, recurses := true, apart := false }
def FnExactSameClusterSaid : Prop := fnExactSameClusterRow.holds Try.pinned (OpenSpec.ofChange fnExactSameClusterSpec)

/-- ITS FALSE NEIGHBOUR: 'it returns false'. Refute it at one input. -/
def fnExactSameClusterWrong : ChangeSpec := { name := "fnExactSameCluster", fn := fun _ => fun
  | [d1, d2] => { results := [.lit (.bool false)], args := [d1, d2] }
  | _ => none }
def FnExactSameClusterWrongFalsely : Prop := fnExactSameClusterRow.holds Try.pinned (OpenSpec.ofChange fnExactSameClusterWrong)

/-- 'laws.FnExactSameDetector': WHATEVER THE INPUT: true; the input reads as it did. -/
def fnExactSameDetectorSpec : ChangeSpec := { name := "fnExactSameDetector", fn := fun _ => fun
  | [d1, d2] => { results := [.lit (.bool true)], args := [d1, d2] }
  | _ => none }
def fnExactSameDetectorRow : OpenClaim := { program := "ytghfkejdmcpmhaa", sum := "c610259d975340150cd1e233a9158c3fa963054dc99e4e7e1b96e51bfd557d83", func := "loop.example/g01074/laws.FnExactSameDetector", spec := "fnExactSameDetector", unfollowed := true, recurses := true, apart := false }
def FnExactSameDetectorSaid : Prop := fnExactSameDetectorRow.holds Try.pinned (OpenSpec.ofChange fnExactSameDetectorSpec)

/-- ITS FALSE NEIGHBOUR: 'it returns false'. Refute it at one input. -/
def fnExactSameDetectorWrong : ChangeSpec := { name := "fnExactSameDetector", fn := fun _ => fun
  | [d1, d2] => { results := [.lit (.bool false)], args := [d1, d2] }
  | _ => none }
def FnExactSameDetectorWrongFalsely : Prop := fnExactSameDetectorRow.holds Try.pinned (OpenSpec.ofChange fnExactSameDetectorWrong)

/-- 'laws.FnExactSameWatched': WHATEVER THE INPUT: true; the input reads as it did. -/
def fnExactSameWatchedSpec : ChangeSpec := { name := "fnExactSameWatched", fn := fun _ => fun
  | [d1, d2] => { results := [.lit (.bool true)], args := [d1, d2] }
  | _ => none }
def fnExactSameWatchedRow : OpenClaim := { program := "ytghfkejdmcpmhaa", sum := "c610259d975340150cd1e233a9158c3fa963054dc99e4e7e1b96e51bfd557d83", func := "loop.example/g01074/laws.FnExactSameWatched", spec := "fnExactSameWatched", unfollowed := true, recurses := true, apart := false }
def FnExactSameWatchedSaid : Prop := fnExactSameWatchedRow.holds Try.pinned (OpenSpec.ofChange fnExactSameWatchedSpec)

/-- ITS FALSE NEIGHBOUR: 'it returns false'. Refute it at one input. -/
def fnExactSameWatchedWrong : ChangeSpec := { name := "fnExactSameWatched", fn := fun _ => fun
  | [d1, d2] => { results := [.lit (.bool false)], args := [d1, d2] }
  | _ => none }
def FnExactSameWatchedWrongFalsely : Prop := fnExactSameWatchedRow.holds Try.pinned (OpenSpec.ofChange fnExactSameWatchedWrong)

/-- 'laws.FnExactValidDeque': WHATEVER THE INPUT: true; the input reads as it did. -/
def fnExactValidDequeSpec : ChangeSpec := { name := "fnExactValidDeque", fn := fun _ => fun
  | [d] => { results := [.lit (.bool true)], args := [d] }
  | _ => none }
def fnExactValidDequeRow : OpenClaim := { program := "ytghfkejdmcpmhaa", sum := "c610259d975340150cd1e233a9158c3fa963054dc99e4e7e1b96e51bfd557d83", func := "loop.example/g01074/laws.FnExactValidDeque", spec := "fnExactValidDeque", unfollowed := true, recurses := true, apart := false }
def FnExactValidDequeSaid : Prop := fnExactValidDequeRow.holds Try.pinned (OpenSpec.ofChange fnExactValidDequeSpec)

/-- ITS FALSE NEIGHBOUR: 'it returns false'. Refute it at one input. -/
def fnExactValidDequeWrong : ChangeSpec := { name := "fnExactValidDeque", fn := fun _ => fun
  | [d] => { results := [.lit (.bool false)], args := [d] }
  | _ => none }
def FnExactValidDequeWrongFalsely : Prop := fnExactValidDequeRow.holds Try.pinned (OpenSpec.ofChange fnExactValidDequeWrong)

/-- 'laws.FnExactIsDequeDone': WHATEVER THE INPUT: true; the input reads as it did. -/
def fnExactIsDequeDoneSpec : ChangeSpec := { name := "fnExactIsDequeDone", fn := fun _ => fun
  | [d] => { results := [.lit (.bool true)], args := [d] }
  | _ => none }
def fnExactIsDequeDoneRow : OpenClaim := { program := "ytghfkejdmcpmhaa", sum := "c610259d975340150cd1e233a9158c3fa963054dc99e4e7e1b96e51bfd557d83", func := "loop.example/g01074/laws.FnExactIsDequeDone", spec := "fnExactIsDequeDone", unfollowed := true, recurses := true, apart := false }
def FnExactIsDequeDoneSaid : Prop := fnExactIsDequeDoneRow.holds Try.pinned (OpenSpec.ofChange fnExactIsDequeDoneSpec)

/-- ITS FALSE NEIGHBOUR: 'it returns false'. Refute it at one input. -/
def fnExactIsDequeDoneWrong : ChangeSpec := { name := "fnExactIsDequeDone", fn := fun _ => fun
  | [d] => { results := [.lit (.bool false)], args := [d] }
  | _ => none }
def FnExactIsDequeDoneWrongFalsely : Prop := fnExactIsDequeDoneRow.holds Try.pinned (OpenSpec.ofChange fnExactIsDequeDoneWrong)

/- THE SECOND FORM. 'bulk': how many values and letters a reading holds, each counted each time it is reached (what is shared counts as often as it is met; a slice's spare places count too). A statement '..UptoSaid' is the law's where the arguments, and the package variables that the reading takes, are together of bulk at most 1048576: NARROWER than '..Said'. Prove '..Said' where nothing that the law and all that it calls make is longer than what came in: it says more and counts as full. Else prove '..UptoSaid'. A law counts once. -/
mutual
def uptoBulk {H : Type} : DataW H → Nat
  | .lit (.string bytes) => bytes.length + 1
  | .lit _ => 1
  | .nil => 1
  | .ptr d => uptoBulk d + 1
  | .slice elems spare => uptoBulkAll elems + uptoBulkAll spare + 1
  | .agg parts => uptoBulkAll parts + 1
  | .iface _ d => uptoBulk d + 1
  | .map entries => uptoBulkEntries entries + 1
  | .held _ => 1
def uptoBulkAll {H : Type} : List (DataW H) → Nat
  | [] => 0
  | d :: r => uptoBulk d + uptoBulkAll r
def uptoBulkEntries {H : Type} : List (Lit × DataW H) → Nat
  | [] => 0
  | x :: r => uptoBulkEntry x + uptoBulkEntries r
def uptoBulkEntry {H : Type} : Lit × DataW H → Nat
  | (.string bytes, d) => bytes.length + uptoBulk d + 1
  | (_, d) => uptoBulk d + 1
 end
def uptoSmall : (H : Type) → List (DataW H) → Bool := fun _ ds => decide (uptoBulkAll ds ≤ 1048576)
def OpenSpec.upto (s : _root_.Go.ChangeSpec) : _root_.Go.OpenSpec := { _root_.Go.OpenSpec.ofChange s with cond := some uptoSmall }

/-- 'laws.FnExactSameShard', WHERE WHAT IT READS IS OF BULK AT MOST 1048576: true; the input reads as it did. -/
def fnExactSameShardUptoRow : OpenClaim := { program := "ytghfkejdmcpmhaa", sum := "c610259d975340150cd1e233a9158c3fa963054dc99e4e7e1b96e51bfd557d83", func := "loop.example/g01074/laws.FnExactSameShard", spec := "fnExactSameShard", unfollowed := true, recurses := true, apart := false, narrowed := true }
def FnExactSameShardUptoSaid : Prop := fnExactSameShardUptoRow.holds Try.pinned (OpenSpec.upto fnExactSameShardSpec)

/-- 'laws.FnExactSameGrid', WHERE WHAT IT READS IS OF BULK AT MOST 1048576: true; the input reads as it did. -/
def fnExactSameGridUptoRow : OpenClaim := { program := "ytghfkejdmcpmhaa", sum := "c610259d975340150cd1e233a9158c3fa963054dc99e4e7e1b96e51bfd557d83", func := "loop.example/g01074/laws.FnExactSameGrid", spec := "fnExactSameGrid", unfollowed := true, recurses := true, apart := false, narrowed := true }
def FnExactSameGridUptoSaid : Prop := fnExactSameGridUptoRow.holds Try.pinned (OpenSpec.upto fnExactSameGridSpec)

/-- 'laws.FnExactSamePool', WHERE WHAT IT READS IS OF BULK AT MOST 1048576: true; the input reads as it did. -/
def fnExactSamePoolUptoRow : OpenClaim := { program := "ytghfkejdmcpmhaa", sum := "c610259d975340150cd1e233a9158c3fa963054dc99e4e7e1b96e51bfd557d83", func := "loop.example/g01074/laws.FnExactSamePool", spec := "fnExactSamePool", unfollowed := true, recurses := true, apart := false, narrowed := true }
def FnExactSamePoolUptoSaid : Prop := fnExactSamePoolUptoRow.holds Try.pinned (OpenSpec.upto fnExactSamePoolSpec)

/-- 'laws.FnExactSameCluster', WHERE WHAT IT READS IS OF BULK AT MOST 1048576: true; the input reads as it did. -/
def fnExactSameClusterUptoRow : OpenClaim := { program := "ytghfkejdmcpmhaa", sum := "c610259d975340150cd1e233a9158c3fa963054dc99e4e7e1b96e51bfd557d83", func := "loop.example/g01074/laws.FnExactSameCluster", spec := "fnExactSameCluster", unfollowed := true, recurses := true, apart := false, narrowed := true }
def FnExactSameClusterUptoSaid : Prop := fnExactSameClusterUptoRow.holds Try.pinned (OpenSpec.upto fnExactSameClusterSpec)

/-- 'laws.FnExactSameDetector', WHERE WHAT IT READS IS OF BULK AT MOST 1048576: true; the input reads as it did. -/
def fnExactSameDetectorUptoRow : OpenClaim := { program := "ytghfkejdmcpmhaa", sum := "c610259d975340150cd1e233a9158c3fa963054dc99e4e7e1b96e51bfd557d83", func := "loop.example/g01074/laws.FnExactSameDetector", spec := "fnExactSameDetector", unfollowed := true, recurses := true, apart := false, narrowed := true }
def FnExactSameDetectorUptoSaid : Prop := fnExactSameDetectorUptoRow.holds Try.pinned (OpenSpec.upto fnExactSameDetectorSpec)

/-- 'laws.FnExactSameWatched', WHERE WHAT IT READS IS OF BULK AT MOST 1048576: true; the input reads as it did. -/
def fnExactSameWatchedUptoRow : OpenClaim := { program := "ytghfkejdmcpmhaa", sum := "c610259d975340150cd1e233a9158c3fa963054dc99e4e7e1b96e51bfd557d83", func := "loop.example/g01074/laws.FnExactSameWatched", spec := "fnExactSameWatched", unfollowed := true, recurses := true, apart := false, narrowed := true }
def FnExactSameWatchedUptoSaid : Prop := fnExactSameWatchedUptoRow.holds Try.pinned (OpenSpec.upto fnExactSameWatchedSpec)

/-- 'laws.FnExactValidDeque', WHERE WHAT IT READS IS OF BULK AT MOST 1048576: true; the input reads as it did. -/
def fnExactValidDequeUptoRow : OpenClaim := { program := "ytghfkejdmcpmhaa", sum := "c610259d975340150cd1e233a9158c3fa963054dc99e4e7e1b96e51bfd557d83", func := "loop.example/g01074/laws.FnExactValidDeque", spec := "fnExactValidDeque", unfollowed := true, recurses := true, apart := false, narrowed := true }
def FnExactValidDequeUptoSaid : Prop := fnExactValidDequeUptoRow.holds Try.pinned (OpenSpec.upto fnExactValidDequeSpec)

/-- 'laws.FnExactIsDequeDone', WHERE WHAT IT READS IS OF BULK AT MOST 1048576: true; the input reads as it did. -/
def fnExactIsDequeDoneUptoRow : OpenClaim := { program := "ytghfkejdmcpmhaa", sum := "c610259d975340150cd1e233a9158c3fa963054dc99e4e7e1b96e51bfd557d83", func := "loop.example/g01074/laws.FnExactIsDequeDone", spec := "fnExactIsDequeDone", unfollowed := true, recurses := true, apart := false, narrowed := true }
def FnExactIsDequeDoneUptoSaid : Prop := fnExactIsDequeDoneUptoRow.holds Try.pinned (OpenSpec.upto fnExactIsDequeDoneSpec)

end Rows
end Go.Proofs.Ytghfkejdmcpmhaa
