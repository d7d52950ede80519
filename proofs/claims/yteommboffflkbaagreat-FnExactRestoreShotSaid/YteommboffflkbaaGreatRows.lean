/-
  No cell of these rows narrows 'for every input' (looked for: loops, veiled, ifaces, maps, wideKeys, modest, calm, conditions, laid).
  DERIVED. THE GIVEN ROWS OF THIS SEAT. 12 by the template 'for every input the law returns true; each argument reads behind the call as it read before'; 0 by the template 'total and deterministic' (their statements: YteommboffflkbaaGreatTotals.lean).
  GIVEN WITH THE SEED: the statements are not yours to turn. If you find one false, say at which input.
  Laid BY PROGRAM, IN A SANDBOX (cutbox-rows.mjs): the forced cells as the released guide's own fill.sh prints them over the translation 313d56ef503eb1d9… (all of the seat's roots in one cut). By AI agents, Wed Nov 11 2026. No macro, syntax, notation, axiom, sorry.
-/
import Derived.Test.YteommboffflkbaaGreatChecked
import GoSem.Claim
import GoSem.ClaimJoined
import GoSem.ClaimMapViews
import Derived.JoinedTies
import Derived.KernelRfl
namespace Go.Proofs.YteommboffflkbaaGreat
/- THE CELL 'sum', in the pinned program and in every row, IS THE sha256 OF THE DUMP (.gsa) THAT YteommboffflkbaaGreatProg.lean LOADS. Nothing in Lean hashes anything: it is a label: what it is worth is what the hold of that sum in a sandbox is worth. -/
noncomputable def Tryz.pinned : Pinned := { name := "yteommboffflkbaagreat", sum := "313d56ef503eb1d943bb12fe392ef755229f2e867f14fcca83604591f2193001", checked := Tryz.checked }
namespace Rows
def none {H : Type} : Left H := { results := [], args := [] }

/-- 'laws.FnExactValidCluster': WHATEVER THE INPUT: true; the input reads as it did. -/
def fnExactValidClusterSpec : ChangeSpec := { name := "fnExactValidCluster", fn := fun _ => fun
  | [d] => { results := [.lit (.bool true)], args := [d] }
  | _ => none }
def fnExactValidClusterRow : OpenClaim := { program := "yteommboffflkbaagreat", sum := "313d56ef503eb1d943bb12fe392ef755229f2e867f14fcca83604591f2193001", func := "loop.example/g01074/laws.FnExactValidCluster", spec := "fnExactValidCluster", unfollowed := true, recurses := true, plainKeys := false, apart := false }
def FnExactValidClusterSaid : Prop := fnExactValidClusterRow.holds Tryz.pinned (OpenSpec.ofChange fnExactValidClusterSpec)

/-- ITS FALSE NEIGHBOUR: 'it returns false'. Refute it at one input. -/
def fnExactValidClusterWrong : ChangeSpec := { name := "fnExactValidCluster", fn := fun _ => fun
  | [d] => { results := [.lit (.bool false)], args := [d] }
  | _ => none }
def FnExactValidClusterWrongFalsely : Prop := fnExactValidClusterRow.holds Tryz.pinned (OpenSpec.ofChange fnExactValidClusterWrong)

/-- 'laws.FnExactClusterDone': WHATEVER THE INPUT: true; the input reads as it did. -/
def fnExactClusterDoneSpec : ChangeSpec := { name := "fnExactClusterDone", fn := fun _ => fun
  | [d] => { results := [.lit (.bool true)], args := [d] }
  | _ => none }
def fnExactClusterDoneRow : OpenClaim := { program := "yteommboffflkbaagreat", sum := "313d56ef503eb1d943bb12fe392ef755229f2e867f14fcca83604591f2193001", func := "loop.example/g01074/laws.FnExactClusterDone", spec := "fnExactClusterDone", unfollowed := true, recurses := true, plainKeys := false, apart := false }
def FnExactClusterDoneSaid : Prop := fnExactClusterDoneRow.holds Tryz.pinned (OpenSpec.ofChange fnExactClusterDoneSpec)

/-- ITS FALSE NEIGHBOUR: 'it returns false'. Refute it at one input. -/
def fnExactClusterDoneWrong : ChangeSpec := { name := "fnExactClusterDone", fn := fun _ => fun
  | [d] => { results := [.lit (.bool false)], args := [d] }
  | _ => none }
def FnExactClusterDoneWrongFalsely : Prop := fnExactClusterDoneRow.holds Tryz.pinned (OpenSpec.ofChange fnExactClusterDoneWrong)

/-- 'laws.FnExactInTransit': WHATEVER THE INPUT: true; the input reads as it did. -/
def fnExactInTransitSpec : ChangeSpec := { name := "fnExactInTransit", fn := fun _ => fun
  | [d] => { results := [.lit (.bool true)], args := [d] }
  | _ => none }
def fnExactInTransitRow : OpenClaim := { program := "yteommboffflkbaagreat", sum := "313d56ef503eb1d943bb12fe392ef755229f2e867f14fcca83604591f2193001", func := "loop.example/g01074/laws.FnExactInTransit", spec := "fnExactInTransit", unfollowed := true, recurses := true, plainKeys := false, apart := false }
def FnExactInTransitSaid : Prop := fnExactInTransitRow.holds Tryz.pinned (OpenSpec.ofChange fnExactInTransitSpec)

/-- ITS FALSE NEIGHBOUR: 'it returns false'. Refute it at one input. -/
def fnExactInTransitWrong : ChangeSpec := { name := "fnExactInTransit", fn := fun _ => fun
  | [d] => { results := [.lit (.bool false)], args := [d] }
  | _ => none }
def FnExactInTransitWrongFalsely : Prop := fnExactInTransitRow.holds Tryz.pinned (OpenSpec.ofChange fnExactInTransitWrong)

/-- 'laws.FnExactClusterCounts': WHATEVER THE INPUT: true; the input reads as it did. -/
def fnExactClusterCountsSpec : ChangeSpec := { name := "fnExactClusterCounts", fn := fun _ => fun
  | [d] => { results := [.lit (.bool true)], args := [d] }
  | _ => none }
def fnExactClusterCountsRow : OpenClaim := { program := "yteommboffflkbaagreat", sum := "313d56ef503eb1d943bb12fe392ef755229f2e867f14fcca83604591f2193001", func := "loop.example/g01074/laws.FnExactClusterCounts", spec := "fnExactClusterCounts", unfollowed := true, recurses := true, plainKeys := false, apart := false }
def FnExactClusterCountsSaid : Prop := fnExactClusterCountsRow.holds Tryz.pinned (OpenSpec.ofChange fnExactClusterCountsSpec)

/-- ITS FALSE NEIGHBOUR: 'it returns false'. Refute it at one input. -/
def fnExactClusterCountsWrong : ChangeSpec := { name := "fnExactClusterCounts", fn := fun _ => fun
  | [d] => { results := [.lit (.bool false)], args := [d] }
  | _ => none }
def FnExactClusterCountsWrongFalsely : Prop := fnExactClusterCountsRow.holds Tryz.pinned (OpenSpec.ofChange fnExactClusterCountsWrong)

/-- 'laws.FnExactEnabledActions': WHATEVER THE INPUT: true; the input reads as it did. -/
def fnExactEnabledActionsSpec : ChangeSpec := { name := "fnExactEnabledActions", fn := fun _ => fun
  | [d] => { results := [.lit (.bool true)], args := [d] }
  | _ => none }
def fnExactEnabledActionsRow : OpenClaim := { program := "yteommboffflkbaagreat", sum := "313d56ef503eb1d943bb12fe392ef755229f2e867f14fcca83604591f2193001", func := "loop.example/g01074/laws.FnExactEnabledActions", spec := "fnExactEnabledActions", unfollowed := true, recurses := true, plainKeys := false, apart := false }
def FnExactEnabledActionsSaid : Prop := fnExactEnabledActionsRow.holds Tryz.pinned (OpenSpec.ofChange fnExactEnabledActionsSpec)

/-- ITS FALSE NEIGHBOUR: 'it returns false'. Refute it at one input. -/
def fnExactEnabledActionsWrong : ChangeSpec := { name := "fnExactEnabledActions", fn := fun _ => fun
  | [d] => { results := [.lit (.bool false)], args := [d] }
  | _ => none }
def FnExactEnabledActionsWrongFalsely : Prop := fnExactEnabledActionsRow.holds Tryz.pinned (OpenSpec.ofChange fnExactEnabledActionsWrong)

/-- 'laws.FnExactValidDetector': WHATEVER THE INPUT: true; the input reads as it did. -/
def fnExactValidDetectorSpec : ChangeSpec := { name := "fnExactValidDetector", fn := fun _ => fun
  | [d] => { results := [.lit (.bool true)], args := [d] }
  | _ => none }
def fnExactValidDetectorRow : OpenClaim := { program := "yteommboffflkbaagreat", sum := "313d56ef503eb1d943bb12fe392ef755229f2e867f14fcca83604591f2193001", func := "loop.example/g01074/laws.FnExactValidDetector", spec := "fnExactValidDetector", unfollowed := true, recurses := true, plainKeys := false, apart := false }
def FnExactValidDetectorSaid : Prop := fnExactValidDetectorRow.holds Tryz.pinned (OpenSpec.ofChange fnExactValidDetectorSpec)

/-- ITS FALSE NEIGHBOUR: 'it returns false'. Refute it at one input. -/
def fnExactValidDetectorWrong : ChangeSpec := { name := "fnExactValidDetector", fn := fun _ => fun
  | [d] => { results := [.lit (.bool false)], args := [d] }
  | _ => none }
def FnExactValidDetectorWrongFalsely : Prop := fnExactValidDetectorRow.holds Tryz.pinned (OpenSpec.ofChange fnExactValidDetectorWrong)

/-- 'laws.FnExactCanMoveToken': WHATEVER THE INPUT: true; the input reads as it did. -/
def fnExactCanMoveTokenSpec : ChangeSpec := { name := "fnExactCanMoveToken", fn := fun _ => fun
  | [d] => { results := [.lit (.bool true)], args := [d] }
  | _ => none }
def fnExactCanMoveTokenRow : OpenClaim := { program := "yteommboffflkbaagreat", sum := "313d56ef503eb1d943bb12fe392ef755229f2e867f14fcca83604591f2193001", func := "loop.example/g01074/laws.FnExactCanMoveToken", spec := "fnExactCanMoveToken", unfollowed := true, recurses := true, plainKeys := false, apart := false }
def FnExactCanMoveTokenSaid : Prop := fnExactCanMoveTokenRow.holds Tryz.pinned (OpenSpec.ofChange fnExactCanMoveTokenSpec)

/-- ITS FALSE NEIGHBOUR: 'it returns false'. Refute it at one input. -/
def fnExactCanMoveTokenWrong : ChangeSpec := { name := "fnExactCanMoveToken", fn := fun _ => fun
  | [d] => { results := [.lit (.bool false)], args := [d] }
  | _ => none }
def FnExactCanMoveTokenWrongFalsely : Prop := fnExactCanMoveTokenRow.holds Tryz.pinned (OpenSpec.ofChange fnExactCanMoveTokenWrong)

/-- 'laws.FnExactValidWatched': WHATEVER THE INPUT: true; the input reads as it did. -/
def fnExactValidWatchedSpec : ChangeSpec := { name := "fnExactValidWatched", fn := fun _ => fun
  | [d] => { results := [.lit (.bool true)], args := [d] }
  | _ => none }
def fnExactValidWatchedRow : OpenClaim := { program := "yteommboffflkbaagreat", sum := "313d56ef503eb1d943bb12fe392ef755229f2e867f14fcca83604591f2193001", func := "loop.example/g01074/laws.FnExactValidWatched", spec := "fnExactValidWatched", unfollowed := true, recurses := true, plainKeys := false, apart := false }
def FnExactValidWatchedSaid : Prop := fnExactValidWatchedRow.holds Tryz.pinned (OpenSpec.ofChange fnExactValidWatchedSpec)

/-- ITS FALSE NEIGHBOUR: 'it returns false'. Refute it at one input. -/
def fnExactValidWatchedWrong : ChangeSpec := { name := "fnExactValidWatched", fn := fun _ => fun
  | [d] => { results := [.lit (.bool false)], args := [d] }
  | _ => none }
def FnExactValidWatchedWrongFalsely : Prop := fnExactValidWatchedRow.holds Tryz.pinned (OpenSpec.ofChange fnExactValidWatchedWrong)

/-- 'laws.FnExactShotDone': WHATEVER THE INPUT: true; the input reads as it did. -/
def fnExactShotDoneSpec : ChangeSpec := { name := "fnExactShotDone", fn := fun _ => fun
  | [d] => { results := [.lit (.bool true)], args := [d] }
  | _ => none }
def fnExactShotDoneRow : OpenClaim := { program := "yteommboffflkbaagreat", sum := "313d56ef503eb1d943bb12fe392ef755229f2e867f14fcca83604591f2193001", func := "loop.example/g01074/laws.FnExactShotDone", spec := "fnExactShotDone", unfollowed := true, recurses := true, plainKeys := false, apart := false }
def FnExactShotDoneSaid : Prop := fnExactShotDoneRow.holds Tryz.pinned (OpenSpec.ofChange fnExactShotDoneSpec)

/-- ITS FALSE NEIGHBOUR: 'it returns false'. Refute it at one input. -/
def fnExactShotDoneWrong : ChangeSpec := { name := "fnExactShotDone", fn := fun _ => fun
  | [d] => { results := [.lit (.bool false)], args := [d] }
  | _ => none }
def FnExactShotDoneWrongFalsely : Prop := fnExactShotDoneRow.holds Tryz.pinned (OpenSpec.ofChange fnExactShotDoneWrong)

/-- 'laws.FnExactNewDetector': WHATEVER THE INPUT: true; the input reads as it did. -/
def fnExactNewDetectorSpec : ChangeSpec := { name := "fnExactNewDetector", fn := fun _ => fun
  | [d] => { results := [.lit (.bool true)], args := [d] }
  | _ => none }
def fnExactNewDetectorRow : OpenClaim := { program := "yteommboffflkbaagreat", sum := "313d56ef503eb1d943bb12fe392ef755229f2e867f14fcca83604591f2193001", func := "loop.example/g01074/laws.FnExactNewDetector", spec := "fnExactNewDetector", unfollowed := true, recurses := true, plainKeys := false, apart := false }
def FnExactNewDetectorSaid : Prop := fnExactNewDetectorRow.holds Tryz.pinned (OpenSpec.ofChange fnExactNewDetectorSpec)

/-- ITS FALSE NEIGHBOUR: 'it returns false'. Refute it at one input. -/
def fnExactNewDetectorWrong : ChangeSpec := { name := "fnExactNewDetector", fn := fun _ => fun
  | [d] => { results := [.lit (.bool false)], args := [d] }
  | _ => none }
def FnExactNewDetectorWrongFalsely : Prop := fnExactNewDetectorRow.holds Tryz.pinned (OpenSpec.ofChange fnExactNewDetectorWrong)

/-- 'laws.FnExactMoveToken': WHATEVER THE INPUT: true; the input reads as it did. -/
def fnExactMoveTokenSpec : ChangeSpec := { name := "fnExactMoveToken", fn := fun _ => fun
  | [d] => { results := [.lit (.bool true)], args := [d] }
  | _ => none }
def fnExactMoveTokenRow : OpenClaim := { program := "yteommboffflkbaagreat", sum := "313d56ef503eb1d943bb12fe392ef755229f2e867f14fcca83604591f2193001", func := "loop.example/g01074/laws.FnExactMoveToken", spec := "fnExactMoveToken", unfollowed := true, recurses := true, plainKeys := false, apart := false }
def FnExactMoveTokenSaid : Prop := fnExactMoveTokenRow.holds Tryz.pinned (OpenSpec.ofChange fnExactMoveTokenSpec)

/-- ITS FALSE NEIGHBOUR: 'it returns false'. Refute it at one input. -/
def fnExactMoveTokenWrong : ChangeSpec := { name := "fnExactMoveToken", fn := fun _ => fun
  | [d] => { results := [.lit (.bool false)], args := [d] }
  | _ => none }
def FnExactMoveTokenWrongFalsely : Prop := fnExactMoveTokenRow.holds Tryz.pinned (OpenSpec.ofChange fnExactMoveTokenWrong)

/-- 'laws.FnExactRestoreShot': WHATEVER THE INPUT: true; the input reads as it did. -/
def fnExactRestoreShotSpec : ChangeSpec := { name := "fnExactRestoreShot", fn := fun _ => fun
  | [d] => { results := [.lit (.bool true)], args := [d] }
  | _ => none }
def fnExactRestoreShotRow : OpenClaim := { program := "yteommboffflkbaagreat", sum := "313d56ef503eb1d943bb12fe392ef755229f2e867f14fcca83604591f2193001", func := "loop.example/g01074/laws.FnExactRestoreShot", spec := "fnExactRestoreShot", unfollowed := true, recurses := true, plainKeys := false, apart := false }
def FnExactRestoreShotSaid : Prop := fnExactRestoreShotRow.holds Tryz.pinned (OpenSpec.ofChange fnExactRestoreShotSpec)

/-- ITS FALSE NEIGHBOUR: 'it returns false'. Refute it at one input. -/
def fnExactRestoreShotWrong : ChangeSpec := { name := "fnExactRestoreShot", fn := fun _ => fun
  | [d] => { results := [.lit (.bool false)], args := [d] }
  | _ => none }
def FnExactRestoreShotWrongFalsely : Prop := fnExactRestoreShotRow.holds Tryz.pinned (OpenSpec.ofChange fnExactRestoreShotWrong)

/- THE SECOND FORM. 'bulk': how many values and letters a reading holds, each counted each time it is reached (what is shared counts as often as it is met; a slice's spare places count too). A statement '..UptoSaid' is the law's where the arguments, and the package variables that the reading takes, are together of bulk at most 1048576: NARROWER than '..Said'. Prove '..Said' where nothing that the law and all that it calls make is longer than what came in: it says more and counts as full. Else prove '..UptoSaid'. A law counts once. -/
mutual
def uptoBulk {H : Type} : DataW H → Nat
  | .lit (.string bytes) => bytes.length + 1
  | .lit _ => 1
  | .nil => 1
  | .ptr d => uptoBulk d + 1
  | .slice elems spare => uptoBulkAll elems + uptoBulkAll spare + 1
  | .agg parts => uptoBulkAll parts + 1
  | .iface _ d => uptoBulk d + 1
  | .map entries => uptoBulkEntries entries + 1
  | .held _ => 1
def uptoBulkAll {H : Type} : List (DataW H) → Nat
  | [] => 0
  | d :: r => uptoBulk d + uptoBulkAll r
def uptoBulkEntries {H : Type} : List (Lit × DataW H) → Nat
  | [] => 0
  | x :: r => uptoBulkEntry x + uptoBulkEntries r
def uptoBulkEntry {H : Type} : Lit × DataW H → Nat
  | (.string bytes, d) => bytes.length + uptoBulk d + 1
  | (_, d) => uptoBulk d + 1
 end
def uptoSmall : (H : Type) → List (DataW H) → Bool := fun _ ds => decide (uptoBulkAll ds ≤ 1048576)
def OpenSpec.upto (s : _root_.Go.ChangeSpec) : _root_.Go.OpenSpec := { _root_.Go.OpenSpec.ofChange s with cond := some uptoSmall }

/-- 'laws.FnExactValidCluster', WHERE WHAT IT READS IS OF BULK AT MOST 1048576: true; the input reads as it did. -/
def fnExactValidClusterUptoRow : OpenClaim := { program := "yteommboffflkbaagreat", sum := "313d56ef503eb1d943bb12fe392ef755229f2e867f14fcca83604591f2193001", func := "loop.example/g01074/laws.FnExactValidCluster", spec := "fnExactValidCluster", unfollowed := true, recurses := true, plainKeys := false, apart := false, narrowed := true }
def FnExactValidClusterUptoSaid : Prop := fnExactValidClusterUptoRow.holds Tryz.pinned (OpenSpec.upto fnExactValidClusterSpec)

/-- 'laws.FnExactClusterDone', WHERE WHAT IT READS IS OF BULK AT MOST 1048576: true; the input reads as it did. -/
def fnExactClusterDoneUptoRow : OpenClaim := { program := "yteommboffflkbaagreat", sum := "313d56ef503eb1d943bb12fe392ef755229f2e867f14fcca83604591f2193001", func := "loop.example/g01074/laws.FnExactClusterDone", spec := "fnExactClusterDone", unfollowed := true, recurses := true, plainKeys := false, apart := false, narrowed := true }
def FnExactClusterDoneUptoSaid : Prop := fnExactClusterDoneUptoRow.holds Tryz.pinned (OpenSpec.upto fnExactClusterDoneSpec)

/-- 'laws.FnExactInTransit', WHERE WHAT IT READS IS OF BULK AT MOST 1048576: true; the input reads as it did. -/
def fnExactInTransitUptoRow : OpenClaim := { program := "yteommboffflkbaagreat", sum := "313d56ef503eb1d943bb12fe392ef755229f2e867f14fcca83604591f2193001", func := "loop.example/g01074/laws.FnExactInTransit", spec := "fnExactInTransit", unfollowed := true, recurses := true, plainKeys := false, apart := false, narrowed := true }
def FnExactInTransitUptoSaid : Prop := fnExactInTransitUptoRow.holds Tryz.pinned (OpenSpec.upto fnExactInTransitSpec)

/-- 'laws.FnExactClusterCounts', WHERE WHAT IT READS IS OF BULK AT MOST 1048576: true; the input reads as it did. -/
def fnExactClusterCountsUptoRow : OpenClaim := { program := "yteommboffflkbaagreat", sum := "313d56ef503eb1d943bb12fe392ef755229f2e867f14fcca83604591f2193001", func := "loop.example/g01074/laws.FnExactClusterCounts", spec := "fnExactClusterCounts", unfollowed := true, recurses := true, plainKeys := false, apart := false, narrowed := true }
def FnExactClusterCountsUptoSaid : Prop := fnExactClusterCountsUptoRow.holds Tryz.pinned (OpenSpec.upto fnExactClusterCountsSpec)

/-- 'laws.FnExactEnabledActions', WHERE WHAT IT READS IS OF BULK AT MOST 1048576: true; the input reads as it did. -/
def fnExactEnabledActionsUptoRow : OpenClaim := { program := "yteommboffflkbaagreat", sum := "313d56ef503eb1d943bb12fe392ef755229f2e867f14fcca83604591f2193001", func := "loop.example/g01074/laws.FnExactEnabledActions", spec := "fnExactEnabledActions", unfollowed := true, recurses := true, plainKeys := false, apart := false, narrowed := true }
def FnExactEnabledActionsUptoSaid : Prop := fnExactEnabledActionsUptoRow.holds Tryz.pinned (OpenSpec.upto fnExactEnabledActionsSpec)

/-- 'laws.FnExactValidDetector', WHERE WHAT IT READS IS OF BULK AT MOST 1048576: true; the input reads as it did. -/
def fnExactValidDetectorUptoRow : OpenClaim := { program := "yteommboffflkbaagreat", sum := "313d56ef503eb1d943bb12fe392ef755229f2e867f14fcca83604591f2193001", func := "loop.example/g01074/laws.FnExactValidDetector", spec := "fnExactValidDetector", unfollowed := true, recurses := true, plainKeys := false, apart := false, narrowed := true }
def FnExactValidDetectorUptoSaid : Prop := fnExactValidDetectorUptoRow.holds Tryz.pinned (OpenSpec.upto fnExactValidDetectorSpec)

/-- 'laws.FnExactCanMoveToken', WHERE WHAT IT READS IS OF BULK AT MOST 1048576: true; the input reads as it did. -/
def fnExactCanMoveTokenUptoRow : OpenClaim := { program := "yteommboffflkbaagreat", sum := "313d56ef503eb1d943bb12fe392ef755229f2e867f14fcca83604591f2193001", func := "loop.example/g01074/laws.FnExactCanMoveToken", spec := "fnExactCanMoveToken", unfollowed := true, recurses := true, plainKeys := false, apart := false, narrowed := true }
def FnExactCanMoveTokenUptoSaid : Prop := fnExactCanMoveTokenUptoRow.holds Tryz.pinned (OpenSpec.upto fnExactCanMoveTokenSpec)

/-- 'laws.FnExactValidWatched', WHERE WHAT IT READS IS OF BULK AT MOST 1048576: true; the input reads as it did. -/
def fnExactValidWatchedUptoRow : OpenClaim := { program := "yteommboffflkbaagreat", sum := "313d56ef503eb1d943bb12fe392ef755229f2e867f14fcca83604591f2193001", func := "loop.example/g01074/laws.FnExactValidWatched", spec := "fnExactValidWatched", unfollowed := true, recurses := true, plainKeys := false, apart := false, narrowed := true }
def FnExactValidWatchedUptoSaid : Prop := fnExactValidWatchedUptoRow.holds Tryz.pinned (OpenSpec.upto fnExactValidWatchedSpec)

/-- 'laws.FnExactShotDone', WHERE WHAT IT READS IS OF BULK AT MOST 1048576: true; the input reads as it did. -/
def fnExactShotDoneUptoRow : OpenClaim := { program := "yteommboffflkbaagreat", sum := "313d56ef503eb1d943bb12fe392ef755229f2e867f14fcca83604591f2193001", func := "loop.example/g01074/laws.FnExactShotDone", spec := "fnExactShotDone", unfollowed := true, recurses := true, plainKeys := false, apart := false, narrowed := true }
def FnExactShotDoneUptoSaid : Prop := fnExactShotDoneUptoRow.holds Tryz.pinned (OpenSpec.upto fnExactShotDoneSpec)

/-- 'laws.FnExactNewDetector', WHERE WHAT IT READS IS OF BULK AT MOST 1048576: true; the input reads as it did. -/
def fnExactNewDetectorUptoRow : OpenClaim := { program := "yteommboffflkbaagreat", sum := "313d56ef503eb1d943bb12fe392ef755229f2e867f14fcca83604591f2193001", func := "loop.example/g01074/laws.FnExactNewDetector", spec := "fnExactNewDetector", unfollowed := true, recurses := true, plainKeys := false, apart := false, narrowed := true }
def FnExactNewDetectorUptoSaid : Prop := fnExactNewDetectorUptoRow.holds Tryz.pinned (OpenSpec.upto fnExactNewDetectorSpec)

/-- 'laws.FnExactMoveToken', WHERE WHAT IT READS IS OF BULK AT MOST 1048576: true; the input reads as it did. -/
def fnExactMoveTokenUptoRow : OpenClaim := { program := "yteommboffflkbaagreat", sum := "313d56ef503eb1d943bb12fe392ef755229f2e867f14fcca83604591f2193001", func := "loop.example/g01074/laws.FnExactMoveToken", spec := "fnExactMoveToken", unfollowed := true, recurses := true, plainKeys := false, apart := false, narrowed := true }
def FnExactMoveTokenUptoSaid : Prop := fnExactMoveTokenUptoRow.holds Tryz.pinned (OpenSpec.upto fnExactMoveTokenSpec)

/-- 'laws.FnExactRestoreShot', WHERE WHAT IT READS IS OF BULK AT MOST 1048576: true; the input reads as it did. -/
def fnExactRestoreShotUptoRow : OpenClaim := { program := "yteommboffflkbaagreat", sum := "313d56ef503eb1d943bb12fe392ef755229f2e867f14fcca83604591f2193001", func := "loop.example/g01074/laws.FnExactRestoreShot", spec := "fnExactRestoreShot", unfollowed := true, recurses := true, plainKeys := false, apart := false, narrowed := true }
def FnExactRestoreShotUptoSaid : Prop := fnExactRestoreShotUptoRow.holds Tryz.pinned (OpenSpec.upto fnExactRestoreShotSpec)

end Rows
end Go.Proofs.YteommboffflkbaaGreat
