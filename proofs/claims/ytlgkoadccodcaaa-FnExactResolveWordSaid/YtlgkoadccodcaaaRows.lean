/-
  No cell of these rows narrows 'for every input' (looked for: loops, veiled, ifaces, maps, wideKeys, modest, calm, conditions, laid).
  DERIVED. THE GIVEN ROWS OF THIS SEAT. 12 by the template 'for every input the law returns true; each argument reads behind the call as it read before'; 0 by the template 'total and deterministic' (their statements: YtlgkoadccodcaaaTotals.lean).
  GIVEN WITH THE SEED: the statements are not yours to turn. If you find one false, say at which input.
  Laid BY PROGRAM, IN A SANDBOX (cutbox-rows.mjs): the forced cells as the released guide's own fill.sh prints them over the translation 8f81d6517d435ce6… (all of the seat's roots in one cut). By AI agents, Wed Nov 11 2026. No macro, syntax, notation, axiom, sorry.
-/
import Derived.Test.YtlgkoadccodcaaaChecked
import GoSem.Claim
import GoSem.ClaimJoined
import GoSem.ClaimMapViews
import Derived.JoinedTies
import Derived.KernelRfl
namespace Go.Proofs.Ytlgkoadccodcaaa
/- THE CELL 'sum', in the pinned program and in every row, IS THE sha256 OF THE DUMP (.gsa) THAT YtlgkoadccodcaaaProg.lean LOADS. Nothing in Lean hashes anything: it is a label: what it is worth is what the hold of that sum in a sandbox is worth. -/
noncomputable def Try.pinned : Pinned := { name := "ytlgkoadccodcaaa", sum := "8f81d6517d435ce684d51ef4a59eb7369aac936c47402c1eb33889f39ac640b4", checked := Try.checked }
namespace Rows
def none {H : Type} : Left H := { results := [], args := [] }

/-- 'laws.FnExactNewDeque': WHATEVER THE INPUT: true; the input reads as it did. -/
def fnExactNewDequeSpec : ChangeSpec := { name := "fnExactNewDeque", fn := fun _ => fun
  | [d1, d2, d3] => { results := [.lit (.bool true)], args := [d1, d2, d3] }
  | _ => none }
def fnExactNewDequeRow : OpenClaim := { program := "ytlgkoadccodcaaa", sum := "8f81d6517d435ce684d51ef4a59eb7369aac936c47402c1eb33889f39ac640b4", func := "loop.example/g01074/laws.FnExactNewDeque", spec := "fnExactNewDeque", unfollowed := true, recurses := true, apart := false }
def FnExactNewDequeSaid : Prop := fnExactNewDequeRow.holds Try.pinned (OpenSpec.ofChange fnExactNewDequeSpec)

/-- ITS FALSE NEIGHBOUR: 'it returns false'. Refute it at one input. -/
def fnExactNewDequeWrong : ChangeSpec := { name := "fnExactNewDeque", fn := fun _ => fun
  | [d1, d2, d3] => { results := [.lit (.bool false)], args := [d1, d2, d3] }
  | _ => none }
def FnExactNewDequeWrongFalsely : Prop := fnExactNewDequeRow.holds Try.pinned (OpenSpec.ofChange fnExactNewDequeWrong)

/-- 'laws.FnExactNewChannel': WHATEVER THE INPUT: true; the input reads as it did. -/
def fnExactNewChannelSpec : ChangeSpec := { name := "fnExactNewChannel", fn := fun _ => fun
  | [d1, d2] => { results := [.lit (.bool true)], args := [d1, d2] }
  | _ => none }
def fnExactNewChannelRow : OpenClaim := { program := "ytlgkoadccodcaaa", sum := "8f81d6517d435ce684d51ef4a59eb7369aac936c47402c1eb33889f39ac640b4", func := "loop.example/g01074/laws.FnExactNewChannel", spec := "fnExactNewChannel", unfollowed := true, recurses := true, apart := false }
def FnExactNewChannelSaid : Prop := fnExactNewChannelRow.holds Try.pinned (OpenSpec.ofChange fnExactNewChannelSpec)

/-- ITS FALSE NEIGHBOUR: 'it returns false'. Refute it at one input. -/
def fnExactNewChannelWrong : ChangeSpec := { name := "fnExactNewChannel", fn := fun _ => fun
  | [d1, d2] => { results := [.lit (.bool false)], args := [d1, d2] }
  | _ => none }
def FnExactNewChannelWrongFalsely : Prop := fnExactNewChannelRow.holds Try.pinned (OpenSpec.ofChange fnExactNewChannelWrong)

/-- 'laws.FnExactMissingNumbers': WHATEVER THE INPUT: true; the input reads as it did. -/
def fnExactMissingNumbersSpec : ChangeSpec := { name := "fnExactMissingNumbers", fn := fun _ => fun
  | [d] => { results := [.lit (.bool true)], args := [d] }
  | _ => none }
def fnExactMissingNumbersRow : OpenClaim := { program := "ytlgkoadccodcaaa", sum := "8f81d6517d435ce684d51ef4a59eb7369aac936c47402c1eb33889f39ac640b4", func := "loop.example/g01074/laws.FnExactMissingNumbers", spec := "fnExactMissingNumbers", unfollowed := true, recurses := true, apart := false }
def FnExactMissingNumbersSaid : Prop := fnExactMissingNumbersRow.holds Try.pinned (OpenSpec.ofChange fnExactMissingNumbersSpec)

/-- ITS FALSE NEIGHBOUR: 'it returns false'. Refute it at one input. -/
def fnExactMissingNumbersWrong : ChangeSpec := { name := "fnExactMissingNumbers", fn := fun _ => fun
  | [d] => { results := [.lit (.bool false)], args := [d] }
  | _ => none }
def FnExactMissingNumbersWrongFalsely : Prop := fnExactMissingNumbersRow.holds Try.pinned (OpenSpec.ofChange fnExactMissingNumbersWrong)

/-- 'laws.FnExactChannelEvents': WHATEVER THE INPUT: true; the input reads as it did. -/
def fnExactChannelEventsSpec : ChangeSpec := { name := "fnExactChannelEvents", fn := fun _ => fun
  | [d] => { results := [.lit (.bool true)], args := [d] }
  | _ => none }
def fnExactChannelEventsRow : OpenClaim := { program := "ytlgkoadccodcaaa", sum := "8f81d6517d435ce684d51ef4a59eb7369aac936c47402c1eb33889f39ac640b4", func := "loop.example/g01074/laws.FnExactChannelEvents", spec := "fnExactChannelEvents", unfollowed := true, recurses := true, apart := false }
def FnExactChannelEventsSaid : Prop := fnExactChannelEventsRow.holds Try.pinned (OpenSpec.ofChange fnExactChannelEventsSpec)

/-- ITS FALSE NEIGHBOUR: 'it returns false'. Refute it at one input. -/
def fnExactChannelEventsWrong : ChangeSpec := { name := "fnExactChannelEvents", fn := fun _ => fun
  | [d] => { results := [.lit (.bool false)], args := [d] }
  | _ => none }
def FnExactChannelEventsWrongFalsely : Prop := fnExactChannelEventsRow.holds Try.pinned (OpenSpec.ofChange fnExactChannelEventsWrong)

/-- 'laws.FnExactDrainChannel': WHATEVER THE INPUT: true; the input reads as it did. -/
def fnExactDrainChannelSpec : ChangeSpec := { name := "fnExactDrainChannel", fn := fun _ => fun
  | [d1, d2] => { results := [.lit (.bool true)], args := [d1, d2] }
  | _ => none }
def fnExactDrainChannelRow : OpenClaim := { program := "ytlgkoadccodcaaa", sum := "8f81d6517d435ce684d51ef4a59eb7369aac936c47402c1eb33889f39ac640b4", func := "loop.example/g01074/laws.FnExactDrainChannel", spec := "fnExactDrainChannel", inPlace := ["slices.overlaps[loop.example/g01074/impl.Packet]"], unfollowed := true, recurses := true, apart := false }
def FnExactDrainChannelSaid : Prop := fnExactDrainChannelRow.holds Try.pinned (OpenSpec.ofChange fnExactDrainChannelSpec)

/-- ITS FALSE NEIGHBOUR: 'it returns false'. Refute it at one input. -/
def fnExactDrainChannelWrong : ChangeSpec := { name := "fnExactDrainChannel", fn := fun _ => fun
  | [d1, d2] => { results := [.lit (.bool false)], args := [d1, d2] }
  | _ => none }
def FnExactDrainChannelWrongFalsely : Prop := fnExactDrainChannelRow.holds Try.pinned (OpenSpec.ofChange fnExactDrainChannelWrong)

/-- 'laws.FnExactDoEvent': WHATEVER THE INPUT: true; the input reads as it did. -/
def fnExactDoEventSpec : ChangeSpec := { name := "fnExactDoEvent", fn := fun _ => fun
  | [d1, d2] => { results := [.lit (.bool true)], args := [d1, d2] }
  | _ => none }
def fnExactDoEventRow : OpenClaim := { program := "ytlgkoadccodcaaa", sum := "8f81d6517d435ce684d51ef4a59eb7369aac936c47402c1eb33889f39ac640b4", func := "loop.example/g01074/laws.FnExactDoEvent", spec := "fnExactDoEvent", inPlace := ["slices.overlaps[loop.example/g01074/impl.Packet]"], unfollowed := true, recurses := true, apart := false }
def FnExactDoEventSaid : Prop := fnExactDoEventRow.holds Try.pinned (OpenSpec.ofChange fnExactDoEventSpec)

/-- ITS FALSE NEIGHBOUR: 'it returns false'. Refute it at one input. -/
def fnExactDoEventWrong : ChangeSpec := { name := "fnExactDoEvent", fn := fun _ => fun
  | [d1, d2] => { results := [.lit (.bool false)], args := [d1, d2] }
  | _ => none }
def FnExactDoEventWrongFalsely : Prop := fnExactDoEventRow.holds Try.pinned (OpenSpec.ofChange fnExactDoEventWrong)

/-- 'laws.FnExactRunChannel': WHATEVER THE INPUT: true; the input reads as it did. -/
def fnExactRunChannelSpec : ChangeSpec := { name := "fnExactRunChannel", fn := fun _ => fun
  | [d1, d2, d3] => { results := [.lit (.bool true)], args := [d1, d2, d3] }
  | _ => none }
def fnExactRunChannelRow : OpenClaim := { program := "ytlgkoadccodcaaa", sum := "8f81d6517d435ce684d51ef4a59eb7369aac936c47402c1eb33889f39ac640b4", func := "loop.example/g01074/laws.FnExactRunChannel", spec := "fnExactRunChannel", inPlace := ["slices.overlaps[loop.example/g01074/impl.Packet]"], unfollowed := true, recurses := true, apart := false }
def FnExactRunChannelSaid : Prop := fnExactRunChannelRow.holds Try.pinned (OpenSpec.ofChange fnExactRunChannelSpec)

/-- ITS FALSE NEIGHBOUR: 'it returns false'. Refute it at one input. -/
def fnExactRunChannelWrong : ChangeSpec := { name := "fnExactRunChannel", fn := fun _ => fun
  | [d1, d2, d3] => { results := [.lit (.bool false)], args := [d1, d2, d3] }
  | _ => none }
def FnExactRunChannelWrongFalsely : Prop := fnExactRunChannelRow.holds Try.pinned (OpenSpec.ofChange fnExactRunChannelWrong)

/-- 'laws.FnExactCellsFor': WHATEVER THE INPUT: true; the input reads as it did. -/
def fnExactCellsForSpec : ChangeSpec := { name := "fnExactCellsFor", fn := fun _ => fun
  | [d] => { results := [.lit (.bool true)], args := [d] }
  | _ => none }
def fnExactCellsForRow : OpenClaim := { program := "ytlgkoadccodcaaa", sum := "8f81d6517d435ce684d51ef4a59eb7369aac936c47402c1eb33889f39ac640b4", func := "loop.example/g01074/laws.FnExactCellsFor", spec := "fnExactCellsFor", unfollowed := true, recurses := true, apart := false }
def FnExactCellsForSaid : Prop := fnExactCellsForRow.holds Try.pinned (OpenSpec.ofChange fnExactCellsForSpec)

/-- ITS FALSE NEIGHBOUR: 'it returns false'. Refute it at one input. -/
def fnExactCellsForWrong : ChangeSpec := { name := "fnExactCellsFor", fn := fun _ => fun
  | [d] => { results := [.lit (.bool false)], args := [d] }
  | _ => none }
def FnExactCellsForWrongFalsely : Prop := fnExactCellsForRow.holds Try.pinned (OpenSpec.ofChange fnExactCellsForWrong)

/-- 'laws.FnExactValidMemory': WHATEVER THE INPUT: true; the input reads as it did. -/
def fnExactValidMemorySpec : ChangeSpec := { name := "fnExactValidMemory", fn := fun _ => fun
  | [d] => { results := [.lit (.bool true)], args := [d] }
  | _ => none }
def fnExactValidMemoryRow : OpenClaim := { program := "ytlgkoadccodcaaa", sum := "8f81d6517d435ce684d51ef4a59eb7369aac936c47402c1eb33889f39ac640b4", func := "loop.example/g01074/laws.FnExactValidMemory", spec := "fnExactValidMemory", unfollowed := true, recurses := true, apart := false }
def FnExactValidMemorySaid : Prop := fnExactValidMemoryRow.holds Try.pinned (OpenSpec.ofChange fnExactValidMemorySpec)

/-- ITS FALSE NEIGHBOUR: 'it returns false'. Refute it at one input. -/
def fnExactValidMemoryWrong : ChangeSpec := { name := "fnExactValidMemory", fn := fun _ => fun
  | [d] => { results := [.lit (.bool false)], args := [d] }
  | _ => none }
def FnExactValidMemoryWrongFalsely : Prop := fnExactValidMemoryRow.holds Try.pinned (OpenSpec.ofChange fnExactValidMemoryWrong)

/-- 'laws.FnExactResolveWord': WHATEVER THE INPUT: true; the input reads as it did. -/
def fnExactResolveWordSpec : ChangeSpec := { name := "fnExactResolveWord", fn := fun _ => fun
  | [d1, d2] => { results := [.lit (.bool true)], args := [d1, d2] }
  | _ => none }
def fnExactResolveWordRow : OpenClaim := { program := "ytlgkoadccodcaaa", sum := "8f81d6517d435ce684d51ef4a59eb7369aac936c47402c1eb33889f39ac640b4", func := "loop.example/g01074/laws.FnExactResolveWord", spec := "fnExactResolveWord", unfollowed := true, recurses := true, apart := false }
def FnExactResolveWordSaid : Prop := fnExactResolveWordRow.holds Try.pinned (OpenSpec.ofChange fnExactResolveWordSpec)

/-- ITS FALSE NEIGHBOUR: 'it returns false'. Refute it at one input. -/
def fnExactResolveWordWrong : ChangeSpec := { name := "fnExactResolveWord", fn := fun _ => fun
  | [d1, d2] => { results := [.lit (.bool false)], args := [d1, d2] }
  | _ => none }
def FnExactResolveWordWrongFalsely : Prop := fnExactResolveWordRow.holds Try.pinned (OpenSpec.ofChange fnExactResolveWordWrong)

/-- 'laws.FnExactCountCells': WHATEVER THE INPUT: true; the input reads as it did. -/
def fnExactCountCellsSpec : ChangeSpec := { name := "fnExactCountCells", fn := fun _ => fun
  | [d] => { results := [.lit (.bool true)], args := [d] }
  | _ => none }
def fnExactCountCellsRow : OpenClaim := { program := "ytlgkoadccodcaaa", sum := "8f81d6517d435ce684d51ef4a59eb7369aac936c47402c1eb33889f39ac640b4", func := "loop.example/g01074/laws.FnExactCountCells", spec := "fnExactCountCells", unfollowed := true, recurses := true, apart := false }
def FnExactCountCellsSaid : Prop := fnExactCountCellsRow.holds Try.pinned (OpenSpec.ofChange fnExactCountCellsSpec)

/-- ITS FALSE NEIGHBOUR: 'it returns false'. Refute it at one input. -/
def fnExactCountCellsWrong : ChangeSpec := { name := "fnExactCountCells", fn := fun _ => fun
  | [d] => { results := [.lit (.bool false)], args := [d] }
  | _ => none }
def FnExactCountCellsWrongFalsely : Prop := fnExactCountCellsRow.holds Try.pinned (OpenSpec.ofChange fnExactCountCellsWrong)

/-- 'laws.FnExactRedexClass': WHATEVER THE INPUT: true; the input reads as it did. -/
def fnExactRedexClassSpec : ChangeSpec := { name := "fnExactRedexClass", fn := fun _ => fun
  | [d1, d2] => { results := [.lit (.bool true)], args := [d1, d2] }
  | _ => none }
def fnExactRedexClassRow : OpenClaim := { program := "ytlgkoadccodcaaa", sum := "8f81d6517d435ce684d51ef4a59eb7369aac936c47402c1eb33889f39ac640b4", func := "loop.example/g01074/laws.FnExactRedexClass", spec := "fnExactRedexClass", unfollowed := true, recurses := true, apart := false }
def FnExactRedexClassSaid : Prop := fnExactRedexClassRow.holds Try.pinned (OpenSpec.ofChange fnExactRedexClassSpec)

/-- ITS FALSE NEIGHBOUR: 'it returns false'. Refute it at one input. -/
def fnExactRedexClassWrong : ChangeSpec := { name := "fnExactRedexClass", fn := fun _ => fun
  | [d1, d2] => { results := [.lit (.bool false)], args := [d1, d2] }
  | _ => none }
def FnExactRedexClassWrongFalsely : Prop := fnExactRedexClassRow.holds Try.pinned (OpenSpec.ofChange fnExactRedexClassWrong)

/- THE SECOND FORM. 'bulk': how many values and letters a reading holds, each counted each time it is reached (what is shared counts as often as it is met; a slice's spare places count too). A statement '..UptoSaid' is the law's where the arguments, and the package variables that the reading takes, are together of bulk at most 1048576: NARROWER than '..Said'. Prove '..Said' where nothing that the law and all that it calls make is longer than what came in: it says more and counts as full. Else prove '..UptoSaid'. A law counts once. -/
mutual
def uptoBulk {H : Type} : DataW H → Nat
  | .lit (.string bytes) => bytes.length + 1
  | .lit _ => 1
  | .nil => 1
  | .ptr d => uptoBulk d + 1
  | .slice elems spare => uptoBulkAll elems + uptoBulkAll spare + 1
  | .agg parts => uptoBulkAll parts + 1
  | .iface _ d => uptoBulk d + 1
  | .map entries => uptoBulkEntries entries + 1
  | .held _ => 1
def uptoBulkAll {H : Type} : List (DataW H) → Nat
  | [] => 0
  | d :: r => uptoBulk d + uptoBulkAll r
def uptoBulkEntries {H : Type} : List (Lit × DataW H) → Nat
  | [] => 0
  | x :: r => uptoBulkEntry x + uptoBulkEntries r
def uptoBulkEntry {H : Type} : Lit × DataW H → Nat
  | (.string bytes, d) => bytes.length + uptoBulk d + 1
  | (_, d) => uptoBulk d + 1
 end
def uptoSmall : (H : Type) → List (DataW H) → Bool := fun _ ds => decide (uptoBulkAll ds ≤ 1048576)
def OpenSpec.upto (s : _root_.Go.ChangeSpec) : _root_.Go.OpenSpec := { _root_.Go.OpenSpec.ofChange s with cond := some uptoSmall }

/-- 'laws.FnExactNewDeque', WHERE WHAT IT READS IS OF BULK AT MOST 1048576: true; the input reads as it did. -/
def fnExactNewDequeUptoRow : OpenClaim := { program := "ytlgkoadccodcaaa", sum := "8f81d6517d435ce684d51ef4a59eb7369aac936c47402c1eb33889f39ac640b4", func := "loop.example/g01074/laws.FnExactNewDeque", spec := "fnExactNewDeque", unfollowed := true, recurses := true, apart := false, narrowed := true }
def FnExactNewDequeUptoSaid : Prop := fnExactNewDequeUptoRow.holds Try.pinned (OpenSpec.upto fnExactNewDequeSpec)

/-- 'laws.FnExactNewChannel', WHERE WHAT IT READS IS OF BULK AT MOST 1048576: true; the input reads as it did. -/
def fnExactNewChannelUptoRow : OpenClaim := { program := "ytlgkoadccodcaaa", sum := "8f81d6517d435ce684d51ef4a59eb7369aac936c47402c1eb33889f39ac640b4", func := "loop.example/g01074/laws.FnExactNewChannel", spec := "fnExactNewChannel", unfollowed := true, recurses := true, apart := false, narrowed := true }
def FnExactNewChannelUptoSaid : Prop := fnExactNewChannelUptoRow.holds Try.pinned (OpenSpec.upto fnExactNewChannelSpec)

/-- 'laws.FnExactMissingNumbers', WHERE WHAT IT READS IS OF BULK AT MOST 1048576: true; the input reads as it did. -/
def fnExactMissingNumbersUptoRow : OpenClaim := { program := "ytlgkoadccodcaaa", sum := "8f81d6517d435ce684d51ef4a59eb7369aac936c47402c1eb33889f39ac640b4", func := "loop.example/g01074/laws.FnExactMissingNumbers", spec := "fnExactMissingNumbers", unfollowed := true, recurses := true, apart := false, narrowed := true }
def FnExactMissingNumbersUptoSaid : Prop := fnExactMissingNumbersUptoRow.holds Try.pinned (OpenSpec.upto fnExactMissingNumbersSpec)

/-- 'laws.FnExactChannelEvents', WHERE WHAT IT READS IS OF BULK AT MOST 1048576: true; the input reads as it did. -/
def fnExactChannelEventsUptoRow : OpenClaim := { program := "ytlgkoadccodcaaa", sum := "8f81d6517d435ce684d51ef4a59eb7369aac936c47402c1eb33889f39ac640b4", func := "loop.example/g01074/laws.FnExactChannelEvents", spec := "fnExactChannelEvents", unfollowed := true, recurses := true, apart := false, narrowed := true }
def FnExactChannelEventsUptoSaid : Prop := fnExactChannelEventsUptoRow.holds Try.pinned (OpenSpec.upto fnExactChannelEventsSpec)

/-- 'laws.FnExactDrainChannel', WHERE WHAT IT READS IS OF BULK AT MOST 1048576: true; the input reads as it did. -/
def fnExactDrainChannelUptoRow : OpenClaim := { program := "ytlgkoadccodcaaa", sum := "8f81d6517d435ce684d51ef4a59eb7369aac936c47402c1eb33889f39ac640b4", func := "loop.example/g01074/laws.FnExactDrainChannel", spec := "fnExactDrainChannel", inPlace := ["slices.overlaps[loop.example/g01074/impl.Packet]"], unfollowed := true, recurses := true, apart := false, narrowed := true }
def FnExactDrainChannelUptoSaid : Prop := fnExactDrainChannelUptoRow.holds Try.pinned (OpenSpec.upto fnExactDrainChannelSpec)

/-- 'laws.FnExactDoEvent', WHERE WHAT IT READS IS OF BULK AT MOST 1048576: true; the input reads as it did. -/
def fnExactDoEventUptoRow : OpenClaim := { program := "ytlgkoadccodcaaa", sum := "8f81d6517d435ce684d51ef4a59eb7369aac936c47402c1eb33889f39ac640b4", func := "loop.example/g01074/laws.FnExactDoEvent", spec := "fnExactDoEvent", inPlace := ["slices.overlaps[loop.example/g01074/impl.Packet]"], unfollowed := true, recurses := true, apart := false, narrowed := true }
def FnExactDoEventUptoSaid : Prop := fnExactDoEventUptoRow.holds Try.pinned (OpenSpec.upto fnExactDoEventSpec)

/-- 'laws.FnExactRunChannel', WHERE WHAT IT READS IS OF BULK AT MOST 1048576: true; the input reads as it did. -/
def fnExactRunChannelUptoRow : OpenClaim := { program := "ytlgkoadccodcaaa", sum := "8f81d6517d435ce684d51ef4a59eb7369aac936c47402c1eb33889f39ac640b4", func := "loop.example/g01074/laws.FnExactRunChannel", spec := "fnExactRunChannel", inPlace := ["slices.overlaps[loop.example/g01074/impl.Packet]"], unfollowed := true, recurses := true, apart := false, narrowed := true }
def FnExactRunChannelUptoSaid : Prop := fnExactRunChannelUptoRow.holds Try.pinned (OpenSpec.upto fnExactRunChannelSpec)

/-- 'laws.FnExactCellsFor', WHERE WHAT IT READS IS OF BULK AT MOST 1048576: true; the input reads as it did. -/
def fnExactCellsForUptoRow : OpenClaim := { program := "ytlgkoadccodcaaa", sum := "8f81d6517d435ce684d51ef4a59eb7369aac936c47402c1eb33889f39ac640b4", func := "loop.example/g01074/laws.FnExactCellsFor", spec := "fnExactCellsFor", unfollowed := true, recurses := true, apart := false, narrowed := true }
def FnExactCellsForUptoSaid : Prop := fnExactCellsForUptoRow.holds Try.pinned (OpenSpec.upto fnExactCellsForSpec)

/-- 'laws.FnExactValidMemory', WHERE WHAT IT READS IS OF BULK AT MOST 1048576: true; the input reads as it did. -/
def fnExactValidMemoryUptoRow : OpenClaim := { program := "ytlgkoadccodcaaa", sum := "8f81d6517d435ce684d51ef4a59eb7369aac936c47402c1eb33889f39ac640b4", func := "loop.example/g01074/laws.FnExactValidMemory", spec := "fnExactValidMemory", unfollowed := true, recurses := true, apart := false, narrowed := true }
def FnExactValidMemoryUptoSaid : Prop := fnExactValidMemoryUptoRow.holds Try.pinned (OpenSpec.upto fnExactValidMemorySpec)

/-- 'laws.FnExactResolveWord', WHERE WHAT IT READS IS OF BULK AT MOST 1048576: true; the input reads as it did. -/
def fnExactResolveWordUptoRow : OpenClaim := { program := "ytlgkoadccodcaaa", sum := "8f81d6517d435ce684d51ef4a59eb7369aac936c47402c1eb33889f39ac640b4", func := "loop.example/g01074/laws.FnExactResolveWord", spec := "fnExactResolveWord", unfollowed := true, recurses := true, apart := false, narrowed := true }
def FnExactResolveWordUptoSaid : Prop := fnExactResolveWordUptoRow.holds Try.pinned (OpenSpec.upto fnExactResolveWordSpec)

/-- 'laws.FnExactCountCells', WHERE WHAT IT READS IS OF BULK AT MOST 1048576: true; the input reads as it did. -/
def fnExactCountCellsUptoRow : OpenClaim := { program := "ytlgkoadccodcaaa", sum := "8f81d6517d435ce684d51ef4a59eb7369aac936c47402c1eb33889f39ac640b4", func := "loop.example/g01074/laws.FnExactCountCells", spec := "fnExactCountCells", unfollowed := true, recurses := true, apart := false, narrowed := true }
def FnExactCountCellsUptoSaid : Prop := fnExactCountCellsUptoRow.holds Try.pinned (OpenSpec.upto fnExactCountCellsSpec)

/-- 'laws.FnExactRedexClass', WHERE WHAT IT READS IS OF BULK AT MOST 1048576: true; the input reads as it did. -/
def fnExactRedexClassUptoRow : OpenClaim := { program := "ytlgkoadccodcaaa", sum := "8f81d6517d435ce684d51ef4a59eb7369aac936c47402c1eb33889f39ac640b4", func := "loop.example/g01074/laws.FnExactRedexClass", spec := "fnExactRedexClass", unfollowed := true, recurses := true, apart := false, narrowed := true }
def FnExactRedexClassUptoSaid : Prop := fnExactRedexClassUptoRow.holds Try.pinned (OpenSpec.upto fnExactRedexClassSpec)

end Rows
end Go.Proofs.Ytlgkoadccodcaaa
