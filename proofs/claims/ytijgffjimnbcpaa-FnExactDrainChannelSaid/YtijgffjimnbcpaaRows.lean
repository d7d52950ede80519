/-
  No cell of these rows narrows 'for every input' (looked for: loops, veiled, ifaces, maps, wideKeys, modest, calm, conditions, laid).
  DERIVED. THE GIVEN ROWS OF THIS SEAT. 3 by the template 'for every input the law returns true; each argument reads behind the call as it read before'; 0 by the template 'total and deterministic' (their statements: YtijgffjimnbcpaaTotals.lean).
  GIVEN WITH THE SEED: the statements are not yours to turn. If you find one false, say at which input.
  Laid BY PROGRAM, IN A SANDBOX (cutbox-rows.mjs): the forced cells as the released guide's own fill.sh prints them over the translation 8d4ccba0385b389a… (all of the seat's roots in one cut). By AI agents, Wed Nov 11 2026. No macro, syntax, notation, axiom, sorry.
-/
import Derived.Test.YtijgffjimnbcpaaChecked
import GoSem.Claim
import GoSem.ClaimJoined
import GoSem.ClaimMapViews
import Derived.JoinedTies
import Derived.KernelRfl
namespace Go.Proofs.Ytijgffjimnbcpaa
/- THE CELL 'sum', in the pinned program and in every row, IS THE sha256 OF THE DUMP (.gsa) THAT YtijgffjimnbcpaaProg.lean LOADS. Nothing in Lean hashes anything: it is a label: what it is worth is what the hold of that sum in a sandbox is worth. -/
noncomputable def Try.pinned : Pinned := { name := "ytijgffjimnbcpaa", sum := "8d4ccba0385b389a8ba875c1c955010915c294a040d02b247211828fd01c6b77", checked := Try.checked }
namespace Rows
def none {H : Type} : Left H := { results := [], args := [] }

/-- 'laws.FnExactDrainChannel': WHATEVER THE INPUT: true; the input reads as it did. -/
def fnExactDrainChannelSpec : ChangeSpec := { name := "fnExactDrainChannel", fn := fun _ => fun
  | [d1, d2] => { results := [.lit (.bool true)], args := [d1, d2] }
  | _ => none }
def fnExactDrainChannelRow : OpenClaim := { program := "ytijgffjimnbcpaa", sum := "8d4ccba0385b389a8ba875c1c955010915c294a040d02b247211828fd01c6b77", func := "loop.example/g01074/laws.FnExactDrainChannel", spec := "fnExactDrainChannel", inPlace := ["slices.overlaps[loop.example/g01074/impl.Packet]"], unfollowed := true, recurses := true, apart := false }
def FnExactDrainChannelSaid : Prop := fnExactDrainChannelRow.holds Try.pinned (OpenSpec.ofChange fnExactDrainChannelSpec)

/-- ITS FALSE NEIGHBOUR: 'it returns false'. Refute it at one input. -/
def fnExactDrainChannelWrong : ChangeSpec := { name := "fnExactDrainChannel", fn := fun _ => fun
  | [d1, d2] => { results := [.lit (.bool false)], args := [d1, d2] }
  | _ => none }
def FnExactDrainChannelWrongFalsely : Prop := fnExactDrainChannelRow.holds Try.pinned (OpenSpec.ofChange fnExactDrainChannelWrong)

/-- 'laws.FnExactDoEvent': WHATEVER THE INPUT: true; the input reads as it did. -/
def fnExactDoEventSpec : ChangeSpec := { name := "fnExactDoEvent", fn := fun _ => fun
  | [d1, d2] => { results := [.lit (.bool true)], args := [d1, d2] }
  | _ => none }
def fnExactDoEventRow : OpenClaim := { program := "ytijgffjimnbcpaa", sum := "8d4ccba0385b389a8ba875c1c955010915c294a040d02b247211828fd01c6b77", func := "loop.example/g01074/laws.FnExactDoEvent", spec := "fnExactDoEvent", inPlace := ["slices.overlaps[loop.example/g01074/impl.Packet]"], unfollowed := true, recurses := true, apart := false }
def FnExactDoEventSaid : Prop := fnExactDoEventRow.holds Try.pinned (OpenSpec.ofChange fnExactDoEventSpec)

/-- ITS FALSE NEIGHBOUR: 'it returns false'. Refute it at one input. -/
def fnExactDoEventWrong : ChangeSpec := { name := "fnExactDoEvent", fn := fun _ => fun
  | [d1, d2] => { results := [.lit (.bool false)], args := [d1, d2] }
  | _ => none }
def FnExactDoEventWrongFalsely : Prop := fnExactDoEventRow.holds Try.pinned (OpenSpec.ofChange fnExactDoEventWrong)

/-- 'laws.FnExactRunChannel': WHATEVER THE INPUT: true; the input reads as it did. -/
def fnExactRunChannelSpec : ChangeSpec := { name := "fnExactRunChannel", fn := fun _ => fun
  | [d1, d2, d3] => { results := [.lit (.bool true)], args := [d1, d2, d3] }
  | _ => none }
def fnExactRunChannelRow : OpenClaim := { program := "ytijgffjimnbcpaa", sum := "8d4ccba0385b389a8ba875c1c955010915c294a040d02b247211828fd01c6b77", func := "loop.example/g01074/laws.FnExactRunChannel", spec := "fnExactRunChannel", inPlace := ["slices.overlaps[loop.example/g01074/impl.Packet]"], unfollowed := true, recurses := true, apart := false }
def FnExactRunChannelSaid : Prop := fnExactRunChannelRow.holds Try.pinned (OpenSpec.ofChange fnExactRunChannelSpec)

/-- ITS FALSE NEIGHBOUR: 'it returns false'. Refute it at one input. -/
def fnExactRunChannelWrong : ChangeSpec := { name := "fnExactRunChannel", fn := fun _ => fun
  | [d1, d2, d3] => { results := [.lit (.bool false)], args := [d1, d2, d3] }
  | _ => none }
def FnExactRunChannelWrongFalsely : Prop := fnExactRunChannelRow.holds Try.pinned (OpenSpec.ofChange fnExactRunChannelWrong)

/- THE SECOND FORM. 'bulk': how many values and letters a reading holds, each counted each time it is reached (what is shared counts as often as it is met; a slice's spare places count too). A statement '..UptoSaid' is the law's where the arguments, and the package variables that the reading takes, are together of bulk at most 1048576: NARROWER than '..Said'. Prove '..Said' where nothing that the law and all that it calls make is longer than what came in: it says more and counts as full. Else prove '..UptoSaid'. A law counts once. -/
mutual
def uptoBulk {H : Type} : DataW H → Nat
  | .lit (.string bytes) => bytes.length + 1
  | .lit _ => 1
  | .nil => 1
  | .ptr d => uptoBulk d + 1
  | .slice elems spare => uptoBulkAll elems + uptoBulkAll spare + 1
  | .agg parts => uptoBulkAll parts + 1
  | .iface _ d => uptoBulk d + 1
  | .map entries => uptoBulkEntries entries + 1
  | .held _ => 1
def uptoBulkAll {H : Type} : List (DataW H) → Nat
  | [] => 0
  | d :: r => uptoBulk d + uptoBulkAll r
def uptoBulkEntries {H : Type} : List (Lit × DataW H) → Nat
  | [] => 0
  | x :: r => uptoBulkEntry x + uptoBulkEntries r
def uptoBulkEntry {H : Type} : Lit × DataW H → Nat
  | (.string bytes, d) => bytes.length + uptoBulk d + 1
  | (_, d) => uptoBulk d + 1
 end
def uptoSmall : (H : Type) → List (DataW H) → Bool := fun _ ds => decide (uptoBulkAll ds ≤ 1048576)
def OpenSpec.upto (s : _root_.Go.ChangeSpec) : _root_.Go.OpenSpec := { _root_.Go.OpenSpec.ofChange s with cond := some uptoSmall }

/-- 'laws.FnExactDrainChannel', WHERE WHAT IT READS IS OF BULK AT MOST 1048576: true; the input reads as it did. -/
def fnExactDrainChannelUptoRow : OpenClaim := { program := "ytijgffjimnbcpaa", sum := "8d4ccba0385b389a8ba875c1c955010915c294a040d02b247211828fd01c6b77", func := "loop.example/g01074/laws.FnExactDrainChannel", spec := "fnExactDrainChannel", inPlace := ["slices.overlaps[loop.example/g01074/impl.Packet]"], unfollowed := true, recurses := true, apart := false, narrowed := true }
def FnExactDrainChannelUptoSaid : Prop := fnExactDrainChannelUptoRow.holds Try.pinned (OpenSpec.upto fnExactDrainChannelSpec)

/-- 'laws.FnExactDoEvent', WHERE WHAT IT READS IS OF BULK AT MOST 1048576: true; the input reads as it did. -/
def fnExactDoEventUptoRow : OpenClaim := { program := "ytijgffjimnbcpaa", sum := "8d4ccba0385b389a8ba875c1c955010915c294a040d02b247211828fd01c6b77", func := "loop.example/g01074/laws.FnExactDoEvent", spec := "fnExactDoEvent", inPlace := ["slices.overlaps[loop.example/g01074/impl.Packet]"], unfollowed := true, recurses := true, apart := false, narrowed := true }
def FnExactDoEventUptoSaid : Prop := fnExactDoEventUptoRow.holds Try.pinned (OpenSpec.upto fnExactDoEventSpec)

/-- 'laws.FnExactRunChannel', WHERE WHAT IT READS IS OF BULK AT MOST 1048576: true; the input reads as it did. -/
def fnExactRunChannelUptoRow : OpenClaim := { program := "ytijgffjimnbcpaa", sum := "8d4ccba0385b389a8ba875c1c955010915c294a040d02b247211828fd01c6b77", func := "loop.example/g01074/laws.FnExactRunChannel", spec := "fnExactRunChannel", inPlace := ["slices.overlaps[loop.example/g01074/impl.Packet]"], unfollowed := true, recurses := true, apart := false, narrowed := true }
def FnExactRunChannelUptoSaid : Prop := fnExactRunChannelUptoRow.holds Try.pinned (OpenSpec.upto fnExactRunChannelSpec)

end Rows
end Go.Proofs.Ytijgffjimnbcpaa
