/-
  No cell of these rows narrows 'for every input' (looked for: loops, veiled, ifaces, maps, wideKeys, modest, calm, conditions, laid).
  DERIVED. THE GIVEN ROWS OF THIS SEAT. 6 by the template 'for every input the law returns true; each argument reads behind the call as it read before'; 0 by the template 'total and deterministic' (their statements: YtlepmbkfpfnnfaaTotals.lean).
  GIVEN WITH THE SEED: the statements are not yours to turn. If you find one false, say at which input.
  Laid BY PROGRAM, IN A SANDBOX (cutbox-rows.mjs): the forced cells as the released guide's own fill.sh prints them over the translation b83e22f6325efc97… (all of the seat's roots in one cut). By AI agents, Wed Nov 11 2026. No macro, syntax, notation, axiom, sorry.
-/
import Derived.Test.YtlepmbkfpfnnfaaChecked
import GoSem.Claim
import GoSem.ClaimJoined
import GoSem.ClaimMapViews
import Derived.JoinedTies
import Derived.KernelRfl
namespace Go.Proofs.Ytlepmbkfpfnnfaa
/- THE CELL 'sum', in the pinned program and in every row, IS THE sha256 OF THE DUMP (.gsa) THAT YtlepmbkfpfnnfaaProg.lean LOADS. Nothing in Lean hashes anything: it is a label: what it is worth is what the hold of that sum in a sandbox is worth. -/
noncomputable def Try.pinned : Pinned := { name := "ytlepmbkfpfnnfaa", sum := "b83e22f6325efc9799a3be52e961045e084f0e2aca83f666f2797794325cf528", checked := Try.checked }
namespace Rows
def none {H : Type} : Left H := { results := [], args := [] }

/-- 'laws.FnExactSameChannel': WHATEVER THE INPUT: true; the input reads as it did. -/
def fnExactSameChannelSpec : ChangeSpec := { name := "fnExactSameChannel", fn := fun _ => fun
  | [d1, d2] => { results := [.lit (.bool true)], args := [d1, d2] }
  | _ => none }
def fnExactSameChannelRow : OpenClaim := { program := "ytlepmbkfpfnnfaa", sum := "b83e22f6325efc9799a3be52e961045e084f0e2aca83f666f2797794325cf528", func := "loop.example/g01074/laws.FnExactSameChannel", spec := "fnExactSameChannel", apart := false }
def FnExactSameChannelSaid : Prop := fnExactSameChannelRow.holds Try.pinned (OpenSpec.ofChange fnExactSameChannelSpec)

/-- ITS FALSE NEIGHBOUR: 'it returns false'. Refute it at one input. -/
def fnExactSameChannelWrong : ChangeSpec := { name := "fnExactSameChannel", fn := fun _ => fun
  | [d1, d2] => { results := [.lit (.bool false)], args := [d1, d2] }
  | _ => none }
def FnExactSameChannelWrongFalsely : Prop := fnExactSameChannelRow.holds Try.pinned (OpenSpec.ofChange fnExactSameChannelWrong)

/-- 'laws.FnExactValidChannel': WHATEVER THE INPUT: true; the input reads as it did. -/
def fnExactValidChannelSpec : ChangeSpec := { name := "fnExactValidChannel", fn := fun _ => fun
  | [d] => { results := [.lit (.bool true)], args := [d] }
  | _ => none }
def fnExactValidChannelRow : OpenClaim := { program := "ytlepmbkfpfnnfaa", sum := "b83e22f6325efc9799a3be52e961045e084f0e2aca83f666f2797794325cf528", func := "loop.example/g01074/laws.FnExactValidChannel", spec := "fnExactValidChannel", unfollowed := true, recurses := true, apart := false }
def FnExactValidChannelSaid : Prop := fnExactValidChannelRow.holds Try.pinned (OpenSpec.ofChange fnExactValidChannelSpec)

/-- ITS FALSE NEIGHBOUR: 'it returns false'. Refute it at one input. -/
def fnExactValidChannelWrong : ChangeSpec := { name := "fnExactValidChannel", fn := fun _ => fun
  | [d] => { results := [.lit (.bool false)], args := [d] }
  | _ => none }
def FnExactValidChannelWrongFalsely : Prop := fnExactValidChannelRow.holds Try.pinned (OpenSpec.ofChange fnExactValidChannelWrong)

/-- 'laws.FnExactIsChannelDone': WHATEVER THE INPUT: true; the input reads as it did. -/
def fnExactIsChannelDoneSpec : ChangeSpec := { name := "fnExactIsChannelDone", fn := fun _ => fun
  | [d] => { results := [.lit (.bool true)], args := [d] }
  | _ => none }
def fnExactIsChannelDoneRow : OpenClaim := { program := "ytlepmbkfpfnnfaa", sum := "b83e22f6325efc9799a3be52e961045e084f0e2aca83f666f2797794325cf528", func := "loop.example/g01074/laws.FnExactIsChannelDone", spec := "fnExactIsChannelDone", unfollowed := true, recurses := true, apart := false }
def FnExactIsChannelDoneSaid : Prop := fnExactIsChannelDoneRow.holds Try.pinned (OpenSpec.ofChange fnExactIsChannelDoneSpec)

/-- ITS FALSE NEIGHBOUR: 'it returns false'. Refute it at one input. -/
def fnExactIsChannelDoneWrong : ChangeSpec := { name := "fnExactIsChannelDone", fn := fun _ => fun
  | [d] => { results := [.lit (.bool false)], args := [d] }
  | _ => none }
def FnExactIsChannelDoneWrongFalsely : Prop := fnExactIsChannelDoneRow.holds Try.pinned (OpenSpec.ofChange fnExactIsChannelDoneWrong)

/-- 'laws.FnExactSameDeque': WHATEVER THE INPUT: true; the input reads as it did. -/
def fnExactSameDequeSpec : ChangeSpec := { name := "fnExactSameDeque", fn := fun _ => fun
  | [d1, d2] => { results := [.lit (.bool true)], args := [d1, d2] }
  | _ => none }
def fnExactSameDequeRow : OpenClaim := { program := "ytlepmbkfpfnnfaa", sum := "b83e22f6325efc9799a3be52e961045e084f0e2aca83f666f2797794325cf528", func := "loop.example/g01074/laws.FnExactSameDeque", spec := "fnExactSameDeque", unfollowed := true, recurses := true, apart := false }
def FnExactSameDequeSaid : Prop := fnExactSameDequeRow.holds Try.pinned (OpenSpec.ofChange fnExactSameDequeSpec)

/-- ITS FALSE NEIGHBOUR: 'it returns false'. Refute it at one input. -/
def fnExactSameDequeWrong : ChangeSpec := { name := "fnExactSameDeque", fn := fun _ => fun
  | [d1, d2] => { results := [.lit (.bool false)], args := [d1, d2] }
  | _ => none }
def FnExactSameDequeWrongFalsely : Prop := fnExactSameDequeRow.holds Try.pinned (OpenSpec.ofChange fnExactSameDequeWrong)

/-- 'laws.FnExactNewDeque': WHATEVER THE INPUT: true; the input reads as it did. -/
def fnExactNewDequeSpec : ChangeSpec := { name := "fnExactNewDeque", fn := fun _ => fun
  | [d1, d2, d3] => { results := [.lit (.bool true)], args := [d1, d2, d3] }
  | _ => none }
def fnExactNewDequeRow : OpenClaim := { program := "ytlepmbkfpfnnfaa", sum := "b83e22f6325efc9799a3be52e961045e084f0e2aca83f666f2797794325cf528", func := "loop.example/g01074/laws.FnExactNewDeque", spec := "fnExactNewDeque", unfollowed := true, recurses := true, apart := false }
def FnExactNewDequeSaid : Prop := fnExactNewDequeRow.holds Try.pinned (OpenSpec.ofChange fnExactNewDequeSpec)

/-- ITS FALSE NEIGHBOUR: 'it returns false'. Refute it at one input. -/
def fnExactNewDequeWrong : ChangeSpec := { name := "fnExactNewDeque", fn := fun _ => fun
  | [d1, d2, d3] => { results := [.lit (.bool false)], args := [d1, d2, d3] }
  | _ => none }
def FnExactNewDequeWrongFalsely : Prop := fnExactNewDequeRow.holds Try.pinned (OpenSpec.ofChange fnExactNewDequeWrong)

/-- 'laws.FnExactNewChannel': WHATEVER THE INPUT: true; the input reads as it did. -/
def fnExactNewChannelSpec : ChangeSpec := { name := "fnExactNewChannel", fn := fun _ => fun
  | [d1, d2] => { results := [.lit (.bool true)], args := [d1, d2] }
  | _ => none }
def fnExactNewChannelRow : OpenClaim := { program := "ytlepmbkfpfnnfaa", sum := "b83e22f6325efc9799a3be52e961045e084f0e2aca83f666f2797794325cf528", func := "loop.example/g01074/laws.FnExactNewChannel", spec := "fnExactNewChannel", unfollowed := true, recurses := true, apart := false }
def FnExactNewChannelSaid : Prop := fnExactNewChannelRow.holds Try.pinned (OpenSpec.ofChange fnExactNewChannelSpec)

/-- ITS FALSE NEIGHBOUR: 'it returns false'. Refute it at one input. -/
def fnExactNewChannelWrong : ChangeSpec := { name := "fnExactNewChannel", fn := fun _ => fun
  | [d1, d2] => { results := [.lit (.bool false)], args := [d1, d2] }
  | _ => none }
def FnExactNewChannelWrongFalsely : Prop := fnExactNewChannelRow.holds Try.pinned (OpenSpec.ofChange fnExactNewChannelWrong)

/- THE SECOND FORM. 'bulk': how many values and letters a reading holds, each counted each time it is reached (what is shared counts as often as it is met; a slice's spare places count too). A statement '..UptoSaid' is the law's where the arguments, and the package variables that the reading takes, are together of bulk at most 1048576: NARROWER than '..Said'. Prove '..Said' where nothing that the law and all that it calls make is longer than what came in: it says more and counts as full. Else prove '..UptoSaid'. A law counts once. -/
mutual
def uptoBulk {H : Type} : DataW H → Nat
  | .lit (.string bytes) => bytes.length + 1
  | .lit _ => 1
  | .nil => 1
  | .ptr d => uptoBulk d + 1
  | .slice elems spare => uptoBulkAll elems + uptoBulkAll spare + 1
  | .agg parts => uptoBulkAll parts + 1
  | .iface _ d => uptoBulk d + 1
  | .map entries => uptoBulkEntries entries + 1
  | .held _ => 1
def uptoBulkAll {H : Type} : List (DataW H) → Nat
  | [] => 0
  | d :: r => uptoBulk d + uptoBulkAll r
def uptoBulkEntries {H : Type} : List (Lit × DataW H) → Nat
  | [] => 0
  | x :: r => uptoBulkEntry x + uptoBulkEntries r
def uptoBulkEntry {H : Type} : Lit × DataW H → Nat
  | (.string bytes, d) => bytes.length + uptoBulk d + 1
  | (_, d) => uptoBulk d + 1
 end
def uptoSmall : (H : Type) → List (DataW H) → Bool := fun _ ds => decide (uptoBulkAll ds ≤ 1048576)
def OpenSpec.upto (s : _root_.Go.ChangeSpec) : _root_.Go.OpenSpec := { _root_.Go.OpenSpec.ofChange s with cond := some uptoSmall }

/-- 'laws.FnExactSameChannel', WHERE WHAT IT READS IS OF BULK AT MOST 1048576: true; the input reads as it did. -/
def fnExactSameChannelUptoRow : OpenClaim := { program := "ytlepmbkfpfnnfaa", sum := "b83e22f6325efc9799a3be52e961045e084f0e2aca83f666f2797794325cf528", func := "loop.example/g01074/laws.FnExactSameChannel", spec := "fnExactSameChannel", apart := false, narrowed := true }
def FnExactSameChannelUptoSaid : Prop := fnExactSameChannelUptoRow.holds Try.pinned (OpenSpec.upto fnExactSameChannelSpec)

/-- 'laws.FnExactValidChannel', WHERE WHAT IT READS IS OF BULK AT MOST 1048576: true; the input reads as it did. -/
def fnExactValidChannelUptoRow : OpenClaim := { program := "ytlepmbkfpfnnfaa", sum := "b83e22f6325efc9799a3be52e961045e084f0e2aca83f666f2797794325cf528", func := "loop.example/g01074/laws.FnExactValidChannel", spec := "fnExactValidChannel", unfollowed := true, recurses := true, apart := false, narrowed := true }
def FnExactValidChannelUptoSaid : Prop := fnExactValidChannelUptoRow.holds Try.pinned (OpenSpec.upto fnExactValidChannelSpec)

/-- 'laws.FnExactIsChannelDone', WHERE WHAT IT READS IS OF BULK AT MOST 1048576: true; the input reads as it did. -/
def fnExactIsChannelDoneUptoRow : OpenClaim := { program := "ytlepmbkfpfnnfaa", sum := "b83e22f6325efc9799a3be52e961045e084f0e2aca83f666f2797794325cf528", func := "loop.example/g01074/laws.FnExactIsChannelDone", spec := "fnExactIsChannelDone", unfollowed := true, recurses := true, apart := false, narrowed := true }
def FnExactIsChannelDoneUptoSaid : Prop := fnExactIsChannelDoneUptoRow.holds Try.pinned (OpenSpec.upto fnExactIsChannelDoneSpec)

/-- 'laws.FnExactSameDeque', WHERE WHAT IT READS IS OF BULK AT MOST 1048576: true; the input reads as it did. -/
def fnExactSameDequeUptoRow : OpenClaim := { program := "ytlepmbkfpfnnfaa", sum := "b83e22f6325efc9799a3be52e961045e084f0e2aca83f666f2797794325cf528", func := "loop.example/g01074/laws.FnExactSameDeque", spec := "fnExactSameDeque", unfollowed := true, recurses := true, apart := false, narrowed := true }
def FnExactSameDequeUptoSaid : Prop := fnExactSameDequeUptoRow.holds Try.pinned (OpenSpec.upto fnExactSameDequeSpec)

/-- 'laws.FnExactNewDeque', WHERE WHAT IT READS IS OF BULK AT MOST 1048576: true; the input reads as it did. -/
def fnExactNewDequeUptoRow : OpenClaim := { program := "ytlepmbkfpfnnfaa", sum := "b83e22f6325efc9799a3be52e961045e084f0e2aca83f666f2797794325cf528", func := "loop.example/g01074/laws.FnExactNewDeque", spec := "fnExactNewDeque", unfollowed := true, recurses := true, apart := false, narrowed := true }
def FnExactNewDequeUptoSaid : Prop := fnExactNewDequeUptoRow.holds Try.pinned (OpenSpec.upto fnExactNewDequeSpec)

/-- 'laws.FnExactNewChannel', WHERE WHAT IT READS IS OF BULK AT MOST 1048576: true; the input reads as it did. -/
def fnExactNewChannelUptoRow : OpenClaim := { program := "ytlepmbkfpfnnfaa", sum := "b83e22f6325efc9799a3be52e961045e084f0e2aca83f666f2797794325cf528", func := "loop.example/g01074/laws.FnExactNewChannel", spec := "fnExactNewChannel", unfollowed := true, recurses := true, apart := false, narrowed := true }
def FnExactNewChannelUptoSaid : Prop := fnExactNewChannelUptoRow.holds Try.pinned (OpenSpec.upto fnExactNewChannelSpec)

end Rows
end Go.Proofs.Ytlepmbkfpfnnfaa
