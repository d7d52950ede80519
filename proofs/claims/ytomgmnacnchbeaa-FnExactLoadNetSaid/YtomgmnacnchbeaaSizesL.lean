/- What the functions that size, copy and compare give on well formed data (written by program). Conditions: sizes within the law s own bound. -/
import Derived.Test.YtomgmnacnchbeaaSzDefs
import Derived.Test.YtomgmnacnchbeaaFA
import Derived.Test.YtomgmnacnchbeaaFN
import Derived.Test.YtomgmnacnchbeaaFL
import Derived.Test.YtomgmnacnchbeaaFLb
import Derived.Test.YtomgmnacnchbeaaFLc
import Derived.Test.YtomgmnacnchbeaaFLd
namespace Go.E
open Go.RowKit Go.Proofs
set_option linter.unusedSimpArgs false
set_option linter.unusedVariables false

theorem z9j {fuel : Nat} {x : D.Port} (hf : 18446744073709551616 ≤ fuel) (hs : 0 ≤ 1048576) : z4b fuel x = some x := by
  skip
  unfold z4b
  rfl

theorem z7k {fuel : Nat} {x : D.Word} (hf : 18446744073709551616 ≤ fuel) (hs : 0 ≤ 1048576) : z3w fuel x x = some true := by
  skip
  simp [z3w, z2h]

theorem z80 {fuel : Nat} {x : (List Int)} {l : Int} (hf : 18446744073709551616 ≤ fuel) (hw : WfL I64 x) (h0 : 0 ≤ l) (h1 : l ≤ 1048576) : SzOk (x.length) l (z3k fuel x l) := by
  unfold z3k
  generalize hz : w64 (l - (x.length : Int)) = z
  exact SzOk.sub2 h0 h1 hw.1 (m := 0) rfl hz fun g0 g1 => SzOk.same g0

theorem z7X {fuel : Nat} {x : (List Int)} (hf : 18446744073709551616 ≤ fuel) (hs : x.length ≤ 1048576) : z3i fuel x = some x := by
  have hl := hs
  unfold z3i
  refine z7p hl hf (fun _ => rfl) ?_ ?_
  · intro i y out hy hl2
    have hi := (List.getElem?_eq_some_iff.1 hy).1
    have hsy : 0 ≤ 1048576 := Nat.zero_le _
    simp only [z35, zg hy, Option.bind_some, lt_t (show (i : Int) < x.length by omega), if_true]
    rw [if_pos (by simp; omega)]
    simp
  · intro out
    simp [z35]

theorem z6j {fuel : Nat} {x : (List Int)} (hf : 18446744073709551616 ≤ fuel) (hs : x.length ≤ 1048576) : z2z fuel x x = some true := by
  have hl := hs
  unfold z2z
  rw [if_neg (by simp)]
  refine z4G (n := x.length) (t := ()) (by unfold maxLen; omega) hf rfl ?_ ?_
  · intro i hi
    obtain ⟨y, hy⟩ := z40 hi
    have hsy : 0 ≤ 1048576 := Nat.zero_le _
    simp [z38, zg hy, hi, z2h]
  · simp [z38]

theorem z9p {fuel : Nat} {x : D.Port} (hf : 18446744073709551616 ≤ fuel) (hs : 0 ≤ 1048576) : z4c fuel x x = some true := by
  skip
  simp [z4c, z2h]

theorem z9q {fuel : Nat} {x : D.Pair} (hf : 18446744073709551616 ≤ fuel) (hs : 0 ≤ 1048576) : z4d fuel x x = some true := by
  skip
  simp [z4d, z2h]

theorem z8R {fuel : Nat} {x : (List D.Pair)} (hf : 18446744073709551616 ≤ fuel) (hs : x.length ≤ 1048576) : z3N fuel x x = some true := by
  have hl := hs
  unfold z3N
  rw [if_neg (by simp)]
  refine z4G (n := x.length) (t := ()) (by unfold maxLen; omega) hf rfl ?_ ?_
  · intro i hi
    obtain ⟨y, hy⟩ := z40 hi
    have hsy : 0 ≤ 1048576 := Nat.zero_le _
    simp [z3y, zg hy, hi, z2h, z9q hf hsy]
  · simp [z3y]

theorem z8u {fuel : Nat} {x : (List D.Port)} {l : Int} (hf : 18446744073709551616 ≤ fuel) (hw : WfL D.Port.wf x) (h0 : 0 ≤ l) (h1 : l ≤ 1048576) : SzOk (x.length) l (z3H fuel x l) := by
  unfold z3H
  generalize hz : w64 (l - (x.length : Int)) = z
  exact SzOk.sub2 h0 h1 hw.1 (m := 0) rfl hz fun g0 g1 => SzOk.same g0

theorem z8q {fuel : Nat} {x : (List D.Port)} (hf : 18446744073709551616 ≤ fuel) (hs : x.length ≤ 1048576) : z3F fuel x = some x := by
  have hl := hs
  unfold z3F
  refine z7p hl hf (fun _ => rfl) ?_ ?_
  · intro i y out hy hl2
    have hi := (List.getElem?_eq_some_iff.1 hy).1
    have hsy : 0 ≤ 1048576 := Nat.zero_le _
    simp only [z3u, zg hy, Option.bind_some, lt_t (show (i : Int) < x.length by omega), if_true, z9j hf hsy]
    rw [if_pos (by simp; omega)]
    simp
  · intro out
    simp [z3u]

theorem z8Q {fuel : Nat} {x : (List D.Port)} (hf : 18446744073709551616 ≤ fuel) (hs : x.length ≤ 1048576) : z3M fuel x x = some true := by
  have hl := hs
  unfold z3M
  rw [if_neg (by simp)]
  refine z4G (n := x.length) (t := ()) (by unfold maxLen; omega) hf rfl ?_ ?_
  · intro i hi
    obtain ⟨y, hy⟩ := z40 hi
    have hsy : 0 ≤ 1048576 := Nat.zero_le _
    simp [z3x, zg hy, hi, z2h, z9p hf hsy]
  · simp [z3x]

theorem z8P {fuel : Nat} {x : (List D.Word)} (hf : 18446744073709551616 ≤ fuel) (hs : x.length ≤ 1048576) : z3L fuel x x = some true := by
  have hl := hs
  unfold z3L
  rw [if_neg (by simp)]
  refine z4G (n := x.length) (t := ()) (by unfold maxLen; omega) hf rfl ?_ ?_
  · intro i hi
    obtain ⟨y, hy⟩ := z40 hi
    have hsy : 0 ≤ 1048576 := Nat.zero_le _
    simp [z3v, zg hy, hi, z2h, z7k hf hsy]
  · simp [z3v]

theorem z8v {fuel : Nat} {x : D.Agent} {l : Int} (hf : 18446744073709551616 ≤ fuel) (hw : D.Agent.wf x) (h0 : 0 ≤ l) (h1 : l ≤ 1048576) : SzOk (D.Agent.sz x) l (z3J fuel x l) := by
  obtain ⟨w0, w1, w2, w3, w4, _⟩ := hw
  unfold z3J D.Agent.sz
  refine SzOk.bind (z80 hf w3 h0 (by omega)) rfl fun r1 g1a g1b => ?_
  refine SzOk.bind (z8u hf w4 g1a (by omega)) rfl fun r2 g2a g2b => ?_
  exact SzOk.same g2a

theorem z8r {fuel : Nat} {x : D.Agent} (hf : 18446744073709551616 ≤ fuel) (hs : D.Agent.sz x ≤ 1048576) : z3G fuel x = some x := by
  unfold D.Agent.sz at hs
  unfold z3G
  simp only [z7X hf (show x.Data.length ≤ 1048576 by omega), z8q hf (show x.Ports.length ≤ 1048576 by omega), Option.bind_some]

theorem z8T {fuel : Nat} {x : D.Agent} (hf : 18446744073709551616 ≤ fuel) (hs : D.Agent.sz x ≤ 1048576) : z3P fuel x x = some true := by
  unfold D.Agent.sz at hs
  simp [z3P, z2h, z6j hf (show x.Data.length ≤ 1048576 by omega), z8Q hf (show x.Ports.length ≤ 1048576 by omega)]

theorem z9r {fuel : Nat} {x : D.Cell} (hf : 18446744073709551616 ≤ fuel) (hs : D.Cell.sz x ≤ 1048576) : z4e fuel x x = some true := by
  unfold D.Cell.sz at hs
  simp [z4e, z2h, z6j hf (show x.Data.length ≤ 1048576 by omega), z8P hf (show x.Words.length ≤ 1048576 by omega)]

theorem z81 {fuel : Nat} {x : (List D.Agent)} {l : Int} (hf : 18446744073709551616 ≤ fuel) (hw : WfL D.Agent.wf x) (h0 : 0 ≤ l) (h1 : l ≤ 1048576) : SzOk (szL D.Agent.sz x) l (z3m fuel x l) := by
  unfold z3m
  generalize hz : w64 (l - (x.length : Int)) = z
  refine SzOk.sub2 h0 h1 hw.1 (m := sumL D.Agent.sz x) rfl hz fun g0 g1 => ?_
  refine SzOk.loop hw.1 hf g0 (by omega) (fun _ => rfl) ?_ ?_
  · intro i y l hy h0 h1
    have hi := (List.getElem?_eq_some_iff.1 hy).1
    have hwy := hw.2 y (List.mem_of_getElem? hy)
    obtain ⟨r, h2, h3⟩ := z8v hf hwy h0 h1
    simp only [z37, zg hy, Option.bind_some, lt_t (show (i : Int) < x.length by omega), if_true, h2]
    by_cases hlt : r < 0
    · exact .inl (by simp only [lt_t hlt, if_true])
    · exact .inr ⟨r, by simp only [lt_f hlt, if_false], h3.resolve_left hlt⟩
  · intro l
    simp [z37]

theorem z7Y {fuel : Nat} {x : (List D.Agent)} (hf : 18446744073709551616 ≤ fuel) (hs : szL D.Agent.sz x ≤ 1048576) : z3j fuel x = some x := by
  have hl := z6n hs
  unfold z3j
  refine z7p hl hf (fun _ => rfl) ?_ ?_
  · intro i y out hy hl2
    have hi := (List.getElem?_eq_some_iff.1 hy).1
    have hsy : D.Agent.sz y ≤ 1048576 := z6m hs (List.mem_of_getElem? hy)
    simp only [z36, zg hy, Option.bind_some, lt_t (show (i : Int) < x.length by omega), if_true, z8r hf hsy]
    rw [if_pos (by simp; omega)]
    simp
  · intro out
    simp [z36]

theorem z8c {fuel : Nat} {x : (List D.Agent)} (hf : 18446744073709551616 ≤ fuel) (hs : szL D.Agent.sz x ≤ 1048576) : z3n fuel x x = some true := by
  have hl := z6n hs
  unfold z3n
  rw [if_neg (by simp)]
  refine z4G (n := x.length) (t := ()) (by unfold maxLen; omega) hf rfl ?_ ?_
  · intro i hi
    obtain ⟨y, hy⟩ := z40 hi
    have hsy : D.Agent.sz y ≤ 1048576 := z6m hs (List.mem_of_getElem? hy)
    simp [z39, zg hy, hi, z2h, z8T hf hsy]
  · simp [z39]

theorem z8S {fuel : Nat} {x : (List D.Cell)} (hf : 18446744073709551616 ≤ fuel) (hs : szL D.Cell.sz x ≤ 1048576) : z3O fuel x x = some true := by
  have hl := z6n hs
  unfold z3O
  rw [if_neg (by simp)]
  refine z4G (n := x.length) (t := ()) (by unfold maxLen; omega) hf rfl ?_ ?_
  · intro i hi
    obtain ⟨y, hy⟩ := z40 hi
    have hsy : D.Cell.sz y ≤ 1048576 := z6m hs (List.mem_of_getElem? hy)
    simp [z3z, zg hy, hi, z2h, z9r hf hsy]
  · simp [z3z]

theorem za3 {fuel : Nat} {x : D.Net} {l : Int} (hf : 18446744073709551616 ≤ fuel) (hw : D.Net.wf x) (h0 : 0 ≤ l) (h1 : l ≤ 1048576) : SzOk (D.Net.sz x) l (z4v fuel x l) := by
  obtain ⟨w0, _⟩ := hw
  unfold z4v D.Net.sz
  refine SzOk.bind (z81 hf w0 h0 (by omega)) rfl fun r1 g1a g1b => ?_
  exact SzOk.same g1a

theorem za2 {fuel : Nat} {x : D.Net} (hf : 18446744073709551616 ≤ fuel) (hs : D.Net.sz x ≤ 1048576) : z2C fuel x = some x := by
  unfold D.Net.sz at hs
  unfold z2C
  simp only [z7Y hf (show szL D.Agent.sz x.Agents ≤ 1048576 by omega), Option.bind_some]

theorem zad {fuel : Nat} {x : D.Net} (hf : 18446744073709551616 ≤ fuel) (hs : D.Net.sz x ≤ 1048576) : z4w fuel x x = some true := by
  unfold D.Net.sz at hs
  simp [z4w, z2h, z8c hf (show szL D.Agent.sz x.Agents ≤ 1048576 by omega)]

theorem z8b {fuel : Nat} {x : D.Memory} (hf : 18446744073709551616 ≤ fuel) (hs : D.Memory.sz x ≤ 1048576) : z1G fuel x x = some true := by
  unfold D.Memory.sz at hs
  simp [z1G, z2h, z8S hf (show szL D.Cell.sz x.Cells ≤ 1048576 by omega), z7k hf (show 0 ≤ 1048576 by exact Nat.zero_le _), z8R hf (show x.Redexes.length ≤ 1048576 by omega)]

theorem z7Q : Opens Try.prog 2 tInt I64 := Opens.int Try.underlying2 (by kernel_rfl)
theorem zbM : Opens Try.prog 103 zm (WfL I64) := Opens.sl Try.underlying103 (by kernel_rfl) z7Q
set_option maxRecDepth 100000 in
theorem zcv : Opens Try.prog 35 ty35 D.Port.wf := Opens.struct (f := fun c : D.Port => (c.Agent, c.Slot, ())) Try.underlying35 (by kernel_rfl) (OpensF.cons z7Q rfl rfl (OpensF.cons z7Q rfl rfl OpensF.nil)) (fun ⟨a0, a1, _⟩ => ⟨⟨a0, a1⟩, rfl⟩)
theorem zbL : Opens Try.prog 104 z8p (WfL D.Port.wf) := Opens.sl Try.underlying104 (by kernel_rfl) zcv
set_option maxRecDepth 100000 in
theorem zbK : Opens Try.prog 106 z9i D.Agent.wf := Opens.struct (f := fun c : D.Agent => (c.Kind, c.Level, c.Value, c.Data, c.Ports, ())) Try.underlying106 (by kernel_rfl) (OpensF.cons z7Q rfl rfl (OpensF.cons z7Q rfl rfl (OpensF.cons z7Q rfl rfl (OpensF.cons zbM rfl rfl (OpensF.cons zbL rfl rfl OpensF.nil))))) (fun ⟨a0, a1, a2, a3, a4, _⟩ => ⟨⟨a0, a1, a2, a3, a4⟩, rfl⟩)
theorem zcx : Opens Try.prog 22 ty22 (WfL D.Agent.wf) := Opens.sl Try.underlying22 (by kernel_rfl) zbK
set_option maxRecDepth 100000 in
theorem zcw : Opens Try.prog 24 ty24 D.Net.wf := Opens.struct (f := fun c : D.Net => (c.Agents, ())) Try.underlying24 (by kernel_rfl) (OpensF.cons zcx rfl rfl OpensF.nil) (fun ⟨a0, _⟩ => ⟨⟨a0⟩, rfl⟩)
end Go.E

