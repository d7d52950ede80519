/- What the functions that size, copy and compare give on well formed data (written by program). Conditions: sizes within the law s own bound. -/
import Derived.Test.YteommboffflkbaaGreatSizesD
import Derived.Test.YteommboffflkbaaGreatFA
import Derived.Test.YteommboffflkbaaGreatFG
import Derived.Test.YteommboffflkbaaGreatFGb
import Derived.Test.YteommboffflkbaaGreatFGc
import Derived.Test.YteommboffflkbaaGreatFGd
import Derived.Test.YteommboffflkbaaGreatFGe
import Derived.Test.YteommboffflkbaaGreatMixedS
import Derived.Test.YteommboffflkbaaGreatHW
namespace Go.E
open Go.RowKit Go.Proofs
set_option linter.unusedSimpArgs false
set_option linter.unusedVariables false

theorem zfD {fuel : Nat} {x : D.Shot} {l : Int} (hf : 18446744073709551616 ≤ fuel) (hw : D.Shot.wf x) (h0 : 0 ≤ l) (h1 : l ≤ 1048576) : SzOk (D.Shot.sz x) l (z7F fuel x l) := by
  obtain ⟨w0, w1, w2, w3, w4, _⟩ := hw
  unfold z7F D.Shot.sz
  refine SzOk.bind (zbC hf w0 h0 (by omega)) rfl fun r1 g1a g1b => ?_
  refine SzOk.bind (zaQ hf w1 g1a (by omega)) rfl fun r2 g2a g2b => ?_
  refine SzOk.bind (zay hf w2 g2a (by omega)) rfl fun r3 g3a g3b => ?_
  refine SzOk.bind (zbC hf w3 g3a (by omega)) rfl fun r4 g4a g4b => ?_
  refine SzOk.bind (z9S hf w4 g4a (by omega)) rfl fun r5 g5a g5b => ?_
  exact SzOk.same g5a

theorem zfB {fuel : Nat} {x : D.Shot} (hf : 18446744073709551616 ≤ fuel) (hs : D.Shot.sz x ≤ 1048576) : z7C fuel x = some x := by
  unfold D.Shot.sz at hs
  unfold z7C
  simp only [zbB hf (show x.Taken.length ≤ 1048576 by omega), zaN hf (show szL D.Shard.sz x.Shards ≤ 1048576 by omega), zaw hf (show szL (fun x => x.length) x.Counts ≤ 1048576 by omega), zbB hf (show x.Recording.length ≤ 1048576 by omega), z9R hf (show szL (fun x => szL D.Parcel.sz x) x.Saved ≤ 1048576 by omega), Option.bind_some]

theorem zfQ {fuel : Nat} {x : D.Shot} (hf : 18446744073709551616 ≤ fuel) (hs : D.Shot.sz x ≤ 1048576) : z7H fuel x x = some true := by
  unfold D.Shot.sz at hs
  simp [z7H, z25, zbG hf (show x.Taken.length ≤ 1048576 by omega), zb8 hf (show szL D.Shard.sz x.Shards ≤ 1048576 by omega), zaD hf (show szL (fun x => x.length) x.Counts ≤ 1048576 by omega), zbG hf (show x.Recording.length ≤ 1048576 by omega), zaa hf (show szL (fun x => szL D.Parcel.sz x) x.Saved ≤ 1048576 by omega)]

theorem zax {fuel : Nat} {x : D.Watched} {l : Int} (hf : 18446744073709551616 ≤ fuel) (hw : D.Watched.wf x) (h0 : 0 ≤ l) (h1 : l ≤ 1048576) : SzOk (D.Watched.sz x) l (z4k fuel x l) := by
  obtain ⟨w0, w1, _⟩ := hw
  unfold z4k D.Watched.sz
  refine SzOk.bind (zd4 hf w0 h0 (by omega)) rfl fun r1 g1a g1b => ?_
  refine SzOk.bind (zfD hf w1 g1a (by omega)) rfl fun r2 g2a g2b => ?_
  exact SzOk.same g2a

theorem zav {fuel : Nat} {x : D.Watched} (hf : 18446744073709551616 ≤ fuel) (hs : D.Watched.sz x ≤ 1048576) : z1x fuel x = some x := by
  unfold D.Watched.sz at hs
  unfold z1x
  simp only [zd2 hf (show D.Cluster.sz x.Cluster ≤ 1048576 by omega), zfB hf (show D.Shot.sz x.Shot ≤ 1048576 by omega), Option.bind_some]

theorem zaC {fuel : Nat} {x : D.Watched} (hf : 18446744073709551616 ≤ fuel) (hs : D.Watched.sz x ≤ 1048576) : z4n fuel x x = some true := by
  unfold D.Watched.sz at hs
  simp [z4n, z25, zd8 hf (show D.Cluster.sz x.Cluster ≤ 1048576 by omega), zfQ hf (show D.Shot.sz x.Shot ≤ 1048576 by omega)]

set_option maxRecDepth 100000 in
theorem zkC : Opens Tryz.prog 67 ty67 D.Shot.wf := Opens.struct (f := fun c : D.Shot => (c.Taken, c.Shards, c.Counts, c.Recording, c.Saved, ())) Tryz.underlying67 (by kernel_rfl) (OpensF.cons zhs rfl rfl (OpensF.cons zhw rfl rfl (OpensF.cons zhu rfl rfl (OpensF.cons zhs rfl rfl (OpensF.cons zhv rfl rfl OpensF.nil))))) (fun ⟨a0, a1, a2, a3, a4, _⟩ => ⟨⟨a0, a1, a2, a3, a4⟩, rfl⟩)
set_option maxRecDepth 100000 in
theorem zhr : Opens Tryz.prog 69 ty69 D.Watched.wf := Opens.struct (f := fun c : D.Watched => (c.Cluster, c.Shot, ())) Tryz.underlying69 (by kernel_rfl) (OpensF.cons zkD rfl rfl (OpensF.cons zkC rfl rfl OpensF.nil)) (fun ⟨a0, a1, _⟩ => ⟨⟨a0, a1⟩, rfl⟩)
end Go.E

namespace Go.E
open Go.RowKit Go.Proofs
set_option linter.unusedSimpArgs false
set_option linter.unusedVariables false

section
variable {fuel : Nat} {w : D.Watched}
def noShard (s : D.Shard) : Bool := decide (s.Cells = [] ∧ s.Vars = [] ∧ s.Redexes = [])
def tkN (w : D.Watched) (i : Nat) : Bool := w.Shot.Taken.getD i false
def rcN (w : D.Watched) (i : Nat) : Bool := w.Shot.Recording.getD i false
def svN (w : D.Watched) (i : Nat) : List D.Parcel := w.Shot.Saved.getD i []
def chN (w : D.Watched) (i : Nat) : List D.Parcel := w.Cluster.Channels.getD i []
def macN (w : D.Watched) (i : Nat) : Bool := if tkN w i = true then shardN (w.Shot.Shards.getD i ⟨[], [], []⟩) && numN (w.Shot.Counts.getD i []) 7 else noShard (w.Shot.Shards.getD i ⟨[], [], []⟩) && decide ((w.Shot.Counts.getD i []).length = 0)
def needN (w : D.Watched) (a b i : Nat) : Nat := if tkN w a = true then (if tkN w b = true then oneN (rcN w i) else 1) else 0
def linkN (w : D.Watched) (a b i : Nat) : Bool :=
  if a = b then !rcN w i && decide (svN w i = []) else
  (if tkN w b = true then rcN w i || tkN w a else !rcN w i && decide (svN w i = [])) && (decide (markN (chN w i) = needN w a b i) && decide (markN (svN w i) = 0))
structure Wat (w : D.Watched) (n : Nat) : Prop where
  n1 : 1 ≤ n
  n4 : n ≤ 4
  t : w.Shot.Taken.length = n
  s : w.Shot.Shards.length = n
  c : w.Shot.Counts.length = n
  r : w.Shot.Recording.length = n * n
  v : w.Shot.Saved.length = n * n
  h : w.Cluster.Channels.length = n * n
structure WatS (w : D.Watched) : Prop where
  s : ∀ x, x ∈ w.Shot.Shards → x.sz + 1 ≤ 1048576
  c : ∀ x, x ∈ w.Shot.Counts → x.length ≤ 1048576
  v : w.Shot.Saved.length ≤ 1048576 ∧ ∀ ch, ch ∈ w.Shot.Saved → ch.length ≤ 1048576 ∧ ∀ p, p ∈ ch → p.Cell.sz ≤ 1048576
  h : ∀ ch, ch ∈ w.Cluster.Channels → ch.length ≤ 1048576
theorem zhc (hs : w.sz ≤ 1048576) : w.Cluster.sz ≤ 1048576 ∧ WatS w := by
  unfold D.Watched.sz D.Shot.sz at hs
  have h1 : szL D.Shard.sz w.Shot.Shards ≤ 1048576 := by omega
  have h2 : szL (fun x : List Int => x.length) w.Shot.Counts ≤ 1048576 := by omega
  have h3 : szL (fun x => szL D.Parcel.sz x) w.Shot.Saved ≤ 1048576 := by omega
  have h4 : w.Cluster.sz ≤ 1048576 := by omega
  refine ⟨h4, fun x hx => by
    have h7 := zdO (f := D.Shard.sz) hx
    have h8 : 0 < w.Shot.Shards.length := List.length_pos_of_mem hx
    unfold szL at h1
    omega, fun x hx => z68 h2 hx, ⟨z6n h3, fun ch hc => ?_⟩, fun ch hc => ((zbA h4).2.2.1 ch hc).1⟩
  have h5 := z68 h3 hc
  refine ⟨z6n h5, fun p hp => ?_⟩
  have h6 := z68 h5 hp
  unfold D.Parcel.sz at h6
  omega
theorem zfP {α : Type} {xs : List α} {i : Nat} {x d : α} (h : xs[i]? = some x) : xs.getD i d = x := by simp [List.getD, h]
theorem z8i {α : Type} {xs : List α} {i : Nat} (d : α) (h : i < xs.length) : xs[i]? = some (xs.getD i d) := by
  obtain ⟨x, hx⟩ := z5v h
  rw [zfP hx, hx]
theorem zhz {s : D.Shard} (hf : 18446744073709551616 ≤ fuel) : z5Q fuel s ⟨[], [], []⟩ = some (noShard s) := by
  have ne : ∀ {α : Type} {xs : List α}, xs ≠ [] → ((xs.length : Int) != (([] : List α).length : Int)) = true := fun {α xs} h => by cases xs with | nil => exact absurd rfl h | cons x xs => simp; omega
  obtain ⟨f, rfl⟩ : ∃ f, fuel = f + 1 := ⟨fuel - 1, by omega⟩
  unfold z5Q noShard
  by_cases h1 : s.Cells = []
  · by_cases h2 : s.Vars = []
    · by_cases h3 : s.Redexes = []
      · simp [h1, h2, h3, z1h, z7e, z7d, z7c, z7h, z7g, z7f, iter, aft]
      · rw [if_neg (by simp [h1]), if_neg (by simp [h2]), ne h3]
        simp [h3, z1h]
    · rw [if_neg (by simp [h1]), if_pos (ne h2)]
      simp [h2, z1h]
  · rw [if_pos (ne h1)]
    simp [h1, z1h]
theorem zhA {s : D.Shard} (hf : 18446744073709551616 ≤ fuel) : z5Z fuel s ⟨[], [], []⟩ = some (noShard s) := by
  have ne : ∀ {α : Type} {xs : List α}, xs ≠ [] → ((xs.length : Int) != (([] : List α).length : Int)) = true := fun {α xs} h => by cases xs with | nil => exact absurd rfl h | cons x xs => simp; omega
  obtain ⟨f, rfl⟩ : ∃ f, fuel = f + 1 := ⟨fuel - 1, by omega⟩
  unfold z5Z zb zT zG noShard
  by_cases h1 : s.Cells = []
  · by_cases h2 : s.Vars = []
    · by_cases h3 : s.Redexes = []
      · simp [h1, h2, h3, z9, za, zK, zL, zr, zt, iter, aft]
      · simp [h1, h2, h3, z9, za, zK, zL, zr, zt, iter, aft]
    · simp [h1, h2, z9, za, iter, aft]
  · simp [h1]
theorem natB {x y : Nat} : ((x : Int) == (y : Int)) = decide (x = y) := by
  rw [beqD]
  by_cases h : x = y
  · rw [decide_eq_true h, decide_eq_true (by omega)]
  · rw [decide_eq_false h, decide_eq_false (by omega)]
theorem zjX {n i : Nat} (hf : 18446744073709551616 ≤ fuel) (hW : Wat w n) (hS : WatS w) (hi : i < n) : z56 fuel w.Shot (i : Int) = some (macN w i) := by
  have ht := z8i false (show i < w.Shot.Taken.length by rw [hW.t]; exact hi)
  have hsh := z8i (⟨[], [], []⟩ : D.Shard) (show i < w.Shot.Shards.length by rw [hW.s]; exact hi)
  have hc := z8i ([] : List Int) (show i < w.Shot.Counts.length by rw [hW.c]; exact hi)
  have z1 := hS.s _ (List.mem_of_getElem? hsh)
  have z2 := hS.c _ (List.mem_of_getElem? hc)
  unfold z56 macN tkN
  simp only [zd ht, zd hsh, zd hc, Option.bind_some]
  generalize w.Shot.Shards.getD i ⟨[], [], []⟩ = s at z1 ⊢
  generalize w.Shot.Counts.getD i [] = cs at z2 ⊢
  have hp : z36 fuel (⟨([s] : List D.Shard), (⟨0, 0, 0⟩ : D.Address)⟩ : D.Grid) = some (shardN s) := by
    rw [zcv hf (by unfold D.Grid.sz szL; simp only [sumL, List.length_cons, List.length_nil]; omega)]
    simp [piecesN]
  have hn := z8X (k := 7) hf z2
  have hn' : z1z fuel cs 7 = some (numN cs 7) := hn
  rw [hp, zhz hf, hn']
  cases w.Shot.Taken.getD i false with
  | true => cases shardN s <;> rfl
  | false =>
    cases noShard s with
    | false => rfl
    | true =>
      have : ((cs.length : Int) == 0) = decide (cs.length = 0) := natB (y := 0)
      simp only [Option.bind_some, if_true, this]
      rfl
theorem zjY {n i : Nat} (hf : 18446744073709551616 ≤ fuel) (hW : Wat w n) (hS : WatS w) (hi : i < n) : z2O fuel w.Shot (i : Int) = some (macN w i) := by
  have ht := z8i false (show i < w.Shot.Taken.length by rw [hW.t]; exact hi)
  have hsh := z8i (⟨[], [], []⟩ : D.Shard) (show i < w.Shot.Shards.length by rw [hW.s]; exact hi)
  have hc := z8i ([] : List Int) (show i < w.Shot.Counts.length by rw [hW.c]; exact hi)
  have z1 := hS.s _ (List.mem_of_getElem? hsh)
  have z2 := hS.c _ (List.mem_of_getElem? hc)
  unfold z2O macN tkN
  simp only [zd ht, zd hsh, zd hc, Option.bind_some]
  generalize w.Shot.Shards.getD i ⟨[], [], []⟩ = s at z1 ⊢
  generalize w.Shot.Counts.getD i [] = cs at z2 ⊢
  rw [zdr hf (by omega), zhA hf, zcP hf z2]
  cases w.Shot.Taken.getD i false with
  | true => cases shardN s <;> rfl
  | false =>
    cases noShard s with
    | false => rfl
    | true =>
      have : ((cs.length : Int) == 0) = decide (cs.length = 0) := natB (y := 0)
      simp only [Option.bind_some, if_true, this]
      rfl
structure At4 (w : D.Watched) (fuel a b i : Nat) : Prop where
  ta : idx w.Shot.Taken (a : Int) = some (tkN w a)
  tb : idx w.Shot.Taken (b : Int) = some (tkN w b)
  r : idx w.Shot.Recording (i : Int) = some (rcN w i)
  v : idx w.Shot.Saved (i : Int) = some (svN w i)
  h : idx w.Cluster.Channels (i : Int) = some (chN w i)
  vl : (svN w i).length ≤ 1048576
  hl : (chN w i).length ≤ 1048576
  vp : ∀ p, p ∈ svN w i → p.Cell.sz ≤ 1048576
theorem at4 {n a b i : Nat} (hW : Wat w n) (hS : WatS w) (ha : a < n) (hb : b < n) (hi : i < n * n) : At4 w fuel a b i := by
  have h1 := z8i ([] : List D.Parcel) (show i < w.Shot.Saved.length by rw [hW.v]; exact hi)
  have h2 := z8i ([] : List D.Parcel) (show i < w.Cluster.Channels.length by rw [hW.h]; exact hi)
  exact ⟨zd (z8i false (show a < w.Shot.Taken.length by rw [hW.t]; exact ha)), zd (z8i false (show b < w.Shot.Taken.length by rw [hW.t]; exact hb)), zd (z8i false (show i < w.Shot.Recording.length by rw [hW.r]; exact hi)), zd h1, zd h2, (hS.v.2 _ (List.mem_of_getElem? h1)).1, hS.h _ (List.mem_of_getElem? h2), (hS.v.2 _ (List.mem_of_getElem? h1)).2⟩
theorem zkW {n a b : Nat} (ha : a < n) (hb : b < n) : a * n + b < n * n := by
  have : (a + 1) * n ≤ n * n := Nat.mul_le_mul_right n ha
  rw [Nat.add_mul, Nat.one_mul] at this
  omega
theorem zkM {n a b i : Nat} (hf : 18446744073709551616 ≤ fuel) (h : At4 w fuel a b i) (he : w64 ((w64 ((a : Int) * (n : Int))) + (b : Int)) = (i : Int)) : z4S fuel w (a : Int) (b : Int) (n : Int) () = some (decide (a = b) || decide (markN (chN w i) = needN w a b i)) := by
  unfold z4S needN
  rw [natB, he]
  by_cases hab : a = b
  · rw [if_pos (by simpa using hab), decide_eq_true hab]; rfl
  · rw [if_neg (by simpa using hab), decide_eq_false hab, Bool.false_or]
    simp only [h.ta, h.tb, h.r, h.h, zdA hf h.hl, zfn, Option.bind_some, natB]
    cases tkN w a with
    | false => rfl
    | true =>
      cases tkN w b with
      | false => rfl
      | true => rfl
theorem zkN {n a b i : Nat} (hf : 18446744073709551616 ≤ fuel) (h : At4 w fuel a b i) (he : w64 ((w64 ((a : Int) * (n : Int))) + (b : Int)) = (i : Int)) (hib : i % n = b) : z2p fuel w (a : Int) (b : Int) (n : Int) () = some (listN n i (svN w i) && (decide (markN (svN w i) = 0) && (decide (a = b) || decide (markN (chN w i) = needN w a b i)))) := by
  have hm : maxLen = 9223372036854775807 := rfl
  have hvl := h.vl
  have no : z1F fuel w (a : Int) (b : Int) (n : Int) true = some false := by unfold z1F; rfl
  unfold z2p listN
  simp only [he, h.v, Option.bind_some, zdA hf h.vl, hib]
  by_cases h1 : (svN w i).length ≤ 200
  · rw [if_neg (by simp; omega), decide_eq_true h1, Bool.true_and]
    by_cases h2 : markN (svN w i) = 0
    · rw [decide_eq_false (show ¬((markN (svN w i) : Nat) : Int) > 0 by omega), decide_eq_true h2, Bool.true_and]
      unfold z1F
      rw [if_neg (by simp)]
      have hL := allLoop (xs := svN w i) (body := z3c fuel w (a : Int) (b : Int) (n : Int)) (p := fun _ p => parcelN (b : Int) p) (t := ()) (v := false) (fuel := fuel) (by omega) hf (fun k p hk hp => by
        unfold z3c
        simp only [he, h.v, Option.bind_some]
        rw [if_pos (by simpa using hk), zd hp, Option.bind_some, zcw hf (h.vp p (List.mem_of_getElem? hp)), Option.bind_some]
        cases parcelN (b : Int) p <;> rfl) (by
        unfold z3c
        simp only [he, h.v, Option.bind_some]
        rw [if_neg (by simp)])
      rw [z5w (p := parcelN (b : Int))] at hL
      rw [hL, Option.bind_some]
      cases (svN w i).all (parcelN (b : Int)) with
      | false => rfl
      | true => rw [if_pos rfl, z8, zkM hf h he, Bool.true_and]
    · rw [decide_eq_true (show ((markN (svN w i) : Nat) : Int) > 0 by omega), decide_eq_false h2, no, Bool.false_and, Bool.and_false]
  · rw [if_pos (by simp; omega), decide_eq_false h1, no, Bool.false_and, Bool.false_and]
theorem zhH {n a b : Nat} (hf : 18446744073709551616 ≤ fuel) (hW : Wat w n) (hS : WatS w) (ha : a < n) (hb : b < n) : z3z fuel w (a : Int) (b : Int) (n : Int) = some (linkN w a b (a * n + b) && listN n (a * n + b) (svN w (a * n + b))) := by
  have h4 := hW.n4
  have hi := zkW ha hb
  have hnn : n * n ≤ 16 := Nat.mul_le_mul h4 h4
  have h := at4 (fuel := fuel) hW hS ha hb hi
  have hib : (a * n + b) % n = b := by rw [Nat.add_comm, Nat.add_mul_mod_self_right, Nat.mod_eq_of_lt hb]
  have e1 : (a : Int) * (n : Int) = ((a * n : Nat) : Int) := by simp
  have he : w64 ((w64 ((a : Int) * (n : Int))) + (b : Int)) = ((a * n + b : Nat) : Int) := by
    rw [e1, zf (n := ((a * n : Nat) : Int)) (by omega) (by omega), zf (by omega) (by omega)]
    omega
  generalize a * n + b = i at h hib he ⊢
  have hj := zkN hf h he hib
  have hls : svN w i = [] → listN n i (svN w i) = true := fun h => by rw [h]; simp [listN]
  have hms : svN w i = [] → markN (svN w i) = 0 := fun h => by rw [h]; simp [markN, sumL]
  have hlen : ((((svN w i).length : Nat) : Int) > 0) ↔ ¬ svN w i = [] := by
    cases svN w i with
    | nil => simp
    | cons x xs => simp
  have hch : z3z fuel w (a : Int) (b : Int) (n : Int) = z2q fuel w (a : Int) (b : Int) (n : Int) (decide (a = b) || !tkN w b) := by
    unfold z3z
    rw [natB, h.tb, Option.bind_some]
    by_cases hab : a = b
    · rw [if_pos (by simpa using hab), decide_eq_true hab]; rfl
    · rw [if_neg (by simpa using hab), decide_eq_false hab]; rfl
  rw [hch]
  unfold z2q z3b z3a
  simp only [he, h.r, h.v, h.ta, Option.bind_some, hj]
  unfold linkN
  by_cases hab : a = b
  · subst hab
    by_cases hv : svN w i = []
    · have h5 := hls hv
      have h6 := hms hv
      rw [h5, h6]
      cases rcN w i <;> simp [hv]
    · cases rcN w i <;> simp [hv, hlen]
  · by_cases hv : svN w i = []
    · have h5 := hls hv
      have h6 := hms hv
      rw [h5, h6]
      cases tkN w b <;> cases rcN w i <;> cases tkN w a <;> simp [hv, hab]
    · cases tkN w b <;> cases rcN w i <;> cases tkN w a <;> simp [hv, hab, hlen, Bool.and_comm, Bool.and_left_comm, Bool.and_assoc]
theorem zhJ {a b i : Nat} (hf : 18446744073709551616 ≤ fuel) (h : At4 w fuel a b i) : z29 fuel w (a : Int) (b : Int) (i : Int) = some (linkN w a b i) := by
  have j3 : ∀ k : Nat, zV fuel w (i : Int) (k : Int) = some (decide (markN (chN w i) = k) && decide (markN (svN w i) = 0)) := fun k => by
    have : (((markN (svN w i) : Nat) : Int) == 0) = decide (markN (svN w i) = 0) := natB (y := 0)
    unfold zV
    rw [h.h, Option.bind_some, zdB hf h.hl, Option.bind_some, natB, h.v, Option.bind_some, zdB hf h.vl, Option.bind_some, this]
    cases decide (markN (chN w i) = k) <;> rfl
  have j2 : ze fuel w (a : Int) (b : Int) (i : Int) false = some (decide (markN (chN w i) = needN w a b i) && decide (markN (svN w i) = 0)) := by
    unfold ze needN
    simp only [h.ta, h.tb, h.r, zdq, Option.bind_some, j3]
    cases tkN w a <;> cases tkN w b <;> rfl
  have j2' : ze fuel w (a : Int) (b : Int) (i : Int) true = some false := by unfold ze; rfl
  have hl : ((((svN w i).length : Nat) : Int) == 0) = decide (svN w i = []) := by
    cases svN w i with
    | nil => rfl
    | cons x xs => simp; omega
  unfold z29 z1w
  simp only [h.r, h.v, h.ta, h.tb, Option.bind_some, natB, hl, j2, j2']
  unfold linkN
  by_cases hab : a = b
  · cases rcN w i <;> by_cases hv : svN w i = [] <;> simp [hab, hv]
  · cases tkN w b <;> cases rcN w i <;> cases tkN w a <;> by_cases hv : svN w i = [] <;> simp [hab, hv, j2, j2']

theorem zee {α : Type} {xs : List α} {p : Nat → Bool} : (xs.zipIdx.all fun x => p x.2) = true ↔ ∀ i, i < xs.length → p i = true := by
  rw [z6m (p := fun i _ => p i)]
  constructor
  · intro h i hi
    obtain ⟨x, hx⟩ := z5v hi
    have := h i x hx
    rwa [Nat.zero_add] at this
  · intro h i x hx
    rw [Nat.zero_add]
    exact h i (List.getElem?_eq_some_iff.1 hx).1
def macsN (w : D.Watched) : Bool := w.Shot.Taken.zipIdx.all fun x => macN w x.2
def linksN (w : D.Watched) (n : Nat) : Bool := w.Shot.Recording.zipIdx.all fun x => linkN w (x.2 / n) (x.2 % n) x.2
def lensN (w : D.Watched) : Bool := decide (w.Shot.Taken.length = w.Cluster.Grid.Shards.length ∧ w.Shot.Shards.length = w.Cluster.Grid.Shards.length ∧ w.Shot.Counts.length = w.Cluster.Grid.Shards.length ∧ w.Shot.Recording.length = w.Cluster.Grid.Shards.length * w.Cluster.Grid.Shards.length ∧ w.Shot.Saved.length = w.Cluster.Grid.Shards.length * w.Cluster.Grid.Shards.length)
def watN (w : D.Watched) : Bool := clusN w.Cluster && (lensN w && ((chansN w.Cluster.Grid.Shards.length w.Shot.Saved && w.Shot.Taken.any id) && (macsN w && linksN w w.Cluster.Grid.Shards.length)))
def bothN (w : D.Watched) (n a b : Nat) : Bool := linkN w a b (a * n + b) && listN n (a * n + b) (svN w (a * n + b))
theorem zjk {n : Nat} (hW : Wat w n) : (w.Shot.Taken.zipIdx.all fun x => w.Shot.Taken.zipIdx.all fun y => bothN w n x.2 y.2) = (chansN n w.Shot.Saved && linksN w n) := by
  have h1 := hW.n1
  rw [Bool.eq_iff_iff, zee (p := fun a => w.Shot.Taken.zipIdx.all fun y => bothN w n a y.2)]
  unfold chansN linksN
  rw [Bool.and_eq_true, Bool.and_eq_true, z6m (p := fun i ch => diagN n i ch), z6m (p := fun i ch => listN n i ch), zee (p := fun i => linkN w (i / n) (i % n) i), hW.t, hW.r]
  constructor
  · intro h
    have key : ∀ i, i < n * n → linkN w (i / n) (i % n) i = true ∧ listN n i (svN w i) = true := fun i hi => by
      have h2 := h (i / n) (Nat.div_lt_of_lt_mul hi)
      rw [zee (p := fun b => bothN w n (i / n) b), hW.t] at h2
      have h3 := h2 (i % n) (Nat.mod_lt _ h1)
      unfold bothN at h3
      rw [Bool.and_eq_true] at h3
      have e : i / n * n + i % n = i := by rw [Nat.mul_comm]; exact Nat.div_add_mod i n
      rw [e] at h3
      exact h3
    refine ⟨⟨fun i ch hc => ?_, fun i ch hc => ?_⟩, fun i hi => (key i hi).1⟩
    · rw [Nat.zero_add]
      have hi := (List.getElem?_eq_some_iff.1 hc).1
      rw [hW.v] at hi
      have h2 := (key i hi).1
      have h3 : svN w i = ch := zfP hc
      unfold diagN
      unfold linkN at h2
      by_cases e : i / n = i % n
      · rw [if_pos e, Bool.and_eq_true, decide_eq_true_eq, h3] at h2
        rw [decide_eq_true h2.2, Bool.or_true]
      · rw [decide_eq_true e, Bool.true_or]
    · rw [Nat.zero_add]
      have hi := (List.getElem?_eq_some_iff.1 hc).1
      rw [hW.v] at hi
      have h3 : svN w i = ch := zfP hc
      rw [← h3]
      exact (key i hi).2
  · rintro ⟨⟨_, h2⟩, h3⟩ a ha
    rw [zee (p := fun b => bothN w n a b), hW.t]
    intro b hb
    have hi := zkW ha hb
    have ea : (a * n + b) / n = a := by rw [Nat.mul_comm, Nat.mul_add_div (by omega), Nat.div_eq_of_lt hb, Nat.add_zero]
    have eb : (a * n + b) % n = b := by rw [Nat.mul_comm, Nat.mul_add_mod, Nat.mod_eq_of_lt hb]
    have h4 := h3 _ hi
    rw [ea, eb] at h4
    have h5 := h2 (a * n + b) _ (z8i ([] : List D.Parcel) (show a * n + b < w.Shot.Saved.length by rw [hW.v]; exact hi))
    rw [Nat.zero_add] at h5
    unfold bothN
    rw [h4, Bool.true_and]
    exact h5
theorem zfY : (⟨w.Shot.Taken, w.Shot.Shards, w.Shot.Counts, w.Shot.Recording, w.Shot.Saved⟩ : D.Shot) = w.Shot := rfl
theorem zhG {n : Nat} (hf : 18446744073709551616 ≤ fuel) (hW : Wat w n) (hS : WatS w) (hn : n = w.Cluster.Grid.Shards.length) : (macsN w = true ∧ iter (z2J fuel w) fuel (false, 0) = some (.inl (w.Shot.Taken.any id))) ∨ (macsN w = false ∧ iter (z2J fuel w) fuel (false, 0) = some (.inr false)) := by
  have h4 := hW.n4
  have ht := hW.t
  have h := tryLoop (xs := w.Shot.Taken) (body := z2J fuel w) (fuel := fuel) (fun i st => st = ((w.Shot.Taken.take i).any id, (i : Int))) (fun i _ => macN w i) (fun t => t = w.Shot.Taken.any id) (fun r => r = false) (s0 := (false, 0)) (by omega) hf (by
    rintro i x _ hx rfl
    have hi := (List.getElem?_eq_some_iff.1 hx).1
    have hin : i < n := by omega
    have he : z2J fuel w ((w.Shot.Taken.take i).any id, (i : Int)) = z54 fuel w ((w.Shot.Taken.take i).any id, (i : Int)) ((w.Shot.Taken.take i).any id || x) := by
      unfold z2J
      dsimp only
      rw [if_pos (decide_eq_true (by omega)), zd hx, Option.bind_some]
      cases (w.Shot.Taken.take i).any id <;> rfl
    rw [he]
    unfold z54
    dsimp only
    rw [zfY, zjX hf hW hS hin, Option.bind_some]
    cases macN w i with
    | false => exact ⟨fun h => (by cases h), fun _ => ⟨_, rfl, rfl⟩⟩
    | true =>
      refine ⟨fun _ => ⟨_, rfl, ?_⟩, fun h => by cases h⟩
      rw [zaP hx, List.any_append, zf (by omega) (by omega)]
      simp) (by
    rintro _ rfl
    refine ⟨_, ?_, rfl⟩
    unfold z2J
    rw [if_neg (by simp; omega), List.take_length]) (by simp)
  rcases h with ⟨h1, t, h2, rfl⟩ | ⟨h1, r, h2, rfl⟩
  · exact .inl ⟨h1, h2⟩
  · exact .inr ⟨h1, h2⟩
theorem zgU {n : Nat} (hf : 18446744073709551616 ≤ fuel) (hW : Wat w n) (hS : WatS w) (hn : n = w.Cluster.Grid.Shards.length) : iter (z55 fuel w) fuel 0 = some (if (chansN n w.Shot.Saved && linksN w n) = true then .inl () else .inr false) := by
  have hm : maxLen = 9223372036854775807 := rfl
  have h4 := hW.n4
  have ht := hW.t
  rw [← zjk hW]
  refine allLoop (xs := w.Shot.Taken) (body := z55 fuel w) (p := fun a _ => w.Shot.Taken.zipIdx.all fun y => bothN w n a y.2) (by omega) hf (fun a _ ha _ => ?_) (by unfold z55; rw [if_neg (by simp; omega)])
  unfold z55
  rw [if_pos (decide_eq_true (by omega))]
  have h1 := allLoop (xs := w.Shot.Taken) (body := z6q fuel w (a : Int)) (p := fun b _ => bothN w n a b) (t := ()) (v := .ret false) (fuel := fuel) (by omega) hf (fun b _ hb _ => by
    unfold z6q
    rw [if_pos (decide_eq_true (by omega)), ← hn, zhH hf hW hS (by omega) (by omega), Option.bind_some]
    unfold bothN
    cases (linkN w a b (a * n + b) && listN n (a * n + b) (svN w (a * n + b))) <;> rfl) (by
    unfold z6q
    rw [if_neg (by simp; omega)])
  rw [h1, Option.bind_some]
  cases (w.Shot.Taken.zipIdx.all fun y => bothN w n a y.2) <;> rfl
theorem zks (hs : w.sz ≤ 1048576) (h : clusN w.Cluster = true) (hl : lensN w = true) : Wat w w.Cluster.Grid.Shards.length := by
  obtain ⟨hS, hC, hk, hh⟩ := zcS (zhc hs).1 h
  unfold lensN at hl
  simp only [decide_eq_true_eq] at hl
  exact ⟨by omega, hS.n, hl.1, hl.2.1, hl.2.2.1, hl.2.2.2.1, hl.2.2.2.2, hh⟩
theorem sq64 {n : Nat} (h : n ≤ 4) : w64 ((n : Int) * (n : Int)) = ((n * n : Nat) : Int) := by
  have : n * n ≤ 16 := Nat.mul_le_mul h h
  rw [show (n : Int) * (n : Int) = ((n * n : Nat) : Int) by simp]
  exact zf (by omega) (by omega)
theorem neN {x y : Nat} : ((x : Int) != (y : Int)) = !decide (x = y) := by rw [bne, natB]
theorem zfW (hf : 18446744073709551616 ≤ fuel) (hs : w.sz ≤ 1048576) : z7n fuel w = some (watN w) := by
  obtain ⟨zc, hS⟩ := zhc hs
  have ge : (⟨(⟨w.Cluster.Grid.Shards, (⟨w.Cluster.Grid.Root.Machine, w.Cluster.Grid.Root.Kind, w.Cluster.Grid.Root.Index⟩ : D.Address)⟩ : D.Grid), w.Cluster.Channels, w.Cluster.Counts, w.Cluster.Sent, w.Cluster.Got⟩ : D.Cluster) = w.Cluster := rfl
  have no : z1M fuel w true = some false := by unfold z1M; rfl
  unfold z7n watN
  rw [ge, zje hf zc, Option.bind_some]
  cases h : clusN w.Cluster with
  | false => rfl
  | true =>
    obtain ⟨hG, hC, hk, hh⟩ := zcS zc h
    rw [if_neg (by simp), sq64 hG.n, Bool.true_and]
    simp only [neN, no]
    cases hl : lensN w with
    | false =>
      rw [Bool.false_and]
      unfold lensN at hl
      rw [decide_eq_false_iff_not] at hl
      by_cases e1 : w.Shot.Taken.length = w.Cluster.Grid.Shards.length
      · by_cases e2 : w.Shot.Shards.length = w.Cluster.Grid.Shards.length
        · by_cases e3 : w.Shot.Counts.length = w.Cluster.Grid.Shards.length
          · by_cases e4 : w.Shot.Recording.length = w.Cluster.Grid.Shards.length * w.Cluster.Grid.Shards.length
            · have e5 : ¬ w.Shot.Saved.length = w.Cluster.Grid.Shards.length * w.Cluster.Grid.Shards.length := fun e => hl ⟨e1, e2, e3, e4, e⟩
              simp [e1, e2, e3, e4, e5, no]
            · simp [e1, e2, e3, e4]
          · simp [e1, e2, e3]
        · simp [e1, e2]
      · simp [e1]
    | true =>
      have hW := zks hs h hl
      unfold lensN at hl
      simp only [decide_eq_true_eq] at hl
      obtain ⟨e1, e2, e3, e4, e5⟩ := hl
      rw [decide_eq_true e1, decide_eq_true e2, decide_eq_true e3, decide_eq_true e4, decide_eq_true e5]
      simp only [Bool.not_true, Bool.false_eq_true, if_false, Bool.true_and]
      unfold z1M
      rw [if_neg (by simp)]
      rcases zhG hf hW hS rfl with ⟨m1, m2⟩ | ⟨m1, m2⟩
      · rw [m2, Option.bind_some, z8]
        unfold z8E
        rw [zgU hf hW hS rfl, Option.bind_some, m1, Bool.true_and]
        cases chansN w.Cluster.Grid.Shards.length w.Shot.Saved <;> cases linksN w w.Cluster.Grid.Shards.length <;> cases w.Shot.Taken.any id <;> rfl
      · rw [m2, Option.bind_some, m1, Bool.false_and, Bool.and_false]
        rfl
theorem zgr {xs : List Bool} (hf : 18446744073709551616 ≤ fuel) (hl : xs.length ≤ maxLen) : zp fuel xs true = some (xs.any id) := by
  unfold zp z26
  obtain ⟨r, h1, h2⟩ := askIndex (xs := xs) (p := id) (body := zE fuel xs true) (j := z2i fuel) (t := ()) hl hf rfl (fun i x hi hx => by
    simp only [zE, zd hx, lt_t (show (i : Int) < xs.length by omega), if_true, Option.bind_some]
    cases x <;> rfl) (by simp [zE])
  rw [h1, Option.bind_some, h2]
theorem zfX (hf : 18446744073709551616 ≤ fuel) (hs : w.sz ≤ 1048576) : z24 fuel w = some (watN w) := by
  have hm : maxLen = 9223372036854775807 := rfl
  obtain ⟨zc, hS⟩ := zhc hs
  have ge : (⟨(⟨w.Cluster.Grid.Shards, (⟨w.Cluster.Grid.Root.Machine, w.Cluster.Grid.Root.Kind, w.Cluster.Grid.Root.Index⟩ : D.Address)⟩ : D.Grid), w.Cluster.Channels, w.Cluster.Counts, w.Cluster.Sent, w.Cluster.Got⟩ : D.Cluster) = w.Cluster := rfl
  have no : ∀ t, zu fuel w t true = some false := fun t => by unfold zu; rfl
  unfold z24 watN
  rw [zjg hf zc, Option.bind_some]
  cases h : clusN w.Cluster with
  | false => rfl
  | true =>
    obtain ⟨hG, hC, hk, hh⟩ := zcS zc h
    have hn := hG.n
    unfold z1D z46
    dsimp only
    rw [if_neg (by simp), Option.bind_some, sq64 hn, zc7 hf ⟨by omega, hn⟩ hS.v.1 hS.v.2, Option.bind_some]
    simp only [neN, no, Bool.true_and]
    cases hl : lensN w with
    | false =>
      rw [Bool.false_and]
      unfold lensN at hl
      rw [decide_eq_false_iff_not] at hl
      by_cases e1 : w.Shot.Taken.length = w.Cluster.Grid.Shards.length
      · by_cases e2 : w.Shot.Shards.length = w.Cluster.Grid.Shards.length
        · by_cases e3 : w.Shot.Counts.length = w.Cluster.Grid.Shards.length
          · by_cases e4 : w.Shot.Recording.length = w.Cluster.Grid.Shards.length * w.Cluster.Grid.Shards.length
            · have e5 : ¬ w.Shot.Saved.length = w.Cluster.Grid.Shards.length * w.Cluster.Grid.Shards.length := fun e => hl ⟨e1, e2, e3, e4, e⟩
              simp [e1, e2, e3, e4, e5]
            · simp [e1, e2, e3, e4]
          · simp [e1, e2, e3]
        · simp [e1, e2]
      · simp [e1]
    | true =>
      have hW := zks hs h hl
      unfold lensN at hl
      simp only [decide_eq_true_eq] at hl
      obtain ⟨e1, e2, e3, e4, e5⟩ := hl
      rw [decide_eq_true e1, decide_eq_true e2, decide_eq_true e3, decide_eq_true e4, decide_eq_true e5]
      simp only [Bool.not_true, Bool.false_eq_true, if_false, Bool.true_and]
      cases hv : chansN w.Cluster.Grid.Shards.length w.Shot.Saved with
      | false => rfl
      | true =>
        rw [if_neg (by simp), zgr hf (by omega), Option.bind_some]
        cases hany : w.Shot.Taken.any id with
        | false => rw [Bool.not_false, no]; rfl
        | true =>
          unfold zu
          rw [if_neg (by simp), Bool.true_and, Bool.true_and]
          have hA := allLoop (xs := w.Shot.Taken) (body := z2B fuel ((w.Shot.Taken, w.Shot.Shards, w.Shot.Counts, w.Shot.Recording, w.Shot.Saved), (w.Cluster.Grid.Shards.length : Int))) (p := fun i _ => macN w i) (t := ()) (v := false) (fuel := fuel) (by omega) hf (fun i _ hi _ => by
            unfold z2B
            dsimp only
            rw [if_pos (decide_eq_true (by omega)), zfY, zjY hf hW hS (by omega), Option.bind_some]
            cases macN w i <;> rfl) (by
            unfold z2B
            rw [if_neg (by simp; omega)])
          rw [hA, Option.bind_some]
          unfold macsN
          cases (w.Shot.Taken.zipIdx.all fun x => macN w x.2) with
          | false => rfl
          | true =>
            rw [if_pos rfl, z8]
            unfold z6b
            have hnn : w.Cluster.Grid.Shards.length * w.Cluster.Grid.Shards.length ≤ 16 := Nat.mul_le_mul hn hn
            have hB := allLoop (xs := w.Shot.Recording) (body := z2A fuel w ((w.Shot.Taken, w.Shot.Shards, w.Shot.Counts, w.Shot.Recording, w.Shot.Saved), (w.Cluster.Grid.Shards.length : Int))) (p := fun i _ => linkN w (i / w.Cluster.Grid.Shards.length) (i % w.Cluster.Grid.Shards.length) i) (t := ()) (v := false) (fuel := fuel) (by omega) hf (fun i _ hi _ => by
              have hi2 : i < w.Cluster.Grid.Shards.length * w.Cluster.Grid.Shards.length := by omega
              have hdk : ((i / w.Cluster.Grid.Shards.length : Nat) : Int) ≤ (i : Int) := Int.ofNat_le.2 (Nat.div_le_self _ _)
              have hd0 : (0 : Int) ≤ ((i / w.Cluster.Grid.Shards.length : Nat) : Int) := Int.natCast_nonneg _
              have h4 := at4 (fuel := fuel) (n := w.Cluster.Grid.Shards.length) (a := i / w.Cluster.Grid.Shards.length) (b := i % w.Cluster.Grid.Shards.length) hW hS (Nat.div_lt_of_lt_mul hi2) (Nat.mod_lt i (Nat.pos_of_ne_zero hk)) hi2
              unfold z2A
              dsimp only
              rw [sq64 hn, if_pos (decide_eq_true (by omega)), if_pos (decide_eq_true (by omega)), if_pos (decide_eq_true (by omega)), zgn, tmodN hk, zf (n := ((i / w.Cluster.Grid.Shards.length : Nat) : Int)) (by omega) (by omega), zhJ hf h4, Option.bind_some]
              cases linkN w (i / w.Cluster.Grid.Shards.length) (i % w.Cluster.Grid.Shards.length) i <;> rfl) (by
              unfold z2A
              dsimp only
              rw [sq64 hn, if_neg (by simp; omega)])
            rw [hB, Option.bind_some]
            unfold linksN
            cases (w.Shot.Recording.zipIdx.all fun x => linkN w (x.2 / w.Cluster.Grid.Shards.length) (x.2 % w.Cluster.Grid.Shards.length) x.2) <;> rfl
end
end Go.E

