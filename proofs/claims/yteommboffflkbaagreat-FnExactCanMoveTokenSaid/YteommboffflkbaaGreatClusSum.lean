/- Clusters: what is under way, on both sides. Conditions: a valid cluster. -/
import Derived.Test.YteommboffflkbaaGreatHT
import Derived.Test.YteommboffflkbaaGreatClusActs
namespace Go.E
open Go.RowKit Go.Proofs
set_option linter.unusedSimpArgs false
set_option linter.unusedVariables false

def oneN (b : Bool) : Nat := if b = true then 1 else 0
def markN (ch : List D.Parcel) : Nat := sumL (fun p : D.Parcel => oneN (p.Kind == 4)) ch
def goN (c : D.Cluster) : Nat := sumL (fun ch : List D.Parcel => ch.length - markN ch) c.Channels

section
variable {fuel : Nat} {c : D.Cluster}
theorem zjr {b : Bool} : oneN b ≤ 1 := by unfold oneN; split <;> omega
theorem zhS {α : Type} {f : α → Nat} {b : Nat} : ∀ {xs : List α}, (∀ x, x ∈ xs → f x ≤ b) → sumL f xs ≤ b * xs.length
  | [], _ => by simp [sumL]
  | x :: xs, h => by
    have h1 := h x (by simp)
    have h2 := zhS (b := b) (xs := xs) fun y hy => h y (by simp [hy])
    simp only [sumL, List.length_cons, Nat.mul_add]
    omega
theorem zfH {ch : List D.Parcel} : markN ch ≤ ch.length := by
  have := zhS (f := fun p : D.Parcel => oneN (p.Kind == 4)) (b := 1) (xs := ch) fun _ _ => zjr
  unfold markN
  omega
theorem zmh {b : Bool} : z7B fuel b = some ((oneN b : Nat) : Int) := by unfold z7B; cases b <;> rfl
theorem ziJ {b : Bool} : z9b fuel b = some ((oneN b : Nat) : Int) := by unfold z9b; cases b <;> rfl
theorem zfi {ch : List D.Parcel} (hf : 18446744073709551616 ≤ fuel) (hl : ch.length ≤ 1048576) : z42 fuel ch = some ((markN ch : Nat) : Int) := by
  unfold z42
  have h := sumLoop (xs := ch) (body := z3v fuel ch) (mk := fun i s => (s, i)) (out := fun s => s) (f := fun p : D.Parcel => oneN (p.Kind == 4)) (c0 := 0) (fuel := fuel) (by omega) hf (fun i p hp => by
    have hil := (List.getElem?_eq_some_iff.1 hp).1
    have hb := zfH (ch := ch.take i)
    have hb1 := zjr (b := p.Kind == 4)
    unfold markN at hb
    rw [List.length_take] at hb
    unfold z3v
    dsimp only
    rw [if_pos (by simpa using hil), za hp, Option.bind_some, zmh, Option.bind_some, z9 (n := _ + ((oneN _ : Nat) : Int)) (by omega) (by omega)]) (fun s => by
    unfold z3v
    rw [if_neg (by simp)])
  try dsimp only at h
  rw [h, Option.bind_some, z8, Int.zero_add]
  rfl
theorem zfj {ch : List D.Parcel} (hf : 18446744073709551616 ≤ fuel) (hl : ch.length ≤ 1048576) : z6H fuel ch = some ((markN ch : Nat) : Int) := by
  unfold z6H
  have h := sumLoop (xs := ch) (body := z64 fuel ch) (mk := fun i s => (s, i)) (out := fun s => s) (f := fun p : D.Parcel => oneN (p.Kind == 4)) (c0 := 0) (fuel := fuel) (by omega) hf (fun i p hp => by
    have hil := (List.getElem?_eq_some_iff.1 hp).1
    have hb := zfH (ch := ch.take i)
    have hb1 := zjr (b := p.Kind == 4)
    unfold markN at hb
    rw [List.length_take] at hb
    unfold z64
    dsimp only
    rw [if_pos (by simpa using hil), za hp, Option.bind_some, ziJ, Option.bind_some, z9 (n := _ + ((oneN _ : Nat) : Int)) (by omega) (by omega)]) (fun s => by
    unfold z64
    rw [if_neg (by simp)])
  try dsimp only at h
  rw [h, Option.bind_some, z8, Int.zero_add]
  rfl
theorem zoe (hC : Chans c) (i : Nat) : sumL (fun ch : List D.Parcel => ch.length - markN ch) (c.Channels.take i) ≤ 200 * 16 := by
  have := zhS (f := fun ch : List D.Parcel => ch.length - markN ch) (b := 200) (xs := c.Channels.take i) fun ch hc => by
    have := hC.l ch (List.mem_of_mem_take hc)
    omega
  rw [List.length_take] at this
  have h2 := hC.n
  omega
theorem zjD (hf : 18446744073709551616 ≤ fuel) (hC : Chans c) : z41 fuel c = some ((goN c : Nat) : Int) := by
  have hcn := hC.n
  unfold z41
  have h := sumLoop (xs := c.Channels) (body := z3u fuel c) (mk := fun i s => (s, i)) (out := fun s => s) (f := fun ch : List D.Parcel => ch.length - markN ch) (c0 := 0) (fuel := fuel) (by omega) hf (fun i ch hp => by
    have hil := (List.getElem?_eq_some_iff.1 hp).1
    have hb := zoe hC i
    have hm := zfH (ch := ch)
    have hch := hC.l ch (List.mem_of_getElem? hp)
    have e : (ch.length : Int) - ((markN ch : Nat) : Int) = ((ch.length - markN ch : Nat) : Int) := by omega
    unfold z3u
    dsimp only
    rw [if_pos (by simpa using hil), za hp, Option.bind_some, Option.bind_some, zfi hf (by omega), Option.bind_some, e, z9 (n := ((ch.length - markN ch : Nat) : Int)) (by omega) (by omega), z9 (n := _ + ((ch.length - markN ch : Nat) : Int)) (by omega) (by omega)]) (fun s => by
    unfold z3u
    rw [if_neg (by simp)])
  try dsimp only at h
  rw [h, Option.bind_some, z8, Int.zero_add]
  rfl
theorem zjE (hf : 18446744073709551616 ≤ fuel) (hC : Chans c) : z1u fuel c = some ((goN c : Nat) : Int) := by
  have hcn := hC.n
  unfold z1u
  have h := sumLoop (xs := c.Channels) (body := z1x fuel c) (mk := fun i s => (s, i)) (out := fun s => s) (f := fun ch : List D.Parcel => ch.length - markN ch) (c0 := 0) (fuel := fuel) (by omega) hf (fun i ch hp => by
    have hil := (List.getElem?_eq_some_iff.1 hp).1
    have hb := zoe hC i
    have hm := zfH (ch := ch)
    have hch := hC.l ch (List.mem_of_getElem? hp)
    have e : (ch.length : Int) - ((markN ch : Nat) : Int) = ((ch.length - markN ch : Nat) : Int) := by omega
    unfold z1x
    dsimp only
    rw [if_pos (by simpa using hil), za hp, Option.bind_some, zfj hf (by omega), Option.bind_some, e, z9 (n := ((ch.length - markN ch : Nat) : Int)) (by omega) (by omega), z9 (n := _ + ((ch.length - markN ch : Nat) : Int)) (by omega) (by omega)]) (fun s => by
    unfold z1x
    rw [if_neg (by simp)])
  try dsimp only at h
  rw [h, Option.bind_some, z8, Int.zero_add]
  rfl
end
end Go.E

