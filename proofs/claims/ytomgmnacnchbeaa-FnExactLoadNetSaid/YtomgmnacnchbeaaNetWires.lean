/- Nets: the lists of wires; loops that append and loops that add up. Conditions: each lemma names its own. -/
import Derived.Test.YtomgmnacnchbeaaNetOps
namespace Go.E
open Go.RowKit Go.Proofs
set_option linter.unusedSimpArgs false
set_option linter.unusedVariables false

theorem z6y {α β : Type} {f : β → Nat} {g : α → List β} : ∀ {xs : List α}, sumL f (xs.flatMap g) = sumL (fun x => sumL f (g x)) xs
  | [] => rfl
  | x :: xs => by simp only [List.flatMap_cons, z1A, sumL, z6y (xs := xs)]
theorem z8w {α : Type} {f g : α → Nat} : ∀ {xs : List α}, (∀ x, x ∈ xs → f x = g x) → sumL f xs = sumL g xs
  | [], _ => rfl
  | x :: xs, h => by simp only [sumL, h x (by simp), z8w fun y hy => h y (List.mem_cons_of_mem _ hy)]
theorem z83 {α : Type} {f : α → Nat} {b : Nat} : ∀ {xs : List α}, (∀ x, x ∈ xs → f x ≤ b) → sumL f xs ≤ xs.length * b
  | [], _ => by simp [sumL]
  | x :: xs, h => by
    have := z83 fun y hy => h y (List.mem_cons_of_mem x hy)
    have := h x (by simp)
    simp only [sumL, List.length_cons, Nat.succ_mul]
    omega
theorem z5u {α : Type} {f : α → Nat} {xs : List α} (i : Nat) : sumL f (xs.take i) ≤ sumL f xs := by
  have := z1A (f := f) (xs := xs.take i) (ys := xs.drop i)
  rw [List.take_append_drop] at this
  omega


def befN (p q : D.Port) : Bool := decide (p.Agent < q.Agent) || (decide (p.Agent = q.Agent) && decide (p.Slot < q.Slot))
def wireAt (n : D.Net) (p : D.Port) : List D.Wire := match portAt n p with
  | some q => if befN p q = true then [⟨p, q⟩] else []
  | none => []
def wiresL (n : D.Net) : List D.Wire := (portsL n).flatMap (wireAt n)
theorem z9u {p q : D.Port} {fuel : Nat} : z2O fuel p q = some (befN p q) := by
  unfold z2O befN
  by_cases h1 : p.Agent < q.Agent
  · simp [h1]
  · by_cases h2 : p.Agent = q.Agent <;> simp [h1, h2]
theorem z7r {p q : D.Port} {fuel : Nat} : z1a fuel p q = some (befN p q) := by
  unfold z1a befN
  by_cases h1 : p.Agent < q.Agent
  · simp [h1]
  · by_cases h2 : p.Agent = q.Agent <;> simp [h1, h2]
theorem z7V {n : D.Net} {p : D.Port} : (wireAt n p).length ≤ 1 := by
  unfold wireAt
  split
  · split <;> simp
  · simp
theorem z6i {α β : Type} {g : α → List β} (h : ∀ x, (g x).length ≤ 1) : ∀ xs : List α, (xs.flatMap g).length ≤ xs.length
  | [] => by simp
  | x :: xs => by
    rw [List.flatMap_cons, List.length_append, List.length_cons]
    have := z6i h xs
    have := h x
    omega
theorem z78 {β : Type} {n : D.Net} {g : D.Port → List β} : (portsL n).flatMap g = n.Agents.zipIdx.flatMap fun x => (List.range x.1.Ports.length).flatMap fun k => g (prt x.2 k) := by
  unfold portsL
  rw [List.flatMap_assoc]
  congr 1
  funext x
  rw [List.flatMap_map]
theorem z7E {n : D.Net} {fuel : Nat} (hf : 18446744073709551616 ≤ fuel) (hl : n.Agents.length ≤ 1048576) (hs : sumL (fun a => a.Ports.length) n.Agents ≤ 1048576) : z2k fuel n = some (wiresL n) := by
  have hm : maxLen = 9223372036854775807 := rfl
  unfold z2k
  have h := zipLoop (xs := n.Agents) (body := z1T fuel n) (mk := fun i s => (i, s)) (out := fun s => s) (g := fun i a => (List.range a.Ports.length).flatMap fun k => wireAt n (prt i k)) (s0 := []) hl hf (fun i a ha => by
    have hil := (List.getElem?_eq_some_iff.1 ha).1
    have hpa : a.Ports.length ≤ 1048576 := Nat.le_trans (z5M (f := fun a : D.Agent => a.Ports.length) (List.mem_of_getElem? ha)) hs
    have hlen := z8t (n := n) (i + 1)
    have hlen2 : (((n.Agents.take i).zipIdx).flatMap fun x => (List.range x.1.Ports.length).flatMap fun k => wireAt n (prt x.2 k)).length + a.Ports.length ≤ 1048576 := by
      have h1 : (((n.Agents.take i).zipIdx).flatMap fun x => (List.range x.1.Ports.length).flatMap fun k => wireAt n (prt x.2 k)).length ≤ (((n.Agents.take i).zipIdx).flatMap fun x => (List.range x.1.Ports.length).map fun j => prt x.2 j).length := by
        have := z78 (n := ⟨n.Agents.take i⟩) (g := wireAt n)
        rw [← this]
        exact z6i (fun p => z7V) _
      rw [z61 ha, List.flatMap_append, List.length_append] at hlen
      simp only [List.flatMap_cons, List.flatMap_nil, List.append_nil, List.length_map, List.length_range] at hlen
      omega
    simp only [List.nil_append]
    generalize (((n.Agents.take i).zipIdx).flatMap fun x => (List.range x.1.Ports.length).flatMap fun k => wireAt n (prt x.2 k)) = s at hlen2 ⊢
    unfold z1T
    rw [if_pos (by simpa using hil)]
    have h2 := appLoop (body := z1S fuel n ((i : Int), s)) (n := a.Ports.length) (mk := fun k s => (k, s)) (out := fun s => s) (g := fun k => wireAt n (prt i k)) (s0 := s) hpa hf (fun k hk => by
      obtain ⟨q, hq⟩ := z40 hk
      have hlk := z6i (g := fun k => wireAt n (prt i k)) (fun k => z7V) (List.range k)
      rw [List.length_range] at hlk
      have hw : wireAt n (prt i k) = if befN (prt i k) q = true then [⟨prt i k, q⟩] else [] := by
        unfold wireAt
        rw [z79 ha hq]
      rw [hw]
      unfold z1S
      dsimp only
      rw [zg ha, Option.bind_some, if_pos (by simpa using hk), Option.bind_some, zg hq, Option.bind_some, z9u, Option.bind_some]
      change (if befN (prt i k) q = true then _ else _) = _
      cases hbf : befN (prt i k) q with
      | true =>
        have hl4 : (s ++ (List.range k).flatMap fun k => wireAt n (prt i k)).length + 1 ≤ 4294967296 := by
          rw [List.length_append]; omega
        rw [if_pos rfl, if_pos rfl, Option.bind_some, zg hq, Option.bind_some]
        generalize (s ++ (List.range k).flatMap fun k => wireAt n (prt i k)) = t at hl4 ⊢
        rw [if_pos (by simp only [decide_eq_true_eq, List.length_cons, List.length_nil]; omega)]
        unfold z19
        rfl
      | false =>
        rw [if_neg (by simp), if_neg (by simp), List.append_nil]
        unfold z19
        rfl) (by
      unfold z1S
      simp only [zg ha, Option.bind_some]
      rw [if_neg (by simp)])
    rw [show ((0 : Int), s) = (((0 : Int), s) : Int × List D.Wire) from rfl] at *
    rw [h2]
    rfl) (by
    unfold z1T
    rw [if_neg (by simp)])
  rw [h]
  simp only [Option.bind_some, aft, z48, List.nil_append]
  unfold wiresL
  rw [z78]
end Go.E

