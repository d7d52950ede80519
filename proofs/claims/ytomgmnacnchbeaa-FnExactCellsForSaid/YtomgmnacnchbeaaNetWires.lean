/- Nets: the lists of wires; loops that append and loops that add up. Conditions: each lemma names its own. -/
import Derived.Test.YtomgmnacnchbeaaNetOps
namespace Go.E
open Go.RowKit Go.Proofs
set_option linter.unusedSimpArgs false
set_option linter.unusedVariables false

/-- a loop over numbers that appends -/
theorem appLoop {S τ ρ β : Type} {n : Nat} {body : S → Option (Rd S τ ρ)} {mk : Int → List β → S} {out : List β → τ} {g : Nat → List β} {s0 : List β} {fuel : Nat} (hl : n ≤ 1048576) (hf : 18446744073709551616 ≤ fuel)
    (step : ∀ k : Nat, k < n → body (mk k (s0 ++ (List.range k).flatMap g)) = some (.next (mk (w64 (k + 1)) (s0 ++ (List.range k).flatMap g ++ g k))))
    (last : body (mk n (s0 ++ (List.range n).flatMap g)) = some (.brk (out (s0 ++ (List.range n).flatMap g)))) :
    iter body fuel (mk 0 s0) = some (.inl (out (s0 ++ (List.range n).flatMap g))) := by
  obtain ⟨o, h1, h2⟩ := iter_count (body := body) (fun k s => s = mk k (s0 ++ (List.range k).flatMap g)) n (fun o => o = .inl (out (s0 ++ (List.range n).flatMap g))) (by
    rintro k s hk rfl
    refine .inl ⟨_, step k hk, ?_⟩
    rw [i64_small (by omega) (by omega), List.range_succ, List.flatMap_append, List.append_assoc]
    simp) (by
    rintro s rfl
    exact .inr ⟨_, last, rfl⟩) (fuel := fuel) (i := 0) (s := mk 0 s0) (Nat.zero_le _) (by omega) (by simp)
  rw [h1, h2]
/-- .. over a list -/
theorem zipLoop {α S τ ρ β : Type} {xs : List α} {body : S → Option (Rd S τ ρ)} {mk : Int → List β → S} {out : List β → τ} {g : Nat → α → List β} {s0 : List β} {fuel : Nat} (hl : xs.length ≤ 1048576) (hf : 18446744073709551616 ≤ fuel)
    (step : ∀ (i : Nat) x, xs[i]? = some x → body (mk i (s0 ++ ((xs.take i).zipIdx).flatMap fun x => g x.2 x.1)) = some (.next (mk (w64 (i + 1)) (s0 ++ (((xs.take i).zipIdx).flatMap fun x => g x.2 x.1) ++ g i x))))
    (last : body (mk xs.length (s0 ++ (xs.zipIdx).flatMap fun x => g x.2 x.1)) = some (.brk (out (s0 ++ (xs.zipIdx).flatMap fun x => g x.2 x.1)))) :
    iter body fuel (mk 0 s0) = some (.inl (out (s0 ++ (xs.zipIdx).flatMap fun x => g x.2 x.1))) := by
  obtain ⟨o, h1, h2⟩ := iter_count (body := body) (fun k s => s = mk k (s0 ++ ((xs.take k).zipIdx).flatMap fun x => g x.2 x.1)) xs.length (fun o => o = .inl (out (s0 ++ (xs.zipIdx).flatMap fun x => g x.2 x.1))) (by
    rintro k s hk rfl
    obtain ⟨x, hx⟩ := at_lt hk
    refine .inl ⟨_, step k x hx, ?_⟩
    rw [i64_small (by omega) (by omega), zip_take hx, List.flatMap_append, List.append_assoc]
    simp) (by
    rintro s rfl
    rw [List.take_length]
    exact .inr ⟨_, last, rfl⟩) (fuel := fuel) (i := 0) (s := mk 0 s0) (Nat.zero_le _) (by omega) (by simp)
  rw [h1, h2]
/-- a loop over a list that adds up -/
theorem sumLoop {α S τ ρ : Type} {xs : List α} {body : S → Option (Rd S τ ρ)} {mk : Int → Int → S} {out : Int → τ} {f : α → Nat} {c0 : Int} {fuel : Nat} (hl : xs.length ≤ 1048576) (hf : 18446744073709551616 ≤ fuel)
    (step : ∀ (i : Nat) x, xs[i]? = some x → body (mk i (c0 + (sumL f (xs.take i) : Nat))) = some (.next (mk (w64 (i + 1)) (c0 + (sumL f (xs.take i) : Nat) + (f x : Nat)))))
    (last : ∀ c, body (mk xs.length c) = some (.brk (out c))) :
    iter body fuel (mk 0 c0) = some (.inl (out (c0 + (sumL f xs : Nat)))) := by
  obtain ⟨o, h1, h2⟩ := iter_count (body := body) (fun k s => s = mk k (c0 + (sumL f (xs.take k) : Nat))) xs.length (fun o => o = .inl (out (c0 + (sumL f xs : Nat)))) (by
    rintro k s hk rfl
    obtain ⟨x, hx⟩ := at_lt hk
    refine .inl ⟨_, step k x hx, ?_⟩
    rw [i64_small (by omega) (by omega), sumL_take hx]
    congr 1
    omega) (by
    rintro s rfl
    rw [List.take_length]
    exact .inr ⟨_, last _, rfl⟩) (fuel := fuel) (i := 0) (s := mk 0 c0) (Nat.zero_le _) (by omega) (by simp [sumL])
  rw [h1, h2]
theorem sumL_flatMap {α β : Type} {f : β → Nat} {g : α → List β} : ∀ {xs : List α}, sumL f (xs.flatMap g) = sumL (fun x => sumL f (g x)) xs
  | [] => rfl
  | x :: xs => by simp only [List.flatMap_cons, sumL_append, sumL, sumL_flatMap (xs := xs)]
theorem sumL_same {α : Type} {f g : α → Nat} : ∀ {xs : List α}, (∀ x, x ∈ xs → f x = g x) → sumL f xs = sumL g xs
  | [], _ => rfl
  | x :: xs, h => by simp only [sumL, h x (by simp), sumL_same fun y hy => h y (List.mem_cons_of_mem _ hy)]
theorem sumL_le {α : Type} {f : α → Nat} {b : Nat} : ∀ {xs : List α}, (∀ x, x ∈ xs → f x ≤ b) → sumL f xs ≤ xs.length * b
  | [], _ => by simp [sumL]
  | x :: xs, h => by
    have := sumL_le fun y hy => h y (List.mem_cons_of_mem x hy)
    have := h x (by simp)
    simp only [sumL, List.length_cons, Nat.succ_mul]
    omega
theorem sumL_take_le {α : Type} {f : α → Nat} {xs : List α} (i : Nat) : sumL f (xs.take i) ≤ sumL f xs := by
  have := sumL_append (f := f) (xs := xs.take i) (ys := xs.drop i)
  rw [List.take_append_drop] at this
  omega

/-! ### Wires -/
def befN (p q : D.Port) : Bool := decide (p.Agent < q.Agent) || (decide (p.Agent = q.Agent) && decide (p.Slot < q.Slot))
def wireAt (n : D.Net) (p : D.Port) : List D.Wire := match portAt n p with
  | some q => if befN p q = true then [⟨p, q⟩] else []
  | none => []
def wiresL (n : D.Net) : List D.Wire := (portsL n).flatMap (wireAt n)
theorem before_spec {p q : D.Port} {fuel : Nat} : m_spec_l11Before fuel p q = some (befN p q) := by
  unfold m_spec_l11Before befN
  by_cases h1 : p.Agent < q.Agent
  · simp [h1]
  · by_cases h2 : p.Agent = q.Agent <;> simp [h1, h2]
theorem before_impl {p q : D.Port} {fuel : Nat} : m_impl_Port_before fuel p q = some (befN p q) := by
  unfold m_impl_Port_before befN
  by_cases h1 : p.Agent < q.Agent
  · simp [h1]
  · by_cases h2 : p.Agent = q.Agent <;> simp [h1, h2]
theorem wire_one {n : D.Net} {p : D.Port} : (wireAt n p).length ≤ 1 := by
  unfold wireAt
  split
  · split <;> simp
  · simp
theorem flat_one {α β : Type} {g : α → List β} (h : ∀ x, (g x).length ≤ 1) : ∀ xs : List α, (xs.flatMap g).length ≤ xs.length
  | [] => by simp
  | x :: xs => by
    rw [List.flatMap_cons, List.length_append, List.length_cons]
    have := flat_one h xs
    have := h x
    omega
theorem portsL_flat {β : Type} {n : D.Net} {g : D.Port → List β} : (portsL n).flatMap g = n.Agents.zipIdx.flatMap fun x => (List.range x.1.Ports.length).flatMap fun k => g (prt x.2 k) := by
  unfold portsL
  rw [List.flatMap_assoc]
  congr 1
  funext x
  rw [List.flatMap_map]
theorem wires_spec {n : D.Net} {fuel : Nat} (hf : 18446744073709551616 ≤ fuel) (hl : n.Agents.length ≤ 1048576) (hs : sumL (fun a => a.Ports.length) n.Agents ≤ 1048576) : m_spec_l11Wires fuel n = some (wiresL n) := by
  have hm : maxLen = 9223372036854775807 := rfl
  unfold m_spec_l11Wires
  have h := zipLoop (xs := n.Agents) (body := m_spec_l11Wires_b1 fuel n) (mk := fun i s => (i, s)) (out := fun s => s) (g := fun i a => (List.range a.Ports.length).flatMap fun k => wireAt n (prt i k)) (s0 := []) hl hf (fun i a ha => by
    have hil := (List.getElem?_eq_some_iff.1 ha).1
    have hpa : a.Ports.length ≤ 1048576 := Nat.le_trans (sumL_mem (f := fun a : D.Agent => a.Ports.length) (List.mem_of_getElem? ha)) hs
    have hlen := take_flat (n := n) (i + 1)
    have hlen2 : (((n.Agents.take i).zipIdx).flatMap fun x => (List.range x.1.Ports.length).flatMap fun k => wireAt n (prt x.2 k)).length + a.Ports.length ≤ 1048576 := by
      have h1 : (((n.Agents.take i).zipIdx).flatMap fun x => (List.range x.1.Ports.length).flatMap fun k => wireAt n (prt x.2 k)).length ≤ (((n.Agents.take i).zipIdx).flatMap fun x => (List.range x.1.Ports.length).map fun j => prt x.2 j).length := by
        have := portsL_flat (n := ⟨n.Agents.take i⟩) (g := wireAt n)
        rw [← this]
        exact flat_one (fun p => wire_one) _
      rw [zip_take ha, List.flatMap_append, List.length_append] at hlen
      simp only [List.flatMap_cons, List.flatMap_nil, List.append_nil, List.length_map, List.length_range] at hlen
      omega
    simp only [List.nil_append]
    generalize (((n.Agents.take i).zipIdx).flatMap fun x => (List.range x.1.Ports.length).flatMap fun k => wireAt n (prt x.2 k)) = s at hlen2 ⊢
    unfold m_spec_l11Wires_b1
    rw [if_pos (by simpa using hil)]
    have h2 := appLoop (body := m_spec_l11Wires_b2 fuel n ((i : Int), s)) (n := a.Ports.length) (mk := fun k s => (k, s)) (out := fun s => s) (g := fun k => wireAt n (prt i k)) (s0 := s) hpa hf (fun k hk => by
      obtain ⟨q, hq⟩ := at_lt hk
      have hlk := flat_one (g := fun k => wireAt n (prt i k)) (fun k => wire_one) (List.range k)
      rw [List.length_range] at hlk
      have hw : wireAt n (prt i k) = if befN (prt i k) q = true then [⟨prt i k, q⟩] else [] := by
        unfold wireAt
        rw [port_at ha hq]
      rw [hw]
      unfold m_spec_l11Wires_b2
      dsimp only
      rw [idx_at ha, Option.bind_some, if_pos (by simpa using hk), Option.bind_some, idx_at hq, Option.bind_some, before_spec, Option.bind_some]
      change (if befN (prt i k) q = true then _ else _) = _
      cases hbf : befN (prt i k) q with
      | true =>
        have hl4 : (s ++ (List.range k).flatMap fun k => wireAt n (prt i k)).length + 1 ≤ 4294967296 := by
          rw [List.length_append]; omega
        rw [if_pos rfl, if_pos rfl, Option.bind_some, idx_at hq, Option.bind_some]
        generalize (s ++ (List.range k).flatMap fun k => wireAt n (prt i k)) = t at hl4 ⊢
        rw [if_pos (by simp only [decide_eq_true_eq, List.length_cons, List.length_nil]; omega)]
        unfold m_spec_l11Wires_j3
        rfl
      | false =>
        rw [if_neg (by simp), if_neg (by simp), List.append_nil]
        unfold m_spec_l11Wires_j3
        rfl) (by
      unfold m_spec_l11Wires_b2
      simp only [idx_at ha, Option.bind_some]
      rw [if_neg (by simp)])
    rw [show ((0 : Int), s) = (((0 : Int), s) : Int × List D.Wire) from rfl] at *
    rw [h2]
    rfl) (by
    unfold m_spec_l11Wires_b1
    rw [if_neg (by simp)])
  rw [h]
  simp only [Option.bind_some, aft, m_spec_l11Wires_j1, List.nil_append]
  unfold wiresL
  rw [portsL_flat]
end Go.E
