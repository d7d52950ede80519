/- Nets: the reference's and the program's tests agree, told by a plain test. Conditions: the data within the law's bound. -/
import Derived.Test.YtomgmnacnchbeaaOkAgent
import Derived.Test.YtomgmnacnchbeaaFN
namespace Go.E
open Go.RowKit Go.Proofs
set_option linter.unusedSimpArgs false
set_option linter.unusedVariables false

/-- A loop over a list whose rounds are told by the element: turn back with a value, or go on with another state. -/
inductive Rnd (σ ρ : Type) where
  | go (s : σ)
  | back (r : ρ)
def foldR {α σ ρ : Type} (f : Nat → σ → α → Rnd σ ρ) : Nat → List α → σ → Rnd σ ρ
  | _, [], s => .go s
  | i, x :: xs, s => match f i s x with
    | .go s' => foldR f (i + 1) xs s'
    | .back r => .back r
theorem loopR {α σ S τ ρ : Type} {xs : List α} {body : S → Option (Rd S τ ρ)} {mk : Int → σ → S} {out : σ → τ} {f : Nat → σ → α → Rnd σ ρ} {J : Nat → σ → Prop} {s0 : σ} {fuel : Nat}
    (hl : xs.length ≤ maxLen) (hf : 18446744073709551616 ≤ fuel) (hJ : J 0 s0)
    (step : ∀ (i : Nat) s x, i < xs.length → xs[i]? = some x → J i s → match f i s x with
      | .go s' => body (mk i s) = some (.next (mk (w64 (i + 1)) s')) ∧ J (i + 1) s'
      | .back r => body (mk i s) = some (.ret r))
    (last : ∀ s, J xs.length s → body (mk xs.length s) = some (.brk (out s))) :
    (match foldR f 0 xs s0 with
      | .go s => iter body fuel (mk 0 s0) = some (.inl (out s)) ∧ J xs.length s
      | .back r => iter body fuel (mk 0 s0) = some (.inr r)) := by
  have hm : maxLen = 9223372036854775807 := rfl
  have key : ∀ (ys : List α) (i : Nat) (s : σ) (fu : Nat), i + ys.length = xs.length → (∀ j, ys[j]? = xs[i + j]?) → ys.length < fu → J i s → (match foldR f i ys s with
      | .go s' => iter body fu (mk i s) = some (.inl (out s')) ∧ J xs.length s'
      | .back r => iter body fu (mk i s) = some (.inr r)) := by
    intro ys
    induction ys with
    | nil =>
      intro i s fu hi _ hfu hj
      obtain ⟨fu, rfl⟩ : ∃ f', fu = f' + 1 := ⟨fu - 1, by simp at hfu; omega⟩
      simp only [List.length_nil, Nat.add_zero] at hi
      subst hi
      simp only [foldR, iter, last s hj]
      exact ⟨trivial, hj⟩
    | cons y ys ih =>
      intro i s fu hi hat hfu hj
      obtain ⟨fu, rfl⟩ : ∃ f', fu = f' + 1 := ⟨fu - 1, by simp at hfu; omega⟩
      simp only [List.length_cons] at hi hfu
      have hx : xs[i]? = some y := by have := hat 0; simpa using this.symm
      have hs := step i s y (by omega) hx hj
      unfold foldR
      cases hfs : f i s y with
      | go s' =>
        rw [hfs] at hs
        have h2 := ih (i + 1) s' fu (by omega) (fun j => by have := hat (j + 1); rw [show i + 1 + j = i + (j + 1) by omega]; simpa using this) (by omega) hs.2
        simp only [iter, hs.1]
        rw [i64_small (by omega) (by omega)]
        exact_mod_cast h2
      | back r =>
        rw [hfs] at hs
        simp only [iter, hs]
  have := key xs 0 s0 fuel (by simp) (by simp) (by omega) hJ
  exact_mod_cast this

theorem zip_all {α : Type} {xs : List α} {p : Nat → α → Bool} {k : Nat} : ((xs.zipIdx k).all fun y => p y.2 y.1) = true ↔ ∀ i x, xs[i]? = some x → p (k + i) x = true := by
  rw [List.all_eq_true]
  constructor
  · intro h i x hx
    have : (x, k + i) ∈ xs.zipIdx k := by
      rw [List.mem_zipIdx_iff_le_and_getElem?_sub]
      exact ⟨Nat.le_add_right _ _, by simpa using hx⟩
    exact h _ this
  · rintro h ⟨x, j⟩ hj
    rw [List.mem_zipIdx_iff_le_and_getElem?_sub] at hj
    have := h (j - k) x hj.2
    rwa [show k + (j - k) = j by have := hj.1; simp at this; omega] at this

theorem foldR_all {α ρ : Type} {p : Nat → α → Bool} {v : ρ} : ∀ {xs : List α} {k : Nat}, foldR (fun i (_ : Unit) x => if p i x = true then Rnd.go () else Rnd.back v) k xs () = if ((xs.zipIdx k).all fun y => p y.2 y.1) = true then Rnd.go () else Rnd.back v
  | [], k => by simp [foldR]
  | x :: xs, k => by
    unfold foldR
    cases h : p k x with
    | true => simp only [if_true, foldR_all (xs := xs), List.zipIdx_cons, List.all_cons, h, Bool.true_and]
    | false => simp [h]

/-- a loop that asks each element, with its place, and turns back with one value -/
theorem allLoop {α τ ρ : Type} {xs : List α} {body : Int → Option (Rd Int τ ρ)} {p : Nat → α → Bool} {t : τ} {v : ρ} {fuel : Nat} (hl : xs.length ≤ maxLen) (hf : 18446744073709551616 ≤ fuel)
    (step : ∀ (i : Nat) x, i < xs.length → xs[i]? = some x → body i = if p i x = true then some (.next (w64 (i + 1))) else some (.ret v)) (last : body xs.length = some (.brk t)) :
    iter body fuel 0 = some (if (xs.zipIdx.all fun y => p y.2 y.1) = true then .inl t else .inr v) := by
  have h := loopR (xs := xs) (body := body) (mk := fun i _ => i) (out := fun (_ : Unit) => t) (f := fun i (_ : Unit) x => if p i x = true then Rnd.go () else Rnd.back v) (J := fun _ _ => True) (s0 := ()) hl hf trivial
    (fun i s x hi hx _ => by
      have := step i x hi hx
      cases hp : p i x with
      | true => rw [hp] at this; exact ⟨this, trivial⟩
      | false => rw [hp] at this; simpa using this) (fun s _ => last)
  rw [foldR_all] at h
  cases hp : (xs.zipIdx.all fun y => p y.2 y.1) with
  | true => rw [hp] at h; exact h.1
  | false => rw [hp] at h; exact h

/-! ### Ports -/
def portAt (n : D.Net) (p : D.Port) : Option D.Port := (idx n.Agents p.Agent).bind fun a => idx a.Ports p.Slot
def hasN (l : List D.Agent) (p : D.Port) : Bool := decide (0 ≤ p.Agent ∧ 0 ≤ p.Slot) && (l[p.Agent.toNat]?).any fun a => decide (p.Slot < (a.Ports.length : Int))
def agentsN (l : List D.Agent) : Bool := decide (1 ≤ l.length ∧ l.length ≤ 600) && (l.zipIdx.all fun x => agN x.1 && ((x.1.Kind == 1) == (x.2 == 0)))
def prt (i k : Nat) : D.Port := ⟨i, k⟩
def chkN (n : D.Net) (i k : Nat) (p : D.Port) : Bool := !(decide (p = prt i k)) && (hasN n.Agents p && decide (portAt n p = some (prt i k)))
def netN (n : D.Net) : Bool := agentsN n.Agents && (n.Agents.zipIdx.all fun x => x.1.Ports.zipIdx.all fun y => chkN n x.2 y.2 y.1)

theorem idx_ge {α : Type} {xs : List α} {i : Int} (h : 0 ≤ i) : idx xs i = xs[i.toNat]? := by unfold idx; rw [if_pos h]
theorem has_at {l : List D.Agent} {p : D.Port} (h : hasN l p = true) : 0 ≤ p.Agent ∧ 0 ≤ p.Slot ∧ ∃ a q, l[p.Agent.toNat]? = some a ∧ idx l p.Agent = some a ∧ a.Ports[p.Slot.toNat]? = some q ∧ idx a.Ports p.Slot = some q ∧ p.Agent < l.length ∧ p.Slot < a.Ports.length := by
  unfold hasN at h
  simp only [Bool.and_eq_true, decide_eq_true_eq] at h
  obtain ⟨⟨h1, h2⟩, h3⟩ := h
  cases ha : l[p.Agent.toNat]? with
  | none => rw [ha] at h3; simp at h3
  | some a =>
    rw [ha] at h3
    simp only [Option.any_some, decide_eq_true_eq] at h3
    obtain ⟨q, hq⟩ := at_lt (xs := a.Ports) (i := p.Slot.toNat) (by omega)
    have := (List.getElem?_eq_some_iff.1 ha).1
    exact ⟨h1, h2, a, q, rfl, by rw [idx_ge h1, ha], hq, by rw [idx_ge h2, hq], by omega, h3⟩
theorem has_iff {l : List D.Agent} {p : D.Port} : hasN l p = true ↔ 0 ≤ p.Agent ∧ 0 ≤ p.Slot ∧ ∃ a, l[p.Agent.toNat]? = some a ∧ p.Slot < a.Ports.length := by
  constructor
  · intro h
    obtain ⟨h1, h2, a, q, h3, _, _, _, _, h4⟩ := has_at h
    exact ⟨h1, h2, a, h3, h4⟩
  · rintro ⟨h1, h2, a, h3, h4⟩
    unfold hasN
    rw [h3]
    simp [h1, h2, h4]
theorem port_eq {p q : D.Port} : (((p.Agent : Int) == q.Agent) && (((p.Slot : Int) == q.Slot) && true)) = decide (p = q) := by
  obtain ⟨a, b⟩ := p
  obtain ⟨c, d⟩ := q
  by_cases h1 : a = c <;> by_cases h2 : b = d <;> simp [h1, h2]
theorem prt_eq {p : D.Port} {i k : Nat} : (((p.Agent : Int) == (i : Int)) && (((p.Slot : Int) == (k : Int)) && true)) = decide (p = prt i k) := port_eq (q := prt i k)

theorem hasPort_spec {l : List D.Agent} {p : D.Port} {fuel : Nat} (hl : l.length ≤ maxLen) (hp : ∀ a, a ∈ l → a.Ports.length ≤ maxLen) : m_spec_l11Port fuel l p = some (hasN l p) := by
  unfold m_spec_l11Port
  rw [in_pure, Option.bind_some, fields_w hl]
  by_cases h1 : 0 ≤ p.Agent ∧ p.Agent ≤ (l.length : Int) - 1
  · rw [if_pos (by simpa using h1)]
    obtain ⟨a, ha⟩ := at_lt (xs := l) (i := p.Agent.toNat) (by omega)
    rw [idx_ge h1.1, ha, Option.bind_some, in_pure, fields_w (hp a (List.mem_of_getElem? ha)), Option.bind_some]
    unfold hasN
    rw [ha]
    simp only [Option.bind_some, Option.any_some]
    by_cases h2 : 0 ≤ p.Slot <;> by_cases h3 : p.Slot < (a.Ports.length : Int) <;> simp [h1.1, h2, h3] <;> omega
  · rw [if_neg (by simpa using h1)]
    unfold hasN
    by_cases h0 : 0 ≤ p.Agent
    · rw [List.getElem?_eq_none (by omega)]; simp
    · simp [h0]
theorem hasPort_impl {l : List D.Agent} {p : D.Port} {fuel : Nat} : m_impl_hasPort fuel l p = some (hasN l p) := by
  unfold m_impl_hasPort hasN
  by_cases h0 : 0 ≤ p.Agent
  · rw [if_pos (by simpa using h0)]
    by_cases h1 : p.Agent < l.length
    · rw [if_pos (by simpa using h1)]
      obtain ⟨a, ha⟩ := at_lt (xs := l) (i := p.Agent.toNat) (by omega)
      by_cases h2 : 0 ≤ p.Slot
      · rw [if_pos (by simpa using h2), idx_ge h0, ha]; simp [h0, h2]
      · rw [if_neg (by simpa using h2)]; simp [h2]
    · rw [if_neg (by simpa using h1), List.getElem?_eq_none (by omega)]; simp
  · rw [if_neg (by simpa using h0)]; simp [h0]
theorem peer_impl {n : D.Net} {p : D.Port} {fuel : Nat} : m_impl_Net_peer fuel n p = portAt n p := by
  unfold m_impl_Net_peer portAt
  cases idx n.Agents p.Agent with
  | none => rfl
  | some a =>
    simp only [Option.bind_some]
    cases idx a.Ports p.Slot <;> rfl

/-! ### Agents -/
theorem kind_beq {i : Nat} : (((i : Int)) == 0) = (i == 0) := by
  by_cases h : i = 0
  · subst h; rfl
  · have h2 : ¬ ((i : Int) = 0) := by omega
    rw [beq_eq_false_iff_ne.2 h2, beq_eq_false_iff_ne.2 h]
theorem agents_spec {l : List D.Agent} {fuel : Nat} (hf : 18446744073709551616 ≤ fuel) (hl : l.length ≤ 1048576) (hp : ∀ a, a ∈ l → a.Data.length ≤ maxLen ∧ a.Ports.length ≤ maxLen) : m_spec_l11Agents fuel l = some (agentsN l) := by
  have hm : maxLen = 9223372036854775807 := rfl
  unfold m_spec_l11Agents agentsN
  rw [in_pure, Option.bind_some]
  by_cases h1 : 1 ≤ l.length ∧ l.length ≤ 600
  · rw [if_neg (by simp; omega), decide_eq_true h1, Bool.true_and, allLoop (xs := l) (p := fun i a => agN a && ((a.Kind == 1) == (i == 0))) (t := ()) (v := false) (by omega) hf (fun i a hi ha => by
      unfold m_spec_l11Agents_b1
      rw [if_pos (by simpa using hi), idx_at ha, Option.bind_some, ag_spec hf (hp a (List.mem_of_getElem? ha)).1 (hp a (List.mem_of_getElem? ha)).2, Option.bind_some]
      unfold m_spec_l11Agents_j2
      simp only [Option.bind_some, kind_beq]
      cases agN a <;> cases (a.Kind == 1) <;> cases (i == 0) <;> rfl) (by unfold m_spec_l11Agents_b1; simp)]
    cases (l.zipIdx.all fun x => agN x.1 && ((x.1.Kind == 1) == (x.2 == 0))) <;> rfl
  · rw [if_pos (by simp; omega), decide_eq_false h1, Bool.false_and]
theorem agents_impl {l : List D.Agent} {fuel : Nat} (hf : 18446744073709551616 ≤ fuel) (hl : l.length ≤ 1048576) (hp : ∀ a, a ∈ l → a.Data.length ≤ maxLen ∧ a.Ports.length ≤ maxLen) : m_impl_areAgents fuel l = some (agentsN l) := by
  have hm : maxLen = 9223372036854775807 := rfl
  have key : ∀ b : Bool, m_impl_areAgents_j1 fuel l b = some (!b && (l.zipIdx.all fun x => agN x.1 && ((x.1.Kind == 1) == (x.2 == 0)))) := fun b => by
    unfold m_impl_areAgents_j1
    cases b with
    | true => rfl
    | false =>
      rw [if_neg Bool.false_ne_true, allLoop (xs := l) (p := fun i a => agN a && ((a.Kind == 1) == (i == 0))) (t := ()) (v := false) (by omega) hf (fun i a hi ha => by
        unfold m_impl_areAgents_b1
        rw [if_pos (by simpa using hi), idx_at ha, Option.bind_some, ag_impl hf (hp a (List.mem_of_getElem? ha)).1 (hp a (List.mem_of_getElem? ha)).2, Option.bind_some]
        unfold m_impl_areAgents_j3
        rw [kind_beq]
        cases agN a <;> cases (a.Kind == 1) <;> cases (i == 0) <;> rfl) (by unfold m_impl_areAgents_b1; simp)]
      cases (l.zipIdx.all fun x => agN x.1 && ((x.1.Kind == 1) == (x.2 == 0))) <;> rfl
  unfold m_impl_areAgents agentsN
  by_cases h1 : 1 ≤ l.length
  · rw [if_neg (by simp; omega), key]
    by_cases h2 : l.length ≤ 600
    · rw [decide_eq_false (by omega), decide_eq_true ⟨h1, h2⟩]; rfl
    · rw [decide_eq_true (by omega), decide_eq_false (by omega)]; rfl
  · rw [if_pos (by simp; omega), key, decide_eq_false (by omega)]; rfl

/-! ### The whole net -/
theorem net_spec {n : D.Net} {fuel : Nat} (hf : 18446744073709551616 ≤ fuel) (hl : n.Agents.length ≤ 1048576) (hp : ∀ a, a ∈ n.Agents → a.Data.length ≤ maxLen ∧ a.Ports.length ≤ maxLen) : m_spec_l11Ok fuel n = some (netN n) := by
  have hm : maxLen = 9223372036854775807 := rfl
  unfold m_spec_l11Ok netN
  rw [agents_spec hf hl hp, Option.bind_some]
  cases hA : agentsN n.Agents with
  | false => rfl
  | true =>
    rw [if_neg (by simp), allLoop (xs := n.Agents) (p := fun i a => a.Ports.zipIdx.all fun y => chkN n i y.2 y.1) (t := ()) (v := false) (by omega) hf (fun i a hi ha => by
      have hpa := (hp a (List.mem_of_getElem? ha)).2
      unfold m_spec_l11Ok_b1
      rw [if_pos (by simpa using hi), idx_at ha, Option.bind_some, allLoop (xs := a.Ports) (p := fun k p => chkN n i k p) (t := ()) (v := Rd.ret false) hpa hf (fun k p hk hq => by
        unfold m_spec_l11Ok_b2
        rw [if_pos (by simpa using hk), idx_at hq, Option.bind_some, prt_eq, hasPort_spec (by omega) fun a ha => (hp a ha).2]
        unfold m_spec_l11Ok_j3 chkN
        by_cases h1 : p = prt i k
        · rw [if_pos (decide_eq_true h1), decide_eq_true h1]; rfl
        · rw [if_neg (by simpa using h1), decide_eq_false h1, Option.bind_some]
          cases h2 : hasN n.Agents p with
          | false => rfl
          | true =>
            obtain ⟨_, _, b, q, _, h3, _, h4, _⟩ := has_at h2
            rw [if_neg (by simp), h3, Option.bind_some, h4, Option.bind_some, prt_eq]
            have : portAt n p = some q := by unfold portAt; rw [h3, Option.bind_some, h4]
            rw [this]
            by_cases h5 : q = prt i k
            · simp [h5]
            · simp [h5]) (by unfold m_spec_l11Ok_b2; simp)]
      cases (a.Ports.zipIdx.all fun y => chkN n i y.2 y.1) <;> rfl) (by unfold m_spec_l11Ok_b1; simp)]
    cases (n.Agents.zipIdx.all fun x => x.1.Ports.zipIdx.all fun y => chkN n x.2 y.2 y.1) <;> rfl

/-! the list of all ports -/
def portsL (n : D.Net) : List D.Port := n.Agents.zipIdx.flatMap fun x => (List.range x.1.Ports.length).map fun k => prt x.2 k
theorem flat_len : ∀ (xs : List D.Agent) (k : Nat), ((xs.zipIdx k).flatMap fun x => (List.range x.1.Ports.length).map fun j => prt x.2 j).length = sumL (fun a => a.Ports.length) xs
  | [], k => by simp [sumL]
  | x :: xs, k => by
    rw [List.zipIdx_cons, List.flatMap_cons, List.length_append, flat_len xs (k + 1)]
    simp [sumL]
theorem portsL_len {n : D.Net} : (portsL n).length = sumL (fun a => a.Ports.length) n.Agents := flat_len _ _
theorem take_flat {n : D.Net} (i : Nat) : (((n.Agents.take i).zipIdx).flatMap fun x => (List.range x.1.Ports.length).map fun j => prt x.2 j).length ≤ sumL (fun a => a.Ports.length) n.Agents := by
  rw [flat_len]
  have := sumL_append (f := fun a : D.Agent => a.Ports.length) (xs := n.Agents.take i) (ys := n.Agents.drop i)
  rw [List.take_append_drop] at this
  omega
theorem zip_take {α : Type} {xs : List α} {i : Nat} {x : α} (h : xs[i]? = some x) : (xs.take (i + 1)).zipIdx = (xs.take i).zipIdx ++ [(x, i)] := by
  have hl := (List.getElem?_eq_some_iff.1 h).1
  rw [List.take_add_one, h, List.zipIdx_append]
  simp [Nat.min_eq_left (Nat.le_of_lt hl)]
theorem netPorts {n : D.Net} {fuel : Nat} (hf : 18446744073709551616 ≤ fuel) (hl : n.Agents.length ≤ 1048576) (hs : sumL (fun a => a.Ports.length) n.Agents ≤ 1048576) : m_impl_Net_ports fuel n = some (portsL n) := by
  have hm : maxLen = 9223372036854775807 := rfl
  unfold m_impl_Net_ports
  have h := loopR (xs := n.Agents) (body := m_impl_Net_ports_b1 fuel n) (mk := fun i s => (s, i)) (out := fun s : List D.Port => s) (ρ := List D.Port)
    (f := fun i s a => Rnd.go (s ++ (List.range a.Ports.length).map fun k => prt i k)) (J := fun i s => s = ((n.Agents.take i).zipIdx).flatMap fun x => (List.range x.1.Ports.length).map fun k => prt x.2 k) (s0 := []) (fuel := fuel) (by omega) hf (by simp)
    (fun i s a hi ha hJ => by
      have hpa : a.Ports.length ≤ 1048576 := Nat.le_trans (sumL_mem (f := fun a : D.Agent => a.Ports.length) (List.mem_of_getElem? ha)) hs
      have hJ' : s ++ ((List.range a.Ports.length).map fun k => prt i k) = ((n.Agents.take (i + 1)).zipIdx).flatMap fun x => (List.range x.1.Ports.length).map fun k => prt x.2 k := by
        rw [zip_take ha, List.flatMap_append, hJ]; simp
      refine ⟨?_, hJ'⟩
      have hlen := take_flat (n := n) (i + 1)
      rw [← hJ', List.length_append, List.length_map, List.length_range] at hlen
      unfold m_impl_Net_ports_b1
      rw [if_pos (by simpa using hi), idx_at ha, Option.bind_some]
      obtain ⟨o, h1, h2⟩ := iter_count (body := m_impl_Net_ports_b2 fuel (s, (i : Int)) a) (fun k q => q.1 = (k : Int) ∧ q.2 = s ++ (List.range k).map fun j => prt i j) a.Ports.length (fun o => o = .inl (s ++ (List.range a.Ports.length).map fun j => prt i j)) (by
        rintro k ⟨q1, q2⟩ hk ⟨g1, g2⟩
        dsimp only at g1 g2
        subst g1; subst g2
        refine .inl ⟨(w64 ((k : Int) + 1), (s ++ (List.range k).map fun j => prt i j) ++ [⟨(i : Int), (k : Int)⟩]), ?_, ?_, ?_⟩
        · unfold m_impl_Net_ports_b2
          rw [if_pos (by simpa using hk), if_pos (by simp; omega)]
        · dsimp only; rw [i64_small (by omega) (by omega)]; simp
        · dsimp only; rw [List.range_succ, List.map_append]; simp [prt]) (by
        rintro ⟨q1, q2⟩ ⟨g1, g2⟩
        dsimp only at g1 g2
        subst g1; subst g2
        refine .inr ⟨_, ?_, rfl⟩
        unfold m_impl_Net_ports_b2
        rw [if_neg (by simp)]) (fuel := fuel) (i := 0) (s := (0, s)) (Nat.zero_le _) (by omega) ⟨rfl, by simp⟩
      rw [h1, h2]
      rfl) (fun s _ => by unfold m_impl_Net_ports_b1; rw [if_neg (by simp)])
  have key : ∀ (ys : List D.Agent) (k : Nat) (s : List D.Port), foldR (ρ := List D.Port) (fun i s (a : D.Agent) => Rnd.go (s ++ (List.range a.Ports.length).map fun k => prt i k)) k ys s = Rnd.go (s ++ (ys.zipIdx k).flatMap fun x => (List.range x.1.Ports.length).map fun j => prt x.2 j) := by
    intro ys
    induction ys with
    | nil => intro k s; simp [foldR]
    | cons y ys ih => intro k s; unfold foldR; dsimp only; rw [ih, List.zipIdx_cons, List.flatMap_cons, List.append_assoc]
  rw [key] at h
  rw [show (([] : List D.Port), (0 : Int)) = (([] : List D.Port), ((0 : Nat) : Int)) from rfl] at *
  rw [h.1]
  unfold portsL
  simp [aft, m_impl_Net_ports_j1]
theorem mem_ports {n : D.Net} {p : D.Port} : p ∈ portsL n ↔ ∃ (i : Nat) (a : D.Agent) (k : Nat), n.Agents[i]? = some a ∧ k < a.Ports.length ∧ p = prt i k := by
  unfold portsL
  rw [List.mem_flatMap]
  constructor
  · rintro ⟨⟨a, i⟩, h1, h2⟩
    rw [List.mem_zipIdx_iff_getElem?] at h1
    obtain ⟨k, hk, rfl⟩ := List.mem_map.1 h2
    exact ⟨i, a, k, h1, List.mem_range.1 hk, rfl⟩
  · rintro ⟨i, a, k, h1, h2, rfl⟩
    exact ⟨(a, i), by rw [List.mem_zipIdx_iff_getElem?]; exact h1, List.mem_map.2 ⟨k, List.mem_range.2 h2, rfl⟩⟩
theorem port_at {n : D.Net} {i k : Nat} {a : D.Agent} {q : D.Port} (ha : n.Agents[i]? = some a) (hq : a.Ports[k]? = some q) : portAt n (prt i k) = some q := by
  unfold portAt prt
  rw [idx_at ha, Option.bind_some, idx_at hq]
theorem contains_Port {fuel : Nat} {p : D.Port → Bool} {f : D.Port → Option Bool} {xs : List D.Port} (hf : 18446744073709551616 ≤ fuel) (hl : xs.length ≤ maxLen) (h : ∀ n, n ∈ xs → f n = some (p n)) :
    m_slices_ContainsFunc_impl_Port_impl_Port fuel xs f = some (xs.any p) := by
  unfold m_slices_ContainsFunc_impl_Port_impl_Port m_slices_IndexFunc_impl_Port_impl_Port
  obtain ⟨r, h1, h2⟩ := askIndex (xs := xs) (p := p) (body := m_slices_IndexFunc_impl_Port_impl_Port_b1 fuel xs f) (j := m_slices_IndexFunc_impl_Port_impl_Port_j1 fuel) (t := ()) hl hf rfl (fun i x hi hx => by
    simp only [m_slices_IndexFunc_impl_Port_impl_Port_b1, idx_at hx, h x (List.mem_of_getElem? hx), lt_t (show (i : Int) < xs.length by omega), if_true, Option.bind_some]) (by simp [m_slices_IndexFunc_impl_Port_impl_Port_b1])
  rw [h1, Option.bind_some, h2]
theorem net_impl {n : D.Net} {fuel : Nat} (hf : 18446744073709551616 ≤ fuel) (hl : n.Agents.length ≤ 1048576) (hs : sumL (fun a => a.Ports.length) n.Agents ≤ 1048576) (hp : ∀ a, a ∈ n.Agents → a.Data.length ≤ maxLen ∧ a.Ports.length ≤ maxLen) : m_impl_ValidNet fuel n = some (netN n) := by
  have hm : maxLen = 9223372036854775807 := rfl
  unfold m_impl_ValidNet netN
  rw [agents_impl hf hl hp, Option.bind_some]
  cases hA : agentsN n.Agents with
  | false => rfl
  | true =>
    let bad : D.Port → Bool := fun p => match portAt n p with
      | some q => decide (q = p) || !(hasN n.Agents q && decide (portAt n q = some p))
      | none => true
    rw [if_neg (by simp), netPorts hf hl hs, Option.bind_some, contains_Port (p := bad) hf (by rw [portsL_len]; omega) (fun p hpm => by
      obtain ⟨i, a, k, ha, hk, rfl⟩ := mem_ports.1 hpm
      obtain ⟨q, hq⟩ := at_lt hk
      have hpa := port_at ha hq
      unfold m_impl_ValidNet_c1
      show _ = some (match portAt n (prt i k) with | some q => _ | none => _)
      rw [peer_impl, hpa, Option.bind_some, port_eq]
      dsimp only
      by_cases h1 : q = prt i k
      · rw [if_pos (decide_eq_true h1), decide_eq_true h1]; rfl
      · rw [if_neg (by simpa using h1), decide_eq_false h1, hasPort_impl, Option.bind_some]
        cases h2 : hasN n.Agents q with
        | false => rfl
        | true =>
          obtain ⟨_, _, b, r, _, h3, _, h4, _⟩ := has_at h2
          have hr : portAt n q = some r := by unfold portAt; rw [h3, Option.bind_some, h4]
          rw [if_neg (by simp), peer_impl, hr, Option.bind_some, port_eq]
          by_cases h5 : r = prt i k <;> simp [h5]), Option.bind_some]
    congr 1
    rw [Bool.true_and, Bool.eq_iff_iff, Bool.not_eq_true', List.any_eq_false, zip_all (xs := n.Agents) (p := fun i a => a.Ports.zipIdx.all fun y => chkN n i y.2 y.1)]
    constructor
    · intro h i a ha
      simp only [Nat.zero_add]
      rw [zip_all (p := fun k p => chkN n i k p)]
      intro k q hq
      simp only [Nat.zero_add]
      have hk := (List.getElem?_eq_some_iff.1 hq).1
      have := h (prt i k) (mem_ports.2 ⟨i, a, k, ha, hk, rfl⟩)
      simp only [bad, port_at ha hq, Bool.or_eq_true, Bool.not_eq_true', not_or, decide_eq_true_eq, Bool.not_eq_false] at this
      unfold chkN
      rw [decide_eq_false this.1, this.2]; rfl
    · intro h p hpm
      obtain ⟨i, a, k, ha, hk, rfl⟩ := mem_ports.1 hpm
      obtain ⟨q, hq⟩ := at_lt hk
      have h1 := h i a ha
      simp only [Nat.zero_add] at h1
      rw [zip_all (p := fun k p => chkN n i k p)] at h1
      have h2 := h1 k q hq
      simp only [Nat.zero_add] at h2
      unfold chkN at h2
      rw [Bool.and_eq_true] at h2
      simp only [bad, port_at ha hq, h2.2, Bool.not_true, Bool.or_false, Bool.not_eq_true]
      simpa using h2.1
end Go.E
