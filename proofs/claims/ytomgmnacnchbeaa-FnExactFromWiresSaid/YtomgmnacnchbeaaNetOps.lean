/- Nets: copies, wires laid; what they do to the ports and to the shape. Conditions: each lemma names its own. -/
import Derived.Test.YtomgmnacnchbeaaOkNet
namespace Go.E
open Go.RowKit Go.Proofs
set_option linter.unusedSimpArgs false
set_option linter.unusedVariables false

/-- what a wire does not touch -/
def shp (a : D.Agent) : Int × Int × Int × List Int × Nat := (a.Kind, a.Level, a.Value, a.Data, a.Ports.length)
def setPort (n : D.Net) (p q : D.Port) : Option D.Net := (idx n.Agents p.Agent).bind fun x => if decide (0 ≤ p.Slot ∧ p.Slot.toNat < x.Ports.length) = true then some ⟨n.Agents.set p.Agent.toNat ⟨x.Kind, x.Level, x.Value, x.Data, x.Ports.set p.Slot.toNat q⟩⟩ else none
def linkN (n : D.Net) (p q : D.Port) : Option D.Net := (setPort n p q).bind fun m => setPort m q p

theorem shp_at {l l' : List D.Agent} (h : l'.map shp = l.map shp) {i : Nat} {a : D.Agent} (ha : l[i]? = some a) : ∃ b, l'[i]? = some b ∧ shp b = shp a := by
  have := congrArg (fun x => x[i]?) h
  simp only [List.getElem?_map, ha, Option.map_some] at this
  cases hb : l'[i]? with
  | none => rw [hb] at this; cases this
  | some b => rw [hb] at this; exact ⟨b, rfl, by simpa using this⟩
theorem shp_has {l l' : List D.Agent} (h : l'.map shp = l.map shp) (p : D.Port) : hasN l' p = hasN l p := by
  have key : ∀ {l l' : List D.Agent}, l'.map shp = l.map shp → hasN l p = true → hasN l' p = true := fun {l l'} h hh => by
    obtain ⟨h1, h2, a, h3, h4⟩ := has_iff.1 hh
    obtain ⟨b, h5, h6⟩ := shp_at h h3
    refine has_iff.2 ⟨h1, h2, b, h5, ?_⟩
    have : b.Ports.length = a.Ports.length := congrArg (fun x => x.2.2.2.2) h6
    omega
  rw [Bool.eq_iff_iff]
  exact ⟨key h.symm, key h⟩
theorem sumL_map {α β : Type} {f : β → Nat} {g : α → β} : ∀ {xs : List α}, sumL f (xs.map g) = sumL (fun x => f (g x)) xs
  | [] => rfl
  | x :: xs => by simp only [List.map_cons, sumL, sumL_map (xs := xs)]
theorem shp_sum {l l' : List D.Agent} (h : l'.map shp = l.map shp) (f : Int × Int × Int × List Int × Nat → Nat) : sumL (fun a => f (shp a)) l' = sumL (fun a => f (shp a)) l := by
  have := congrArg (sumL f) h
  rwa [sumL_map, sumL_map] at this
theorem setPort_ok {n : D.Net} {p q : D.Port} (hp : hasN n.Agents p = true) : ∃ m, setPort n p q = some m ∧ m.Agents.map shp = n.Agents.map shp ∧ ∀ r, portAt m r = if r = p then some q else portAt n r := by
  obtain ⟨h1, h2, a, o, h3, h4, h5, h6, h7, h8⟩ := has_at hp
  refine ⟨_, by unfold setPort; rw [h4, Option.bind_some, if_pos (decide_eq_true ⟨h2, by omega⟩)], ?_, fun r => ?_⟩
  · dsimp only
    rw [List.map_set]
    apply List.ext_getElem?
    intro j
    rw [List.getElem?_set]
    split
    · rename_i hj
      subst hj
      have : p.Agent.toNat < n.Agents.length := (List.getElem?_eq_some_iff.1 h3).1
      rw [if_pos (by simpa using this), List.getElem?_map, h3]
      simp [shp]
    · rfl
  · unfold portAt
    dsimp only
    have hl : p.Agent.toNat < n.Agents.length := (List.getElem?_eq_some_iff.1 h3).1
    by_cases ha : r.Agent = p.Agent
    · have hi : idx (n.Agents.set p.Agent.toNat ⟨a.Kind, a.Level, a.Value, a.Data, a.Ports.set p.Slot.toNat q⟩) r.Agent = some ⟨a.Kind, a.Level, a.Value, a.Data, a.Ports.set p.Slot.toNat q⟩ := by
        rw [ha, idx_ge h1, List.getElem?_set_self hl]
      rw [hi, Option.bind_some]
      by_cases hs : r.Slot = p.Slot
      · rw [if_pos (by obtain ⟨x, y⟩ := r; obtain ⟨z, w⟩ := p; simp_all), hs, idx_ge h2]
        show (a.Ports.set p.Slot.toNat q)[p.Slot.toNat]? = _
        rw [List.getElem?_set_self (by omega)]
      · rw [if_neg (by rintro rfl; exact hs rfl), ha, h4, Option.bind_some]
        show idx (a.Ports.set p.Slot.toNat q) r.Slot = _
        unfold idx
        by_cases h0 : 0 ≤ r.Slot
        · rw [if_pos h0, if_pos h0, List.getElem?_set_ne (by omega)]
        · rw [if_neg h0, if_neg h0]
    · rw [if_neg (by rintro rfl; exact ha rfl)]
      have hi : idx (n.Agents.set p.Agent.toNat ⟨a.Kind, a.Level, a.Value, a.Data, a.Ports.set p.Slot.toNat q⟩) r.Agent = idx n.Agents r.Agent := by
        unfold idx
        by_cases h0 : 0 ≤ r.Agent
        · rw [if_pos h0, if_pos h0, List.getElem?_set_ne (by omega)]
        · rw [if_neg h0, if_neg h0]
      rw [hi]
theorem linkN_ok {n : D.Net} {p q : D.Port} (hp : hasN n.Agents p = true) (hq : hasN n.Agents q = true) : ∃ m, linkN n p q = some m ∧ m.Agents.map shp = n.Agents.map shp ∧ ∀ r, portAt m r = if r = q then some p else if r = p then some q else portAt n r := by
  obtain ⟨m1, a1, a2, a3⟩ := setPort_ok (q := q) hp
  obtain ⟨m2, b1, b2, b3⟩ := setPort_ok (n := m1) (p := q) (q := p) (by rw [shp_has a2]; exact hq)
  exact ⟨m2, by unfold linkN; rw [a1, Option.bind_some, b1], b2.trans a2, fun r => by rw [b3, a3]⟩
theorem has_port {n : D.Net} {p : D.Port} (h : hasN n.Agents p = true) : ∃ q, portAt n p = some q := by
  obtain ⟨_, _, a, q, _, h4, _, h6, _⟩ := has_at h
  exact ⟨q, by unfold portAt; rw [h4, Option.bind_some, h6]⟩
/-- the peers of a valid net -/
theorem net_peer {n : D.Net} (hn : netN n = true) {p q : D.Port} (hp : hasN n.Agents p = true) (hq : portAt n p = some q) : q ≠ p ∧ hasN n.Agents q = true ∧ portAt n q = some p := by
  unfold netN at hn
  rw [Bool.and_eq_true] at hn
  obtain ⟨h1, h2, a, o, h3, h4, h5, h6, h7, h8⟩ := has_at hp
  have hqo : q = o := by
    unfold portAt at hq
    rw [h4, Option.bind_some, h6] at hq
    exact (Option.some.inj hq).symm
  subst hqo
  have h9 := (zip_all (xs := n.Agents) (p := fun i a => a.Ports.zipIdx.all fun y => chkN n i y.2 y.1)).1 hn.2 _ _ h3
  simp only [Nat.zero_add] at h9
  have h11 := (zip_all (xs := a.Ports) (p := fun k q => chkN n p.Agent.toNat k q)).1 h9 _ _ h5
  simp only [Nat.zero_add] at h11
  have hpe : prt p.Agent.toNat p.Slot.toNat = p := by
    obtain ⟨x, y⟩ := p
    unfold prt
    dsimp only at h1 h2 ⊢
    congr 1 <;> omega
  unfold chkN at h11
  rw [hpe] at h11
  simp only [Bool.and_eq_true, Bool.not_eq_true', decide_eq_false_iff_not, decide_eq_true_eq] at h11
  exact ⟨h11.1, h11.2.1, h11.2.2⟩
/-- a loop that appends to a list what a function gives of each element -/
theorem mapLoop {α β ρ : Type} {xs : List α} {body : Int × List β → Option (Rd (Int × List β) (List β) ρ)} {g : α → β} {fuel : Nat} (hl : xs.length ≤ 1048576) (hf : 18446744073709551616 ≤ fuel)
    (step : ∀ (i : Nat) x (s : List β), xs[i]? = some x → s.length = i → body ((i : Int), s) = some (.next (w64 (i + 1), s ++ [g x]))) (last : ∀ s, body ((xs.length : Int), s) = some (.brk s)) :
    iter body fuel (0, []) = some (.inl (xs.map g)) := by
  have hm : maxLen = 9223372036854775807 := rfl
  obtain ⟨o, h1, h2⟩ := iter_count (body := body) (fun i s => s.1 = (i : Int) ∧ s.2 = (xs.take i).map g) xs.length (fun o => o = .inl (xs.map g)) (by
    rintro i ⟨a, s⟩ hi ⟨g1, g2⟩
    dsimp only at g1 g2
    subst g1; subst g2
    obtain ⟨x, hx⟩ := at_lt hi
    refine .inl ⟨_, step i x _ hx (by simp; omega), ?_, ?_⟩
    · dsimp only; rw [i64_small (by omega) (by omega)]; simp
    · dsimp only; rw [List.take_add_one, hx]; simp) (by
    rintro ⟨a, s⟩ ⟨g1, g2⟩
    dsimp only at g1 g2
    subst g1; subst g2
    exact .inr ⟨_, last _, by rw [List.take_length]⟩) (fuel := fuel) (i := 0) (s := (0, [])) (Nat.zero_le _) (by omega) ⟨rfl, by simp⟩
  rw [h1, h2]
end Go.E
