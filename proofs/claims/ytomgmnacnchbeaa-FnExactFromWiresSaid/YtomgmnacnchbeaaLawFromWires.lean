/- FromWires: the plain law. Conditions: none but the arguments' own size. -/
import Derived.Test.YtomgmnacnchbeaaMarksW
import Derived.Test.YtomgmnacnchbeaaNetCopy
namespace Go.E
open Go.RowKit Go.Proofs
set_option linter.unusedSimpArgs false
set_option linter.unusedVariables false

/-- two loops side by side -/
theorem iter2 {S1 τ1 ρ1 S2 τ2 ρ2 : Type} {b1 : S1 → Option (Rd S1 τ1 ρ1)} {b2 : S2 → Option (Rd S2 τ2 ρ2)} (J : Nat → S1 → S2 → Prop) (n : Nat) (Q : τ1 ⊕ ρ1 → τ2 ⊕ ρ2 → Prop)
    (step : ∀ i s1 s2, i < n → J i s1 s2 → (∃ s1' s2', b1 s1 = some (.next s1') ∧ b2 s2 = some (.next s2') ∧ J (i + 1) s1' s2') ∨ ∃ r1 r2, b1 s1 = some (.ret r1) ∧ b2 s2 = some (.ret r2) ∧ Q (.inr r1) (.inr r2))
    (last : ∀ s1 s2, J n s1 s2 → ∃ t1 t2, b1 s1 = some (.brk t1) ∧ b2 s2 = some (.brk t2) ∧ Q (.inl t1) (.inl t2)) :
    ∀ {fuel i s1 s2}, i ≤ n → n - i < fuel → J i s1 s2 → ∃ o1 o2, iter b1 fuel s1 = some o1 ∧ iter b2 fuel s2 = some o2 ∧ Q o1 o2
  | 0, i, _, _, hi, hf, _ => by omega
  | fuel + 1, i, s1, s2, hi, hf, hJ => by
    rcases Nat.lt_or_ge i n with h | h
    · rcases step i s1 s2 h hJ with ⟨t1, t2, e1, e2, h2⟩ | ⟨r1, r2, e1, e2, h2⟩
      · obtain ⟨o1, o2, h3, h4, h5⟩ := iter2 J n Q step last (fuel := fuel) (i := i + 1) h (by omega) h2
        exact ⟨o1, o2, by simp only [iter, e1]; exact h3, by simp only [iter, e2]; exact h4, h5⟩
      · exact ⟨_, _, by simp only [iter, e1], by simp only [iter, e2], h2⟩
    · obtain rfl : i = n := by omega
      obtain ⟨t1, t2, e1, e2, h2⟩ := last s1 s2 hJ
      exact ⟨_, _, by simp only [iter, e1], by simp only [iter, e2], h2⟩
theorem contains_Wire {fuel : Nat} {p : D.Wire → Bool} {f : D.Wire → Option Bool} {xs : List D.Wire} (hf : 18446744073709551616 ≤ fuel) (hl : xs.length ≤ maxLen) (h : ∀ n, n ∈ xs → f n = some (p n)) :
    m_slices_ContainsFunc_impl_Wire_impl_Wire fuel xs f = some (xs.any p) := by
  unfold m_slices_ContainsFunc_impl_Wire_impl_Wire m_slices_IndexFunc_impl_Wire_impl_Wire
  obtain ⟨r, h1, h2⟩ := askIndex (xs := xs) (p := p) (body := m_slices_IndexFunc_impl_Wire_impl_Wire_b1 fuel xs f) (j := m_slices_IndexFunc_impl_Wire_impl_Wire_j1 fuel) (t := ()) hl hf rfl (fun i x hi hx => by
    simp only [m_slices_IndexFunc_impl_Wire_impl_Wire_b1, idx_at hx, h x (List.mem_of_getElem? hx), lt_t (show (i : Int) < xs.length by omega), if_true, Option.bind_some]) (by simp [m_slices_IndexFunc_impl_Wire_impl_Wire_b1])
  rw [h1, Option.bind_some, h2]

/-! ### Ports -/
theorem ports_has {n : D.Net} {p : D.Port} : p ∈ portsL n ↔ hasN n.Agents p = true := by
  rw [mem_ports]
  constructor
  · rintro ⟨i, a, k, h1, h2, rfl⟩
    exact has_iff.2 ⟨by simp [prt], by simp [prt], a, by simpa [prt] using h1, by simp [prt]; omega⟩
  · intro h
    obtain ⟨h1, h2, a, h3, h4⟩ := has_iff.1 h
    refine ⟨p.Agent.toNat, a, p.Slot.toNat, h3, by omega, ?_⟩
    obtain ⟨u, v⟩ := p
    unfold prt
    dsimp only at *
    rw [Int.toNat_of_nonneg h1, Int.toNat_of_nonneg h2]
theorem ports_nodup {n : D.Net} : (portsL n).Nodup := by
  unfold portsL List.Nodup
  rw [List.pairwise_flatMap]
  constructor
  · rintro ⟨a, i⟩ _
    rw [List.pairwise_map]
    refine List.Pairwise.imp ?_ (List.nodup_range (n := a.Ports.length))
    intro x y hxy he
    simp only [prt, D.Port.mk.injEq] at he
    omega
  · rw [List.pairwise_iff_getElem]
    intro i j hi hj hij p hp q hq he
    subst he
    simp only [List.getElem_zipIdx, List.mem_map, prt] at hp hq
    obtain ⟨_, _, rfl⟩ := hp
    obtain ⟨_, _, h⟩ := hq
    simp only [D.Port.mk.injEq] at h
    omega
theorem pig {α : Type} [DecidableEq α] : ∀ {xs ys : List α}, xs.Nodup → (∀ x, x ∈ xs → x ∈ ys) → xs.length ≤ ys.length ∧ ∀ y, y ∈ ys → y ∉ xs → xs.length < ys.length
  | [], ys, _, _ => ⟨Nat.zero_le _, fun y hy _ => List.length_pos_of_mem hy⟩
  | x :: xs, ys, hn, hs => by
    obtain ⟨h1, h2⟩ := List.nodup_cons.1 hn
    have hx := hs x (by simp)
    have hl : (ys.erase x).length = ys.length - 1 := List.length_erase_of_mem hx
    have h0 : 0 < ys.length := List.length_pos_of_mem hx
    obtain ⟨h3, h4⟩ := pig (xs := xs) (ys := ys.erase x) h2 (fun z hz => (List.mem_erase_of_ne (fun e => h1 (by rw [← e]; exact hz))).2 (hs z (List.mem_cons_of_mem _ hz)))
    refine ⟨by simp only [List.length_cons]; omega, fun y hy hm => ?_⟩
    have h5 : y ≠ x := fun e => hm (by simp [e])
    have := h4 y ((List.mem_erase_of_ne h5).2 hy) (fun h => hm (List.mem_cons_of_mem _ h))
    simp only [List.length_cons]; omega
theorem mget_mem {κ α : Type} [DecidableEq κ] {k : κ} {x : α} : ∀ {m : List (κ × α)}, mget m k = some x → k ∈ m.map (·.1)
  | [], h => by cases h
  | p :: m, h => by
    unfold mget at h
    split at h
    · rename_i he; simp [he]
    · exact List.mem_cons_of_mem _ (mget_mem h)
theorem mem_mget {κ α : Type} [DecidableEq κ] {k : κ} : ∀ {m : List (κ × α)}, k ∈ m.map (·.1) → ∃ x, mget m k = some x
  | [], h => by cases h
  | p :: m, h => by
    unfold mget
    by_cases he : p.1 = k
    · exact ⟨_, by rw [if_pos he]⟩
    · rw [if_neg he]
      rw [List.map_cons, List.mem_cons] at h
      exact mem_mget (h.resolve_left fun e => he e.symm)
theorem agN_shp {a b : D.Agent} (h : shp b = shp a) : agN b = agN a := by
  simp only [shp, Prod.mk.injEq] at h
  unfold agN
  rw [h.1, h.2.1, h.2.2.1, h.2.2.2.1, h.2.2.2.2]
theorem agentsN_shp {l l' : List D.Agent} (h : l'.map shp = l.map shp) (hA : agentsN l = true) : agentsN l' = true := by
  have hl : l'.length = l.length := by simpa using congrArg List.length h
  unfold agentsN at *
  rw [Bool.and_eq_true] at *
  refine ⟨by rw [hl]; exact hA.1, ?_⟩
  have h2 := (zip_all (p := fun i a => agN a && ((a.Kind == 1) == (i == 0)))).1 hA.2
  refine (zip_all (p := fun i a => agN a && ((a.Kind == 1) == (i == 0)))).2 fun i b hb => ?_
  obtain ⟨a, ha, hs⟩ := shp_at h.symm hb
  have := h2 i a ha
  rw [agN_shp hs] at this
  have hk : a.Kind = b.Kind := congrArg (fun x => x.1) hs
  rw [hk] at this
  exact this
theorem net_ext {l l' : List D.Agent} (h : l'.map shp = l.map shp) (hp : ∀ r, hasN l r = true → portAt ⟨l'⟩ r = portAt ⟨l⟩ r) : l' = l := by
  refine List.ext_getElem? fun i => ?_
  cases ha : l[i]? with
  | none =>
    have hl : l'.length = l.length := by simpa using congrArg List.length h
    rw [List.getElem?_eq_none_iff] at ha ⊢
    omega
  | some a =>
    obtain ⟨b, hb, hs⟩ := shp_at h ha
    rw [hb]
    simp only [shp, Prod.mk.injEq] at hs
    obtain ⟨h1, h2, h3, h4, h5⟩ := hs
    have hps : b.Ports = a.Ports := by
      refine List.ext_getElem? fun k => ?_
      cases hk : a.Ports[k]? with
      | none =>
        rw [List.getElem?_eq_none_iff] at hk ⊢
        omega
      | some q =>
        have hkl := (List.getElem?_eq_some_iff.1 hk).1
        have := hp (prt i k) (has_iff.2 ⟨by simp [prt], by simp [prt], a, by simpa [prt] using ha, by simp [prt]; omega⟩)
        rw [port_at (n := ⟨l⟩) ha hk] at this
        obtain ⟨q', hq'⟩ := at_lt (xs := b.Ports) (i := k) (by omega)
        rw [port_at (n := ⟨l'⟩) hb hq'] at this
        rw [hq', this]
    obtain ⟨a1, a2, a3, a4, a5⟩ := a
    obtain ⟨b1, b2, b3, b4, b5⟩ := b
    dsimp only at *
    subst h1 h2 h3 h4 hps
    rfl

/-! ### The spec's cleared net -/
theorem clear_row {fuel : Nat} {x : D.Net} {i : Nat} {a : D.Agent} {z l0 : List D.Agent} (hf : 18446744073709551616 ≤ fuel) (ha : x.Agents[i]? = some a) (hpa : a.Ports.length ≤ 1048576) (h0 : l0.map shp = x.Agents.map shp)
    (hb : ∀ r, hasN x.Agents r = true → r.Agent < i → portAt ⟨l0⟩ r = some ⟨-1, 0⟩) :
    ∃ l, iter (m_spec_FromWires_b4 fuel ((i : Int), z)) fuel (0, l0) = some (.inl l) ∧ l.map shp = x.Agents.map shp ∧ ∀ r, hasN x.Agents r = true → r.Agent < (i : Int) + 1 → portAt ⟨l⟩ r = some ⟨-1, 0⟩ := by
  obtain ⟨o, h1, l, rfl, h2, h3⟩ := iter_count (body := m_spec_FromWires_b4 fuel ((i : Int), z)) (fun k s => ∃ l : List D.Agent, s = ((k : Int), l) ∧ l.map shp = x.Agents.map shp ∧ ∀ r, hasN x.Agents r = true → (r.Agent < (i : Int) ∨ (r.Agent = (i : Int) ∧ r.Slot < (k : Int))) → portAt ⟨l⟩ r = some ⟨-1, 0⟩) a.Ports.length (fun o => ∃ l, o = .inl l ∧ l.map shp = x.Agents.map shp ∧ ∀ r, hasN x.Agents r = true → r.Agent < (i : Int) + 1 → portAt ⟨l⟩ r = some ⟨-1, 0⟩) (by
    rintro k s hk ⟨l, rfl, h1, h2⟩
    obtain ⟨b, hb, hs⟩ := shp_at h1 ha
    have hbl : b.Ports.length = a.Ports.length := congrArg (fun x => x.2.2.2.2) hs
    have hp : hasN l (prt i k) = true := has_iff.2 ⟨by simp [prt], by simp [prt], b, by simpa [prt] using hb, by simp [prt]; omega⟩
    obtain ⟨m, e1, e2, e3⟩ := setPort_ok (n := ⟨l⟩) (q := ⟨-1, 0⟩) hp
    refine .inl ⟨(w64 (k + 1), m.Agents), ?_, ?_⟩
    · unfold m_spec_FromWires_b4
      unfold setPort at e1
      rw [show prt i k = (⟨(i : Int), (k : Int)⟩ : D.Port) from rfl] at e1
      dsimp only at e1
      rw [idx_at hb, Option.bind_some] at e1
      dsimp only
      rw [idx_at hb, Option.bind_some, if_pos (by simp; omega), Option.bind_some]
      have hc : decide (0 ≤ (k : Int) ∧ (k : Int).toNat < b.Ports.length) = true := decide_eq_true ⟨by omega, by simp; omega⟩
      rw [if_pos hc] at e1 ⊢
      cases e1
      rfl
    · refine ⟨m.Agents, by rw [i64_small (by omega) (by omega)]; simp, e2.trans h1, fun r hr hc => ?_⟩
      rw [show (⟨m.Agents⟩ : D.Net) = m from rfl, e3]
      by_cases he : r = prt i k
      · rw [if_pos he]
      · rw [if_neg he]
        refine h2 r hr ?_
        rcases hc with hc | ⟨hc1, hc2⟩
        · exact .inl hc
        · refine .inr ⟨hc1, ?_⟩
          have : r.Slot ≠ (k : Int) := fun h => he (by
            obtain ⟨u, v⟩ := r
            dsimp only at hc1 h
            unfold prt
            rw [hc1, h])
          omega) (by
    rintro s ⟨l, rfl, h1, h2⟩
    obtain ⟨b, hb, hs⟩ := shp_at h1 ha
    have hbl : b.Ports.length = a.Ports.length := congrArg (fun x => x.2.2.2.2) hs
    refine .inr ⟨l, ?_, l, rfl, h1, fun r hr hc => h2 r hr ?_⟩
    · unfold m_spec_FromWires_b4
      dsimp only
      rw [idx_at hb, Option.bind_some, if_neg (by simp; omega)]
    · by_cases hi : r.Agent < (i : Int)
      · exact .inl hi
      · have hi2 : r.Agent = (i : Int) := by omega
        refine .inr ⟨hi2, ?_⟩
        obtain ⟨_, _, a', h5, h6⟩ := has_iff.1 hr
        rw [hi2] at h5
        simp only [Int.toNat_natCast] at h5
        rw [ha] at h5
        cases h5
        exact h6) (fuel := fuel) (i := 0) (s := (0, l0)) (Nat.zero_le _) (by omega) ⟨l0, rfl, h0, fun r hr hc => hb r hr (by
      have := (has_iff.1 hr).2.1
      omega)⟩
  exact ⟨l, h1, h2, h3⟩
theorem clear_spec {fuel : Nat} {x : D.Net} (hf : 18446744073709551616 ≤ fuel) (hs : x.sz ≤ 1048576) :
    ∃ l, iter (m_spec_FromWires_b2 fuel x) fuel (0, x.Agents) = some (.inl l) ∧ l.map shp = x.Agents.map shp ∧ ∀ r, hasN x.Agents r = true → portAt ⟨l⟩ r = some ⟨-1, 0⟩ := by
  have hl := (net_sz hs).1
  obtain ⟨o, h1, l, rfl, h2, h3⟩ := iter_count (body := m_spec_FromWires_b2 fuel x) (fun i s => ∃ l : List D.Agent, s = ((i : Int), l) ∧ l.map shp = x.Agents.map shp ∧ ∀ r, hasN x.Agents r = true → r.Agent < (i : Int) → portAt ⟨l⟩ r = some ⟨-1, 0⟩) x.Agents.length (fun o => ∃ l, o = .inl l ∧ l.map shp = x.Agents.map shp ∧ ∀ r, hasN x.Agents r = true → portAt ⟨l⟩ r = some ⟨-1, 0⟩) (by
    rintro i s hi ⟨l, rfl, h1, h2⟩
    obtain ⟨a, ha⟩ := at_lt hi
    obtain ⟨l', e1, e2, e3⟩ := clear_row (z := l) hf ha (agent_sz hs (List.mem_of_getElem? ha)).2 h1 h2
    refine .inl ⟨(w64 (i + 1), l'), ?_, l', by rw [i64_small (by omega) (by omega)]; simp, e2, fun r hr hc => e3 r hr (by simpa using hc)⟩
    unfold m_spec_FromWires_b2
    dsimp only
    rw [if_pos (by simpa using hi), e1]
    rfl) (by
    rintro s ⟨l, rfl, h1, h2⟩
    refine .inr ⟨l, by unfold m_spec_FromWires_b2; rw [if_neg (by simp)], l, rfl, h1, fun r hr => h2 r hr ?_⟩
    obtain ⟨h3, _, a, h4, _⟩ := has_iff.1 hr
    have := (List.getElem?_eq_some_iff.1 h4).1
    omega) (fuel := fuel) (i := 0) (s := (0, x.Agents)) (Nat.zero_le _) (by omega) ⟨_, rfl, rfl, fun r hr hc => by
      have := (has_iff.1 hr).1
      omega⟩
  exact ⟨l, h1, h2, h3⟩

/-! ### The wires -/
structure Wired (x S : List D.Agent) (M : List (D.Port × Bool)) (I : List D.Agent) : Prop where
  s1 : S.map shp = x.map shp
  s2 : I.map shp = x.map shp
  nod : (M.map (·.1)).Nodup
  has : ∀ p, p ∈ M.map (·.1) → hasN x p = true
  off : ∀ r, hasN x r = true → mget M r = none → portAt ⟨S⟩ r = some ⟨-1, 0⟩
  on : ∀ r v, mget M r = some v → v = true ∧ ∃ q, portAt ⟨S⟩ r = some q ∧ portAt ⟨I⟩ r = some q ∧ hasN x q = true ∧ q ≠ r ∧ portAt ⟨S⟩ q = some r ∧ mget M q = some true
theorem Wired.stat {x S I : List D.Agent} {M : List (D.Port × Bool)} (h : Wired x S M I) {r : D.Port} (hr : hasN x r = true) : ∃ v, portAt ⟨S⟩ r = some v ∧ (!(((v.Agent : Int) == (-1)) && (((v.Slot : Int) == 0) && true))) = (mget M r).getD false := by
  have e : ∀ v : D.Port, (((v.Agent : Int) == (-1)) && (((v.Slot : Int) == 0) && true)) = decide (v = ⟨-1, 0⟩) := fun v => port_eq (q := ⟨-1, 0⟩)
  cases hm : mget M r with
  | none => exact ⟨_, h.off r hr hm, rfl⟩
  | some b =>
    obtain ⟨rfl, q, h1, _, h2, _⟩ := h.on r b hm
    refine ⟨q, h1, ?_⟩
    rw [e, decide_eq_false (fun hq => by
      have := (has_iff.1 h2).1
      rw [hq] at this
      exact absurd this (by decide))]
    rfl
theorem Wired.step {x S I S' I' : List D.Agent} {M : List (D.Port × Bool)} (h : Wired x S M I) {p q : D.Port} (hp : hasN x p = true) (hq : hasN x q = true) (hne : p ≠ q) (mp : mget M p = none) (mq : mget M q = none)
    (a1 : S'.map shp = S.map shp) (a2 : ∀ r, portAt ⟨S'⟩ r = if r = q then some p else if r = p then some q else portAt ⟨S⟩ r) (b1 : I'.map shp = I.map shp) (b2 : ∀ r, portAt ⟨I'⟩ r = if r = q then some p else if r = p then some q else portAt ⟨I⟩ r) :
    Wired x S' (mput (mput M p true) q true) I' where
  s1 := a1.trans h.s1
  s2 := b1.trans h.s2
  nod := keys_mput (keys_mput h.nod)
  has := fun r hr => by
    obtain ⟨v, hv⟩ := mem_mget hr
    rw [mget_mput, mget_mput] at hv
    by_cases h1 : q = r
    · rw [← h1]; exact hq
    · by_cases h2 : p = r
      · rw [← h2]; exact hp
      · rw [if_neg h1, if_neg h2] at hv
        exact h.has r (mget_mem hv)
  off := fun r hr hv => by
    rw [mget_mput, mget_mput] at hv
    by_cases h1 : q = r
    · rw [if_pos h1] at hv; cases hv
    · by_cases h2 : p = r
      · rw [if_neg h1, if_pos h2] at hv; cases hv
      · rw [if_neg h1, if_neg h2] at hv
        rw [a2, if_neg (fun e => h1 e.symm), if_neg (fun e => h2 e.symm)]
        exact h.off r hr hv
  on := fun r v hv => by
    rw [mget_mput, mget_mput] at hv
    by_cases h1 : q = r
    · subst h1
      rw [if_pos rfl] at hv
      cases hv
      refine ⟨rfl, p, ?_, ?_, hp, hne, ?_, ?_⟩
      · rw [a2, if_pos rfl]
      · rw [b2, if_pos rfl]
      · rw [a2, if_neg hne, if_pos rfl]
      · rw [mget_mput, mget_mput, if_neg (fun e => hne e.symm), if_pos rfl]
    · by_cases h2 : p = r
      · subst h2
        rw [if_neg h1, if_pos rfl] at hv
        cases hv
        refine ⟨rfl, q, ?_, ?_, hq, fun e => hne e.symm, ?_, ?_⟩
        · rw [a2, if_neg hne, if_pos rfl]
        · rw [b2, if_neg hne, if_pos rfl]
        · rw [a2, if_pos rfl]
        · rw [mget_mput, if_pos rfl]
      · rw [if_neg h1, if_neg h2] at hv
        obtain ⟨rfl, t, c1, c2, c3, c4, c5, c6⟩ := h.on r v hv
        have n1 : t ≠ q := fun e => by rw [e, mq] at c6; cases c6
        have n2 : t ≠ p := fun e => by rw [e, mp] at c6; cases c6
        refine ⟨rfl, t, ?_, ?_, c3, c4, ?_, ?_⟩
        · rw [a2, if_neg (fun e => h1 e.symm), if_neg (fun e => h2 e.symm)]; exact c1
        · rw [b2, if_neg (fun e => h1 e.symm), if_neg (fun e => h2 e.symm)]; exact c2
        · rw [a2, if_neg n1, if_neg n2]; exact c5
        · rw [mget_mput, mget_mput, if_neg (fun e => n1 e.symm), if_neg (fun e => n2 e.symm)]; exact c6
theorem Wired.all {x S I : List D.Agent} {M : List (D.Port × Bool)} (h : Wired x S M I) (hA : agentsN x = true) (ha : ∀ r, hasN x r = true → r ∈ M.map (·.1)) : netN ⟨S⟩ = true ∧ S = I := by
  constructor
  · unfold netN
    rw [Bool.and_eq_true]
    refine ⟨agentsN_shp h.s1 hA, ?_⟩
    refine (zip_all (p := fun i (a : D.Agent) => a.Ports.zipIdx.all fun y => chkN ⟨S⟩ i y.2 y.1)).2 fun i a ha1 => ?_
    refine (zip_all (p := fun k q => chkN ⟨S⟩ (0 + i) k q)).2 fun k q hq => ?_
    have hpt := port_at (n := ⟨S⟩) ha1 hq
    have hh : hasN x (prt i k) = true := by
      rw [← shp_has h.s1]
      have hkl := (List.getElem?_eq_some_iff.1 hq).1
      exact has_iff.2 ⟨by simp [prt], by simp [prt], a, by simpa [prt] using ha1, by simp [prt]; omega⟩
    obtain ⟨v, hv⟩ := mem_mget (ha _ hh)
    obtain ⟨_, t, c1, c2, c3, c4, c5, c6⟩ := h.on _ v hv
    rw [hpt] at c1
    cases c1
    simp only [Nat.zero_add]
    unfold chkN
    rw [decide_eq_false c4, shp_has h.s1, c3, decide_eq_true c5]
    rfl
  · refine net_ext (h.s1.trans h.s2.symm) fun r hr => ?_
    rw [shp_has h.s2] at hr
    obtain ⟨v, hv⟩ := mem_mget (ha _ hr)
    obtain ⟨_, t, c1, c2, _⟩ := h.on _ v hv
    rw [c1, c2]
theorem Wired.fin {x S I : List D.Agent} {M : List (D.Port × Bool)} (h : Wired x S M I) (hA : agentsN x = true) : (netN ⟨S⟩ = true → S = I) ∧ netN ⟨S⟩ = decide (M.length = (portsL ⟨I⟩).length) := by
  have hml : (M.map (·.1)).length = M.length := List.length_map ..
  have hsub : ∀ p, p ∈ M.map (·.1) → p ∈ portsL ⟨I⟩ := fun p hp => ports_has.2 (by rw [shp_has h.s2]; exact h.has p hp)
  have hP := pig h.nod hsub
  rw [hml] at hP
  have key1 : netN ⟨S⟩ = true → ∀ r, hasN x r = true → r ∈ M.map (·.1) := fun hn r hr => by
    cases hm : mget M r with
    | some v => exact mget_mem hm
    | none =>
      have h1 := h.off r hr hm
      obtain ⟨_, h2, _⟩ := net_peer hn (by rw [shp_has h.s1]; exact hr) h1
      have := (has_iff.1 h2).1
      exact absurd this (by decide)
  refine ⟨fun hn => (h.all hA (key1 hn)).2, ?_⟩
  rw [Bool.eq_iff_iff, decide_eq_true_eq]
  constructor
  · intro hn
    have h2 := (pig (ports_nodup (n := ⟨I⟩)) (ys := M.map (·.1)) (fun p hp => key1 hn p (by rw [← shp_has h.s2]; exact ports_has.1 hp))).1
    rw [hml] at h2
    omega
  · intro he
    refine (h.all hA fun r hr => ?_).1
    by_cases hm : r ∈ M.map (·.1)
    · exact hm
    · have := hP.2 r (ports_has.2 (by rw [shp_has h.s2]; exact hr)) hm
      omega
/-- the answer of both sides -/
theorem same_FromWires {fuel : Nat} {x : List D.Agent} {ws : List D.Wire} (hf : 18446744073709551616 ≤ fuel) (hs : szL D.Agent.sz x ≤ 1048576) (hw : ws.length ≤ 1048576) :
    ∃ r : D.Net × Int, m_spec_FromWires fuel x ws = some r ∧ m_impl_FromWires fuel x ws = some r ∧ r.1.sz ≤ 1048576 := by
  have hs' : (⟨x⟩ : D.Net).sz ≤ 1048576 := hs
  obtain ⟨z1, z2, z3⟩ := net_sz hs'
  dsimp only at z1 z2 z3
  have ze : (⟨[]⟩ : D.Net).sz ≤ 1048576 := by unfold D.Net.sz szL; simp [sumL]
  have hm : maxLen = 9223372036854775807 := rfl
  unfold m_spec_FromWires m_impl_FromWires
  rw [agents_spec hf z1 z3, agents_impl hf z1 z3, Option.bind_some, Option.bind_some]
  cases hA : agentsN x with
  | false => exact ⟨_, rfl, rfl, ze⟩
  | true =>
    rw [if_neg (by simp), if_neg (by simp)]
    have hS := allLoop (xs := ws) (body := m_spec_FromWires_b1 fuel x ws) (p := fun _ w => hasN x w.A && hasN x w.B) (t := ()) (v := ((⟨[]⟩ : D.Net), (2 : Int))) (fuel := fuel) (by omega) hf (fun i w hi hx => by
      unfold m_spec_FromWires_b1
      rw [if_pos (by simpa using hi), idx_at hx, Option.bind_some, hasPort_spec (by omega) (fun a ha => (z3 a ha).2), Option.bind_some]
      unfold m_spec_FromWires_j6
      cases h1 : hasN x w.A with
      | false => simp
      | true =>
        rw [if_neg (by simp), Option.bind_some, hasPort_spec (by omega) (fun a ha => (z3 a ha).2), Option.bind_some]
        cases h2 : hasN x w.B <;> simp) (by unfold m_spec_FromWires_b1; rw [if_neg (by simp)])
    have hI := contains_Wire (fuel := fuel) (xs := ws) (f := fun y0 => m_impl_FromWires_c1 fuel y0 x) (p := fun w => !(hasN x w.A && hasN x w.B)) hf (by omega) (fun w _ => by
      unfold m_impl_FromWires_c1
      rw [hasPort_impl, Option.bind_some]
      cases h1 : hasN x w.A with
      | false => simp
      | true => rw [if_neg (by simp), hasPort_impl, Option.bind_some]; rfl)
    rw [hS, hI, Option.bind_some, Option.bind_some, any_all]
    have hz : (ws.zipIdx.all fun y => hasN x y.1.A && hasN x y.1.B) = ws.all fun w => hasN x w.A && hasN x w.B := by
      rw [Bool.eq_iff_iff, zip_all (p := fun _ (w : D.Wire) => hasN x w.A && hasN x w.B), List.all_eq_true]
      constructor
      · intro h w hw
        obtain ⟨i, hi⟩ := List.getElem?_of_mem hw
        exact h i w hi
      · exact fun h i w hi => h w (List.mem_of_getElem? hi)
    rw [hz]
    cases hv : (ws.all fun w => hasN x w.A && hasN x w.B) with
    | false => exact ⟨_, rfl, rfl, ze⟩
    | true =>
      rw [if_pos rfl, if_neg (by simp)]
      simp only [aft]
      unfold m_spec_FromWires_j1
      rw [own_net hf hs', copy_net hf hs', Option.bind_some, Option.bind_some]
      obtain ⟨l, c1, c2, c3⟩ := clear_spec hf hs'
      dsimp only at c1 c2 c3 ⊢
      rw [c1, Option.bind_some]
      simp only [aft]
      unfold m_spec_FromWires_j2
      obtain ⟨o1, o2, e1, e2, hQ⟩ := iter2 (b1 := m_spec_FromWires_b3 fuel ws) (b2 := m_impl_FromWires_b1 fuel ws) (fun i s1 s2 => ∃ S M I, s1 = ((i : Int), S) ∧ s2 = ((i : Int), M, I) ∧ Wired x S M I) ws.length
        (fun o1 o2 => (o1 = .inr (⟨[]⟩, 5) ∧ o2 = .inr (⟨[]⟩, 5)) ∨ ∃ S M I, o1 = .inl S ∧ o2 = .inl (M, I) ∧ Wired x S M I) (by
        rintro i _ _ hi ⟨S, M, I, rfl, rfl, hW⟩
        obtain ⟨w, hwi⟩ := at_lt hi
        have hb := List.all_eq_true.1 hv w (List.mem_of_getElem? hwi)
        rw [Bool.and_eq_true] at hb
        obtain ⟨va, a1, a2⟩ := hW.stat hb.1
        obtain ⟨vb, b1, b2⟩ := hW.stat hb.2
        have k1 : m_spec_FromWires_b3 fuel ws ((i : Int), S) = m_spec_FromWires_j4 fuel ((i : Int), S) w w (decide (w.A = w.B) || ((mget M w.A).getD false || (mget M w.B).getD false)) := by
          unfold m_spec_FromWires_b3
          dsimp only
          rw [if_pos (by simpa using hi), idx_at hwi, Option.bind_some, Option.bind_some, port_eq]
          by_cases hab : w.A = w.B
          · rw [if_pos (decide_eq_true hab), decide_eq_true hab]; rfl
          · rw [if_neg (by simpa using hab), decide_eq_false hab, peer_spec, a1, Option.bind_some, a2]
            cases (mget M w.A).getD false with
            | true => rfl
            | false => rw [if_neg (by simp), peer_spec, b1, Option.bind_some, b2]; rfl
        have k2 : m_impl_FromWires_b1 fuel ws ((i : Int), M, I) = m_impl_FromWires_j2 fuel ((i : Int), M, I) w (decide (w.A = w.B) || ((mget M w.A).getD false || (mget M w.B).getD false)) := by
          unfold m_impl_FromWires_b1
          dsimp only
          rw [if_pos (by simpa using hi), idx_at hwi, Option.bind_some, port_eq]
          by_cases hab : w.A = w.B
          · rw [if_pos (decide_eq_true hab), decide_eq_true hab]; rfl
          · rw [if_neg (by simpa using hab), decide_eq_false hab]
            cases (mget M w.A).getD false with
            | true => rfl
            | false => rw [if_neg (by simp)]; rfl
        rw [k1, k2]
        unfold m_spec_FromWires_j4 m_impl_FromWires_j2
        cases hc : (decide (w.A = w.B) || ((mget M w.A).getD false || (mget M w.B).getD false)) with
        | true => exact .inr ⟨_, _, rfl, rfl, .inl ⟨rfl, rfl⟩⟩
        | false =>
          rw [Bool.or_eq_false_iff, Bool.or_eq_false_iff, decide_eq_false_iff_not] at hc
          have nn : ∀ r, (mget M r).getD false = false → mget M r = none := fun r h => by
            cases hm : mget M r with
            | none => rfl
            | some v =>
              obtain ⟨rfl, _⟩ := hW.on r v hm
              rw [hm] at h; cases h
          obtain ⟨m1, f1, f2, f3⟩ := linkN_ok (n := ⟨S⟩) (p := w.A) (q := w.B) (by rw [shp_has hW.s1]; exact hb.1) (by rw [shp_has hW.s1]; exact hb.2)
          obtain ⟨m2, g1, g2, g3⟩ := linkN_ok (n := ⟨I⟩) (p := w.A) (q := w.B) (by rw [shp_has hW.s2]; exact hb.1) (by rw [shp_has hW.s2]; exact hb.2)
          refine .inl ⟨(w64 (i + 1), m1.Agents), (w64 (i + 1), mput (mput M w.A true) w.B true, m2.Agents), ?_, ?_, m1.Agents, _, m2.Agents, ?_, ?_, hW.step hb.1 hb.2 hc.1 (nn _ hc.2.1) (nn _ hc.2.2) f2 f3 g2 g3⟩
          · rw [if_neg (by simp), link_spec]
            dsimp only
            rw [f1]; rfl
          · rw [if_neg (by simp)]
            unfold m_impl_FromWires_j3
            rw [link_eq]
            dsimp only
            rw [g1]; rfl
          · rw [i64_small (by omega) (by omega)]; simp
          · rw [i64_small (by omega) (by omega)]; simp) (by
        rintro _ _ ⟨S, M, I, rfl, rfl, hW⟩
        refine ⟨S, (M, I), ?_, ?_, .inr ⟨S, M, I, rfl, rfl, hW⟩⟩
        · unfold m_spec_FromWires_b3; rw [if_neg (by simp)]
        · unfold m_impl_FromWires_b1; rw [if_neg (by simp)]) (fuel := fuel) (i := 0) (s1 := (0, l)) (s2 := (0, [], x)) (Nat.zero_le _) (by omega) ⟨l, [], x, rfl, rfl, ⟨c2, rfl, by simp, fun p hp => absurd hp (by simp), fun r hr _ => c3 r hr, fun r v hv => absurd hv (by simp [mget])⟩⟩
      rw [e1, e2, Option.bind_some, Option.bind_some]
      rcases hQ with ⟨rfl, rfl⟩ | ⟨S, M, I, rfl, rfl, hW⟩
      · exact ⟨_, rfl, rfl, ze⟩
      · simp only [aft]
        unfold m_spec_FromWires_j3 m_impl_FromWires_j1
        have zS : (⟨S⟩ : D.Net).sz ≤ 1048576 := by rw [sz_shp (n := ⟨x⟩) hW.s1]; exact hs'
        have zI : (⟨I⟩ : D.Net).sz ≤ 1048576 := by rw [sz_shp (n := ⟨x⟩) hW.s2]; exact hs'
        obtain ⟨y1, y2, y3⟩ := net_sz zS
        obtain ⟨u1, u2, u3⟩ := net_sz zI
        obtain ⟨q1, q2⟩ := hW.fin hA
        rw [net_spec hf y1 y3, netPorts hf u1 u2, Option.bind_some, Option.bind_some]
        dsimp only
        have hd : ((M.length : Int) != ((portsL ⟨I⟩).length : Int)) = !netN ⟨S⟩ := by
          rw [q2]
          by_cases he : M.length = (portsL ⟨I⟩).length
          · rw [he]; simp
          · rw [decide_eq_false he]
            simp only [Bool.not_false, bne_iff_ne, ne_eq]
            omega
        rw [hd]
        cases hn : netN ⟨S⟩ with
        | false => exact ⟨_, rfl, rfl, ze⟩
        | true => exact ⟨(⟨S⟩, 0), rfl, by rw [q1 hn]; rfl, zS⟩

theorem lawFromWires {x0 : (List D.Agent)} {x1 : (List D.Wire)} (h0 : (WfL D.Agent.wf) x0) (h1 : (WfL D.Wire.wf) x1) : ∃ fuel, m_laws_FnExactFromWires fuel x0 x1 = some true := by
  obtain ⟨fuel, hf⟩ : ∃ n : Nat, 18446744073709551616 ≤ n := ⟨_, Nat.le_refl _⟩
  refine ⟨fuel, ?_⟩
  unfold m_laws_FnExactFromWires
  obtain ⟨r0, e0, s0⟩ := szAgentS_pure (l := (1048576 : Int)) hf h0 (by decide) (by omega)
  rw [e0, Option.bind_some]
  rcases s0 with s0 | ⟨s0, t0⟩
  · rw [if_pos (by simp [s0])]
  rw [if_neg (by simp [s0])]
  obtain ⟨r1, e1, s1⟩ := szWireS_pure (l := r0) hf h1 s0 (by omega)
  rw [e1, Option.bind_some]
  rcases s1 with s1 | ⟨s1, t1⟩
  · rw [if_pos (by simp [s1])]
  rw [if_neg (by simp [s1])]
  have z0 : szL D.Agent.sz x0 ≤ 1048576 := by omega
  have z1 : x1.length ≤ 1048576 := by omega
  obtain ⟨r, a0, a1, b0⟩ := same_FromWires hf z0 z1
  have m0 := fun {β : Type} (g : _ → Option β) => bind_of (g := g) a0
  have m1 := fun {β : Type} (g : _ → Option β) => bind_of (g := g) a1
  have m2 := fun {β : Type} (g : _ → Option β) => bind_of (g := g) (toAgentS_pure hf z0)
  have m3 := fun {β : Type} (g : _ → Option β) => bind_of (g := g) (eqAgentS_pure hf z0)
  have m4 := fun {β : Type} (g : _ → Option β) (k : Int) (h0 : 0 ≤ k) (h1 : k + (ctAgentS x0 : Nat) ≤ 2147483648) => bind_of (g := g) (markAgentS_pure hf z0 h0 h1)
  have c0 := ctAgentS_le (xs := x0)
  have m5 := fun {β : Type} (g : _ → Option β) => bind_of (g := g) (toWireS_pure hf z1)
  have m6 := fun {β : Type} (g : _ → Option β) => bind_of (g := g) (eqWireS_pure hf z1)
  have m7 := fun {β : Type} (g : _ → Option β) (k : Int) (h0 : 0 ≤ k) (h1 : k + (ctWireS x1 : Nat) ≤ 2147483648) => bind_of (g := g) (markWireS_pure hf z1 h0 h1)
  have c1 := ctWireS_le (xs := x1)
  have m8 := fun {β : Type} (g : _ → Option β) => bind_of (g := g) (eqNet_pure hf b0)
  have m9 := fun {β : Type} (g : _ → Option β) (k : Int) (h0 : 0 ≤ k) (h1 : k + (ctNet r.1 : Nat) ≤ 2147483648) => bind_of (g := g) (markNet_pure hf b0 h0 h1)
  have m10 := fun {β : Type} (g : _ → Option β) (k : Int) (h0 : 0 ≤ k) (h1 : k + (ctNet r.1 : Nat) ≤ 2147483648) => bind_of (g := g) (heldNet_pure hf b0 h0 h1)
  have d0 := ctNet_le (x := r.1)
  simp (disch := omega) only [↓reduceIte, ↓m0, ↓m1, ↓m2, ↓m3, ↓m4, ↓m5, ↓m6, ↓m7, ↓m8, ↓m9, ↓m10, lt_f, Bool.not_true, Bool.false_eq_true, bne_self_eq_false, mkNet_eta]
  simp (disch := omega) only [↓reduceIte, ↓m_laws_FnExactFromWires_j1, ↓m0, ↓m1, ↓m2, ↓m3, ↓m4, ↓m5, ↓m6, ↓m7, ↓m8, ↓m9, ↓m10, lt_f, Bool.not_true, Bool.false_eq_true, bne_self_eq_false, mkNet_eta]
  simp (disch := omega) only [↓reduceIte, ↓m_laws_FnExactFromWires_j2, ↓m0, ↓m1, ↓m2, ↓m3, ↓m4, ↓m5, ↓m6, ↓m7, ↓m8, ↓m9, ↓m10, lt_f, Bool.not_true, Bool.false_eq_true, bne_self_eq_false, mkNet_eta]
  simp (disch := omega) only [↓reduceIte, ↓m_laws_FnExactFromWires_j3, ↓m0, ↓m1, ↓m2, ↓m3, ↓m4, ↓m5, ↓m6, ↓m7, ↓m8, ↓m9, ↓m10, lt_f, Bool.not_true, Bool.false_eq_true, bne_self_eq_false, mkNet_eta]
end Go.E
