/- CrossWires: the plain law. Conditions: none but the argument's own size. -/
import Derived.Test.YtomgmnacnchbeaaGreatSizesK
import Derived.Test.YtomgmnacnchbeaaGreatGridSame
namespace Go.E
open Go.RowKit Go.Proofs
set_option linter.unusedSimpArgs false
set_option linter.unusedVariables false

theorem sum_b {α : Type} {f : α → Nat} {b : Nat} : ∀ {xs : List α}, (∀ x, x ∈ xs → f x ≤ b) → sumL f xs ≤ b * xs.length
  | [], _ => Nat.le_refl _
  | x :: xs, h => by
    have h1 := h x (by simp)
    have h2 := sum_b (xs := xs) fun y hy => h y (List.mem_cons_of_mem _ hy)
    simp only [sumL, List.length_cons, Nat.mul_succ]
    omega
theorem sum_t {α : Type} {f : α → Nat} {xs : List α} (i : Nat) : sumL f (xs.take i) ≤ sumL f xs := by
  have := sumL_append (f := f) (xs := xs.take i) (ys := xs.drop i)
  rw [List.take_append_drop] at this
  omega
theorem sum_fl {α β : Type} {f : β → Nat} {h : α → List β} : ∀ {xs : List α}, sumL f (xs.flatMap h) = sumL (fun x => sumL f (h x)) xs
  | [] => rfl
  | x :: xs => by simp only [List.flatMap_cons, sumL_append, sumL, sum_fl (xs := xs)]
def outA (m : Nat) (a : D.Address) : Nat := if a.Machine = (m : Int) then 0 else 1
theorem out_le {m : Nat} {a : D.Address} : outA m a ≤ 1 := by unfold outA; split <;> omega
theorem bool_spec {fuel m : Nat} {a : D.Address} : m_spec_l01Bool fuel (a.Machine != (m : Int)) = some ((outA m a : Nat) : Int) := by
  unfold m_spec_l01Bool outA
  by_cases h : a.Machine = (m : Int) <;> simp [h]
theorem truth_impl {fuel m : Nat} {a : D.Address} : m_impl_truth fuel (a.Machine != (m : Int)) = some ((outA m a : Nat) : Int) := by
  unfold m_impl_truth outA
  by_cases h : a.Machine = (m : Int) <;> simp [h]
def heldL (v : D.ShardVar) : List D.Address := if v.Full = true then [v.Held] else []
def redL (r : D.ShardRedex) : List D.Address := [r.A, r.B]
def linkL (s : D.Shard) : List D.Address := s.Cells.flatMap (fun c => c.Aux) ++ s.Redexes.flatMap redL ++ s.Vars.flatMap heldL
def crossS (m : Nat) (s : D.Shard) : Nat := sumL (outA m) (linkL s)
theorem cross_eq {m : Nat} {s : D.Shard} : crossS m s = sumL (fun c : D.ShardCell => sumL (outA m) c.Aux) s.Cells + sumL (fun r => sumL (outA m) (redL r)) s.Redexes + sumL (fun v => sumL (outA m) (heldL v)) s.Vars := by
  unfold crossS linkL
  rw [sumL_append, sumL_append, sum_fl, sum_fl, sum_fl]
theorem sum_len {α : Type} {h : α → List D.Address} {b : Nat} : ∀ {xs : List α}, (∀ x, x ∈ xs → (h x).length ≤ b) → (xs.flatMap h).length ≤ b * xs.length
  | [], _ => Nat.zero_le _
  | x :: xs, hh => by
    have h1 := hh x (by simp)
    have h2 := sum_len (xs := xs) fun y hy => hh y (List.mem_cons_of_mem _ hy)
    simp only [List.flatMap_cons, List.length_append, List.length_cons, Nat.mul_succ]
    omega
theorem link_len {g : D.Grid} (hS : Small g) {s : D.Shard} (hs : s ∈ g.Shards) : (s.Cells.flatMap (fun c => c.Aux)).length ≤ 1200 ∧ (s.Redexes.flatMap redL).length ≤ 800 ∧ (s.Vars.flatMap heldL).length ≤ 400 := by
  obtain ⟨a1, a2, a3, a4, a5⟩ := hS.s s hs
  have h1 := sum_len (h := fun c : D.ShardCell => c.Aux) (b := 3) (xs := s.Cells) fun c hc => (a4 c hc).2.1
  have h2 := sum_len (h := redL) (b := 2) (xs := s.Redexes) fun c _ => by simp [redL]
  have h3 := sum_len (h := heldL) (b := 1) (xs := s.Vars) fun c _ => by unfold heldL; split <;> simp
  omega
theorem cross_le {g : D.Grid} (hS : Small g) {m : Nat} {s : D.Shard} (hs : s ∈ g.Shards) : crossS m s ≤ 2400 := by
  obtain ⟨h1, h2, h3⟩ := link_len hS hs
  have := sum_b (f := outA m) (b := 1) (xs := linkL s) fun _ _ => out_le
  unfold crossS
  have h4 : (linkL s).length ≤ 2400 := by unfold linkL; rw [List.length_append, List.length_append]; omega
  omega
def crossT (g : D.Grid) : Nat → Nat
  | 0 => 0
  | i + 1 => crossT g i + ((g.Shards[i]?).map (crossS i)).getD 0
theorem crossT_le {g : D.Grid} (hS : Small g) : ∀ m, m ≤ g.Shards.length → crossT g m ≤ 2400 * m
  | 0, _ => Nat.le_refl _
  | m + 1, hm => by
    obtain ⟨s, hs⟩ := at_lt (xs := g.Shards) (i := m) (by omega)
    have h1 := crossT_le hS m (by omega)
    have h2 := cross_le (m := m) hS (List.mem_of_getElem? hs)
    unfold crossT
    rw [hs]
    simp only [Option.map_some, Option.getD_some]
    omega
theorem crossT_succ {g : D.Grid} {m : Nat} {s : D.Shard} (hs : g.Shards[m]? = some s) : crossT g (m + 1) = crossT g m + crossS m s := by
  show crossT g m + _ = _
  rw [hs]; rfl
/-- one shard, told by the reference -/
theorem shard_cross {fuel : Nat} {g : D.Grid} {m : Nat} {s : D.Shard} {c0 z : Int} (hf : 18446744073709551616 ≤ fuel) (hS : Small g) (hm : g.Shards[m]? = some s) (h0 : 0 ≤ c0) (h1 : c0 ≤ 100000) :
    ((iter (m_spec_CrossWires_b2 fuel (z, (m : Int)) s) fuel (c0, 0)).bind fun o => aft o (m_spec_CrossWires_j2 fuel (z, (m : Int)) s)) = some (.next (c0 + (crossS m s : Nat), w64 ((m : Int) + 1))) := by
  obtain ⟨a1, a2, a3, a4, a5⟩ := hS.s s (List.mem_of_getElem? hm)
  have q1 := sum_b (f := fun c : D.ShardCell => sumL (outA m) c.Aux) (b := 3) (xs := s.Cells) fun c hc => by
    have := sum_b (f := outA m) (b := 1) (xs := c.Aux) fun _ _ => out_le
    have := (a4 c hc).2.1
    omega
  have q2 := sum_b (f := fun r : D.ShardRedex => sumL (outA m) (redL r)) (b := 2) (xs := s.Redexes) fun c hc => by
    have := sum_b (f := outA m) (b := 1) (xs := redL c) fun _ _ => out_le
    simp only [redL, List.length_cons, List.length_nil] at this ⊢
    omega
  have q3 := sum_b (f := fun v : D.ShardVar => sumL (outA m) (heldL v)) (b := 1) (xs := s.Vars) fun c hc => by
    have := sum_b (f := outA m) (b := 1) (xs := heldL c) fun _ _ => out_le
    have h2 : (heldL c).length ≤ 1 := by unfold heldL; split <;> simp
    omega
  have e1 := sumLoop (xs := s.Cells) (body := m_spec_CrossWires_b2 fuel (z, (m : Int)) s) (mk := fun i c => (c, i)) (out := fun c => c) (f := fun c : D.ShardCell => sumL (outA m) c.Aux) (c0 := c0) (by omega) hf (fun i c hc => by
    have hil := (List.getElem?_eq_some_iff.1 hc).1
    have c2 := (a4 c (List.mem_of_getElem? hc)).2.1
    have ht := sum_t (f := fun c : D.ShardCell => sumL (outA m) c.Aux) (xs := s.Cells) i
    have hb : 0 ≤ c0 + ((sumL (fun c : D.ShardCell => sumL (outA m) c.Aux) (s.Cells.take i) : Nat) : Int) ∧ c0 + ((sumL (fun c : D.ShardCell => sumL (outA m) c.Aux) (s.Cells.take i) : Nat) : Int) ≤ 200000 := by omega
    generalize c0 + ((sumL (fun c : D.ShardCell => sumL (outA m) c.Aux) (s.Cells.take i) : Nat) : Int) = d at hb ⊢
    have q := sum_b (f := outA m) (b := 1) (xs := c.Aux) fun _ _ => out_le
    have e := sumLoop (xs := c.Aux) (body := m_spec_CrossWires_b5 fuel (z, (m : Int)) s (d, (i : Int))) (mk := fun k c => (c, k)) (out := fun c => c) (f := outA m) (c0 := d) (by omega) hf (fun k a ha => by
      have hkl := (List.getElem?_eq_some_iff.1 ha).1
      have ht := sum_t (f := outA m) (xs := c.Aux) k
      have ho := out_le (m := m) (a := a)
      unfold m_spec_CrossWires_b5
      dsimp only
      rw [idx_at hc, Option.bind_some, if_pos (by simpa using hkl), Option.bind_some, idx_at ha, Option.bind_some, bool_spec, Option.bind_some, i64_small (n := d + _ + _) (by omega) (by omega)]) (fun c => by
      unfold m_spec_CrossWires_b5
      dsimp only
      rw [idx_at hc, Option.bind_some, if_neg (by simp)])
    unfold m_spec_CrossWires_b2
    dsimp only at e ⊢
    rw [if_pos (by simpa using hil), e, Option.bind_some, aft_inl]
    rfl) (fun c => by unfold m_spec_CrossWires_b2; rw [if_neg (by simp)])
  try dsimp only at e1
  rw [e1, Option.bind_some, aft_inl]
  unfold m_spec_CrossWires_j2
  have hb1 : 0 ≤ c0 + ((sumL (fun c : D.ShardCell => sumL (outA m) c.Aux) s.Cells : Nat) : Int) ∧ c0 + ((sumL (fun c : D.ShardCell => sumL (outA m) c.Aux) s.Cells : Nat) : Int) ≤ 200000 := by omega
  have hsum : c0 + ((crossS m s : Nat) : Int) = c0 + ((sumL (fun c : D.ShardCell => sumL (outA m) c.Aux) s.Cells : Nat) : Int) + ((sumL (fun r => sumL (outA m) (redL r)) s.Redexes : Nat) : Int) + ((sumL (fun v => sumL (outA m) (heldL v)) s.Vars : Nat) : Int) := by rw [cross_eq]; omega
  rw [hsum]
  generalize c0 + ((sumL (fun c : D.ShardCell => sumL (outA m) c.Aux) s.Cells : Nat) : Int) = d1 at hb1 ⊢
  have e2 := sumLoop (xs := s.Redexes) (body := m_spec_CrossWires_b3 fuel (z, (m : Int)) s) (mk := fun i c => (c, i)) (out := fun c => c) (f := fun r : D.ShardRedex => sumL (outA m) (redL r)) (c0 := d1) (by omega) hf (fun i r hr => by
    have hil := (List.getElem?_eq_some_iff.1 hr).1
    have ht := sum_t (f := fun r : D.ShardRedex => sumL (outA m) (redL r)) (xs := s.Redexes) i
    have ha := out_le (m := m) (a := r.A)
    have hb := out_le (m := m) (a := r.B)
    have hs2 : sumL (outA m) (redL r) = outA m r.A + outA m r.B := by simp [redL, sumL]
    unfold m_spec_CrossWires_b3
    dsimp only
    rw [if_pos (by simpa using hil), idx_at hr, Option.bind_some, Option.bind_some, bool_spec, Option.bind_some, bool_spec, Option.bind_some, i64_small (n := ((outA m r.A : Nat) : Int) + _) (by omega) (by omega), i64_small (n := d1 + _ + _) (by omega) (by omega), hs2]
    simp only [Int.natCast_add]) (fun c => by unfold m_spec_CrossWires_b3; rw [if_neg (by simp)])
  try dsimp only at e2
  rw [e2, Option.bind_some, aft_inl]
  unfold m_spec_CrossWires_j3
  have hb2 : 0 ≤ d1 + ((sumL (fun r => sumL (outA m) (redL r)) s.Redexes : Nat) : Int) ∧ d1 + ((sumL (fun r => sumL (outA m) (redL r)) s.Redexes : Nat) : Int) ≤ 300000 := by omega
  generalize d1 + ((sumL (fun r => sumL (outA m) (redL r)) s.Redexes : Nat) : Int) = d2 at hb2 ⊢
  have e3 := sumLoop (xs := s.Vars) (body := m_spec_CrossWires_b4 fuel (z, (m : Int)) s) (mk := fun i c => (c, i)) (out := fun c => c) (f := fun v : D.ShardVar => sumL (outA m) (heldL v)) (c0 := d2) (by omega) hf (fun i v hv => by
    have hil := (List.getElem?_eq_some_iff.1 hv).1
    have ht := sum_t (f := fun v : D.ShardVar => sumL (outA m) (heldL v)) (xs := s.Vars) i
    have ha := out_le (m := m) (a := v.Held)
    have hd : 0 ≤ d2 + ((sumL (fun v : D.ShardVar => sumL (outA m) (heldL v)) (s.Vars.take i) : Nat) : Int) ∧ d2 + ((sumL (fun v : D.ShardVar => sumL (outA m) (heldL v)) (s.Vars.take i) : Nat) : Int) ≤ 400000 := by omega
    generalize d2 + ((sumL (fun v : D.ShardVar => sumL (outA m) (heldL v)) (s.Vars.take i) : Nat) : Int) = d at hd ⊢
    unfold m_spec_CrossWires_b4 m_spec_CrossWires_j5 heldL
    dsimp only
    rw [if_pos (by simpa using hil), idx_at hv, Option.bind_some]
    cases v.Full with
    | true =>
      rw [if_pos rfl, Option.bind_some, bool_spec, Option.bind_some, i64_small (n := d + _) (by omega) (by omega), if_pos rfl]
      simp [sumL]
    | false =>
      rw [if_neg (by simp), if_neg (by simp)]
      unfold m_spec_l01Bool
      rw [if_neg (by simp), Option.bind_some, i64_small (n := d + _) (by omega) (by omega)]
      simp [sumL]) (fun c => by unfold m_spec_CrossWires_b4; rw [if_neg (by simp)])
  try dsimp only at e3
  rw [e3, Option.bind_some, aft_inl]
  rfl
/-- .. and by the program -/
theorem shard_cross_impl {fuel : Nat} {g : D.Grid} {m : Nat} {s : D.Shard} {c0 : Int} (hf : 18446744073709551616 ≤ fuel) (hS : Small g) (hm : g.Shards[m]? = some s) (h0 : 0 ≤ c0) (h1 : c0 ≤ 100000) :
    ((iter (m_impl_CrossWires_b2 fuel s) fuel ([], 0)).bind fun o => aft o (m_impl_CrossWires_j2 fuel (c0, (m : Int)) s)) = some (.next (c0 + (crossS m s : Nat), w64 ((m : Int) + 1))) := by
  obtain ⟨a1, a2, a3, a4, a5⟩ := hS.s s (List.mem_of_getElem? hm)
  obtain ⟨l1, l2, l3⟩ := link_len hS (List.mem_of_getElem? hm)
  have zf : ∀ {α : Type} (h : α → List D.Address) (xs : List α), fl (fun _ x => h x) xs xs.length = xs.flatMap h := fun h xs => by
    unfold fl
    rw [List.take_length]
    exact zip_flat
  have e1 := addLoop (xs := s.Cells) (body := m_impl_CrossWires_b2 fuel s) (mk := fun k s => (s, k)) (out := fun s => s) (fun _ c => c.Aux) (s0 := []) (fuel := fuel) (by omega) hf (fun i c hc => by
    have hil := (List.getElem?_eq_some_iff.1 hc).1
    have hfl := fl_le (f := fun _ (c : D.ShardCell) => c.Aux) (xs := s.Cells) (b := 3) (fun j c hc => (a4 c (List.mem_of_getElem? hc)).2.1) i (by omega)
    have c2 := (a4 c (List.mem_of_getElem? hc)).2.1
    rw [List.nil_append]
    generalize fl (fun _ (c : D.ShardCell) => c.Aux) s.Cells i = t at hfl ⊢
    unfold m_impl_CrossWires_b2
    dsimp only
    rw [if_pos (by simpa using hil), idx_at hc, Option.bind_some, if_pos (by simp only [decide_eq_true_eq]; omega)]) (by unfold m_impl_CrossWires_b2; rw [if_neg (by simp)])
  rw [List.nil_append, zf] at e1
  try dsimp only at e1
  rw [e1, Option.bind_some, aft_inl]
  unfold m_impl_CrossWires_j2
  have e2 := addLoop (xs := s.Redexes) (body := m_impl_CrossWires_b3 fuel s) (mk := fun k s => (k, s)) (out := fun s => s) (fun _ r => redL r) (s0 := s.Cells.flatMap fun c => c.Aux) (fuel := fuel) (by omega) hf (fun i c hc => by
    have hil := (List.getElem?_eq_some_iff.1 hc).1
    have hfl := fl_le (f := fun _ r => redL r) (xs := s.Redexes) (b := 2) (fun j c hc => by simp [redL]) i (by omega)
    have hk : ((s.Cells.flatMap fun c => c.Aux) ++ fl (fun _ r => redL r) s.Redexes i).length ≤ 5000 := by rw [List.length_append]; omega
    generalize (s.Cells.flatMap fun c => c.Aux) ++ fl (fun _ r => redL r) s.Redexes i = t at hk ⊢
    unfold m_impl_CrossWires_b3
    dsimp only
    rw [if_pos (by simpa using hil), idx_at hc, Option.bind_some, if_pos (by simp; omega)]
    rfl) (by unfold m_impl_CrossWires_b3; rw [if_neg (by simp)])
  rw [zf] at e2
  try dsimp only at e2
  rw [e2, Option.bind_some, aft_inl]
  unfold m_impl_CrossWires_j3
  have e3 := addLoop (xs := s.Vars) (body := m_impl_CrossWires_b4 fuel s) (mk := fun k s => (k, s)) (out := fun s => s) (fun _ v => heldL v) (s0 := (s.Cells.flatMap fun c => c.Aux) ++ s.Redexes.flatMap redL) (fuel := fuel) (by omega) hf (fun i c hc => by
    have hil := (List.getElem?_eq_some_iff.1 hc).1
    have hfl := fl_le (f := fun _ v => heldL v) (xs := s.Vars) (b := 1) (fun j c hc => by unfold heldL; split <;> simp) i (by omega)
    have hk : ((s.Cells.flatMap fun c => c.Aux) ++ s.Redexes.flatMap redL ++ fl (fun _ v => heldL v) s.Vars i).length ≤ 5000 := by rw [List.length_append, List.length_append]; omega
    generalize (s.Cells.flatMap fun c => c.Aux) ++ s.Redexes.flatMap redL ++ fl (fun _ v => heldL v) s.Vars i = t at hk ⊢
    unfold m_impl_CrossWires_b4 m_impl_CrossWires_j6 heldL
    dsimp only
    rw [if_pos (by simpa using hil), idx_at hc, Option.bind_some]
    cases c.Full with
    | true => rw [if_pos rfl, if_pos (by simp; omega), if_pos rfl]
    | false => rw [if_neg (by simp), if_neg (by simp), List.append_nil]) (by unfold m_impl_CrossWires_b4; rw [if_neg (by simp)])
  rw [zf] at e3
  try dsimp only at e3
  rw [e3, Option.bind_some, aft_inl]
  unfold m_impl_CrossWires_j4 crossS
  have hl : (linkL s).length ≤ 2400 := by unfold linkL; rw [List.length_append, List.length_append]; omega
  have hb := sum_b (f := outA m) (b := 1) (xs := linkL s) fun _ _ => out_le
  show ((iter (m_impl_CrossWires_b5 fuel (c0, (m : Int)) (linkL s)) fuel (c0, 0)).bind _) = _
  have e4 := sumLoop (xs := linkL s) (body := m_impl_CrossWires_b5 fuel (c0, (m : Int)) (linkL s)) (mk := fun i c => (c, i)) (out := fun c => c) (f := outA m) (c0 := c0) (by omega) hf (fun i a ha => by
    have hil := (List.getElem?_eq_some_iff.1 ha).1
    have ht := sum_t (f := outA m) (xs := linkL s) i
    have ho := out_le (m := m) (a := a)
    unfold m_impl_CrossWires_b5
    dsimp only
    rw [if_pos (by simpa using hil), idx_at ha, Option.bind_some, truth_impl, Option.bind_some, i64_small (n := c0 + _ + _) (by omega) (by omega)]) (fun c => by unfold m_impl_CrossWires_b5; rw [if_neg (by simp)])
  try dsimp only at e4
  rw [e4, Option.bind_some, aft_inl]
  rfl
theorem grid_cross {fuel : Nat} {g : D.Grid} {body : Int × Int → Option (Rd (Int × Int) Int (Int × Int))} {c0 : Int} (hf : 18446744073709551616 ≤ fuel) (hS : Small g) (h0 : 0 ≤ c0 ∧ c0 ≤ 1)
    (step : ∀ (m : Nat) s (c : Int), g.Shards[m]? = some s → 0 ≤ c → c ≤ 100000 → body (c, (m : Int)) = some (.next (c + (crossS m s : Nat), w64 ((m : Int) + 1)))) (last : ∀ c, body (c, (g.Shards.length : Int)) = some (.brk c)) :
    iter body fuel (c0, 0) = some (.inl (c0 + (crossT g g.Shards.length : Nat))) := by
  have hn := hS.n
  obtain ⟨o, h1, h2⟩ := iter_count (body := body) (fun m st => st = (c0 + ((crossT g m : Nat) : Int), (m : Int))) g.Shards.length (fun o => o = .inl (c0 + (crossT g g.Shards.length : Nat))) (by
    rintro m _ hm rfl
    obtain ⟨s, hs⟩ := at_lt hm
    have := crossT_le hS m (by omega)
    refine .inl ⟨_, step m s _ hs (by omega) (by omega), ?_⟩
    rw [i64_small (by omega) (by omega), crossT_succ hs]
    simp only [Int.natCast_add, Int.add_assoc]
    rfl) (by
    rintro _ rfl
    exact .inr ⟨_, last _, rfl⟩) (fuel := fuel) (i := 0) (s := (c0, 0)) (Nat.zero_le _) (by omega) (by simp [crossT])
  rw [h1, h2]
theorem same_CrossWires {fuel : Nat} {x : D.Grid} (hf : 18446744073709551616 ≤ fuel) (hs : x.sz ≤ 1048576) : ∃ q, m_spec_CrossWires fuel x = some q ∧ m_impl_CrossWires fuel x = some q := by
  unfold m_spec_CrossWires m_impl_CrossWires
  rw [l27_spec hf hs, grid_impl hf hs, ← grid_same, Option.bind_some, Option.bind_some]
  cases hp : piecesN x with
  | false => exact ⟨_, rfl, rfl⟩
  | true =>
    have hS := small_of hs hp
    rw [Bool.true_and]
    cases (gridA x && countsN x [] (gridS x)) with
    | false => exact ⟨_, rfl, rfl⟩
    | true =>
      have b0 : m_spec_l01Bool fuel (x.Root.Machine != 0) = some ((outA 0 x.Root : Nat) : Int) := bool_spec (m := 0)
      have b1 : m_impl_truth fuel (x.Root.Machine != 0) = some ((outA 0 x.Root : Nat) : Int) := truth_impl (m := 0)
      have ho := out_le (m := 0) (a := x.Root)
      rw [if_neg (by simp), if_neg (by simp), b0, b1, Option.bind_some, Option.bind_some]
      rw [grid_cross (body := m_spec_CrossWires_b1 fuel x) hf hS ⟨by omega, by omega⟩ (fun m s c hm h0 h1 => by
        have hml := (List.getElem?_eq_some_iff.1 hm).1
        unfold m_spec_CrossWires_b1
        dsimp only
        rw [if_pos (by simpa using hml), idx_at hm, Option.bind_some, shard_cross hf hS hm h0 h1]) (fun c => by unfold m_spec_CrossWires_b1; rw [if_neg (by simp)])]
      rw [grid_cross (body := m_impl_CrossWires_b1 fuel x) hf hS ⟨by omega, by omega⟩ (fun m s c hm h0 h1 => by
        have hml := (List.getElem?_eq_some_iff.1 hm).1
        unfold m_impl_CrossWires_b1
        dsimp only
        rw [if_pos (by simpa using hml), idx_at hm, Option.bind_some, shard_cross_impl hf hS hm h0 h1]) (fun c => by unfold m_impl_CrossWires_b1; rw [if_neg (by simp)])]
      exact ⟨_, rfl, rfl⟩
theorem lawCrossWires {x0 : D.Grid} (h0 : D.Grid.wf x0) : ∃ fuel, m_laws_FnExactCrossWires fuel x0 = some true := by
  obtain ⟨fuel, hf⟩ : ∃ n : Nat, 18446744073709551616 ≤ n := ⟨_, Nat.le_refl _⟩
  refine ⟨fuel, ?_⟩
  unfold m_laws_FnExactCrossWires
  obtain ⟨r0, e0, s0⟩ := szGrid_pure (l := (1048576 : Int)) hf h0 (by decide) (by omega)
  rw [e0, Option.bind_some]
  rcases s0 with s0 | ⟨s0, t0⟩
  · rw [if_pos (by simp [s0])]
  rw [if_neg (by simp [s0])]
  have z0 : D.Grid.sz x0 ≤ 1048576 := by omega
  obtain ⟨q, a0, a1⟩ := same_CrossWires hf z0
  simp only [Option.bind_some, a0, a1, toGrid_pure hf z0, eqGrid_pure hf z0]
  simp [m_laws_FnExactCrossWires_j1, toGrid_pure hf z0, eqGrid_pure hf z0]
end Go.E
