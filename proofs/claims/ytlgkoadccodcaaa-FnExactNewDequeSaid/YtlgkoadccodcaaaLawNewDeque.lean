/- NewDeque: the plain law. Conditions: none but the arguments' own size. -/
import Derived.Test.YtlgkoadccodcaaaMarksQ
namespace Go.E
open Go.RowKit Go.Proofs
set_option linter.unusedSimpArgs false
set_option linter.unusedVariables false

section
variable {fuel : Nat}

theorem l00In_eq (a b c : Int) : m_spec_l00In fuel a b c = some (decide (b ≤ a ∧ a ≤ c)) := by
  unfold m_spec_l00In
  by_cases h : b ≤ a <;> simp [h]
theorem l23Task_eq (n : Int) : m_spec_l23Task fuel n = some (decide (1 ≤ n ∧ n ≤ 1000)) := by
  simp only [m_spec_l23Task, l00In_eq, Option.bind_some]
theorem isTask_eq (n : Int) : m_impl_isTask fuel n = some (decide (1 ≤ n ∧ n ≤ 1000)) := by
  unfold m_impl_isTask
  by_cases h : 1 ≤ n <;> simp [h]

def badOp (n : Int) : Bool := n != 0 && !(decide (1 ≤ n ∧ n ≤ 1000))
def badNum (n : Int) : Bool := !(decide (0 ≤ n ∧ n ≤ 10))

theorem contains_int {p : Int → Bool} {f : Int → Option Bool} {xs : List Int} (hf : 18446744073709551616 ≤ fuel) (hl : xs.length ≤ maxLen) (h : ∀ n, f n = some (p n)) : m_slices_ContainsFunc_int64_int64 fuel xs f = some (xs.any p) := by
  unfold m_slices_ContainsFunc_int64_int64 m_slices_IndexFunc_int64_int64
  obtain ⟨r, h1, h2⟩ := askIndex (xs := xs) (p := p) (body := m_slices_IndexFunc_int64_int64_b1 fuel xs f) (j := m_slices_IndexFunc_int64_int64_j1 fuel) (t := ()) hl hf rfl (fun i x hi hx => by
    simp only [m_slices_IndexFunc_int64_int64_b1, idx_at hx, h, lt_t (show (i : Int) < xs.length by omega), if_true, Option.bind_some]) (by simp [m_slices_IndexFunc_int64_int64_b1])
  rw [h1, Option.bind_some, h2]

/-- a loop that lays zeros one by one -/
theorem zeros {τ ρ : Type} {body : Int × List Int → Option (Rd (Int × List Int) (List Int) ρ)} (hb : ∀ n l, body (n, l) = if decide (n > 0) = true then (if decide ((l.length : Int) + (([0] : List Int).length : Int) ≤ 4294967296) = true then some (.next (w64 (n - 1), l ++ [0])) else none) else some (.brk l)) :
    ∀ (k : Nat) (fuel : Nat) (l : List Int), l.length + k ≤ 1000 → k < fuel → iter body fuel ((k : Int), l) = some (.inl (l ++ List.replicate k 0))
  | 0, 0, _, _, h => by omega
  | 0, fuel + 1, l, _, _ => by
    simp only [iter, hb]
    rw [if_neg (by simp)]
    simp
  | k + 1, 0, _, _, h => by omega
  | k + 1, fuel + 1, l, hl, h => by
    simp only [iter, hb]
    rw [if_pos (by simp), if_pos (by simp; omega)]
    have e : w64 (((k + 1 : Nat) : Int) - 1) = (k : Int) := by rw [i64_small (by omega) (by omega)]; omega
    rw [e]
    show iter body fuel ((k : Int), l ++ [0]) = _
    rw [zeros (τ := τ) hb k fuel (l ++ [0]) (by simp; omega) (by omega), List.append_assoc, List.replicate_succ]
    rfl

/-- an actor with n operations to take -/
def thief (n : Int) : D.DequeActor := ⟨List.replicate n.toNat 0, 0, 0, 0, 0⟩

theorem same_NewDeque {size : Int} {x y : List Int} (hf : 18446744073709551616 ≤ fuel) (h0 : I64 size) (hx : WfL I64 x) (hy : WfL I64 y) (hsx : x.length ≤ 1048576) (hsy : y.length ≤ 1048576) :
    ∃ r : D.Deque × Int, m_spec_NewDeque fuel size x y = some r ∧ m_impl_NewDeque fuel size x y = some r ∧ r.1.sz ≤ 1048576 := by
  have hm : maxLen = 9223372036854775807 := rfl
  have zs : (⟨0, 0, [], [], [], []⟩ : D.Deque).sz ≤ 1048576 := by unfold D.Deque.sz szL; simp [sumL]
  have ts : m_spec_NewDeque_j1 fuel size x y true = some (⟨0, 0, [], [], [], []⟩, 2) := rfl
  have ti : m_impl_NewDeque_j1 fuel size x y true = some (⟨0, 0, [], [], [], []⟩, 2) := rfl
  have ti2 : m_impl_NewDeque_j2 fuel size x y true = some (⟨0, 0, [], [], [], []⟩, 2) := rfl
  by_cases hc : (1 ≤ size ∧ size ≤ 8) ∧ x.length ≤ 10 ∧ y.length ≤ 3
  · obtain ⟨⟨c1, c2⟩, c3, c4⟩ := hc
    have es : m_spec_NewDeque fuel size x y = m_spec_NewDeque_j1 fuel size x y false := by
      unfold m_spec_NewDeque
      rw [l00In_eq, Option.bind_some, decide_eq_true ⟨c1, c2⟩, if_neg (by simp), if_neg (by simp; omega), decide_eq_false (by omega)]
    have ei : m_impl_NewDeque fuel size x y = m_impl_NewDeque_j1 fuel size x y false := by
      unfold m_impl_NewDeque
      rw [if_neg (by simp; omega), if_neg (by simp; omega), if_neg (by simp; omega), decide_eq_false (by omega)]
    have k1 := contains_int (fuel := fuel) (p := badOp) (f := fun y0 => m_impl_NewDeque_c1 fuel y0) hf hx.1 (fun n => by
      simp only [m_impl_NewDeque_c1, isTask_eq, Option.bind_some, badOp]
      by_cases h : n = 0 <;> simp [h])
    have k2 := contains_int (fuel := fuel) (p := badNum) (f := fun y0 => m_impl_NewDeque_c2 fuel y0) hf hy.1 (fun n => by
      simp only [m_impl_NewDeque_c2, badNum]
      by_cases h : n < 0
      · simp [h, show ¬ 0 ≤ n by omega]
      · by_cases h2 : n ≤ 10
        · simp [h, h2, show 0 ≤ n by omega, show ¬ 10 < n by omega]
        · simp [h, h2, show 0 ≤ n by omega, show 10 < n by omega])
    have ho : m_spec_l00Own fuel x = some x := by
      unfold m_spec_l00Own
      rw [if_pos (by simp; omega)]; simp
    have hcl : m_slices_Clone_int64_int64 fuel x = some x := by
      unfold m_slices_Clone_int64_int64
      rw [if_pos (by simp; omega)]; simp
    rw [es, ei]
    unfold m_spec_NewDeque_j1 m_impl_NewDeque_j1
    rw [if_neg Bool.false_ne_true, if_neg Bool.false_ne_true, ho, k1, Option.bind_some, Option.bind_some]
    -- the owner's operations
    have o1 : ((iter (m_spec_NewDeque_b1 fuel x) fuel 0).bind fun o => aft o (m_spec_NewDeque_j2 fuel size y x)) = if x.any badOp = true then some (⟨0, 0, [], [], [], []⟩, 2) else m_spec_NewDeque_j2 fuel size y x () := by
      refine askOne hx.1 hf (fun i n hi hn => ?_) (by simp [m_spec_NewDeque_b1])
      simp only [m_spec_NewDeque_b1, idx_at hn, l23Task_eq, lt_t (show (i : Int) < x.length by omega), if_true, Option.bind_some, m_spec_NewDeque_j6, badOp]
      by_cases h : n = 0 <;> simp [h]
    have o1' : ((iter (m_spec_NewDeque_b1 fuel x) fuel 0).bind fun o => aft o (m_spec_NewDeque_j2 fuel size y x)) = if x.any badOp = true then some (⟨0, 0, [], [], [], []⟩, 2) else m_spec_NewDeque_j2 fuel size y x () := o1
    rw [o1]
    cases hb : x.any badOp with
    | true => exact ⟨(⟨0, 0, [], [], [], []⟩, 2), rfl, rfl, zs⟩
    | false =>
      simp only [Bool.false_eq_true, if_false]
      rw [k2, Option.bind_some]
      unfold m_spec_NewDeque_j2
      -- the thieves, the reference
      have inner : ∀ n : Int, 0 ≤ n → n ≤ 10 → iter (m_spec_NewDeque_b4 fuel) fuel (n, []) = some (.inl (List.replicate n.toNat 0)) := fun n n0 n1 => by
        have := zeros (τ := List Int) (body := m_spec_NewDeque_b4 fuel) (fun n l => rfl) n.toNat fuel [] (by simp; omega) (by omega)
        rw [Int.toNat_of_nonneg n0] at this
        simpa using this
      have step : ∀ (i : Nat) (n : Int) (t : List D.DequeActor), y[i]? = some n → t.length ≤ 100 → m_spec_NewDeque_b2 fuel y ((i : Int), t) = if badNum n = true then some (.ret (⟨0, 0, [], [], [], []⟩, 2)) else some (.next (w64 (i + 1), t ++ [thief n])) := fun i n t hn ht => by
        have hi := (List.getElem?_eq_some_iff.1 hn).1
        unfold m_spec_NewDeque_b2
        rw [if_pos (decide_eq_true (show (i : Int) < y.length by omega)), idx_at hn, Option.bind_some, l00In_eq, Option.bind_some]
        by_cases hr : 0 ≤ n ∧ n ≤ 10
        · have hbn : badNum n = false := by unfold badNum; rw [decide_eq_true hr]; rfl
          rw [hbn, decide_eq_true hr, if_neg (by simp), Option.bind_some, inner n hr.1 hr.2, Option.bind_some, if_neg Bool.false_ne_true]
          rw [aft_inl]
          have hlen : decide ((((i : Int), t).2.length : Int) + (([(⟨List.replicate n.toNat 0, 0, 0, 0, 0⟩ : D.DequeActor)] : List D.DequeActor).length : Int) ≤ 4294967296) = true := decide_eq_true (by
            show (t.length : Int) + ((1 : Nat) : Int) ≤ 4294967296
            omega)
          unfold m_spec_NewDeque_j5
          rw [if_pos hlen]
          rfl
        · have hbn : badNum n = true := by unfold badNum; rw [decide_eq_false hr]; rfl
          rw [hbn, decide_eq_false hr, if_pos (by decide : (!false) = true), if_pos rfl]
      have A : (y.any badNum = false ∧ iter (m_spec_NewDeque_b2 fuel y) fuel (0, [⟨x, 0, 0, 0, 0⟩]) = some (.inl (⟨x, 0, 0, 0, 0⟩ :: y.map thief))) ∨ (y.any badNum = true ∧ iter (m_spec_NewDeque_b2 fuel y) fuel (0, [⟨x, 0, 0, 0, 0⟩]) = some (.inr (⟨0, 0, [], [], [], []⟩, 2))) := by
        obtain ⟨o, h2, h3⟩ := iter_count (body := m_spec_NewDeque_b2 fuel y) (fun i s => s.1 = (i : Int) ∧ s.2 = ⟨x, 0, 0, 0, 0⟩ :: (y.take i).map thief ∧ (y.take i).any badNum = false) y.length (fun o => (y.any badNum = false ∧ o = .inl (⟨x, 0, 0, 0, 0⟩ :: y.map thief)) ∨ (y.any badNum = true ∧ o = .inr (⟨0, 0, [], [], [], []⟩, 2))) (by
          rintro i ⟨s, t⟩ hi ⟨h2, h3, h4⟩
          dsimp only at h2 h3 h4
          subst h2; subst h3
          obtain ⟨n, hn⟩ := at_lt hi
          have hs := step i n (⟨x, 0, 0, 0, 0⟩ :: (y.take i).map thief) hn (by simp; omega)
          cases hbn : badNum n with
          | true =>
            rw [hbn, if_pos rfl] at hs
            exact .inr (.inl ⟨_, hs, .inr ⟨List.any_eq_true.2 ⟨n, List.mem_of_getElem? hn, hbn⟩, rfl⟩⟩)
          | false =>
            rw [hbn, if_neg Bool.false_ne_true] at hs
            refine .inl ⟨_, hs, by show w64 _ = _; rw [i64_small (by omega) (by omega)]; simp, ?_, ?_⟩
            · show _ ++ _ = _
              rw [List.take_add_one, hn]; simp
            · rw [List.take_add_one, hn, List.any_append, h4]; simp [hbn]) (by
          rintro ⟨s, t⟩ ⟨h2, h3, h4⟩
          dsimp only at h2 h3 h4
          subst h2; subst h3
          rw [List.take_length] at h4 ⊢
          exact .inr ⟨_, by simp [m_spec_NewDeque_b2], .inl ⟨h4, rfl⟩⟩) (fuel := fuel) (i := 0) (s := (0, [⟨x, 0, 0, 0, 0⟩])) (Nat.zero_le _) (by omega) ⟨rfl, by simp, by simp⟩
        rcases h3 with ⟨h3, rfl⟩ | ⟨h3, rfl⟩
        · exact .inl ⟨h3, h2⟩
        · exact .inr ⟨h3, h2⟩
      rcases A with ⟨a1, a2⟩ | ⟨a1, a2⟩
      · rw [a2, a1, Option.bind_some]
        have hbuf : iter (m_spec_NewDeque_b3 fuel) fuel (size, []) = some (.inl (List.replicate size.toNat 0)) := by
          have := zeros (τ := List Int) (body := m_spec_NewDeque_b3 fuel) (fun n l => rfl) size.toNat fuel [] (by simp; omega) (by omega)
          rw [Int.toNat_of_nonneg (by omega)] at this
          simpa using this
        have B : iter (m_impl_NewDeque_b1 fuel y) fuel (0, [⟨x, 0, 0, 0, 0⟩]) = some (.inl (⟨x, 0, 0, 0, 0⟩ :: y.map thief)) := by
          have hall : ∀ n, n ∈ y → 0 ≤ n ∧ n ≤ 10 := fun n hn => by
            have := List.any_eq_false.1 a1 n hn
            unfold badNum at this
            simpa using this
          obtain ⟨o, h2, h3⟩ := iter_count (body := m_impl_NewDeque_b1 fuel y) (fun i s => s.1 = (i : Int) ∧ s.2 = ⟨x, 0, 0, 0, 0⟩ :: (y.take i).map thief) y.length (fun o => o = .inl (⟨x, 0, 0, 0, 0⟩ :: y.map thief)) (by
            rintro i ⟨s, t⟩ hi ⟨h2, h3⟩
            dsimp only at h2 h3
            subst h2; subst h3
            obtain ⟨n, hn⟩ := at_lt hi
            obtain ⟨n0, n1⟩ := hall n (List.mem_of_getElem? hn)
            refine .inl ⟨(w64 ((i : Int) + 1), (⟨x, 0, 0, 0, 0⟩ :: (y.take i).map thief) ++ [thief n]), ?_, by show w64 _ = _; rw [i64_small (by omega) (by omega)]; simp, ?_⟩
            · unfold m_impl_NewDeque_b1
              rw [if_pos (decide_eq_true (show (i : Int) < y.length by omega)), idx_at hn, Option.bind_some, if_pos (decide_eq_true (by omega)), if_pos (by simp; omega)]
              rfl
            · show _ ++ _ = _
              rw [List.take_add_one, hn]; simp) (by
            rintro ⟨s, t⟩ ⟨h2, h3⟩
            dsimp only at h2 h3
            subst h2; subst h3
            rw [List.take_length]
            exact .inr ⟨_, by simp [m_impl_NewDeque_b1], rfl⟩) (fuel := fuel) (i := 0) (s := (0, [⟨x, 0, 0, 0, 0⟩])) (Nat.zero_le _) (by omega) ⟨rfl, by simp⟩
          rw [h2, h3]
        refine ⟨(⟨0, 0, List.replicate size.toNat 0, ⟨x, 0, 0, 0, 0⟩ :: y.map thief, [], []⟩, 0), ?_, ?_, ?_⟩
        · show m_spec_NewDeque_j3 fuel size _ = _
          unfold m_spec_NewDeque_j3
          rw [hbuf]
          rfl
        · unfold m_impl_NewDeque_j2
          rw [if_neg Bool.false_ne_true, if_pos (decide_eq_true (by omega)), hcl, Option.bind_some]
          unfold m_impl_NewDeque_j3
          dsimp only
          rw [B]
          rfl
        · have hall : ∀ n, n ∈ y → n.toNat ≤ 10 := fun n hn => by
            have := List.any_eq_false.1 a1 n hn
            unfold badNum at this
            simp at this
            omega
          have hsum : ∀ (y : List Int), (∀ n, n ∈ y → n.toNat ≤ 10) → sumL D.DequeActor.sz (y.map thief) ≤ 10 * y.length := by
            intro y
            induction y with
            | nil => intro _; simp [sumL]
            | cons n y ih =>
              intro h
              have h1 := ih fun m hm => h m (by simp [hm])
              have h2 := h n (by simp)
              simp only [List.map_cons, sumL, thief, D.DequeActor.sz, List.length_replicate, List.length_cons]
              try simp only [thief] at h1
              omega
          have h1 := hsum y hall
          unfold D.Deque.sz szL
          simp only [sumL, List.length_replicate, List.length_cons, List.length_map, List.length_nil, D.DequeActor.sz]
          omega
      · rw [a2, a1, Option.bind_some]
        exact ⟨(⟨0, 0, [], [], [], []⟩, 2), rfl, rfl, zs⟩
  · refine ⟨(⟨0, 0, [], [], [], []⟩, 2), ?_, ?_, zs⟩
    · unfold m_spec_NewDeque
      rw [l00In_eq, Option.bind_some]
      by_cases c1 : 1 ≤ size ∧ size ≤ 8
      · rw [decide_eq_true c1, if_neg (by simp)]
        by_cases c2 : (x.length : Int) > 10
        · rw [if_pos (decide_eq_true c2), ts]
        · rw [if_neg (by simpa using c2), decide_eq_true (by omega), ts]
      · rw [decide_eq_false c1, if_pos (by decide : (!false) = true), ts]
    · unfold m_impl_NewDeque
      by_cases c1 : size < 1
      · rw [if_pos (decide_eq_true c1), ti]
      · rw [if_neg (by simpa using c1)]
        by_cases c2 : size > 8
        · rw [if_pos (decide_eq_true c2), ti]
        · rw [if_neg (by simpa using c2)]
          by_cases c3 : (x.length : Int) > 10
          · rw [if_pos (decide_eq_true c3), ti]
          · rw [if_neg (by simpa using c3), decide_eq_true (by omega), ti]
end

theorem lawNewDeque {x0 : Int} {x1 : (List Int)} {x2 : (List Int)} (h0 : I64 x0) (h1 : (WfL I64) x1) (h2 : (WfL I64) x2) : ∃ fuel, m_laws_FnExactNewDeque fuel x0 x1 x2 = some true := by
  obtain ⟨fuel, hf⟩ : ∃ n : Nat, 18446744073709551616 ≤ n := ⟨_, Nat.le_refl _⟩
  refine ⟨fuel, ?_⟩
  unfold m_laws_FnExactNewDeque
  by_cases q1 : (x1.length : Int) > 1048576
  · rw [if_pos (decide_eq_true q1)]
  rw [if_neg (by simpa using q1)]
  have z1 : x1.length ≤ 1048576 := by omega
  by_cases q2 : (x2.length : Int) > 1048576
  · rw [if_pos (decide_eq_true q2)]
  rw [if_neg (by simpa using q2)]
  have z2 : x2.length ≤ 1048576 := by omega
  obtain ⟨r, a0, a1, b0⟩ := same_NewDeque hf h0 h1 h2 z1 z2
  have m0 := fun {β : Type} (g : _ → Option β) => bind_of (g := g) a0
  have m1 := fun {β : Type} (g : _ → Option β) => bind_of (g := g) a1
  have m2 := fun {β : Type} (g : _ → Option β) => bind_of (g := g) (toInt64S_pure hf z1)
  have m3 := fun {β : Type} (g : _ → Option β) => bind_of (g := g) (eqInt64S_pure hf z1)
  have m4 := fun {β : Type} (g : _ → Option β) (k : Int) (h0 : 0 ≤ k) (h1 : k + (ctInt64S x1 : Nat) ≤ 2147483648) => bind_of (g := g) (markInt64S_pure hf z1 h0 h1)
  have c1 := ctInt64S_le (xs := x1)
  have m5 := fun {β : Type} (g : _ → Option β) => bind_of (g := g) (toInt64S_pure hf z2)
  have m6 := fun {β : Type} (g : _ → Option β) => bind_of (g := g) (eqInt64S_pure hf z2)
  have m7 := fun {β : Type} (g : _ → Option β) (k : Int) (h0 : 0 ≤ k) (h1 : k + (ctInt64S x2 : Nat) ≤ 2147483648) => bind_of (g := g) (markInt64S_pure hf z2 h0 h1)
  have c2 := ctInt64S_le (xs := x2)
  have m8 := fun {β : Type} (g : _ → Option β) => bind_of (g := g) (eqDeque_pure hf b0)
  have m9 := fun {β : Type} (g : _ → Option β) (k : Int) (h0 : 0 ≤ k) (h1 : k + (ctDeque r.1 : Nat) ≤ 2147483648) => bind_of (g := g) (markDeque_pure hf b0 h0 h1)
  have m10 := fun {β : Type} (g : _ → Option β) (k : Int) (h0 : 0 ≤ k) (h1 : k + (ctDeque r.1 : Nat) ≤ 2147483648) => bind_of (g := g) (heldDeque_pure hf b0 h0 h1)
  have d0 := ctDeque_le (x := r.1)
  simp (disch := omega) only [↓reduceIte, ↓m0, ↓m1, ↓m2, ↓m3, ↓m4, ↓m5, ↓m6, ↓m7, ↓m8, ↓m9, ↓m10, lt_f, Bool.not_true, Bool.false_eq_true, bne_self_eq_false, mkDeque_eta]
  simp (disch := omega) only [↓reduceIte, ↓m_laws_FnExactNewDeque_j1, ↓m0, ↓m1, ↓m2, ↓m3, ↓m4, ↓m5, ↓m6, ↓m7, ↓m8, ↓m9, ↓m10, lt_f, Bool.not_true, Bool.false_eq_true, bne_self_eq_false, mkDeque_eta]
  simp (disch := omega) only [↓reduceIte, ↓m_laws_FnExactNewDeque_j2, ↓m0, ↓m1, ↓m2, ↓m3, ↓m4, ↓m5, ↓m6, ↓m7, ↓m8, ↓m9, ↓m10, lt_f, Bool.not_true, Bool.false_eq_true, bne_self_eq_false, mkDeque_eta]
  simp (disch := omega) only [↓reduceIte, ↓m_laws_FnExactNewDeque_j3, ↓m0, ↓m1, ↓m2, ↓m3, ↓m4, ↓m5, ↓m6, ↓m7, ↓m8, ↓m9, ↓m10, lt_f, Bool.not_true, Bool.false_eq_true, bne_self_eq_false, mkDeque_eta]
end Go.E
