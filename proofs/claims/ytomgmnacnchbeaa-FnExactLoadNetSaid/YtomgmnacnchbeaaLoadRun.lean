/- LoadNet: the words at the ports, at both sides. Conditions: the net is valid. -/
import Derived.Test.YtomgmnacnchbeaaLoadMem
namespace Go.E
open Go.RowKit Go.Proofs
set_option linter.unusedSimpArgs false
set_option linter.unusedVariables false


def wordV (N t : Nat) : D.Word := ⟨2, ((N - 1 + t : Nat) : Int)⟩
def stepV (N : Nat) (s : (D.Port → D.Word) × Nat) (x : D.Wire) : (D.Port → D.Word) × Nat := if varW x = 1 then (setW (setW s.1 x.A (wordV N s.2)) x.B (wordV N s.2), s.2 + 1) else s
def Vs (n : D.Net) (l : List D.Wire) : (D.Port → D.Word) × Nat := l.foldl (stepV n.Agents.length) (wz, 0)
def statN (n : D.Net) (r : D.Port) : Option Int := match portAt n r with
  | some q => if (auxN r && !auxN q) = true then some (q.Agent - 1) else none
  | none => none
def endOf (r : D.Port) (y : D.Wire) : Bool := decide (y.A = r) || decide (y.B = r)
def SW (n : D.Net) (l : List D.Wire) (r : D.Port) : D.Word := match statN n r with
  | some x => if l.any (endOf r) = true then ⟨1, x⟩ else ⟨0, 0⟩
  | none => (Vs n l).1 r
def IW (n : D.Net) (ps : List D.Port) (r : D.Port) : D.Word := match statN n r with
  | some x => if r ∈ ps then ⟨1, x⟩ else ⟨0, 0⟩
  | none => (Vs n (ps.flatMap (wireAt n))).1 r
theorem z7W {x : D.Wire} : varW x ≤ 1 := by unfold varW; split <;> omega
theorem z7s {n : D.Net} {l : List D.Wire} {x : D.Wire} : Vs n (l ++ [x]) = stepV n.Agents.length (Vs n l) x := by
  unfold Vs
  rw [List.foldl_append]
  rfl
theorem Vs_t {n : D.Net} {l : List D.Wire} : (Vs n l).2 = sumL varW l := by
  have h : ∀ (l : List D.Wire) (s : (D.Port → D.Word) × Nat), (l.foldl (stepV n.Agents.length) s).2 = s.2 + sumL varW l := by
    intro l
    induction l with
    | nil => intro s; rfl
    | cons x l ih =>
      intro s
      rw [List.foldl_cons, ih]
      unfold stepV
      have := z7W (x := x)
      by_cases h : varW x = 1
      · rw [if_pos h]; simp only [sumL]; omega
      · rw [if_neg h]; simp only [sumL]; omega
  rw [Vs, h]
  exact Nat.zero_add _
section
variable {n : D.Net} {p q : D.Port}
theorem z3c (hq : portAt n p = some q) (h : ¬ (auxN p = true ∧ auxN q = false)) : statN n p = none := by
  unfold statN
  rw [hq]
  dsimp only
  rw [if_neg]
  intro e
  rw [Bool.and_eq_true, Bool.not_eq_true'] at e
  exact h e
theorem z65 (hq : portAt n p = some q) (h1 : auxN p = true) (h2 : auxN q = false) : statN n p = some (q.Agent - 1) := by
  unfold statN
  rw [hq]
  dsimp only
  rw [h1, h2]
  rfl
theorem z8g (hb : befN p q = true) (hp : 0 ≤ p.Agent) (hs : 0 ≤ p.Slot) (hq : 0 ≤ q.Slot) : auxN q = decide (q.Slot > 0) := by
  unfold auxN
  unfold befN at hb
  simp only [Bool.or_eq_true, Bool.and_eq_true, decide_eq_true_eq] at hb
  by_cases h : q.Slot > 0
  · simp [h]
  · have : ¬ q.Agent = 0 := by omega
    simp [h, this]
theorem z4q (hk : auxN q = decide (q.Slot > 0)) : varW ⟨p, q⟩ = 1 ↔ auxN p = true ∧ auxN q = true := by
  unfold varW
  rw [hk]
  by_cases h : q.Slot > 0 <;> cases auxN p <;> simp [h]


theorem zct {l : List D.Wire} (hq : portAt n p = some q) (hp : portAt n q = some p) (hk : auxN q = decide (q.Slot > 0)) (h1 : auxN p = true) (h2 : auxN q = true) :
    SW n (l ++ [⟨p, q⟩]) = setW (setW (SW n l) p (wordV n.Agents.length (sumL varW l))) q (wordV n.Agents.length (sumL varW l)) := by
  have e1 := z3c (n := n) hq (by rw [h2]; simp)
  have e2 := z3c (n := n) hp (by rw [h1]; simp)
  have hv := (z4q (p := p) hk).2 ⟨h1, h2⟩
  funext r
  unfold setW
  by_cases rq : r = q
  · subst rq
    rw [if_pos rfl]
    unfold SW
    rw [e2, z7s]
    unfold stepV
    rw [if_pos hv, Vs_t]
    simp [setW]
  · rw [if_neg rq]
    by_cases rp : r = p
    · subst rp
      rw [if_pos rfl]
      unfold SW
      rw [e1, z7s]
      unfold stepV
      rw [if_pos hv, Vs_t]
      simp [setW, rq]
    · rw [if_neg rp]
      unfold SW
      have ha : (l ++ [(⟨p, q⟩ : D.Wire)]).any (endOf r) = l.any (endOf r) := by
        rw [List.any_append]
        simp [endOf, Ne.symm rp, Ne.symm rq]
      rw [ha, z7s]
      unfold stepV
      rw [if_pos hv]
      simp [setW, rq, rp]
theorem zcG {l : List D.Wire} (hv : varW ⟨p, q⟩ ≠ 1) (h : ∀ r, (r = p ∨ r = q) → statN n r = none) : SW n (l ++ [⟨p, q⟩]) = SW n l := by
  funext r
  unfold SW
  rw [z7s]
  unfold stepV
  rw [if_neg hv]
  cases hr : statN n r with
  | none => rfl
  | some x =>
    have rp : r ≠ p := fun e => by rw [h r (.inl e)] at hr; cases hr
    have rq : r ≠ q := fun e => by rw [h r (.inr e)] at hr; cases hr
    have ha : (l ++ [(⟨p, q⟩ : D.Wire)]).any (endOf r) = l.any (endOf r) := by
      rw [List.any_append]
      simp [endOf, Ne.symm rp, Ne.symm rq]
    dsimp only
    rw [ha]
theorem z9z {l : List D.Wire} {x : D.Wire} {s o : D.Port} {c : Int} (hv : varW x ≠ 1) (hx : x = ⟨s, o⟩ ∨ x = ⟨o, s⟩) (hs : statN n s = some c) (ho : statN n o = none) : SW n (l ++ [x]) = setW (SW n l) s ⟨1, c⟩ := by
  have hso : s ≠ o := fun e => by rw [e, ho] at hs; cases hs
  funext r
  unfold setW
  by_cases rs : r = s
  · subst rs
    rw [if_pos rfl]
    unfold SW
    rw [hs]
    dsimp only
    rw [if_pos]
    rw [List.any_append]
    rcases hx with rfl | rfl <;> simp [endOf]
  · rw [if_neg rs]
    unfold SW
    rw [z7s]
    unfold stepV
    rw [if_neg hv]
    cases hr : statN n r with
    | none => rfl
    | some y =>
      have ro : r ≠ o := fun e => by rw [e, ho] at hr; cases hr
      have ha : (l ++ [x]).any (endOf r) = l.any (endOf r) := by
        rw [List.any_append]
        rcases hx with rfl | rfl <;> simp [endOf, Ne.symm rs, Ne.symm ro]
      dsimp only
      rw [ha]


theorem zcL {ps : List D.Port} (hq : portAt n p = some q) (hp : portAt n q = some p) (hk : auxN q = decide (q.Slot > 0)) (hb : befN p q = true) (h1 : auxN p = true) (h2 : auxN q = true) :
    IW n (ps ++ [p]) = setW (setW (IW n ps) p (wordV n.Agents.length (sumL varW (ps.flatMap (wireAt n))))) q (wordV n.Agents.length (sumL varW (ps.flatMap (wireAt n)))) := by
  have e1 := z3c (n := n) hq (by rw [h2]; simp)
  have e2 := z3c (n := n) hp (by rw [h1]; simp)
  have hv := (z4q (p := p) hk).2 ⟨h1, h2⟩
  have hw : wireAt n p = [⟨p, q⟩] := by unfold wireAt; rw [hq]; dsimp only; rw [if_pos hb]
  have hfl : (ps ++ [p]).flatMap (wireAt n) = ps.flatMap (wireAt n) ++ [⟨p, q⟩] := by rw [List.flatMap_append]; simp [hw]
  funext r
  unfold IW
  rw [hfl, z7s]
  unfold stepV
  rw [if_pos hv, Vs_t]
  cases hr : statN n r with
  | none =>
    unfold setW
    dsimp only
    by_cases rq : r = q
    · rw [if_pos rq, if_pos rq]
    · rw [if_neg rq, if_neg rq]
      by_cases rp : r = p
      · rw [if_pos rp, if_pos rp]
      · rw [if_neg rp, if_neg rp, hr]
  | some x =>
    have rp : r ≠ p := fun e => by rw [e, e1] at hr; cases hr
    have rq : r ≠ q := fun e => by rw [e, e2] at hr; cases hr
    unfold setW
    dsimp only
    rw [if_neg rq, if_neg rp, hr]
    simp [rp]
theorem z6S (hq : portAt n p = some q) (h : befN p q = true → varW ⟨p, q⟩ ≠ 1) (ps : List D.Port) : Vs n ((ps ++ [p]).flatMap (wireAt n)) = Vs n (ps.flatMap (wireAt n)) := by
  have hfl : (ps ++ [p]).flatMap (wireAt n) = ps.flatMap (wireAt n) ++ wireAt n p := by rw [List.flatMap_append]; simp
  rw [hfl]
  unfold wireAt
  rw [hq]
  dsimp only
  cases hb : befN p q with
  | false => simp
  | true =>
    rw [if_pos rfl]
    have := z7s (n := n) (l := ps.flatMap (wireAt n)) (x := ⟨p, q⟩)
    unfold stepV at this
    rw [if_neg (h hb)] at this
    exact this
theorem zbD {ps : List D.Port} (hq : portAt n p = some q) (h : befN p q = true → varW ⟨p, q⟩ ≠ 1) (hs : statN n p = none) : IW n (ps ++ [p]) = IW n ps := by
  funext r
  unfold IW
  rw [z6S hq h]
  cases hr : statN n r with
  | none => rfl
  | some x =>
    have rp : r ≠ p := fun e => by rw [e, hs] at hr; cases hr
    simp [rp]
theorem zcH {ps : List D.Port} {c : Int} (hq : portAt n p = some q) (h : befN p q = true → varW ⟨p, q⟩ ≠ 1) (hs : statN n p = some c) : IW n (ps ++ [p]) = setW (IW n ps) p ⟨1, c⟩ := by
  funext r
  unfold IW setW
  rw [z6S hq h]
  by_cases rp : r = p
  · subst rp
    rw [if_pos rfl, hs]
    simp
  · rw [if_neg rp]
    cases hr : statN n r with
    | none => simp only [hr]
    | some x => simp [hr, rp]

theorem z7D (hn : netN n = true) {r : D.Port} (hr : hasN n.Agents r = true) : SW n (wiresL n) r = IW n (portsL n) r := by
  unfold SW IW wiresL
  cases hs : statN n r with
  | none => rfl
  | some x =>
    dsimp only
    obtain ⟨q, hq⟩ := z6h hr
    obtain ⟨h1, h2, h3⟩ := z5O hn hr hq
    have hm : ∀ p, hasN n.Agents p = true → p ∈ portsL n := fun p hp => by
      obtain ⟨a1, a2, a, a3, a4⟩ := z4p.1 hp
      refine z5B.2 ⟨p.Agent.toNat, a, p.Slot.toNat, a3, by omega, ?_⟩
      unfold prt
      rw [Int.toNat_of_nonneg a1, Int.toNat_of_nonneg a2]
    rw [if_pos (hm r hr), if_pos]
    rw [List.any_eq_true]
    obtain ⟨r1, r2, _⟩ := z4p.1 hr
    obtain ⟨q1, q2, _⟩ := z4p.1 h2
    by_cases hb : befN r q = true
    · refine ⟨⟨r, q⟩, List.mem_flatMap.2 ⟨r, hm r hr, ?_⟩, by simp [endOf]⟩
      unfold wireAt
      rw [hq]
      dsimp only
      rw [if_pos hb]
      simp
    · have hb' : befN q r = true := by
        unfold befN at hb ⊢
        simp only [Bool.or_eq_true, Bool.and_eq_true, decide_eq_true_eq] at hb ⊢
        have : ¬ (q.Agent = r.Agent ∧ q.Slot = r.Slot) := fun e => h1 (by cases q; cases r; simp only [D.Port.mk.injEq]; exact e)
        omega
      refine ⟨⟨q, r⟩, List.mem_flatMap.2 ⟨q, hm q h2, ?_⟩, by simp [endOf]⟩
      unfold wireAt
      rw [h3]
      dsimp only
      rw [if_pos hb']
      simp
end
end Go.E

