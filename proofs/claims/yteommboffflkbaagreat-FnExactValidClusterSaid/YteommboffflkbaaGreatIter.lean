/- Loops of plain Lean functions, and the rule for a loop of the model. Conditions: none (rules). -/
import Derived.Test.YteommboffflkbaaGreatTypes
import Derived.Test.YteommboffflkbaaGreatDrawHole
namespace Go.E
open Go.RowKit
set_option linter.unusedVariables false
set_option linter.unusedSimpArgs false


inductive Rd (σ τ ρ : Type) where
  | next (s : σ)
  | brk (t : τ)
  | ret (r : ρ)

def iter {σ τ ρ : Type} (body : σ → Option (Rd σ τ ρ)) : Nat → σ → Option (τ ⊕ ρ)
  | 0, _ => none
  | n + 1, s => match body s with
    | none => none
    | some (.next s') => iter body n s'
    | some (.brk t) => some (.inl t)
    | some (.ret r) => some (.inr r)

def idx {α : Type} (xs : List α) (i : Int) : Option α := if 0 ≤ i then xs[i.toNat]? else none

theorem z17 {α : Type} {xs : List α} {i : Int} {x : α} (h : idx xs i = some x) : 0 ≤ i ∧ xs[i.toNat]? = some x := by
  unfold idx at h
  split at h
  · exact ⟨by assumption, h⟩
  · cases h


def aft {τ A : Type} (o : τ ⊕ A) (k : τ → Option A) : Option A :=
  match o with
  | .inl t => k t
  | .inr a => some a

theorem z8 {τ A : Type} (t : τ) (k : τ → Option A) : aft (.inl t) k = k t := rfl

theorem zhJ {c : Bool} (h : c = false) : ¬ c = true := by rw [h]; simp

theorem bind_some {α β : Type} {x : Option α} {f : α → Option β} {b : β} (h : x.bind f = some b) : ∃ a, x = some a ∧ f a = some b := by
  cases x with
  | none => cases h
  | some a => exact ⟨a, rfl, h⟩

section
variable {P : Program} {n : Nat} {Q : Post} {F : Fr} {w : World}


theorem WP.iter {c : Code} {σ τ ρ : Type} (J : σ → Fr → World → Prop) (body : σ → Option (Rd σ τ ρ)) {k : Nat} {s : σ} {out : τ ⊕ ρ} (hm : iter body k s = some out) (h0 : J s F w)
    (round : ∀ s F w k o, J s F w → body s = some o → (match o with | .next s' => Go.E.iter body k s' = some out | .brk t => out = .inl t | .ret r => out = .inr r) →
      WP P n c (Q.after (fun F' w' => ∃ s' F'', F'.Has F'' ∧ o = .next s' ∧ J s' F'' w')) F w) : WP P n (.loop c) Q F w := by
  refine WP.loop (σ := { p : Nat × σ // Go.E.iter body p.1 p.2 = some out }) (fun p F w => J p.1.2 F w) (fun p => p.1.1) ⟨(k, s), hm⟩ h0 ?_
  rintro ⟨⟨k, s⟩, hk⟩ F w hJ
  cases k with
  | zero => cases hk
  | succ k =>
    have hk' := hk
    simp only [Go.E.iter] at hk'
    cases hb : body s with
    | none => rw [hb] at hk'; cases hk'
    | some o =>
      rw [hb] at hk'
      refine (round s F w k o hJ hb ?_).mono ?_
      · cases o with
        | next s' => exact hk'
        | brk t => simp only [Option.some.injEq] at hk'; exact hk'.symm
        | ret r => simp only [Option.some.injEq] at hk'; exact hk'.symm
      · intro e F' w' q
        cases e with
        | normal =>
          obtain ⟨s', F2, hh, rfl, hJ'⟩ := q
          exact ⟨⟨(k, s'), hk'⟩, F2, hh, hJ', Nat.lt_succ_self k⟩
        | _ => exact q


theorem WP.cut {c : Code} {τ : Type} (J : τ → Fr → World → Prop) (hk : ∀ t F w, J t F w → Q .normal F w) (h : WP P n c (Q.after (fun F w => ∃ t F', F.Has F' ∧ J t F' w)) F w) : WP P n c Q F w :=
  fun a ha => wp_mono (h a ha) fun e a' w' ⟨F1, hf, q⟩ => by
    cases e with
    | normal => obtain ⟨t, F', hh, ht⟩ := q; exact ⟨F', hf.weak hh, hk t F' w' ht⟩
    | _ => exact ⟨F1, hf, q⟩

theorem RW.know {ops rest : List Oper} (i : Nat) {v u : Value} (hg : F.get i = some v) (e : v = u) (h : RW P n ops Q rest ((i, u) :: F) w) : RW P n ops Q rest F w := fun a ha =>
  h a ⟨ha.1, ha.2.1, fun j x hx => by
    rw [Fr.get_cons] at hx
    split at hx
    · rename_i hj; subst hj; simp only [Option.some.injEq] at hx; subst hx; rw [← e]; exact ha.2.2 _ _ hg
    · exact ha.2.2 _ _ hx⟩

theorem DW.know {ops : List Oper} {w0 W9 : World} {wr : Nat → Bool} {fuel : Nat} {listed : Array Bool} (i : Nat) {v u : Value} (hg : F.get i = some v) (e : v = u) (h : DW P n ops Q W9 w0 wr fuel listed ((i, u) :: F) w) : DW P n ops Q W9 w0 wr fuel listed F w := fun hs he hv a ha =>
  h hs he hv a ⟨ha.1, ha.2.1, fun j x hx => by
    rw [Fr.get_cons] at hx
    split at hx
    · rename_i hj; subst hj; simp only [Option.some.injEq] at hx; subst hx; rw [← e]; exact ha.2.2 _ _ hg
    · exact ha.2.2 _ _ hx⟩

theorem DM.know {ops : List Oper} {w0 W9 : World} {wm fuel k m : Nat} (i : Nat) {v u : Value} (hg : F.get i = some v) (e : v = u) (h : DM P n ops Q W9 w0 wm fuel k m ((i, u) :: F) w) : DM P n ops Q W9 w0 wm fuel k m F w := fun l hl => DW.know i hg e (h l hl)

theorem ResIs.agg {T : TT} (ht : TTok P T) {a : Tmp} {t : Nat} {q : Addr} (h : F.get a = some (.pointer (some q))) {i : TI} (hi : T.get t = some i) (hag : i.agg = true) {cs : List Value} (hat : At w q cs) (hl : Nat.beq cs.length i.size = true) :
    ResIs P F w (.cell a t) (.agg ⟨cs⟩) := .cell h (by
  have hr := run_loadCells_list (P := P) w q cs fun j u hu => hat j u hu
  rw [Nat.eq_of_beq_eq_true hl] at hr
  simp [loadVar, ht.isAgg hi, ht.sizeOf hi, hag, hr])

theorem ResIs.one {T : TT} (ht : TTok P T) {a : Tmp} {t : Nat} {q : Addr} (h : F.get a = some (.pointer (some q))) {i : TI} (hi : T.get t = some i) (hag : i.agg = false) {c : Value} (hat : At w q [c]) :
    ResIs P F w (.cell a t) c := .cell h (by
  have hc : w.cell? q = some c := by have := hat 0 c rfl; simpa [Addr.add] using this
  simp [loadVar, ht.isAgg hi, hag, run_load, hc])

theorem At.sub {p : Addr} {cs : List Value} (h : At w p cs) (off m : Nat) : At w (p.add off) ((cs.drop off).take m) := h.part fun j u hu => by
  rw [List.getElem?_take] at hu
  split at hu
  · simpa using hu
  · cases hu
end
end Go.E

