/- The beginning and the end of a function's body. Conditions: none (rules). -/
import Derived.Test.YteommboffflkbaaGreatPut
namespace Go.E
open Go.RowKit
set_option linter.unusedVariables false
set_option linter.unusedSimpArgs false

def startFr : Nat → List Value → Fr
  | _, [] => []
  | i, v :: vs => (i, v) :: startFr (i + 1) vs

theorem za6 : ∀ (vs : List Value) (i j : Nat) (v : Value), (startFr i vs).get j = some v → i ≤ j ∧ vs[j - i]? = some v
  | [], i, j, v, h => by simp [startFr, Fr.get] at h
  | u :: vs, i, j, v, h => by
    unfold startFr at h
    rw [Fr.get_cons] at h
    split at h
    · rename_i hij; subst hij; simpa using h
    · rename_i hij
      obtain ⟨h1, h2⟩ := za6 vs (i + 1) j v h
      refine ⟨by omega, ?_⟩
      have : j - i = (j - (i + 1)) + 1 := by omega
      rw [this, List.getElem?_cons_succ]
      exact h2


inductive ResIs (P : Program) (F : Fr) (w : World) : ResultVar → Value → Prop where
  | tmp {t : Tmp} {v : Value} (h : F.get t = some v) : ResIs P F w (.tmp t) v
  | cell {a : Tmp} {ty : TypeId} {v : Value} {q : Addr} (h : F.get a = some (.pointer (some q))) (hl : (loadVar ty q).run P w = .ok v w) : ResIs P F w (.cell a ty) v

inductive ResAll (P : Program) (F : Fr) (w : World) : List ResultVar → List Value → Prop where
  | nil : ResAll P F w [] []
  | cons {r : ResultVar} {v : Value} {rs : List ResultVar} {vs : List Value} (h : ResIs P F w r v) (hs : ResAll P F w rs vs) : ResAll P F w (r :: rs) (v :: vs)

def resVal : List Value → Value
  | [v] => v
  | vs => .tuple ⟨vs⟩


def RetP (P : Program) (rs : List ResultVar) (R : Value → World → Prop) : Post
  | .normal, F, w => ∃ vs, ResAll P F w rs vs ∧ R (resVal vs) w
  | .ret, F, w => ∃ vs, ResAll P F w rs vs ∧ R (resVal vs) w
  | _, _, _ => False

section
variable {P : Program}

def resF (tmps : Array Value) (r : ResultVar) : Sem Value :=
  match r with
  | .tmp t => pure (tmps.getD t undef)
  | .cell a t => do loadVar t (← asAddr (tmps.getD a undef))

theorem zdV (fn : Func) (tmps : Array Value) : results fn tmps = (do
    let vs ← fn.results.mapM (resF tmps)
    pure (if h : vs.size = 1 then vs[0] else .tuple vs)) := by
  unfold results
  congr 2

theorem zep {n : Nat} {F : Fr} {w : World} {a : Act} (ha : Fits n F a) {r : ResultVar} {v : Value} (h : ResIs P F w r v) : (resF a.tmps r).run P w = .ok v w := by
  unfold resF
  cases h with
  | tmp h => simp [ha.2.2 _ _ h]
  | cell h hl => simp [ha.2.2 _ _ h, asAddr, hl]

theorem z9t {n : Nat} {F : Fr} {w : World} {a : Act} (ha : Fits n F a) : ∀ {rs : List ResultVar} {vs : List Value}, ResAll P F w rs vs → (rs.mapM (resF a.tmps)).run P w = .ok vs w
  | [], _, .nil => by simp
  | r :: rs, _, .cons h hs => by
    rw [List.mapM_cons, Sem.run_bind, zep ha h, Result.andThen_ok, Sem.run_bind, z9t ha hs, Result.andThen_ok, Sem.run_pure]

theorem zad {n : Nat} {F : Fr} {w : World} {a : Act} (ha : Fits n F a) {fn : Func} {rs : List ResultVar} {vs : List Value} (hr : fn.results.toList = rs) (h : ResAll P F w rs vs) :
    (results fn a.tmps).run P w = .ok (resVal vs) w := by
  subst hr
  have hm := z9t ha h
  have hvs : (if h : vs.toArray.size = 1 then vs.toArray[0] else Value.tuple vs.toArray) = resVal vs := by
    match vs with
    | [] => rfl
    | [v] => rfl
    | v :: u :: r => simp [resVal]
  rw [zdV, ← Array.toArray_toList (xs := fn.results), List.mapM_toArray, Sem.run_bind, Sem.run_map, hm, Result.andThen_ok, Result.andThen_ok, Sem.run_pure, hvs]

theorem Calls.into {f : FuncId} {fn : Func} {c : Code} {vs : List Value} {w : World} {R : Value → World → Prop} (hf : P.funcs[f]? = some fn) (hb : fn.body = some c) (n : Nat) (hn : fn.ntmps = n)
    (hl : Nat.ble vs.length n = true) (rs : List ResultVar) (hr : fn.results.toList = rs) (h : WP P n c (RetP P rs R) (startFr 0 vs) w) : Calls P f ⟨vs⟩ w (Ret R) := by
  refine calls_of_wp hf hb (wp_mono (h _ ?_) ?_)
  · have hl' : vs.length ≤ n := by simpa using hl
    refine ⟨rfl, by simp [hn]; omega, fun i v hv => ?_⟩
    obtain ⟨_, h2⟩ := za6 vs 0 i v hv
    simp only [Nat.sub_zero] at h2
    have hi := (List.getElem?_eq_some_iff.1 h2).1
    rw [Array.getElem?_append_left (by simpa using hi)]
    simpa using h2
  · rintro e a w' ⟨F, ha, hq⟩
    cases e with
    | normal => obtain ⟨us, h1, h2⟩ := hq; exact ⟨ha.1, _, zad ha hr h1, h2⟩
    | ret => obtain ⟨us, h1, h2⟩ := hq; exact ⟨ha.1, _, zad ha hr h1, h2⟩
    | exit i => exact hq.elim
    | goto l => exact hq.elim
    | panic c => exact hq.elim
    | outgrown => exact hq.elim
end
end Go.E

