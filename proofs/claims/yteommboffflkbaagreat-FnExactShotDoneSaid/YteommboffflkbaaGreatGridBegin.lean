/- Models of functions and proofs that the code runs as they say (written by program). Conditions: the model gives a value. -/
import Derived.Test.YteommboffflkbaaGreatFGe
import Derived.Test.YteommboffflkbaaGreatIter
import Derived.Deep.Slices
import Derived.ChangeArms
import Derived.ProofKit
import Derived.OpenShut
import Derived.WideShapes
import Derived.Test.YteommboffflkbaaGreatFA
namespace Go.E
open Go.RowKit Go.Proofs
set_option linter.unusedVariables false
set_option linter.unusedSimpArgs false
set_option maxHeartbeats 2000000
set_option maxRecDepth 100000

end Go.E

namespace Go.E
open Go.RowKit
set_option linter.unusedVariables false
set_option linter.unusedSimpArgs false

def I64 (n : Int) : Prop := -9223372036854775808 ≤ n ∧ n ≤ 9223372036854775807

theorem zhO {n : Int} (h : (Lit.int .i64 n).wf = true) : I64 n := by
  have h1 : IntKind.i64.min = -9223372036854775808 := rfl
  have h2 : IntKind.i64.max = 9223372036854775807 := rfl
  simp only [Lit.wf, Bool.and_eq_true, decide_eq_true_eq, h1, h2] at h
  exact h

theorem zkT {n : Int} (h : I64 n) : w64 n = n := by
  obtain ⟨h1, h2⟩ := h
  have e : w64 n = if n % 18446744073709551616 ≥ 9223372036854775808 then n % 18446744073709551616 - 18446744073709551616 else n % 18446744073709551616 := by
    unfold w64 IntKind.wrap
    show (if (true && decide (n % (2 ^ 64 : Int) ≥ (2 ^ 63 : Int))) = true then n % (2 ^ 64 : Int) - (2 ^ 64 : Int) else n % (2 ^ 64 : Int)) = _
    simp
  rw [e]
  split <;> omega

def Opens (P : Program) (t : TypeId) {α : Type} (T : Ty α) (wf : α → Prop) : Prop :=
  P.cellsOf t = T.size ∧ ∀ {H : Type} {enc : TypeId × Value → H} {w : World} {base : Nat} {spare : Nat → Bool} {held : Bool} {fuel : Nat} {cs : List Value} {x : DataW H × List MemPlace},
    DataW.trod enc P w base spare held fuel t cs = some x → ∃ a, T.ro w cs a ∧ wf a

theorem Opens.int {P : Program} {t : TypeId} (ht : P.underlying t = some (.int .i64)) (hc : P.cellsOf t = 1) : Opens P t tInt I64 :=
  ⟨hc, fun h => by
    obtain ⟨n, rfl, _, hw⟩ := DataW.trod_int ht h
    exact ⟨n, rfl, zhO hw⟩⟩

theorem Opens.bool {P : Program} {t : TypeId} (ht : P.underlying t = some .bool) (hc : P.cellsOf t = 1) : Opens P t tBool fun _ => True :=
  ⟨hc, fun h => by
    obtain ⟨n, rfl, _⟩ := DataW.trod_bool ht h
    exact ⟨n, rfl, trivial⟩⟩

theorem Opens.str {P : Program} {t : TypeId} (ht : P.underlying t = some .string) (hc : P.cellsOf t = 1) : Opens P t tStr fun s => s.size ≤ maxLen :=
  ⟨hc, fun h => by
    obtain ⟨n, rfl, _, hw⟩ := DataW.trod_string ht h
    exact ⟨n, rfl, hw⟩⟩

theorem At.append {w : World} {p : Addr} {cs es : List Value} (ha : At w p cs) (hb : At w (p.add cs.length) es) : At w p (cs ++ es) := fun j u hu => by
  rcases Nat.lt_or_ge j cs.length with h | h
  · rw [List.getElem?_append_left h] at hu
    exact ha j u hu
  · rw [List.getElem?_append_right h] at hu
    have := hb (j - cs.length) u hu
    rw [zjs] at this
    rwa [show cs.length + (j - cs.length) = j by omega] at this

theorem zeH {α : Type} {T : Ty α} {wf : α → Prop} {w : World} {a : Addr} {base : Nat} : ∀ (n : Nat), (∀ i, i < n → ∃ cs', w.cells? base (a.add (i * T.size)) T.size = some cs' ∧ ∃ x, T.ro w cs' x ∧ wf x) →
    ∃ (xs : List α) (els : List Value), xs.length = n ∧ Els T w els xs ∧ At w a els ∧ ∀ x, x ∈ xs → wf x
  | 0, _ => ⟨[], [], rfl, rfl, fun j u hu => by simp at hu, fun x hx => by cases hx⟩
  | n + 1, h => by
    obtain ⟨xs, els, hl, he, ha, hw⟩ := zeH n fun i hi => h i (Nat.lt_succ_of_lt hi)
    obtain ⟨cs', hc, x, hx, hwx⟩ := h n (Nat.lt_succ_self n)
    refine ⟨xs ++ [x], els ++ cs', by simp [hl], he.append ⟨cs', [], by simp, hx, rfl⟩, ha.append ?_, fun y hy => ?_⟩
    · obtain ⟨_, hcl, hat⟩ := World.cells?_some hc
      intro j u hu
      have hj := (List.getElem?_eq_some_iff.1 hu).1
      rw [he.length, hl, hat j (by omega)]
      exact hu
    · rcases List.mem_append.1 hy with hy | hy
      · exact hw y hy
      · simp only [List.mem_singleton] at hy; subst hy; exact hwx

def WfL {α : Type} (wf : α → Prop) (xs : List α) : Prop := xs.length ≤ maxLen ∧ ∀ x, x ∈ xs → wf x

theorem Opens.sl {P : Program} {t e : TypeId} {α : Type} {T : Ty α} {wf : α → Prop} (ht : P.underlying t = some (.slice e)) (hc : P.cellsOf t = 1) (ho : Opens P e T wf) : Opens P t (tSl e T) (WfL wf) :=
  ⟨hc, by
    intro H enc w base spare held fuel cs x h
    rcases Go.Deep.open_slice ht h with ⟨rfl, _⟩ | ⟨a, len, cap, m, n, D, Pl, rfl, _, hl, hm, hmm, _, hi⟩
    · exact ⟨[], ⟨none, 0, [], rfl, Nat.le_refl _, rfl, fun h => absurd rfl h⟩, ⟨Nat.zero_le _, fun x hx => by cases hx⟩⟩
    · have hlm : len ≤ m := by rw [hmm]; split <;> omega
      rw [ho.1] at hi
      obtain ⟨xs, els, hxl, he, ha, hw⟩ := zeH (T := T) (wf := wf) (w := w) (a := a) (base := base) len fun i hil => by
        obtain ⟨cs', h1, h2⟩ := hi i (by omega)
        exact ⟨cs', h1, ho.2 h2⟩
      subst hxl
      exact ⟨xs, ⟨some a, cap, els, rfl, hl, he, fun _ => ⟨a, rfl, ha⟩⟩, ⟨by omega, hw⟩⟩⟩


def OpensF (P : Program) (o : Nat) (fs : List Field) {α : Type} (T : Ty α) (wf : α → Prop) : Prop :=
  ∀ {H : Type} {enc : TypeId × Value → H} {w : World} {base : Nat} {spare : Nat → Bool} {held : Bool} {fuel : Nat} {cs : List Value},
    (∀ (i : Nat) (f : Field), fs[i]? = some f → ∃ x, DataW.trod enc P w base spare held fuel f.type ((cs.drop f.offset).take (P.cellsOf f.type)) = some x) → ∃ a, T.ro w ((cs.drop o).take T.size) a ∧ wf a

theorem OpensF.nil {P : Program} {o : Nat} : OpensF P o [] tUnit fun _ => True := fun _ => ⟨(), by show List.take 0 _ = []; simp, trivial⟩

theorem OpensF.cons {P : Program} {o o' : Nat} {f : Field} {fs : List Field} {α β : Type} {T : Ty α} {U : Ty β} {wf : α → Prop} {wg : β → Prop} (ho : Opens P f.type T wf) (hf : f.offset = o) (h' : o' = o + T.size) (hr : OpensF P o' fs U wg) :
    OpensF P o (f :: fs) (tPair T U) fun x => wf x.1 ∧ wg x.2 := by
  intro H enc w base spare held fuel cs h
  obtain ⟨x, hx⟩ := h 0 f rfl
  obtain ⟨a, h1, h2⟩ := ho.2 hx
  obtain ⟨b, h3, h4⟩ := hr (cs := cs) fun i g hg => h (i + 1) g hg
  subst h'
  refine ⟨(a, b), ⟨_, _, ?_, h1, h3⟩, h2, h4⟩
  rw [ho.1, hf]
  show List.take (T.size + U.size) _ = _
  rw [List.take_add, List.drop_drop]

theorem Opens.struct {P : Program} {t : TypeId} {fs : Array Field} {α β : Type} {T : Ty α} {wf : α → Prop} {f : β → α} (ht : P.underlying t = some (.struct fs)) (hc : P.cellsOf t = T.size) (h : OpensF P 0 fs.toList T wf) (hs : ∀ a, ∃ b, f b = a) :
    Opens P t (tMap f T) fun b => wf (f b) :=
  ⟨hc, by
    intro H enc w base spare held fuel cs x hx
    obtain ⟨xs, n, _, _, hl, hxl, hf⟩ := DataW.trod_struct ht hx
    obtain ⟨a, h1, h2⟩ := h (cs := cs) (w := w) (enc := enc) (base := base) (spare := spare) (held := held) (fuel := n) fun i g hg => by
      have hi : i < fs.size := by simpa using (List.getElem?_eq_some_iff.1 hg).1
      exact ⟨xs[i]'(by omega), (hf i g (by simpa using hg)).trans (List.getElem?_eq_getElem _)⟩
    obtain ⟨b, rfl⟩ := hs a
    refine ⟨b, ?_, h2⟩
    show T.ro w cs (f b)
    rwa [List.drop_zero, List.take_of_length_le (by omega)] at h1⟩

section
variable {H : Type} {enc : TypeId × Value → H} {P : Program} {w : World} {base b0 : Nat} {spare : Nat → Bool} {held : Bool} {r : Reach} {t : TypeId} {v : Value} {d : DataW H} {p : List MemPlace}

theorem zdG {α : Type} {T : Ty α} {wf : α → Prop} {fs : Array Field} (ht : P.underlying t = some (.struct fs)) (ho : Opens P t T wf) (hv : Value.okWide P w r b0 t v) (h : DataW.Trod enc P w base spare held t v d p) :
    ∃ cs x, v = .agg ⟨cs⟩ ∧ T.ro w cs x ∧ wf x := by
  obtain ⟨cs, rfl, _⟩ := WideShapes.okWide_struct ht hv
  obtain ⟨fuel, hf⟩ := h
  obtain ⟨x, h1, h2⟩ := ho.2 hf
  exact ⟨cs.toList, x, rfl, h1, h2⟩

end

theorem Ret.out {Q : Value → World → Prop} {e : Ending} {w : World} (h : Ret Q e w) : ∃ v, e = .returned v ∧ Q v w := by
  cases e with
  | returned v => exact ⟨v, rfl, h⟩
  | _ => exact False.elim h
end Go.E

namespace Go.E
set_option linter.unusedVariables false
set_option linter.unusedSimpArgs false

theorem zf {n : Int} (h0 : -9223372036854775808 ≤ n) (h1 : n ≤ 9223372036854775807) : w64 n = n := zkT ⟨h0, h1⟩


theorem z1L {σ τ ρ : Type} {body : σ → Option (Rd σ τ ρ)} (I : Nat → σ → Prop) (n : Nat) (Q : τ ⊕ ρ → Prop)
    (step : ∀ i s, i < n → I i s → (∃ s', body s = some (.next s') ∧ I (i + 1) s') ∨ (∃ r, body s = some (.ret r) ∧ Q (.inr r)) ∨ ∃ t, body s = some (.brk t) ∧ Q (.inl t))
    (last : ∀ s, I n s → (∃ r, body s = some (.ret r) ∧ Q (.inr r)) ∨ ∃ t, body s = some (.brk t) ∧ Q (.inl t)) :
    ∀ {fuel i s}, i ≤ n → n - i < fuel → I i s → ∃ o, iter body fuel s = some o ∧ Q o
  | 0, i, s, _, hf, _ => by omega
  | fuel + 1, i, s, hi, hf, hI => by
    have done : ((∃ r, body s = some (.ret r) ∧ Q (.inr r)) ∨ ∃ t, body s = some (.brk t) ∧ Q (.inl t)) → ∃ o, iter body (fuel + 1) s = some o ∧ Q o := by
      rintro (⟨r, h1, h2⟩ | ⟨t, h1, h2⟩)
      · exact ⟨_, by simp only [iter, h1], h2⟩
      · exact ⟨_, by simp only [iter, h1], h2⟩
    rcases Nat.lt_or_ge i n with h | h
    · rcases step i s h hI with ⟨s', h1, h2⟩ | h1
      · obtain ⟨o, h3, h4⟩ := z1L I n Q step last (fuel := fuel) (i := i + 1) h (by omega) h2
        exact ⟨o, by simp only [iter, h1]; exact h3, h4⟩
      · exact done h1
    · obtain rfl : i = n := by omega
      exact done (last s hI)

def sumL {α : Type} (f : α → Nat) : List α → Nat
  | [] => 0
  | x :: xs => f x + sumL f xs


def szL {α : Type} (f : α → Nat) (xs : List α) : Nat := xs.length + sumL f xs

theorem zdO {α : Type} {f : α → Nat} {x : α} : ∀ {xs : List α}, x ∈ xs → f x ≤ sumL f xs
  | y :: xs, h => by
    rcases List.mem_cons.1 h with rfl | h
    · exact Nat.le_add_right _ _
    · exact Nat.le_trans (zdO h) (Nat.le_add_left _ _)

theorem zch {α : Type} {f : α → Nat} : ∀ {xs ys : List α}, sumL f (xs ++ ys) = sumL f xs + sumL f ys
  | [], ys => by simp [sumL]
  | x :: xs, ys => by simp only [List.cons_append, sumL, zch (xs := xs), Nat.add_assoc]

theorem zev {α : Type} {f : α → Nat} {xs : List α} {i : Nat} {x : α} (h : xs[i]? = some x) : sumL f (xs.take (i + 1)) = sumL f (xs.take i) + f x := by
  rw [List.take_add_one, h, zch]
  simp [sumL]

theorem z6n {α : Type} {f : α → Nat} {xs : List α} {n : Nat} (h : szL f xs ≤ n) : xs.length ≤ n := by unfold szL at h; omega
theorem z68 {α : Type} {f : α → Nat} {xs : List α} {n : Nat} (h : szL f xs ≤ n) {x : α} (hx : x ∈ xs) : f x ≤ n := by
  have := zdO (f := f) hx
  unfold szL at h; omega
theorem zd {α : Type} {xs : List α} {i : Nat} {x : α} (h : xs[i]? = some x) : idx xs (i : Int) = some x := by
  unfold idx
  simp [h]

theorem z5v {α : Type} {xs : List α} {i : Nat} (h : i < xs.length) : ∃ x, xs[i]? = some x := ⟨_, List.getElem?_eq_getElem h⟩
theorem lt_t {a b : Int} (h : a < b) : (decide (a < b) = true) = True := by simp [h]
theorem lt_f {a b : Int} (h : ¬ a < b) : (decide (a < b) = true) = False := by simp [h]


def SzOk (n : Nat) (l : Int) (o : Option Int) : Prop := ∃ r, o = some r ∧ (r < 0 ∨ 0 ≤ r ∧ r + (n : Int) = l)

theorem SzOk.fail {n : Nat} {l : Int} : SzOk n l (some (-1)) := ⟨_, rfl, .inl (by decide)⟩
theorem SzOk.same {l : Int} (h : 0 ≤ l) : SzOk 0 l (some l) := ⟨_, rfl, .inr ⟨h, by omega⟩⟩

theorem SzOk.bind {n m k : Nat} {l : Int} {o : Option Int} {f : Int → Option Int} (h : SzOk n l o) (hk : k = n + m) (g : ∀ r, 0 ≤ r → r ≤ l → SzOk m r (f r)) :
    SzOk k l (o.bind fun r => if decide (r < 0) = true then some (-1) else f r) := by
  obtain ⟨r, rfl, h⟩ := h
  subst hk
  show SzOk _ _ (if decide (r < 0) = true then some (-1) else f r)
  rcases h with h | ⟨h1, h2⟩
  · simp only [lt_t h, if_true]; exact SzOk.fail
  · simp only [lt_f (show ¬ r < 0 by omega), if_false]
    obtain ⟨s, h3, h4⟩ := g r h1 (by omega)
    exact ⟨s, h3, h4.imp id fun ⟨h5, h6⟩ => ⟨h5, by omega⟩⟩

theorem SzOk.sub {n m k : Nat} {l : Int} {f : Int → Option Int} (h0 : 0 ≤ l) (h1 : l ≤ 1048576) (hn : n ≤ maxLen) (hk : k = n + m) (g : ∀ r, 0 ≤ r → r ≤ l → SzOk m r (f r)) :
    SzOk k l (if decide (w64 (l - (n : Int)) < 0) = true then some (-1) else f (w64 (l - (n : Int)))) := by
  have hm : maxLen = 9223372036854775807 := rfl
  rw [zf (show -9223372036854775808 ≤ l - (n : Int) by omega) (by omega)]
  subst hk
  by_cases h : l - (n : Int) < 0
  · simp only [lt_t h, if_true]; exact SzOk.fail
  · simp only [lt_f h, if_false]
    obtain ⟨s, h3, h4⟩ := g _ (show 0 ≤ l - (n : Int) by omega) (by omega)
    exact ⟨s, h3, h4.imp id fun ⟨h5, h6⟩ => ⟨h5, by omega⟩⟩

theorem SzOk.sub2 {n m k : Nat} {l z : Int} {e : Option Int} (h0 : 0 ≤ l) (h1 : l ≤ 1048576) (hn : n ≤ maxLen) (hk : k = n + m) (hz : w64 (l - (n : Int)) = z) (g : 0 ≤ z → z ≤ l → SzOk m z e) :
    SzOk k l (if decide (z < 0) = true then some (-1) else e) := by
  have hm : maxLen = 9223372036854775807 := rfl
  rw [zf (show -9223372036854775808 ≤ l - (n : Int) by omega) (by omega)] at hz
  subst hk
  by_cases h : z < 0
  · simp only [lt_t h, if_true]; exact SzOk.fail
  · simp only [lt_f h, if_false]
    obtain ⟨s, h3, h4⟩ := g (by omega) (by omega)
    exact ⟨s, h3, h4.imp id fun ⟨h5, h6⟩ => ⟨h5, by omega⟩⟩


theorem SzOk.loop {α : Type} {f : α → Nat} {xs : List α} {body : Int × Int → Option (Rd (Int × Int) Int Int)} {j : Int → Option Int} {l : Int} {fuel : Nat} (hl : xs.length ≤ maxLen) (hf : 18446744073709551616 ≤ fuel) (h0 : 0 ≤ l) (h1 : l ≤ 1048576) (hj : ∀ t, j t = some t)
    (step : ∀ (i : Nat) (x : α) (l : Int), xs[i]? = some x → 0 ≤ l → l ≤ 1048576 → body (l, i) = some (.ret (-1)) ∨ ∃ r, body (l, i) = some (.next (r, w64 (i + 1))) ∧ 0 ≤ r ∧ r + (f x : Int) = l)
    (last : ∀ l, body (l, xs.length) = some (.brk l)) : SzOk (sumL f xs) l ((iter body fuel (l, 0)).bind fun o => aft o j) := by
  have hm : maxLen = 9223372036854775807 := rfl
  obtain ⟨o, h2, h3⟩ := z1L (body := body) (fun i s => s.2 = (i : Int) ∧ 0 ≤ s.1 ∧ s.1 + (sumL f (xs.take i) : Int) = l) xs.length (fun o => match o with | .inl t => 0 ≤ t ∧ t + (sumL f xs : Int) = l | .inr r => r = -1) (by
    rintro i ⟨s, t⟩ hi ⟨h2, h3, h4⟩
    dsimp only at h2 h3 h4
    subst h2
    obtain ⟨x, hx⟩ := z5v hi
    rcases step i x s hx h3 (by omega) with h | ⟨r, h5, h6, h7⟩
    · exact .inr (.inl ⟨_, h, rfl⟩)
    · refine .inl ⟨_, h5, ?_, h6, ?_⟩
      · show w64 _ = _
        rw [zf (by omega) (by omega)]; simp
      · rw [zev hx]
        show r + _ = l
        omega) (by
    rintro ⟨s, t⟩ ⟨h2, h3, h4⟩
    dsimp only at h2 h3 h4
    subst h2
    refine .inr ⟨_, last s, h3, ?_⟩
    rwa [List.take_length] at h4) (fuel := fuel) (i := 0) (s := (l, 0)) (Nat.zero_le _) (by omega) ⟨rfl, h0, by simp [sumL]⟩
  rw [h2]
  cases o with
  | inl t => exact ⟨t, hj t, .inr h3⟩
  | inr r => exact ⟨r, rfl, .inl (by rw [show r = -1 from h3]; decide)⟩


theorem z75 {α : Type} {xs : List α} {z : α} {body : Int × List α → Option (Rd (Int × List α) (List α) (List α))} {j : List α → Option (List α)} {fuel : Nat} (hl : xs.length ≤ 1048576) (hf : 18446744073709551616 ≤ fuel) (hj : ∀ t, j t = some t)
    (step : ∀ (i : Nat) (x : α) (out : List α), xs[i]? = some x → out.length = xs.length → body (i, out) = some (.next (w64 (i + 1), out.set i x)))
    (last : ∀ out, body (xs.length, out) = some (.brk out)) :
    (if decide (0 ≤ (xs.length : Int) ∧ (xs.length : Int) ≤ 4294967296) = true then ((iter body fuel (0, List.replicate (xs.length : Int).toNat z)).bind fun o => aft o j) else none) = some xs := by
  rw [if_pos (by simp; omega)]
  obtain ⟨o, h2, h3⟩ := z1L (body := body) (fun i s => s.1 = (i : Int) ∧ s.2.length = xs.length ∧ s.2.take i = xs.take i) xs.length (fun o => o = .inl xs) (by
    rintro i ⟨s, t⟩ hi ⟨h2, h3, h4⟩
    dsimp only at h2 h3 h4
    subst h2
    obtain ⟨x, hx⟩ := z5v hi
    refine .inl ⟨_, step i x t hx h3, ?_, by simpa using h3, ?_⟩
    · show w64 _ = _
      rw [zf (by omega) (by omega)]; simp
    · show (t.set i x).take (i + 1) = _
      rw [List.take_add_one, List.take_add_one, hx, List.take_set_of_le (Nat.le_refl _), h4, List.getElem?_set_self (by omega)]) (by
    rintro ⟨s, t⟩ ⟨h2, h3, h4⟩
    dsimp only at h2 h3 h4
    subst h2
    refine .inr ⟨_, last t, ?_⟩
    rw [List.take_length, List.take_of_length_le (by omega)] at h4
    rw [h4]) (fuel := fuel) (i := 0) (s := (0, List.replicate (xs.length : Int).toNat z)) (Nat.zero_le _) (by omega) ⟨rfl, by simp, by simp⟩
  rw [h2, h3]
  exact hj xs


theorem z25 (s : ByteArray) : seqb s s = true := by simp [seqb]


theorem z66 {τ ρ : Type} {n : Nat} {body : Int → Option (Rd Int τ ρ)} {j : τ → Option ρ} {fuel : Nat} {t : τ} {b : ρ} (hl : n ≤ maxLen) (hf : 18446744073709551616 ≤ fuel) (hj : j t = some b)
    (step : ∀ (i : Nat), i < n → body i = some (.next (w64 (i + 1)))) (last : body n = some (.brk t)) : ((iter body fuel 0).bind fun o => aft o j) = some b := by
  have hm : maxLen = 9223372036854775807 := rfl
  obtain ⟨o, h2, h3⟩ := z1L (body := body) (fun i s => s = (i : Int)) n (fun o => o = .inl t) (by
    rintro i s hi rfl
    exact .inl ⟨_, step i hi, by rw [zf (by omega) (by omega)]; simp⟩) (by
    rintro s rfl
    exact .inr ⟨_, last, rfl⟩) (fuel := fuel) (i := 0) (s := 0) (Nat.zero_le _) (by omega) rfl
  rw [h2, h3]
  exact hj


end Go.E

namespace Go.E
open Go.RowKit
set_option linter.unusedVariables false

def D.Address.wf (x : D.Address) : Prop := I64 x.Machine ∧ I64 x.Kind ∧ I64 x.Index ∧ True
def D.Address.sz (x : D.Address) : Nat := 0
def D.ShardVar.wf (x : D.ShardVar) : Prop := True ∧ True ∧ D.Address.wf x.Held ∧ True
def D.ShardVar.sz (x : D.ShardVar) : Nat := 0
def D.ShardRedex.wf (x : D.ShardRedex) : Prop := D.Address.wf x.A ∧ D.Address.wf x.B ∧ True
def D.ShardRedex.sz (x : D.ShardRedex) : Nat := 0
def D.ShardCell.wf (x : D.ShardCell) : Prop := I64 x.Kind ∧ I64 x.Level ∧ I64 x.Value ∧ WfL I64 x.Data ∧ WfL D.Address.wf x.Aux ∧ True
def D.ShardCell.sz (x : D.ShardCell) : Nat := x.Data.length + (x.Aux.length + (0))
def D.Parcel.wf (x : D.Parcel) : Prop := I64 x.Kind ∧ D.ShardCell.wf x.Cell ∧ D.Address.wf x.A ∧ D.Address.wf x.B ∧ True
def D.Parcel.sz (x : D.Parcel) : Nat := D.ShardCell.sz x.Cell + (0)
def D.Shard.wf (x : D.Shard) : Prop := WfL D.ShardCell.wf x.Cells ∧ WfL D.ShardVar.wf x.Vars ∧ WfL D.ShardRedex.wf x.Redexes ∧ True
def D.Shard.sz (x : D.Shard) : Nat := szL D.ShardCell.sz x.Cells + (x.Vars.length + (x.Redexes.length + (0)))
def D.Grid.wf (x : D.Grid) : Prop := WfL D.Shard.wf x.Shards ∧ D.Address.wf x.Root ∧ True
def D.Grid.sz (x : D.Grid) : Nat := szL D.Shard.sz x.Shards + (0)
def D.Cluster.wf (x : D.Cluster) : Prop := D.Grid.wf x.Grid ∧ WfL (WfL D.Parcel.wf) x.Channels ∧ WfL (WfL I64) x.Counts ∧ WfL I64 x.Sent ∧ WfL I64 x.Got ∧ True
def D.Cluster.sz (x : D.Cluster) : Nat := D.Grid.sz x.Grid + (szL (fun x => szL D.Parcel.sz x) x.Channels + (szL (fun x => x.length) x.Counts + (x.Sent.length + (x.Got.length + (0)))))
def D.Action.wf (x : D.Action) : Prop := I64 x.Kind ∧ I64 x.A ∧ I64 x.B ∧ True
def D.Action.sz (x : D.Action) : Nat := 0
end Go.E

namespace Go.E
set_option linter.unusedVariables false
set_option linter.unusedSimpArgs false


theorem eqLoop {α τ ρ : Type} [DecidableEq α] {xs ys : List α} {body : Int → Option (Rd Int τ ρ)} {fuel : Nat} {t : τ} {v : ρ} (hl : xs.length ≤ maxLen) (hf : 18446744073709551616 ≤ fuel) (he : xs.length = ys.length)
    (step : ∀ (i : Nat) (a b : α), i < xs.length → xs[i]? = some a → ys[i]? = some b → body i = if a = b then some (.next (w64 (i + 1))) else some (.ret v)) (last : body xs.length = some (.brk t)) :
    iter body fuel 0 = some (if xs = ys then .inl t else .inr v) := by
  have hm : maxLen = 9223372036854775807 := rfl
  obtain ⟨o, h2, h3⟩ := z1L (body := body) (fun i s => s = (i : Int) ∧ xs.take i = ys.take i) xs.length (fun o => o = if xs = ys then .inl t else .inr v) (by
    rintro i s hi ⟨rfl, h⟩
    obtain ⟨a, ha⟩ := z5v hi
    obtain ⟨b, hb⟩ := z5v (he ▸ hi : i < ys.length)
    have hs := step i a b hi ha hb
    by_cases e : a = b
    · rw [if_pos e] at hs
      refine .inl ⟨_, hs, by rw [zf (by omega) (by omega)]; simp, ?_⟩
      rw [List.take_add_one, List.take_add_one, h, ha, hb, e]
    · rw [if_neg e] at hs
      refine .inr (.inl ⟨_, hs, ?_⟩)
      rw [if_neg]
      rintro rfl
      rw [ha] at hb
      exact e (Option.some.inj hb)) (by
    rintro s ⟨rfl, h⟩
    rw [List.take_length, he, List.take_length] at h
    exact .inr ⟨_, last, by rw [if_pos h]⟩) (fuel := fuel) (i := 0) (s := 0) (Nat.zero_le _) (by omega) ⟨rfl, by simp⟩
  rw [h2, h3]


theorem eqWhole {α τ : Type} [DecidableEq α] {xs ys : List α} {body : Int → Option (Rd Int τ Bool)} {j : τ → Option Bool} {fuel : Nat} {t : τ} (hl : xs.length ≤ maxLen) (hf : 18446744073709551616 ≤ fuel) (hj : j t = some true)
    (step : ∀ (i : Nat) (a b : α), i < xs.length → xs[i]? = some a → ys[i]? = some b → body i = if a = b then some (.next (w64 (i + 1))) else some (.ret false)) (last : body xs.length = some (.brk t)) :
    (if ((xs.length : Int) != (ys.length : Int)) = true then some false else ((iter body fuel 0).bind fun o => aft o j)) = some (decide (xs = ys)) := by
  by_cases he : xs.length = ys.length
  · rw [if_neg (by simp [he]), eqLoop hl hf he step last]
    by_cases h : xs = ys
    · rw [if_pos h, decide_eq_true h]; exact hj
    · rw [if_neg h, decide_eq_false h]; rfl
  · rw [if_pos (by simp; omega), decide_eq_false (fun h => he (by rw [h]))]


theorem askLoop {α τ ρ : Type} {xs : List α} {body : Int → Option (Rd Int τ ρ)} {fuel : Nat} {t : τ} {p : α → Bool} {g : Int → ρ} (hl : xs.length ≤ maxLen) (hf : 18446744073709551616 ≤ fuel)
    (step : ∀ (i : Nat) (x : α), i < xs.length → xs[i]? = some x → body i = if p x = true then some (.ret (g i)) else some (.next (w64 (i + 1)))) (last : body xs.length = some (.brk t)) :
    (xs.any p = false ∧ iter body fuel 0 = some (.inl t)) ∨ (xs.any p = true ∧ ∃ i : Nat, i < xs.length ∧ iter body fuel 0 = some (.inr (g i))) := by
  have hm : maxLen = 9223372036854775807 := rfl
  obtain ⟨o, h2, h3⟩ := z1L (body := body) (fun i s => s = (i : Int) ∧ (xs.take i).any p = false) xs.length (fun o => (xs.any p = false ∧ o = .inl t) ∨ (xs.any p = true ∧ ∃ i : Nat, i < xs.length ∧ o = .inr (g i))) (by
    rintro i s hi ⟨rfl, ha⟩
    obtain ⟨x, hx⟩ := z5v hi
    have hs := step i x hi hx
    cases hp : p x with
    | true =>
      rw [hp, if_pos rfl] at hs
      exact .inr (.inl ⟨_, hs, .inr ⟨List.any_eq_true.2 ⟨x, List.mem_of_getElem? hx, hp⟩, i, hi, rfl⟩⟩)
    | false =>
      rw [hp, if_neg (by simp)] at hs
      refine .inl ⟨_, hs, by rw [zf (by omega) (by omega)]; simp, ?_⟩
      rw [List.take_add_one, hx, List.any_append, ha]
      simp [hp]) (by
    rintro s ⟨rfl, ha⟩
    rw [List.take_length] at ha
    exact .inr ⟨_, last, .inl ⟨ha, rfl⟩⟩) (fuel := fuel) (i := 0) (s := 0) (Nat.zero_le _) (by omega) ⟨rfl, by simp⟩
  rcases h3 with ⟨h3, rfl⟩ | ⟨h3, i, hi, rfl⟩
  · exact .inl ⟨h3, h2⟩
  · exact .inr ⟨h3, i, hi, h2⟩


theorem askOne {α τ ρ : Type} {xs : List α} {body : Int → Option (Rd Int τ ρ)} {j : τ → Option ρ} {fuel : Nat} {t : τ} {p : α → Bool} {v : ρ} (hl : xs.length ≤ maxLen) (hf : 18446744073709551616 ≤ fuel)
    (step : ∀ (i : Nat) (x : α), i < xs.length → xs[i]? = some x → body i = if p x = true then some (.ret v) else some (.next (w64 (i + 1)))) (last : body xs.length = some (.brk t)) :
    ((iter body fuel 0).bind fun o => aft o j) = if xs.any p = true then some v else j t := by
  rcases askLoop (g := fun _ => v) hl hf step last with ⟨h1, h2⟩ | ⟨h1, i, _, h2⟩
  · rw [h2, h1]; rfl
  · rw [h2, h1]; rfl


theorem askIndex {α τ : Type} {xs : List α} {body : Int → Option (Rd Int τ Int)} {j : τ → Option Int} {fuel : Nat} {t : τ} {p : α → Bool} (hl : xs.length ≤ maxLen) (hf : 18446744073709551616 ≤ fuel) (hj : j t = some (-1))
    (step : ∀ (i : Nat) (x : α), i < xs.length → xs[i]? = some x → body i = if p x = true then some (.ret i) else some (.next (w64 (i + 1)))) (last : body xs.length = some (.brk t)) :
    ∃ r, ((iter body fuel 0).bind fun o => aft o j) = some r ∧ decide (r ≥ 0) = xs.any p := by
  rcases askLoop (g := fun i => i) hl hf step last with ⟨h1, h2⟩ | ⟨h1, i, _, h2⟩
  · exact ⟨-1, by rw [h2]; exact hj, by rw [h1]; decide⟩
  · exact ⟨i, by rw [h2]; rfl, by rw [h1]; exact decide_eq_true (by omega)⟩
end Go.E
namespace Go.E

end Go.E

namespace Go.E
open Go.RowKit Go.Proofs
set_option linter.unusedSimpArgs false
set_option linter.unusedVariables false

theorem z7i {fuel : Nat} {a l h : Int} : zX fuel a l h = some (decide (l ≤ a ∧ a ≤ h)) := by
  unfold zX
  by_cases h1 : l ≤ a
  · rw [if_pos (decide_eq_true (by omega))]; simp [h1]
  · rw [if_neg (by simp; omega)]; simp [h1]

def portsN (k f : Int) : Int :=
  if k = 9 then (if 0 ≤ f ∧ f ≤ 3 then 1 + f else 0) else if f ≠ 0 then 0 else if k = 1 ∨ k = 5 ∨ k = 6 ∨ k = 12 then 1 else
  if k = 8 ∨ k = 10 ∨ k = 11 then 2 else if k = 2 ∨ k = 3 ∨ k = 4 ∨ k = 7 then 3 else 0
def levelN (k : Int) : Bool := decide (2 ≤ k ∧ k ≤ 12 ∧ k ≠ 5 ∧ k ≠ 6)
def allowN (k l : Int) : Bool := decide (1 ≤ k ∧ k ≤ 12) && (decide (l = 0) || (levelN k && decide (0 ≤ l ∧ l ≤ 8)))
def defN (n : Int) : Bool := decide (0 ≤ n ∧ n ≤ 23)
def contentN (k v : Int) (d : List Int) : Bool :=
  if k = 6 then decide (d.length = 0 ∧ -2147483648 ≤ v ∧ v ≤ 2147483647) else
  if k = 7 then decide (d.length = 0 ∧ 1 ≤ v ∧ v ≤ 6) else
  if k = 8 then decide (d.length = 1 ∧ 1 ≤ v ∧ v ≤ 6) && d.all (fun n => decide (-2147483648 ≤ n ∧ n ≤ 2147483647)) else
  if k = 9 then decide (d.length = 0 ∧ 0 ≤ v ∧ v ≤ 3) else
  if k = 10 then decide (v = 0 ∧ 1 ≤ d.length ∧ d.length ≤ 4) && d.all defN else
  if k = 11 then decide (v = 0 ∧ d.length = 2) && d.all defN else
  if k = 12 then decide (d.length = 0 ∧ 0 ≤ v ∧ v ≤ 23) else decide (v = 0 ∧ d.length = 0)
def agentN (k l v : Int) (d : List Int) (n : Nat) : Bool := decide (portsN k (if k = 9 then n - 1 else 0) = n) && (allowN k l && contentN k v d)

theorem kinds (k : Int) : (k = 1 ∨ k = 2 ∨ k = 3 ∨ k = 4 ∨ k = 5 ∨ k = 6 ∨ k = 7 ∨ k = 8 ∨ k = 9 ∨ k = 10 ∨ k = 11 ∨ k = 12) ∨ ¬ (1 ≤ k ∧ k ≤ 12) := by omega
theorem zg3 {k : Int} (h : ¬ (1 ≤ k ∧ k ≤ 12)) (c : Int) (h1 : 1 ≤ c ∧ c ≤ 12) : (k == c) = false := by
  rw [beq_eq_false_iff_ne]; rintro rfl; exact h h1

theorem zdw {fuel : Nat} {k f : Int} : z4L fuel k f = some (portsN k f) := by
  by_cases h9 : k = 9
  · subst h9
    unfold z4L portsN
    simp only [z7i, Option.bind_some, beq_self_eq_true, if_true, decide_eq_true_eq]
    split
    · rw [zf (by omega) (by omega)]
    · rfl
  · by_cases hf : f = 0
    · subst hf
      rcases kinds k with h | h
      · rcases h with rfl | rfl | rfl | rfl | rfl | rfl | rfl | rfl | rfl | rfl | rfl | rfl <;> first | exact absurd rfl h9 | rfl
      · simp [z4L, z5h, z5g, z5f, z5e, z5d, z5c, z5b, z5a, portsN, zg3 h, h9]
        omega
    · unfold z4L portsN
      rw [if_neg (by simpa using h9), if_pos (by simpa using hf), if_neg h9, if_pos hf]
theorem z9B {fuel : Nat} {k : Int} : z5L fuel k = some (decide (1 ≤ k ∧ k ≤ 12)) := by
  unfold z5L
  by_cases h1 : 1 ≤ k
  · rw [if_pos (decide_eq_true (by omega))]; simp [h1]
  · rw [if_neg (by simp; omega)]; simp [h1]
theorem zgS {fuel : Nat} {k f : Int} : z65 fuel k f = some (portsN k f) := by
  by_cases h9 : k = 9
  · subst h9
    unfold z65 portsN z2F
    simp only [z9B, Option.bind_some, beq_self_eq_true, if_true]
    by_cases h0 : 0 ≤ f
    · by_cases h3 : f ≤ 3
      · rw [if_pos (decide_eq_true (by omega)), if_pos (decide_eq_true h3), if_pos ⟨h0, h3⟩, zf (by omega) (by omega), Int.add_comm]
      · rw [if_pos (decide_eq_true (by omega)), if_neg (by simpa using h3)]; simp [z1C, h3]
    · rw [if_neg (by simp; omega), if_neg Bool.false_ne_true]; simp [z1C, h0]
  · unfold z65 z2F
    rw [if_neg (by simpa using h9), if_neg Bool.false_ne_true, z9B, Option.bind_some]
    rcases kinds k with h | h
    · by_cases hf : f = 0
      · subst hf
        rcases h with rfl | rfl | rfl | rfl | rfl | rfl | rfl | rfl | rfl | rfl | rfl | rfl <;> first | exact absurd rfl h9 | rfl
      · rw [if_neg (by simp; omega), if_neg (by simpa using h9), show (f != 0) = true by simpa using hf]
        simp [z1C, portsN, h9, hf]
    · rw [if_pos (by simp; omega)]
      simp [z1C, portsN, h9]
      omega

theorem zgV {fuel : Nat} {k : Int} : z6v fuel k = some (levelN k) := by
  rcases kinds k with h | h
  · rcases h with rfl | rfl | rfl | rfl | rfl | rfl | rfl | rfl | rfl | rfl | rfl | rfl <;> rfl
  · simp [z6v, z4A, z4z, z4y, z4x, z4w, z4v, z4u, z4t, levelN, zg3 h]
    omega
theorem zgW {fuel : Nat} {k : Int} : z6D fuel k = some (levelN k) := by
  unfold z6D
  rw [z9B, Option.bind_some]
  rcases kinds k with h | h
  · rcases h with rfl | rfl | rfl | rfl | rfl | rfl | rfl | rfl | rfl | rfl | rfl | rfl <;> rfl
  · rw [if_neg (by simpa using h)]
    simp [levelN]; omega
theorem zh7 {fuel : Nat} {k l : Int} : z6t fuel k l = some (allowN k l) := by
  unfold z6t z82 allowN
  simp only [zgV, z7i, Option.bind_some]
  cases hl : levelN k with
  | true =>
    have : 1 ≤ k ∧ k ≤ 12 := by unfold levelN at hl; simp at hl; omega
    simp [this]; omega
  | false => by_cases h : 1 ≤ k ∧ k ≤ 12 <;> by_cases h0 : l = 0 <;> simp [h, h0]
theorem zh8 {fuel : Nat} {k l : Int} : z5Y fuel k l = some (allowN k l) := by
  unfold z5Y allowN
  have hL : z70 fuel l = some (decide (0 ≤ l ∧ l ≤ 8)) := by
    unfold z70
    by_cases h1 : 0 ≤ l
    · rw [if_pos (decide_eq_true (by omega))]; simp [h1]
    · rw [if_neg (by simp; omega)]; simp [h1]
  simp only [z9B, zgW, hL, Option.bind_some]
  by_cases h : 1 ≤ k ∧ k ≤ 12
  · by_cases h0 : l = 0
    · simp [h, h0]
    · cases hl : levelN k <;> simp [h, h0]
  · simp [h]

theorem zgo {fuel : Nat} {n : Int} : z6L fuel n = some (defN n) := by
  unfold z6L defN; rw [z7i]; rfl
theorem zgp {fuel : Nat} {n : Int} : z3G fuel n = some (defN n) := by
  unfold z3G defN
  by_cases h1 : 0 ≤ n
  · rw [if_pos (decide_eq_true (by omega))]; simp [h1]; omega
  · rw [if_neg (by simp; omega)]; simp [h1]
theorem zjZ {fuel : Nat} {n : Int} : z7o fuel n = some (decide (-2147483648 ≤ n ∧ n ≤ 2147483647)) := by
  unfold z7o
  by_cases h1 : -2147483648 ≤ n
  · rw [if_pos (decide_eq_true (by omega))]; simp [h1]
  · rw [if_neg (by simp; omega)]; simp [h1]
theorem zhq {fuel : Nat} {n : Int} : z3F fuel n = some (decide (1 ≤ n ∧ n ≤ 6)) := by
  unfold z3F
  by_cases h1 : 1 ≤ n
  · rw [if_pos (decide_eq_true (by omega))]; simp [h1]
  · rw [if_neg (by simp; omega)]; simp [h1]
theorem z9f {α : Type} {p : α → Bool} : ∀ {xs : List α}, xs.any (fun x => !p x) = !xs.all p
  | [] => rfl
  | x :: xs => by simp [z9f (p := p) (xs := xs)]
theorem zjd {fuel : Nat} {a : D.Agent} (hf : 18446744073709551616 ≤ fuel) (hl : a.Data.length ≤ maxLen) :
    ((iter (z3e fuel a) fuel 0).bind fun o => aft o (z6S fuel)) = some (a.Data.all defN) := by
  rw [askOne (xs := a.Data) (p := fun n => !defN n) (v := false) (t := ()) hl hf (fun i x hi hx => by
    unfold z3e
    simp only [zd hx, zgo, lt_t (show (i : Int) < a.Data.length by omega), if_true, Option.bind_some]) (by simp [z3e]), z9f]
  cases a.Data.all defN <;> rfl
theorem zbH {fuel : Nat} {p : Int → Bool} {f : Int → Option Bool} {xs : List Int} (hf : 18446744073709551616 ≤ fuel) (hl : xs.length ≤ maxLen) (h : ∀ n, f n = some (p n)) :
    zM fuel xs f = some (xs.any p) := by
  unfold zM z1J
  obtain ⟨r, h1, h2⟩ := askIndex (xs := xs) (p := p) (body := z14 fuel xs f) (j := z2j fuel) (t := ()) hl hf rfl (fun i x hi hx => by
    simp only [z14, zd hx, h, lt_t (show (i : Int) < xs.length by omega), if_true, Option.bind_some]) (by simp [z14])
  rw [h1, Option.bind_some, h2]

theorem zfh {fuel : Nat} {a : D.Agent} (hf : 18446744073709551616 ≤ fuel) (hl : a.Data.length ≤ maxLen) : z13 fuel a = some (contentN a.Kind a.Value a.Data) := by
  have hd := zjd (a := a) hf hl
  obtain ⟨k, l, v, d, ps⟩ := a
  dsimp only at hl hd ⊢
  by_cases h6 : k = 6
  · subst h6
    simp only [z13, contentN, z7i, Option.bind_some, beq_self_eq_true, if_true]
    by_cases h : d.length = 0 <;> simp [h] <;> omega
  by_cases h7 : k = 7
  · subst h7
    simp only [z13, contentN, z7i, Option.bind_some, beq_self_eq_true, if_true]
    by_cases h : d.length = 0 <;> simp [h] <;> omega
  by_cases h8 : k = 8
  · subst h8
    simp only [z13, contentN, z7i, Option.bind_some, beq_self_eq_true, if_true]
    match d with
    | [] => simp
    | [n] => by_cases h : 1 ≤ v ∧ v ≤ 6 <;> simp [h, idx]
    | _ :: _ :: _ => simp; omega
  by_cases h9 : k = 9
  · subst h9
    simp only [z13, contentN, z7i, Option.bind_some, beq_self_eq_true, if_true]
    by_cases h : d.length = 0 <;> simp [h] <;> omega
  by_cases h12 : k = 12
  · subst h12
    simp only [z13, contentN, z7i, zgo, Option.bind_some, beq_self_eq_true, if_true]
    by_cases h : d.length = 0 <;> simp [h, defN] <;> omega
  by_cases h10 : k = 10
  · subst h10
    simp only [z13, z1G, zZ, contentN, z7i, Option.bind_some, beq_self_eq_true, if_true, hd]
    by_cases h : v = 0
    · by_cases h1 : 1 ≤ d.length ∧ d.length ≤ 4
      · have h2 : (1 : Int) ≤ d.length ∧ (d.length : Int) ≤ 4 := by omega
        simp [h, h1, h2]
      · have h2 : ¬ ((1 : Int) ≤ d.length ∧ (d.length : Int) ≤ 4) := by omega
        simp [h, h1, h2]
    · simp [h]
  by_cases h11 : k = 11
  · subst h11
    simp only [z13, z1G, zZ, contentN, z7i, Option.bind_some, beq_self_eq_true, if_true, hd]
    by_cases h : v = 0
    · by_cases h1 : d.length = 2
      · simp [h, h1]
      · have h2 : ¬ ((d.length : Int) = 2) := by omega
        simp [h, h1, h2]
    · simp [h]
  · simp only [z13, z1G, contentN, h6, h7, h8, h9, h10, h11, h12, if_false]
    by_cases h : v = 0 <;> by_cases h1 : d.length = 0 <;> simp [h, h1, h6, h7, h8, h9, h10, h11, h12]

theorem zfi {fuel : Nat} {a : D.Agent} (hf : 18446744073709551616 ≤ fuel) (hl : a.Data.length ≤ maxLen) : z1H fuel a false = some (contentN a.Kind a.Value a.Data) := by
  unfold z1H
  rw [if_neg Bool.false_ne_true, zbH (p := fun n => !defN n) hf hl (fun n => by unfold z4Y; rw [zgp]; rfl), Option.bind_some, z9f, Bool.not_not]
  obtain ⟨k, l, v, d, ps⟩ := a
  dsimp only at hl ⊢
  simp only [z3p, z3o, z3n, z3m, z3k, z2s, z3j, z3i, z2N, zjZ, zhq, zgp, Option.bind_some]
  by_cases h6 : k = 6
  · subst h6
    simp only [contentN, beq_self_eq_true, if_true]
    by_cases h : d.length = 0 <;> by_cases h1 : -2147483648 ≤ v ∧ v ≤ 2147483647 <;> simp [h, h1]
  by_cases h7 : k = 7
  · subst h7
    simp only [contentN, beq_self_eq_true, if_true]
    by_cases h : d.length = 0 <;> by_cases h1 : 1 ≤ v ∧ v ≤ 6 <;> simp [h, h1]
  by_cases h8 : k = 8
  · subst h8
    simp only [contentN, beq_self_eq_true, if_true]
    match d with
    | [] => simp
    | [n] => by_cases h : 1 ≤ v ∧ v ≤ 6 <;> simp [h, idx]
    | _ :: _ :: _ => simp; omega
  by_cases h9 : k = 9
  · subst h9
    simp only [contentN, beq_self_eq_true, if_true]
    by_cases h1 : 0 ≤ v
    · by_cases h : d.length = 0 <;> by_cases h2 : v < 4 <;> simp [h, h1, h2] <;> omega
    · simp [h1]
  by_cases h12 : k = 12
  · subst h12
    simp only [contentN, beq_self_eq_true, if_true]
    by_cases h : d.length = 0 <;> by_cases h1 : 0 ≤ v ∧ v ≤ 23 <;> simp [h, h1, defN]
  by_cases h10 : k = 10
  · subst h10
    simp only [contentN, beq_self_eq_true, if_true]
    by_cases h : v = 0
    · by_cases h1 : 1 ≤ d.length
      · by_cases h2 : d.length ≤ 4
        · have h3 : (1 : Int) ≤ d.length := by omega
          have h4 : (d.length : Int) ≤ 4 := by omega
          simp [h, h1, h2, h3, h4]
        · have h3 : (1 : Int) ≤ d.length := by omega
          have h4 : ¬ (d.length : Int) ≤ 4 := by omega
          simp [h, h1, h2, h3, h4]
      · have h3 : ¬ (1 : Int) ≤ d.length := by omega
        simp [h, h1, h3]
    · by_cases h1 : (1 : Int) ≤ d.length <;> by_cases h2 : (d.length : Int) ≤ 4 <;> simp [h, h1, h2]
  by_cases h11 : k = 11
  · subst h11
    simp only [contentN, beq_self_eq_true, if_true]
    by_cases h : v = 0 <;> by_cases h1 : d.length = 2
    · simp [h, h1]
    · have h2 : ¬ ((d.length : Int) = 2) := by omega
      simp [h, h1, h2]
    · simp [h, h1]
    · have h2 : ¬ ((d.length : Int) = 2) := by omega
      simp [h, h1, h2]
  · simp only [contentN, h6, h7, h8, h9, h10, h11, h12, if_false]
    by_cases h : v = 0 <;> by_cases h1 : d.length = 0 <;> simp [h, h1, h6, h7, h8, h9, h10, h11, h12]

theorem zao {n : Nat} (hn : n ≤ maxLen) : w64 ((n : Int) - 1) = (n : Int) - 1 := by
  have : maxLen = 9223372036854775807 := rfl
  exact zf (by omega) (by omega)
theorem zha {fuel : Nat} {a : D.Agent} (hf : 18446744073709551616 ≤ fuel) (hl : a.Data.length ≤ maxLen) (h1 : 1 ≤ a.Ports.length) (h2 : a.Ports.length ≤ maxLen) :
    z2E fuel a = some (agentN a.Kind a.Level a.Value a.Data a.Ports.length) := by
  unfold z2E agentN
  rw [if_neg (by simp; intro h; rw [h] at h1; exact absurd h1 (by decide))]
  have hF : z6B fuel a.Kind (a.Ports.length : Int) = some (if a.Kind = 9 then (a.Ports.length : Int) - 1 else 0) := by
    unfold z6B
    by_cases h : a.Kind = 9
    · rw [if_pos (by simpa using h), if_pos h, zao h2]
    · rw [if_neg (by simpa using h), if_neg h]
  rw [hF, Option.bind_some, zgS, Option.bind_some, zh8, Option.bind_some]
  by_cases hp : portsN a.Kind (if a.Kind = 9 then (a.Ports.length : Int) - 1 else 0) = (a.Ports.length : Int)
  · rw [if_neg (by simp [hp]), decide_eq_true hp, Bool.true_and]
    cases allowN a.Kind a.Level with
    | false => rfl
    | true => rw [Bool.true_and]; exact zfi hf hl
  · rw [if_pos (by simpa using hp), decide_eq_false hp]; rfl
theorem zh9 {fuel : Nat} {a : D.Agent} (hf : 18446744073709551616 ≤ fuel) (hl : a.Data.length ≤ maxLen) (h1 : 1 ≤ a.Ports.length) (h2 : a.Ports.length ≤ maxLen) :
    z3U fuel a = some (agentN a.Kind a.Level a.Value a.Data a.Ports.length) := by
  unfold z3U agentN
  have hF : z38 fuel a = some (if a.Kind = 9 then (a.Ports.length : Int) - 1 else 0) := by
    unfold z38
    by_cases h : a.Kind = 9
    · rw [if_pos (by simpa using h), if_pos h, zao h2]
    · rw [if_neg (by simpa using h), if_neg h]
  rw [hF, Option.bind_some, zdw, Option.bind_some, zh7, Option.bind_some, zfh hf hl]
  by_cases hp : portsN a.Kind (if a.Kind = 9 then (a.Ports.length : Int) - 1 else 0) = (a.Ports.length : Int)
  · rw [hp, if_pos (decide_eq_true (by omega)), if_pos (by simp), decide_eq_true rfl, Bool.true_and]
    cases allowN a.Kind a.Level <;> rfl
  · rw [decide_eq_false hp]
    generalize portsN a.Kind (if a.Kind = 9 then (a.Ports.length : Int) - 1 else 0) = r at hp ⊢
    by_cases h : r > 0
    · rw [if_pos (decide_eq_true h), if_neg (by simpa using fun h => hp h.symm)]; rfl
    · rw [if_neg (by simpa using h)]; rfl



def agN (a : D.Agent) : Bool := decide (a.Ports.length ≠ 0) && agentN a.Kind a.Level a.Value a.Data a.Ports.length
theorem zkS {fuel : Nat} {a : D.Agent} (hf : 18446744073709551616 ≤ fuel) (hl : a.Data.length ≤ maxLen) (h2 : a.Ports.length ≤ maxLen) : z2E fuel a = some (agN a) := by
  by_cases h : a.Ports.length = 0
  · unfold z2E agN
    rw [if_pos (by simp [h]), show decide (a.Ports.length ≠ 0) = false by simp [h], Bool.false_and]
    rfl
  · rw [zha hf hl (by omega) h2]
    unfold agN
    rw [decide_eq_true (by simpa using h), Bool.true_and]
theorem zkR {fuel : Nat} {a : D.Agent} (hf : 18446744073709551616 ≤ fuel) (hl : a.Data.length ≤ maxLen) (h2 : a.Ports.length ≤ maxLen) : z3U fuel a = some (agN a) := by
  by_cases h : a.Ports.length = 0
  · unfold z3U agN
    have hF : z38 fuel a = some (if a.Kind = 9 then (a.Ports.length : Int) - 1 else 0) := by
      unfold z38
      by_cases h : a.Kind = 9
      · rw [if_pos (by simpa using h), if_pos h, zao h2]
      · rw [if_neg (by simpa using h), if_neg h]
    rw [hF, Option.bind_some, zdw, Option.bind_some, show decide (a.Ports.length ≠ 0) = false by simp [h], Bool.false_and]
    generalize portsN a.Kind (if a.Kind = 9 then (a.Ports.length : Int) - 1 else 0) = r
    by_cases hr : r > 0
    · rw [if_pos (decide_eq_true hr), if_neg (by rw [h]; simp; omega)]
    · rw [if_neg (by simpa using hr)]
  · rw [zh9 hf hl (by omega) h2]
    unfold agN
    rw [decide_eq_true (by simpa using h), Bool.true_and]
end Go.E

namespace Go.E
open Go.RowKit Go.Proofs
set_option linter.unusedSimpArgs false
set_option linter.unusedVariables false


inductive Rnd (σ ρ : Type) where
  | go (s : σ)
  | back (r : ρ)
def foldR {α σ ρ : Type} (f : Nat → σ → α → Rnd σ ρ) : Nat → List α → σ → Rnd σ ρ
  | _, [], s => .go s
  | i, x :: xs, s => match f i s x with
    | .go s' => foldR f (i + 1) xs s'
    | .back r => .back r
theorem loopR {α σ S τ ρ : Type} {xs : List α} {body : S → Option (Rd S τ ρ)} {mk : Int → σ → S} {out : σ → τ} {f : Nat → σ → α → Rnd σ ρ} {J : Nat → σ → Prop} {s0 : σ} {fuel : Nat}
    (hl : xs.length ≤ maxLen) (hf : 18446744073709551616 ≤ fuel) (hJ : J 0 s0)
    (step : ∀ (i : Nat) s x, i < xs.length → xs[i]? = some x → J i s → match f i s x with
      | .go s' => body (mk i s) = some (.next (mk (w64 (i + 1)) s')) ∧ J (i + 1) s'
      | .back r => body (mk i s) = some (.ret r))
    (last : ∀ s, J xs.length s → body (mk xs.length s) = some (.brk (out s))) :
    (match foldR f 0 xs s0 with
      | .go s => iter body fuel (mk 0 s0) = some (.inl (out s)) ∧ J xs.length s
      | .back r => iter body fuel (mk 0 s0) = some (.inr r)) := by
  have hm : maxLen = 9223372036854775807 := rfl
  have key : ∀ (ys : List α) (i : Nat) (s : σ) (fu : Nat), i + ys.length = xs.length → (∀ j, ys[j]? = xs[i + j]?) → ys.length < fu → J i s → (match foldR f i ys s with
      | .go s' => iter body fu (mk i s) = some (.inl (out s')) ∧ J xs.length s'
      | .back r => iter body fu (mk i s) = some (.inr r)) := by
    intro ys
    induction ys with
    | nil =>
      intro i s fu hi _ hfu hj
      obtain ⟨fu, rfl⟩ : ∃ f', fu = f' + 1 := ⟨fu - 1, by simp at hfu; omega⟩
      simp only [List.length_nil, Nat.add_zero] at hi
      subst hi
      simp only [foldR, iter, last s hj]
      exact ⟨trivial, hj⟩
    | cons y ys ih =>
      intro i s fu hi hat hfu hj
      obtain ⟨fu, rfl⟩ : ∃ f', fu = f' + 1 := ⟨fu - 1, by simp at hfu; omega⟩
      simp only [List.length_cons] at hi hfu
      have hx : xs[i]? = some y := by have := hat 0; simpa using this.symm
      have hs := step i s y (by omega) hx hj
      unfold foldR
      cases hfs : f i s y with
      | go s' =>
        rw [hfs] at hs
        have h2 := ih (i + 1) s' fu (by omega) (fun j => by have := hat (j + 1); rw [show i + 1 + j = i + (j + 1) by omega]; simpa using this) (by omega) hs.2
        simp only [iter, hs.1]
        rw [zf (by omega) (by omega)]
        exact_mod_cast h2
      | back r =>
        rw [hfs] at hs
        simp only [iter, hs]
  have := key xs 0 s0 fuel (by simp) (by simp) (by omega) hJ
  exact_mod_cast this

theorem z6m {α : Type} {xs : List α} {p : Nat → α → Bool} {k : Nat} : ((xs.zipIdx k).all fun y => p y.2 y.1) = true ↔ ∀ i x, xs[i]? = some x → p (k + i) x = true := by
  rw [List.all_eq_true]
  constructor
  · intro h i x hx
    have : (x, k + i) ∈ xs.zipIdx k := by
      rw [List.mem_zipIdx_iff_le_and_getElem?_sub]
      exact ⟨Nat.le_add_right _ _, by simpa using hx⟩
    exact h _ this
  · rintro h ⟨x, j⟩ hj
    rw [List.mem_zipIdx_iff_le_and_getElem?_sub] at hj
    have := h (j - k) x hj.2
    rwa [show k + (j - k) = j by have := hj.1; simp at this; omega] at this

theorem zeN {α ρ : Type} {p : Nat → α → Bool} {v : ρ} : ∀ {xs : List α} {k : Nat}, foldR (fun i (_ : Unit) x => if p i x = true then Rnd.go () else Rnd.back v) k xs () = if ((xs.zipIdx k).all fun y => p y.2 y.1) = true then Rnd.go () else Rnd.back v
  | [], k => by simp [foldR]
  | x :: xs, k => by
    unfold foldR
    cases h : p k x with
    | true => simp only [if_true, zeN (xs := xs), List.zipIdx_cons, List.all_cons, h, Bool.true_and]
    | false => simp [h]


theorem allLoop {α τ ρ : Type} {xs : List α} {body : Int → Option (Rd Int τ ρ)} {p : Nat → α → Bool} {t : τ} {v : ρ} {fuel : Nat} (hl : xs.length ≤ maxLen) (hf : 18446744073709551616 ≤ fuel)
    (step : ∀ (i : Nat) x, i < xs.length → xs[i]? = some x → body i = if p i x = true then some (.next (w64 (i + 1))) else some (.ret v)) (last : body xs.length = some (.brk t)) :
    iter body fuel 0 = some (if (xs.zipIdx.all fun y => p y.2 y.1) = true then .inl t else .inr v) := by
  have h := loopR (xs := xs) (body := body) (mk := fun i _ => i) (out := fun (_ : Unit) => t) (f := fun i (_ : Unit) x => if p i x = true then Rnd.go () else Rnd.back v) (J := fun _ _ => True) (s0 := ()) hl hf trivial
    (fun i s x hi hx _ => by
      have := step i x hi hx
      cases hp : p i x with
      | true => rw [hp] at this; exact ⟨this, trivial⟩
      | false => rw [hp] at this; simpa using this) (fun s _ => last)
  rw [zeN] at h
  cases hp : (xs.zipIdx.all fun y => p y.2 y.1) with
  | true => rw [hp] at h; exact h.1
  | false => rw [hp] at h; exact h

theorem zaK {α : Type} {xs : List α} {i : Nat} {x : α} (h : xs[i]? = some x) : (xs.take (i + 1)).zipIdx = (xs.take i).zipIdx ++ [(x, i)] := by
  have hl := (List.getElem?_eq_some_iff.1 h).1
  rw [List.take_add_one, h, List.zipIdx_append]
  simp [Nat.min_eq_left (Nat.le_of_lt hl)]

theorem sumLoop {α S τ ρ : Type} {xs : List α} {body : S → Option (Rd S τ ρ)} {mk : Int → Int → S} {out : Int → τ} {f : α → Nat} {c0 : Int} {fuel : Nat} (hl : xs.length ≤ 1048576) (hf : 18446744073709551616 ≤ fuel)
    (step : ∀ (i : Nat) x, xs[i]? = some x → body (mk i (c0 + (sumL f (xs.take i) : Nat))) = some (.next (mk (w64 (i + 1)) (c0 + (sumL f (xs.take i) : Nat) + (f x : Nat)))))
    (last : ∀ c, body (mk xs.length c) = some (.brk (out c))) :
    iter body fuel (mk 0 c0) = some (.inl (out (c0 + (sumL f xs : Nat)))) := by
  obtain ⟨o, h1, h2⟩ := z1L (body := body) (fun k s => s = mk k (c0 + (sumL f (xs.take k) : Nat))) xs.length (fun o => o = .inl (out (c0 + (sumL f xs : Nat)))) (by
    rintro k s hk rfl
    obtain ⟨x, hx⟩ := z5v hk
    refine .inl ⟨_, step k x hx, ?_⟩
    rw [zf (by omega) (by omega), zev hx]
    congr 1
    omega) (by
    rintro s rfl
    rw [List.take_length]
    exact .inr ⟨_, last _, rfl⟩) (fuel := fuel) (i := 0) (s := mk 0 c0) (Nat.zero_le _) (by omega) (by simp [sumL])
  rw [h1, h2]

theorem z5w {α : Type} {xs : List α} {p : α → Bool} : (xs.zipIdx.all fun y => p y.1) = xs.all p := by
  rw [Bool.eq_iff_iff, z6m (p := fun _ x => p x), List.all_eq_true]
  constructor
  · intro h x hx
    obtain ⟨i, hi⟩ := List.getElem?_of_mem hx
    exact h i x hi
  · exact fun h i x hi => h x (List.mem_of_getElem? hi)
end Go.E

namespace Go.E
open Go.RowKit Go.Proofs
set_option linter.unusedSimpArgs false
set_option linter.unusedVariables false

def agentOf (c : D.ShardCell) : D.Agent := ⟨c.Kind, c.Level, c.Value, c.Data, List.replicate (c.Aux.length + 1) ⟨0, 0⟩⟩
def shCellN (c : D.ShardCell) : Bool := if c.Kind = 0 then decide (c.Level = 0 ∧ c.Value = 0 ∧ c.Data = [] ∧ c.Aux = []) else decide (c.Kind ≠ 1) && agN (agentOf c)
def noneN : D.Address := ⟨0, 0, 0⟩
def shVarN (v : D.ShardVar) : Bool := (v.Used || !v.Full) && (v.Full || decide (v.Held = noneN))
def shardN (s : D.Shard) : Bool := decide (s.Cells.length ≤ 400 ∧ s.Vars.length ≤ 400 ∧ s.Redexes.length ≤ 400) && (s.Cells.all shCellN && s.Vars.all shVarN)
def piecesN (g : D.Grid) : Bool := decide (1 ≤ g.Shards.length ∧ g.Shards.length ≤ 4) && g.Shards.all shardN

theorem zjF {k f : Int} : portsN k f ≤ 4 := by
  unfold portsN
  split
  · split <;> omega
  · split
    · omega
    · split
      · omega
      · split
        · omega
        · split <;> omega
theorem zkX {a : D.Agent} (h : agN a = true) : a.Ports.length ≤ 4 := by
  unfold agN agentN at h
  rw [Bool.and_eq_true, Bool.and_eq_true, decide_eq_true_eq, decide_eq_true_eq] at h
  have h2 := h.2.1
  have := zjF (k := a.Kind) (f := if a.Kind = 9 then (a.Ports.length : Int) - 1 else 0)
  rw [h2] at this
  omega
theorem zfZ {c : D.ShardCell} (h : shCellN c = true) : c.Aux.length ≤ 3 := by
  unfold shCellN at h
  split at h
  · rw [decide_eq_true_eq] at h
    rw [h.2.2.2]; simp
  · rw [Bool.and_eq_true] at h
    have := zkX h.2
    unfold agentOf at this
    simp only [List.length_replicate] at this
    omega
theorem zcY {a b : D.Address} : (((a.Machine : Int) == b.Machine) && (((a.Kind : Int) == b.Kind) && (((a.Index : Int) == b.Index) && true))) = decide (a = b) := by
  obtain ⟨a1, a2, a3⟩ := a
  obtain ⟨b1, b2, b3⟩ := b
  by_cases h1 : a1 = b1 <;> by_cases h2 : a2 = b2 <;> by_cases h3 : a3 = b3 <;> simp [h1, h2, h3]
theorem zg0 {fuel : Nat} {c : D.ShardCell} (hs : c.sz ≤ 1048576) : z59 fuel c = some (agentOf c) := by
  unfold D.ShardCell.sz at hs
  unfold z59 z8v agentOf
  rw [if_pos (by simp; omega), Option.bind_some, zf (by omega) (by omega), if_pos (by simp; omega)]
  have : ((c.Aux.length : Int) + 1).toNat = c.Aux.length + 1 := by omega
  rw [this]
  rfl
theorem zdR {fuel : Nat} {c : D.ShardCell} (hs : c.sz ≤ 1048576) : z5r fuel c = some (agentOf c) := by
  unfold D.ShardCell.sz at hs
  unfold z5r z2x agentOf
  rw [if_pos (by simp; omega), Option.bind_some, zf (by omega) (by omega), if_pos (by simp; omega)]
  have : ((c.Aux.length : Int) + 1).toNat = c.Aux.length + 1 := by omega
  rw [this]
  rfl
theorem zfk {fuel : Nat} {c : D.ShardCell} (hf : 18446744073709551616 ≤ fuel) (hs : c.sz ≤ 1048576) : z4h fuel c = some (shCellN c) := by
  have hm : maxLen = 9223372036854775807 := rfl
  unfold z4h
  rw [zg0 hs, Option.bind_some]
  have hs2 := hs
  unfold D.ShardCell.sz at hs2
  by_cases k0 : c.Kind = 0
  · unfold shCellN
    by_cases h1 : c.Level = 0 <;> by_cases h2 : c.Value = 0 <;> by_cases h3 : c.Data = [] <;> by_cases h4 : c.Aux = [] <;> simp [k0, h1, h2, h3, h4]
  · rw [if_neg (by simpa using k0)]
    by_cases ha : c.Aux.length ≤ 3
    · rw [if_neg (by simp; omega)]
      unfold shCellN
      rw [if_neg k0]
      by_cases k1 : c.Kind = 1
      · rw [if_neg (by simp [agentOf, k1])]; simp [k1]
      · rw [if_pos (by simpa [agentOf] using k1), show (⟨(agentOf c).Kind, (agentOf c).Level, (agentOf c).Value, (agentOf c).Data, (agentOf c).Ports⟩ : D.Agent) = agentOf c from rfl, zkR hf (by unfold agentOf; dsimp only; omega) (by unfold agentOf; simp only [List.length_replicate]; omega)]
        simp [k1]
    · rw [if_pos (by simp; omega)]
      cases hh : shCellN c with
      | false => rfl
      | true => exact absurd (zfZ hh) ha
theorem zdE {fuel : Nat} {xs ys : List Int} (hf : 18446744073709551616 ≤ fuel) (hl : xs.length ≤ maxLen) : z1E fuel xs ys = some (decide (xs = ys)) := by
  unfold z1E
  exact eqWhole hl hf rfl (fun i a b hi ha hb => by
    unfold z21
    rw [if_pos (by simpa using hi), zd ha, Option.bind_some, zd hb, Option.bind_some]
    by_cases h : a = b <;> simp [h]) (by unfold z21; rw [if_neg (by simp)])
theorem zcD {fuel : Nat} {xs ys : List D.Address} (hf : 18446744073709551616 ≤ fuel) (hl : xs.length ≤ maxLen) : zw fuel xs ys = some (decide (xs = ys)) := by
  unfold zw
  exact eqWhole hl hf rfl (fun i a b hi ha hb => by
    unfold zO
    rw [if_pos (by simpa using hi), zd ha, Option.bind_some, zd hb, Option.bind_some, zcY]
    by_cases h : a = b <;> simp [h]) (by unfold zO; rw [if_neg (by simp)])
theorem zfm {fuel : Nat} {c : D.ShardCell} (hf : 18446744073709551616 ≤ fuel) (hs : c.sz ≤ 1048576) : z27 fuel c = some (shCellN c) := by
  have hm : maxLen = 9223372036854775807 := rfl
  have hs2 := hs
  unfold D.ShardCell.sz at hs2
  unfold z27 z1r
  dsimp only
  rw [zdE hf (by omega), zcD hf (by omega), zdR hs, Option.bind_some, Option.bind_some, Option.bind_some, zkS hf (by unfold agentOf; dsimp only; omega) (by unfold agentOf; simp only [List.length_replicate]; omega)]
  unfold shCellN
  by_cases k0 : c.Kind = 0
  · by_cases h1 : c.Level = 0 <;> by_cases h2 : c.Value = 0 <;> by_cases h3 : c.Data = [] <;> by_cases h4 : c.Aux = [] <;> simp [k0, h1, h2, h3, h4]
  · by_cases k1 : c.Kind = 1 <;> simp [k0, k1]
theorem zda {fuel : Nat} {p : D.ShardCell → Bool} {f : D.ShardCell → Option Bool} {xs : List D.ShardCell} (hf : 18446744073709551616 ≤ fuel) (hl : xs.length ≤ maxLen) (h : ∀ n, n ∈ xs → f n = some (p n)) :
    zi fuel xs f = some (xs.any p) := by
  unfold zi zv
  obtain ⟨r, h1, h2⟩ := askIndex (xs := xs) (p := p) (body := zh fuel xs f) (j := zU fuel) (t := ()) hl hf rfl (fun i x hi hx => by
    simp only [zh, zd hx, h x (List.mem_of_getElem? hx), lt_t (show (i : Int) < xs.length by omega), if_true, Option.bind_some]) (by simp [zh])
  rw [h1, Option.bind_some, h2]
theorem zea {fuel : Nat} {p : D.ShardVar → Bool} {f : D.ShardVar → Option Bool} {xs : List D.ShardVar} (hf : 18446744073709551616 ≤ fuel) (hl : xs.length ≤ maxLen) (h : ∀ n, n ∈ xs → f n = some (p n)) :
    zk fuel xs f = some (xs.any p) := by
  unfold zk zF
  obtain ⟨r, h1, h2⟩ := askIndex (xs := xs) (p := p) (body := zj fuel xs f) (j := z12 fuel) (t := ()) hl hf rfl (fun i x hi hx => by
    simp only [zj, zd hx, h x (List.mem_of_getElem? hx), lt_t (show (i : Int) < xs.length by omega), if_true, Option.bind_some]) (by simp [zj])
  rw [h1, Option.bind_some, h2]
theorem zd9 {fuel : Nat} {p : D.Shard → Bool} {f : D.Shard → Option Bool} {xs : List D.Shard} (hf : 18446744073709551616 ≤ fuel) (hl : xs.length ≤ maxLen) (h : ∀ n, n ∈ xs → f n = some (p n)) :
    zq fuel xs f = some (xs.any p) := by
  unfold zq z11
  obtain ⟨r, h1, h2⟩ := askIndex (xs := xs) (p := p) (body := zo fuel xs f) (j := z1j fuel) (t := ()) hl hf rfl (fun i x hi hx => by
    simp only [zo, zd hx, h x (List.mem_of_getElem? hx), lt_t (show (i : Int) < xs.length by omega), if_true, Option.bind_some]) (by simp [zo])
  rw [h1, Option.bind_some, h2]
theorem zjv {fuel : Nat} {v : D.ShardVar} : z3q fuel v = some (!shVarN v) := by
  have e := zcY (a := v.Held) (b := noneN)
  unfold noneN at e
  unfold z3q z50 shVarN noneN
  dsimp only at e
  rw [e]
  cases v.Used <;> cases v.Full <;> cases decide (v.Held = ⟨0, 0, 0⟩) <;> rfl
theorem zai {s : D.Shard} (h : s.sz ≤ 1048576) : s.Cells.length ≤ 1048576 ∧ s.Vars.length ≤ 1048576 ∧ s.Redexes.length ≤ 1048576 ∧ ∀ c, c ∈ s.Cells → c.sz ≤ 1048576 := by
  unfold D.Shard.sz at h
  have h1 : szL D.ShardCell.sz s.Cells ≤ 1048576 := by omega
  exact ⟨z6n h1, by omega, by omega, fun c hc => z68 h1 hc⟩
theorem zdr {fuel : Nat} {s : D.Shard} (hf : 18446744073709551616 ≤ fuel) (hs : s.sz ≤ 1048576) : z3E fuel s = some (shardN s) := by
  have hm : maxLen = 9223372036854775807 := rfl
  obtain ⟨z1, z2, z3, z4⟩ := zai hs
  unfold z3E z2t shardN
  rw [zda (p := fun c => !shCellN c) hf (by omega) (fun c hc => by unfold z4Z; rw [zfm hf (z4 c hc)]; rfl), zea (p := fun v => !shVarN v) hf (by omega) (fun v _ => zjv), z9f, z9f]
  by_cases h1 : s.Cells.length ≤ 400
  · by_cases h2 : s.Vars.length ≤ 400
    · by_cases h3 : s.Redexes.length ≤ 400
      · rw [if_neg (by simp; omega), if_neg (by simp; omega), if_neg (by simp; omega), decide_eq_true ⟨h1, h2, h3⟩]
        cases s.Cells.all shCellN <;> cases s.Vars.all shVarN <;> rfl
      · rw [if_neg (by simp; omega), if_neg (by simp; omega), if_pos (by simp; omega), decide_eq_false (fun h => h3 h.2.2)]; rfl
    · rw [if_neg (by simp; omega), if_pos (by simp; omega), decide_eq_false (fun h => h2 h.2.1)]; rfl
  · rw [if_pos (by simp; omega), decide_eq_false (fun h => h1 h.1)]; rfl
theorem zbv {g : D.Grid} (h : g.sz ≤ 1048576) : g.Shards.length ≤ 1048576 ∧ ∀ s, s ∈ g.Shards → s.sz ≤ 1048576 := by
  unfold D.Grid.sz at h
  have h1 : szL D.Shard.sz g.Shards ≤ 1048576 := by omega
  exact ⟨z6n h1, fun s hs => z68 h1 hs⟩
theorem zfK {fuel : Nat} {g : D.Grid} {xs : List D.statement} (hf : 18446744073709551616 ≤ fuel) (hs : g.sz ≤ 1048576) : z2a fuel g xs = z1d fuel g xs (!piecesN g) := by
  have hm : maxLen = 9223372036854775807 := rfl
  obtain ⟨z1, z2⟩ := zbv hs
  unfold z2a piecesN
  rw [zd9 (p := fun s => !shardN s) hf (by omega) (fun s h => by unfold z35; rw [zdr hf (z2 s h)]; rfl), z9f, Option.bind_some]
  by_cases h1 : 1 ≤ g.Shards.length
  · by_cases h2 : g.Shards.length ≤ 4
    · rw [if_neg (by simp; omega), if_neg (by simp; omega), decide_eq_true ⟨h1, h2⟩, Bool.true_and]
    · rw [if_neg (by simp; omega), if_pos (by simp; omega), decide_eq_false (fun h => h2 h.2)]; rfl
  · rw [if_pos (by simp; omega), decide_eq_false (fun h => h1 h.1)]; rfl
theorem zgO {fuel : Nat} {s : D.Shard} {k : Int} (hf : 18446744073709551616 ≤ fuel) (hs : s.sz ≤ 1048576) (hc : s.Cells.length ≤ 400 ∧ s.Vars.length ≤ 400 ∧ s.Redexes.length ≤ 400) :
    z1g fuel k s false = if (s.Cells.all shCellN && s.Vars.all shVarN) = true then some (.next (w64 (k + 1))) else some (.ret false) := by
  have hm : maxLen = 9223372036854775807 := rfl
  obtain ⟨z1, z2, z3, z4⟩ := zai hs
  have hC := allLoop (xs := s.Cells) (body := z3O fuel s) (p := fun _ c => shCellN c) (t := ()) (v := Rd.ret false) (fuel := fuel) (by omega) hf (fun i c hi hx => by
    unfold z3O
    rw [if_pos (by simpa using hi), zd hx, Option.bind_some, zfk hf (z4 c (List.mem_of_getElem? hx)), Option.bind_some]
    cases shCellN c <;> simp) (by unfold z3O; rw [if_neg (by simp)])
  have hV := allLoop (xs := s.Vars) (body := z3N fuel s) (p := fun _ v => shVarN v) (t := ()) (v := Rd.ret false) (fuel := fuel) (by omega) hf (fun i v hi hx => by
    have e := zcY (a := v.Held) (b := noneN)
    unfold noneN at e
    dsimp only at e
    unfold z3N z1v shVarN noneN
    rw [if_pos (by simpa using hi), zd hx, Option.bind_some, e]
    cases v.Used <;> cases v.Full <;> cases decide (v.Held = ⟨0, 0, 0⟩) <;> rfl) (by unfold z3N; rw [if_neg (by simp)])
  rw [z5w] at hC hV
  unfold z1g
  rw [if_neg (by simp), hC, Option.bind_some]
  cases s.Cells.all shCellN with
  | false => rfl
  | true =>
    rw [if_pos rfl]
    simp only [aft]
    unfold z7a
    rw [hV, Option.bind_some]
    cases s.Vars.all shVarN with
    | false => rfl
    | true => rfl
theorem zcv {fuel : Nat} {g : D.Grid} (hf : 18446744073709551616 ≤ fuel) (hs : g.sz ≤ 1048576) : z36 fuel g = some (piecesN g) := by
  have hm : maxLen = 9223372036854775807 := rfl
  obtain ⟨z1, z2⟩ := zbv hs
  unfold z36
  rw [z7i, Option.bind_some]
  have hS := allLoop (xs := g.Shards) (body := z3P fuel g) (p := fun _ s => shardN s) (t := ()) (v := false) (fuel := fuel) (by omega) hf (fun i s hi hx => by
    have hss := z2 s (List.mem_of_getElem? hx)
    unfold z3P
    rw [if_pos (by simpa using hi), zd hx, Option.bind_some]
    have no : z1g fuel (i : Int) s true = some (.ret false) := by unfold z1g; rfl
    unfold shardN
    by_cases h1 : s.Cells.length ≤ 400
    · by_cases h2 : s.Vars.length ≤ 400
      · by_cases h3 : s.Redexes.length ≤ 400
        · rw [if_neg (by simp; omega), if_neg (by simp; omega), show decide ((s.Redexes.length : Int) > 400) = false by simp; omega, zgO hf hss ⟨h1, h2, h3⟩, decide_eq_true ⟨h1, h2, h3⟩, Bool.true_and]
        · rw [if_neg (by simp; omega), if_neg (by simp; omega), show decide ((s.Redexes.length : Int) > 400) = true by simp; omega, no, decide_eq_false (fun h => h3 h.2.2)]; rfl
      · rw [if_neg (by simp; omega), if_pos (by simp; omega), no, decide_eq_false (fun h => h2 h.2.1)]; rfl
    · rw [if_pos (by simp; omega), no, decide_eq_false (fun h => h1 h.1)]; rfl) (by unfold z3P; rw [if_neg (by simp)])
  rw [z5w] at hS
  unfold piecesN
  rw [hS, Option.bind_some]
  have hd : decide ((1 : Int) ≤ (g.Shards.length : Int) ∧ (g.Shards.length : Int) ≤ 4) = decide (1 ≤ g.Shards.length ∧ g.Shards.length ≤ 4) := by
    rw [decide_eq_decide]; omega
  rw [hd]
  cases decide (1 ≤ g.Shards.length ∧ g.Shards.length ≤ 4) with
  | false => rfl
  | true =>
    rw [if_neg (by simp)]
    cases g.Shards.all shardN <;> rfl
end Go.E

namespace Go.E
open Go.RowKit Go.Proofs
set_option linter.unusedSimpArgs false
set_option linter.unusedVariables false


abbrev Key := Nat × Nat × Nat × Nat
def cellK (t m i : Nat) (c : D.ShardCell) : List Key := if c.Kind = 0 then [] else (List.range (c.Aux.length + 1)).map fun k => (t, m, i, k)
def rowK (t m : Nat) (cs : List D.ShardCell) : List Key := cs.zipIdx.flatMap fun x => cellK t m x.2 x.1
def portK (ss : List D.Shard) : List Key := (0, 0, 0, 0) :: ss.zipIdx.flatMap fun x => rowK 1 x.2 x.1.Cells
def varR (m : Nat) (s : D.Shard) : List Key := (List.range s.Vars.length).map fun i => (2, m, i, 0)
def varK (ss : List D.Shard) : List Key := ss.zipIdx.flatMap fun x => varR x.2 x.1
def allK (g : D.Grid) (more : List D.ShardCell) : List Key := (portK g.Shards ++ rowK 3 0 more) ++ varK g.Shards

theorem zc0 {α β : Type} {xs : List α} {g : Nat → α → List β} {i k : Nat} {x : α} (hx : xs[i]? = some x) (hk : k < (g i x).length) :
    (xs.zipIdx.flatMap fun y => g y.2 y.1)[((xs.take i).zipIdx.flatMap fun y => g y.2 y.1).length + k]? = (g i x)[k]? := by
  have h1 : xs.zipIdx = (xs.take (i + 1)).zipIdx ++ (xs.drop (i + 1)).zipIdx (xs.take (i + 1)).length := by
    have := List.zipIdx_append (xs := xs.take (i + 1)) (ys := xs.drop (i + 1)) (k := 0)
    rw [List.take_append_drop] at this
    simpa using this
  rw [h1, zaK hx, List.flatMap_append, List.flatMap_append, List.append_assoc, List.getElem?_append_right (Nat.le_add_right _ _), Nat.add_sub_cancel_left]
  simp only [List.flatMap_cons, List.flatMap_nil, List.append_nil]
  rw [List.getElem?_append_left hk]
theorem zbw {α β : Type} {xs : List α} {g : Nat → α → List β} (f : β → Nat) (h1 : ∀ i x, xs[i]? = some x → (g i x).Nodup) (h2 : ∀ i x y, y ∈ g i x → f y = i) : (xs.zipIdx.flatMap fun y => g y.2 y.1).Nodup := by
  unfold List.Nodup
  rw [List.pairwise_flatMap]
  constructor
  · rintro ⟨a, i⟩ h
    rw [List.mem_zipIdx_iff_getElem?] at h
    exact h1 i a h
  · rw [List.pairwise_iff_getElem]
    intro i j hi hj hij p hp q hq he
    simp only [List.getElem_zipIdx] at hp hq
    have a := h2 _ _ _ hp
    have b := h2 _ _ _ hq
    rw [he] at a
    omega
theorem zcU {t m i : Nat} {c : D.ShardCell} {k : Key} (h : k ∈ cellK t m i c) : k.1 = t ∧ k.2.1 = m ∧ k.2.2.1 = i := by
  unfold cellK at h
  split at h
  · cases h
  · obtain ⟨j, _, rfl⟩ := List.mem_map.1 h
    exact ⟨rfl, rfl, rfl⟩
theorem zb0 {t m : Nat} {cs : List D.ShardCell} {k : Key} (h : k ∈ rowK t m cs) : k.1 = t ∧ k.2.1 = m := by
  obtain ⟨x, _, h2⟩ := List.mem_flatMap.1 h
  exact ⟨(zcU h2).1, (zcU h2).2.1⟩
theorem zfS {t m i : Nat} {c : D.ShardCell} : (cellK t m i c).Nodup := by
  unfold cellK
  split
  · exact List.nodup_nil
  · unfold List.Nodup
    rw [List.pairwise_map]
    refine List.Pairwise.imp ?_ (List.nodup_range (n := c.Aux.length + 1))
    intro x y hxy he
    simp only [Prod.mk.injEq, true_and] at he
    exact hxy he
theorem zdv {t m : Nat} {cs : List D.ShardCell} : (rowK t m cs).Nodup :=
  zbw (g := fun i c => cellK t m i c) (fun k : Key => k.2.2.1) (fun i x _ => zfS) (fun i x y h => (zcU h).2.2)
theorem zeD {ss : List D.Shard} {k : Key} (h : k ∈ portK ss) : k.1 = 0 ∨ k.1 = 1 := by
  unfold portK at h
  rcases List.mem_cons.1 h with rfl | h
  · exact .inl rfl
  · obtain ⟨x, _, h2⟩ := List.mem_flatMap.1 h
    exact .inr (zb0 h2).1
theorem zjw {ss : List D.Shard} {k : Key} (h : k ∈ varK ss) : k.1 = 2 := by
  obtain ⟨x, _, h2⟩ := List.mem_flatMap.1 h
  obtain ⟨j, _, rfl⟩ := List.mem_map.1 h2
  rfl
theorem zdH {g : D.Grid} {more : List D.ShardCell} : (allK g more).Nodup := by
  unfold allK
  refine List.nodup_append.2 ⟨List.nodup_append.2 ⟨?_, zdv, ?_⟩, ?_, ?_⟩
  · unfold portK
    refine List.nodup_cons.2 ⟨fun h => ?_, zbw (g := fun i (s : D.Shard) => rowK 1 i s.Cells) (fun k : Key => k.2.1) (fun i x _ => zdv) (fun i x y h => (zb0 h).2)⟩
    obtain ⟨x, _, h2⟩ := List.mem_flatMap.1 h
    exact absurd (zb0 h2).1 (by decide)
  · intro a ha b hb he
    have h1 := zeD ha
    have h2 := (zb0 hb).1
    rw [he] at h1
    omega
  · refine zbw (g := fun i (s : D.Shard) => varR i s) (fun k : Key => k.2.1) (fun i x _ => ?_) (fun i x y h => ?_)
    · unfold varR List.Nodup
      rw [List.pairwise_map]
      refine List.Pairwise.imp ?_ (List.nodup_range (n := x.Vars.length))
      intro x y hxy he
      simp only [Prod.mk.injEq, true_and, and_true] at he
      exact hxy he
    · obtain ⟨j, _, rfl⟩ := List.mem_map.1 h
      rfl
  · intro a ha b hb he
    have h2 := zjw hb
    rcases List.mem_append.1 ha with h | h
    · have h1 := zeD h
      rw [he] at h1
      omega
    · have h1 := (zb0 h).1
      rw [he] at h1
      omega
theorem zjj {t m i t' m' i' : Nat} {c : D.ShardCell} : (cellK t m i c).length = (cellK t' m' i' c).length := by
  unfold cellK
  split <;> simp
theorem zkq {t m i : Nat} {c : D.ShardCell} (h : c.Aux.length ≤ 3) : (cellK t m i c).length ≤ 4 := by
  unfold cellK
  split
  · simp
  · simp; omega
theorem z9W {t m i : Nat} {cs : List D.ShardCell} {c : D.ShardCell} (h : cs[i]? = some c) : rowK t m (cs.take (i + 1)) = rowK t m (cs.take i) ++ cellK t m i c := by
  unfold rowK
  rw [zaK h, List.flatMap_append]
  simp
theorem z9X {t m : Nat} {cs : List D.ShardCell} (h : ∀ c, c ∈ cs → c.Aux.length ≤ 3) : ∀ i, i ≤ cs.length → (rowK t m (cs.take i)).length ≤ 4 * i
  | 0, _ => by simp [rowK]
  | i + 1, hi => by
    obtain ⟨c, hc⟩ := z5v (xs := cs) (i := i) (by omega)
    rw [z9W hc, List.length_append]
    have := z9X (t := t) (m := m) h i (by omega)
    have := zkq (t := t) (m := m) (i := i) (h c (List.mem_of_getElem? hc))
    omega
theorem zb1 {t m t' m' : Nat} {cs : List D.ShardCell} : ∀ i, i ≤ cs.length → (rowK t m (cs.take i)).length = (rowK t' m' (cs.take i)).length
  | 0, _ => by simp [rowK]
  | i + 1, hi => by
    obtain ⟨c, hc⟩ := z5v (xs := cs) (i := i) (by omega)
    rw [z9W hc, z9W hc, List.length_append, List.length_append, zb1 i (by omega), zjj (t' := t') (m' := m') (i' := i)]
theorem zdx {m : Nat} {ss : List D.Shard} {s : D.Shard} (h : ss[m]? = some s) : portK (ss.take (m + 1)) = portK (ss.take m) ++ rowK 1 m s.Cells := by
  unfold portK
  rw [zaK h, List.flatMap_append]
  simp
theorem zeg {m : Nat} {ss : List D.Shard} {s : D.Shard} (h : ss[m]? = some s) : varK (ss.take (m + 1)) = varK (ss.take m) ++ varR m s := by
  unfold varK
  rw [zaK h, List.flatMap_append]
  simp
theorem zgs {g : D.Grid} {more : List D.ShardCell} {m i k : Nat} {s : D.Shard} {c : D.ShardCell} (hs : g.Shards[m]? = some s) (hc : s.Cells[i]? = some c) (h0 : c.Kind ≠ 0) (hk : k ≤ c.Aux.length) :
    (allK g more)[(portK (g.Shards.take m)).length + (rowK 1 m (s.Cells.take i)).length + k]? = some (1, m, i, k) := by
  have hcl : k < (cellK 1 m i c).length := by unfold cellK; rw [if_neg h0]; simp; omega
  have h2 := zc0 (g := fun i c => cellK 1 m i c) hc hcl
  have h3 : (cellK 1 m i c)[k]? = some (1, m, i, k) := by unfold cellK; rw [if_neg h0, List.getElem?_map, List.getElem?_range (by omega)]; rfl
  rw [h3] at h2
  have h2' : (rowK 1 m s.Cells)[(rowK 1 m (s.Cells.take i)).length + k]? = some (1, m, i, k) := h2
  have hlt := (List.getElem?_eq_some_iff.1 h2').1
  have h4 := zc0 (g := fun i (s : D.Shard) => rowK 1 i s.Cells) hs hlt
  rw [h2'] at h4
  have h5 : (portK g.Shards)[(portK (g.Shards.take m)).length + (rowK 1 m (s.Cells.take i)).length + k]? = some (1, m, i, k) := by
    unfold portK
    rw [List.length_cons, show ∀ a b c : Nat, a + 1 + b + c = (a + (b + c)) + 1 by omega, List.getElem?_cons_succ]
    exact h4
  have hl5 := (List.getElem?_eq_some_iff.1 h5).1
  unfold allK
  rw [List.append_assoc, List.getElem?_append_left hl5]
  exact h5
theorem zgt {g : D.Grid} {more : List D.ShardCell} {i k : Nat} {c : D.ShardCell} (hc : more[i]? = some c) (h0 : c.Kind ≠ 0) (hk : k ≤ c.Aux.length) :
    (allK g more)[(portK g.Shards).length + (rowK 3 0 (more.take i)).length + k]? = some (3, 0, i, k) := by
  have hcl : k < (cellK 3 0 i c).length := by unfold cellK; rw [if_neg h0]; simp; omega
  have h2 := zc0 (g := fun i c => cellK 3 0 i c) hc hcl
  have h3 : (cellK 3 0 i c)[k]? = some (3, 0, i, k) := by unfold cellK; rw [if_neg h0, List.getElem?_map, List.getElem?_range (by omega)]; rfl
  rw [h3] at h2
  have h2' : (rowK 3 0 more)[(rowK 3 0 (more.take i)).length + k]? = some (3, 0, i, k) := h2
  have hlt := (List.getElem?_eq_some_iff.1 h2').1
  unfold allK
  rw [List.getElem?_append_left (by rw [List.length_append]; omega), Nat.add_assoc, List.getElem?_append_right (Nat.le_add_right _ _), Nat.add_sub_cancel_left]
  exact h2'
theorem zjr {g : D.Grid} {more : List D.ShardCell} {m i : Nat} {s : D.Shard} (hs : g.Shards[m]? = some s) (hi : i < s.Vars.length) :
    (allK g more)[(portK g.Shards).length + (rowK 3 0 more).length + (varK (g.Shards.take m)).length + i]? = some (2, m, i, 0) := by
  have h4 := zc0 (g := fun i (s : D.Shard) => varR i s) (k := i) hs (by unfold varR; simpa using hi)
  have h3 : (varR m s)[i]? = some (2, m, i, 0) := by unfold varR; rw [List.getElem?_map, List.getElem?_range hi]; rfl
  rw [h3] at h4
  unfold allK
  rw [List.getElem?_append_right (by rw [List.length_append]; omega), List.length_append, Nat.add_assoc, Nat.add_sub_cancel_left]
  exact h4


theorem zdC {fuel : Nat} {L : D.l27Links} {c : D.ShardCell} {t m i : Nat} (hf : 18446744073709551616 ≤ fuel) (hs : c.sz ≤ 1048576) (ha : c.Aux.length ≤ 3) (hp : L.ports.length ≤ 1000000) (hg : L.agents.length ≤ 1000000) :
    ∃ P A, z2r fuel L c = some ((L.ports.length : Int), ⟨A, P, L.cells, L.vars, L.ends, L.pairs⟩) ∧ P.length = L.ports.length + (cellK t m i c).length ∧ A.length ≤ L.agents.length + 1 := by
  unfold z2r
  by_cases k0 : c.Kind = 0
  · rw [if_pos (by simp [k0])]
    exact ⟨L.ports, L.agents, rfl, by unfold cellK; rw [if_pos k0]; rfl, by omega⟩
  · rw [if_neg (by simpa using k0)]
    obtain ⟨o, h1, P, rfl, h2⟩ := z1L (body := z2g fuel L c) (fun k s => ∃ P : List D.Port, s = ((k : Int), P) ∧ P.length = L.ports.length + k) (c.Aux.length + 1) (fun o => ∃ P, o = .inl P ∧ P.length = L.ports.length + (c.Aux.length + 1)) (by
      rintro k s hk ⟨P, rfl, hP⟩
      refine .inl ⟨(w64 (k + 1), P ++ [⟨(L.agents.length : Int), (k : Int)⟩]), ?_, _, by rw [zf (by omega) (by omega)]; rfl, by simp [hP]; omega⟩
      unfold z2g
      dsimp only
      rw [if_pos (by simp; omega), if_pos (by simp; omega)]) (by
      rintro s ⟨P, rfl, hP⟩
      refine .inr ⟨P, ?_, P, rfl, hP⟩
      unfold z2g
      rw [if_neg (by simp; omega)]) (fuel := fuel) (i := 0) (s := (0, L.ports)) (Nat.zero_le _) (by omega) ⟨_, rfl, rfl⟩
    rw [h1, Option.bind_some]
    simp only [aft]
    unfold z5B
    rw [zg0 hs, Option.bind_some, if_pos (by simp; omega)]
    exact ⟨P, _, rfl, by rw [h2]; unfold cellK; rw [if_neg k0]; simp, by simp⟩

def baseL (b : Nat) (cs : List D.ShardCell) (n : Nat) : List Int := (List.range n).map fun i => ((b + (rowK 1 0 (cs.take i)).length : Nat) : Int)
theorem zfo {b n : Nat} {cs : List D.ShardCell} : baseL b cs (n + 1) = baseL b cs n ++ [((b + (rowK 1 0 (cs.take n)).length : Nat) : Int)] := by
  unfold baseL
  rw [List.range_succ, List.map_append]
  rfl
theorem zjn {b n i : Nat} {cs : List D.ShardCell} (h : i < n) : (baseL b cs n)[i]? = some ((b + (rowK 1 0 (cs.take i)).length : Nat) : Int) := by
  unfold baseL
  rw [List.getElem?_map, List.getElem?_range h]
  rfl

theorem zkz {fuel : Nat} {g : D.Grid} {m : Nat} {s : D.Shard} {z : List (List Int) × List (List Int) × List (List Int) × List (List Int) × List D.Port × List D.Agent} {C V E Q : List (List Int)} {P : List D.Port} {A : List D.Agent}
    (hf : 18446744073709551616 ≤ fuel) (hm : g.Shards[m]? = some s) (hz : s.Cells.length ≤ 400) (hs : ∀ c, c ∈ s.Cells → c.sz ≤ 1048576 ∧ c.Aux.length ≤ 3) (hP : P.length ≤ 100000) (hA : A.length ≤ 100000) :
    ∃ P' A', iter (z2W fuel g ((m : Int), z)) fuel (0, [], C, V, E, Q, P, A) = some (.inl (baseL P.length s.Cells s.Cells.length, C, V, E, Q, P', A')) ∧ P'.length = P.length + (rowK 1 m s.Cells).length ∧ A'.length ≤ A.length + s.Cells.length := by
  have hle := fun i hi => z9X (t := 1) (m := m) (cs := s.Cells) (fun c hc => (hs c hc).2) i hi
  obtain ⟨o, h1, P', A', rfl, h2, h3⟩ := z1L (body := z2W fuel g ((m : Int), z)) (fun i st => ∃ P' A', st = ((i : Int), baseL P.length s.Cells i, C, V, E, Q, P', A') ∧ P'.length = P.length + (rowK 1 m (s.Cells.take i)).length ∧ A'.length ≤ A.length + i) s.Cells.length
    (fun o => ∃ P' A', o = .inl (baseL P.length s.Cells s.Cells.length, C, V, E, Q, P', A') ∧ P'.length = P.length + (rowK 1 m s.Cells).length ∧ A'.length ≤ A.length + s.Cells.length) (by
    rintro i st hi ⟨P', A', rfl, hP', hA'⟩
    obtain ⟨c, hc⟩ := z5v hi
    obtain ⟨c1, c2⟩ := hs c (List.mem_of_getElem? hc)
    have := hle i (by omega)
    obtain ⟨P2, A2, e1, e2, e3⟩ := zdC (L := ⟨A', P', C, V, E, Q⟩) (t := 1) (m := m) (i := i) hf c1 c2 (by dsimp only; omega) (by dsimp only; omega)
    dsimp only at e1 e2 e3
    refine .inl ⟨(w64 (i + 1), baseL P.length s.Cells (i + 1), C, V, E, Q, P2, A2), ?_, P2, A2, by rw [zf (by omega) (by omega)]; rfl, by rw [e2, hP', z9W hc, List.length_append]; omega, by omega⟩
    unfold z2W
    dsimp only
    rw [zd hm, Option.bind_some, if_pos (by simpa using hi), Option.bind_some, zd hc, Option.bind_some, e1, Option.bind_some]
    dsimp only
    rw [if_pos (by unfold baseL; simp; omega), zfo, hP', zb1 (t := 1) (m := m) (t' := 1) (m' := 0) i (by omega)]) (by
    rintro st ⟨P', A', rfl, hP', hA'⟩
    rw [List.take_length] at hP'
    refine .inr ⟨_, ?_, P', A', rfl, hP', hA'⟩
    unfold z2W
    dsimp only
    rw [zd hm, Option.bind_some, if_neg (by simp)]) (fuel := fuel) (i := 0) (s := (0, [], C, V, E, Q, P, A)) (Nat.zero_le _) (by omega) ⟨P, A, rfl, by simp [rowK], by omega⟩
  exact ⟨P', A', h1, h2, h3⟩

theorem zjW {fuel : Nat} {more : List D.ShardCell} {C V E Q : List (List Int)} {P : List D.Port} {A : List D.Agent}
    (hf : 18446744073709551616 ≤ fuel) (hz : more.length ≤ 20000) (hs : ∀ c, c ∈ more → c.sz ≤ 1048576 ∧ c.Aux.length ≤ 3) (hP : P.length ≤ 100000) (hA : A.length ≤ 100000) :
    ∃ P' A', iter (z2Z fuel more) fuel (0, [], C, V, E, Q, P, A) = some (.inl (baseL P.length more more.length, C, V, E, Q, P', A')) ∧ P'.length = P.length + (rowK 3 0 more).length ∧ A'.length ≤ A.length + more.length := by
  have hle := fun i hi => z9X (t := 3) (m := 0) (cs := more) (fun c hc => (hs c hc).2) i hi
  obtain ⟨o, h1, P', A', rfl, h2, h3⟩ := z1L (body := z2Z fuel more) (fun i st => ∃ P' A', st = ((i : Int), baseL P.length more i, C, V, E, Q, P', A') ∧ P'.length = P.length + (rowK 3 0 (more.take i)).length ∧ A'.length ≤ A.length + i) more.length
    (fun o => ∃ P' A', o = .inl (baseL P.length more more.length, C, V, E, Q, P', A') ∧ P'.length = P.length + (rowK 3 0 more).length ∧ A'.length ≤ A.length + more.length) (by
    rintro i st hi ⟨P', A', rfl, hP', hA'⟩
    obtain ⟨c, hc⟩ := z5v hi
    obtain ⟨c1, c2⟩ := hs c (List.mem_of_getElem? hc)
    have := hle i (by omega)
    obtain ⟨P2, A2, e1, e2, e3⟩ := zdC (L := ⟨A', P', C, V, E, Q⟩) (t := 3) (m := 0) (i := i) hf c1 c2 (by dsimp only; omega) (by dsimp only; omega)
    dsimp only at e1 e2 e3
    refine .inl ⟨(w64 (i + 1), baseL P.length more (i + 1), C, V, E, Q, P2, A2), ?_, P2, A2, by rw [zf (by omega) (by omega)]; rfl, by rw [e2, hP', z9W hc, List.length_append]; omega, by omega⟩
    unfold z2Z
    dsimp only
    rw [if_pos (by simpa using hi), zd hc, Option.bind_some, e1, Option.bind_some]
    dsimp only
    rw [if_pos (by unfold baseL; simp; omega), zfo, hP', zb1 (t := 3) (m := 0) (t' := 1) (m' := 0) i (by omega)]) (by
    rintro st ⟨P', A', rfl, hP', hA'⟩
    rw [List.take_length] at hP'
    refine .inr ⟨_, ?_, P', A', rfl, hP', hA'⟩
    unfold z2Z
    rw [if_neg (by simp)]) (fuel := fuel) (i := 0) (s := (0, [], C, V, E, Q, P, A)) (Nat.zero_le _) (by omega) ⟨P, A, rfl, by simp [rowK], by omega⟩
  exact ⟨P', A', h1, h2, h3⟩

theorem zjt {fuel : Nat} {g : D.Grid} {m n : Nat} {s : D.Shard} {z1 : Int} {z2 : List (List Int)} (hf : 18446744073709551616 ≤ fuel) (hm : g.Shards[m]? = some s) (hz : s.Vars.length ≤ 400) (hn : n ≤ 1000000) :
    iter (z2X fuel g (z1, (m : Int), z2)) fuel ((n : Int), 0, []) = some (.inl (((n + s.Vars.length : Nat) : Int), (List.range s.Vars.length).map fun i => ((n + i : Nat) : Int))) := by
  obtain ⟨o, h1, h2⟩ := z1L (body := z2X fuel g (z1, (m : Int), z2)) (fun i st => st = (((n + i : Nat) : Int), (i : Int), (List.range i).map fun j => ((n + j : Nat) : Int))) s.Vars.length (fun o => o = .inl (((n + s.Vars.length : Nat) : Int), (List.range s.Vars.length).map fun i => ((n + i : Nat) : Int))) (by
    rintro i st hi rfl
    refine .inl ⟨(w64 (((n + i : Nat) : Int) + 1), w64 (i + 1), ((List.range i).map fun j => ((n + j : Nat) : Int)) ++ [((n + i : Nat) : Int)]), ?_, ?_⟩
    · unfold z2X
      dsimp only
      rw [zd hm, Option.bind_some, if_pos (by simpa using hi), if_pos (by simp; omega)]
    · rw [zf (by omega) (by omega), zf (by omega) (by omega), List.range_succ, List.map_append]
      rfl) (by
    rintro st rfl
    refine .inr ⟨_, ?_, rfl⟩
    unfold z2X
    dsimp only
    rw [zd hm, Option.bind_some, if_neg (by simp)]) (fuel := fuel) (i := 0) (s := ((n : Int), 0, [])) (Nat.zero_le _) (by omega) rfl
  rw [h1, h2]
end Go.E

namespace Go.E
open Go.RowKit Go.Proofs
set_option linter.unusedSimpArgs false
set_option linter.unusedVariables false


structure Small (g : D.Grid) : Prop where
  n : g.Shards.length ≤ 4
  s : ∀ s, s ∈ g.Shards → s.Cells.length ≤ 400 ∧ s.Vars.length ≤ 400 ∧ s.Redexes.length ≤ 400 ∧ (∀ c, c ∈ s.Cells → c.sz ≤ 1048576 ∧ c.Aux.length ≤ 3 ∧ shCellN c = true) ∧ ∀ v, v ∈ s.Vars → shVarN v = true
theorem zdQ {g : D.Grid} (hs : g.sz ≤ 1048576) (hp : piecesN g = true) : Small g := by
  unfold piecesN at hp
  rw [Bool.and_eq_true, decide_eq_true_eq] at hp
  refine ⟨hp.1.2, fun s hm => ?_⟩
  have h1 := List.all_eq_true.1 hp.2 s hm
  unfold shardN at h1
  rw [Bool.and_eq_true, Bool.and_eq_true, decide_eq_true_eq] at h1
  obtain ⟨⟨a1, a2, a3⟩, a4, a5⟩ := h1
  have z := (zai ((zbv hs).2 s hm)).2.2.2
  exact ⟨a1, a2, a3, fun c hc => ⟨z c hc, zfZ (List.all_eq_true.1 a4 c hc), List.all_eq_true.1 a4 c hc⟩, fun v hv => List.all_eq_true.1 a5 v hv⟩
def moreOk (more : List D.ShardCell) : Prop := more.length ≤ 20000 ∧ ∀ c, c ∈ more → c.sz ≤ 1048576 ∧ c.Aux.length ≤ 3
structure Items (g : D.Grid) (more : List D.ShardCell) (L : D.l27Links) (at_ : List Int) : Prop where
  ports : L.ports.length = (portK g.Shards ++ rowK 3 0 more).length
  cell : ∀ (m i : Nat) s c, g.Shards[m]? = some s → s.Cells[i]? = some c → ∃ row, L.cells[m]? = some row ∧ row[i]? = some (((portK (g.Shards.take m)).length + (rowK 1 m (s.Cells.take i)).length : Nat) : Int)
  var : ∀ (m i : Nat) s, g.Shards[m]? = some s → i < s.Vars.length → ∃ row, L.vars[m]? = some row ∧ row[i]? = some (((portK g.Shards).length + (rowK 3 0 more).length + (varK (g.Shards.take m)).length + i : Nat) : Int)
  ends : L.ends = List.replicate (allK g more).length []
  pairs : L.pairs = []
  more : ∀ (i : Nat) c, more[i]? = some c → at_[i]? = some (((portK g.Shards).length + (rowK 3 0 (more.take i)).length : Nat) : Int)
theorem zaj {g : D.Grid} (hS : Small g) : ∀ m, m ≤ g.Shards.length → (portK (g.Shards.take m)).length ≤ 1 + 1600 * m
  | 0, _ => by simp [portK]
  | m + 1, hm => by
    obtain ⟨s, hs⟩ := z5v (xs := g.Shards) (i := m) (by omega)
    obtain ⟨a1, a2, a3, a4, a5⟩ := hS.s s (List.mem_of_getElem? hs)
    rw [zdx hs, List.length_append]
    have := zaj hS m (by omega)
    have h2 := z9X (t := 1) (m := m) (cs := s.Cells) (fun c hc => (a4 c hc).2.1) s.Cells.length (Nat.le_refl _)
    rw [List.take_length] at h2
    omega
theorem zfs {g : D.Grid} (hS : Small g) : ∀ m, m ≤ g.Shards.length → (varK (g.Shards.take m)).length ≤ 400 * m
  | 0, _ => by simp [varK]
  | m + 1, hm => by
    obtain ⟨s, hs⟩ := z5v (xs := g.Shards) (i := m) (by omega)
    obtain ⟨a1, a2, a3, a4, a5⟩ := hS.s s (List.mem_of_getElem? hs)
    rw [zeg hs, List.length_append]
    have := zfs hS m (by omega)
    unfold varR
    simp only [List.length_map, List.length_range]
    omega
theorem zfT {fuel : Nat} {g : D.Grid} (hf : 18446744073709551616 ≤ fuel) (hS : Small g) : ∃ (C : List (List Int)) (P : List D.Port) (A : List D.Agent), iter (z30 fuel g) fuel (0, [], [], [], [], [⟨0, 0⟩], [⟨1, 0, 0, [], List.replicate (1 : Int).toNat ⟨0, 0⟩⟩]) = some (.inl (C, [], [], [], P, A)) ∧ C.length = g.Shards.length ∧ (∀ (j : Nat) s, g.Shards[j]? = some s → C[j]? = some (baseL (portK (g.Shards.take j)).length s.Cells s.Cells.length)) ∧ P.length = (portK g.Shards).length ∧ A.length ≤ 2000 := by
  have hn := hS.n
  obtain ⟨o, h1, C, P, A, rfl, h2, h3, h4, h5⟩ := z1L (body := z30 fuel g) (fun m st => ∃ (C : List (List Int)) (P : List D.Port) (A : List D.Agent), st = ((m : Int), C, [], [], [], P, A) ∧ C.length = m ∧ (∀ (j : Nat) s, j < m → g.Shards[j]? = some s → C[j]? = some (baseL (portK (g.Shards.take j)).length s.Cells s.Cells.length)) ∧ P.length = (portK (g.Shards.take m)).length ∧ A.length ≤ 1 + 400 * m) g.Shards.length
    (fun o => ∃ (C : List (List Int)) (P : List D.Port) (A : List D.Agent), o = .inl (C, [], [], [], P, A) ∧ C.length = g.Shards.length ∧ (∀ (j : Nat) s, g.Shards[j]? = some s → C[j]? = some (baseL (portK (g.Shards.take j)).length s.Cells s.Cells.length)) ∧ P.length = (portK g.Shards).length ∧ A.length ≤ 2000) (by
    rintro m st hm ⟨C, P, A, rfl, hC, hr, hP, hA⟩
    obtain ⟨s, hs⟩ := z5v hm
    obtain ⟨a1, a2, a3, a4, a5⟩ := hS.s s (List.mem_of_getElem? hs)
    have hpl := zaj hS m (by omega)
    obtain ⟨P', A', e1, e2, e3⟩ := zkz (z := (C, [], [], [], P, A)) (C := C) (V := []) (E := []) (Q := []) (P := P) (A := A) hf hs a1 (fun c hc => ⟨(a4 c hc).1, (a4 c hc).2.1⟩) (by omega) (by omega)
    refine .inl ⟨(w64 (m + 1), C ++ [baseL P.length s.Cells s.Cells.length], [], [], [], P', A'), ?_, _, P', A', by rw [zf (by omega) (by omega)]; rfl, by simp [hC], ?_, ?_, by omega⟩
    · unfold z30
      dsimp only
      rw [if_pos (by simpa using hm), e1, Option.bind_some]
      rw [z8]
      unfold z7w
      dsimp only
      rw [if_pos (by simp; omega)]
    · intro j s' hj hs'
      by_cases hjm : j < m
      · rw [List.getElem?_append_left (by omega)]
        exact hr j s' hjm hs'
      · obtain rfl : j = m := by omega
        rw [hs] at hs'
        cases hs'
        rw [List.getElem?_append_right (by omega), hC, Nat.sub_self, hP]
        rfl
    · rw [e2, hP, zdx hs, List.length_append]) (by
    rintro st ⟨C, P, A, rfl, hC, hr, hP, hA⟩
    rw [List.take_length] at hP
    refine .inr ⟨_, ?_, C, P, A, rfl, hC, fun j s hs => hr j s (List.getElem?_eq_some_iff.1 hs).1 hs, hP, by omega⟩
    unfold z30
    rw [if_neg (by simp)]) (fuel := fuel) (i := 0) (s := (0, [], [], [], [], [⟨0, 0⟩], [⟨1, 0, 0, [], List.replicate (1 : Int).toNat ⟨0, 0⟩⟩])) (Nat.zero_le _) (by omega) ⟨_, _, _, rfl, rfl, fun j s hj _ => absurd hj (Nat.not_lt_zero _), by simp [portK], by simp⟩
  exact ⟨C, P, A, h1, h2, h3, h4, h5⟩
theorem zh5 {fuel N : Nat} {g : D.Grid} (hf : 18446744073709551616 ≤ fuel) (hS : Small g) (hN : N ≤ 500000) : ∃ V : List (List Int), iter (z2Y fuel g) fuel ((N : Int), 0, []) = some (.inl (((N + (varK g.Shards).length : Nat) : Int), V)) ∧ V.length = g.Shards.length ∧ ∀ (j : Nat) s, g.Shards[j]? = some s → V[j]? = some ((List.range s.Vars.length).map fun i => ((N + (varK (g.Shards.take j)).length + i : Nat) : Int)) := by
  have hn := hS.n
  obtain ⟨o, f1, V, rfl, f2, f3⟩ := z1L (body := z2Y fuel g) (fun m st => ∃ V : List (List Int), st = (((N + (varK (g.Shards.take m)).length : Nat) : Int), (m : Int), V) ∧ V.length = m ∧ ∀ (j : Nat) s, j < m → g.Shards[j]? = some s → V[j]? = some ((List.range s.Vars.length).map fun i => ((N + (varK (g.Shards.take j)).length + i : Nat) : Int))) g.Shards.length
    (fun o => ∃ V : List (List Int), o = .inl (((N + (varK g.Shards).length : Nat) : Int), V) ∧ V.length = g.Shards.length ∧ ∀ (j : Nat) s, g.Shards[j]? = some s → V[j]? = some ((List.range s.Vars.length).map fun i => ((N + (varK (g.Shards.take j)).length + i : Nat) : Int))) (by
    rintro m st hm ⟨V, rfl, hV, hr⟩
    obtain ⟨s, hs⟩ := z5v hm
    obtain ⟨a1, a2, a3, a4, a5⟩ := hS.s s (List.mem_of_getElem? hs)
    have hvl := zfs hS m (by omega)
    have e1 := zjt (z1 := ((N + (varK (g.Shards.take m)).length : Nat) : Int)) (z2 := V) (n := N + (varK (g.Shards.take m)).length) hf hs a2 (by omega)
    refine .inl ⟨(((N + (varK (g.Shards.take m)).length + s.Vars.length : Nat) : Int), w64 (m + 1), V ++ [(List.range s.Vars.length).map fun i => ((N + (varK (g.Shards.take m)).length + i : Nat) : Int)]), ?_, V ++ [(List.range s.Vars.length).map fun i => ((N + (varK (g.Shards.take m)).length + i : Nat) : Int)], ?_, by simp [hV], ?_⟩
    · unfold z2Y
      dsimp only
      rw [if_pos (by simpa using hm), e1, Option.bind_some]
      rw [z8]
      unfold z7x
      dsimp only
      rw [if_pos (by simp; omega)]
    · rw [zf (by omega) (by omega), zeg hs, List.length_append]
      unfold varR
      simp only [List.length_map, List.length_range, Nat.add_assoc]
      rfl
    · intro j s' hj hs'
      by_cases hjm : j < m
      · rw [List.getElem?_append_left (by omega)]
        exact hr j s' hjm hs'
      · obtain rfl : j = m := by omega
        rw [hs] at hs'
        cases hs'
        rw [List.getElem?_append_right (by omega), hV, Nat.sub_self]
        rfl) (by
    rintro st ⟨V, rfl, hV, hr⟩
    rw [List.take_length]
    refine .inr ⟨_, ?_, V, rfl, hV, fun j s hs => hr j s (List.getElem?_eq_some_iff.1 hs).1 hs⟩
    unfold z2Y
    rw [if_neg (by simp)]) (fuel := fuel) (i := 0) (s := ((N : Int), 0, [])) (Nat.zero_le _) (by omega) ⟨[], by simp [varK], rfl, fun j s hj _ => absurd hj (Nat.not_lt_zero _)⟩
  exact ⟨V, f1, f2, f3⟩
theorem zjm {fuel : Nat} {g : D.Grid} {more : List D.ShardCell} (hf : 18446744073709551616 ≤ fuel) (hS : Small g) (hM : moreOk more) : ∃ L at_, z6s fuel g more = some (L, at_) ∧ Items g more L at_ := by
  have hn := hS.n
  unfold z6s
  rw [if_pos (by simp)]
  obtain ⟨C, P, A, h1, h2, h3, h4, h5⟩ := zfT hf hS
  rw [h1, Option.bind_some]
  rw [z8]
  unfold z7A
  dsimp only
  have hpl := zaj hS g.Shards.length (Nat.le_refl _)
  rw [List.take_length] at hpl
  obtain ⟨P', A', e1, e2, e3⟩ := zjW (more := more) (C := C) (V := []) (E := []) (Q := []) (P := P) (A := A) hf hM.1 hM.2 (by omega) (by omega)
  rw [e1, Option.bind_some]
  rw [z8]
  unfold z7z
  dsimp only
  have hmore := z9X (t := 3) (m := 0) (cs := more) (fun c hc => (hM.2 c hc).2) more.length (Nat.le_refl _)
  rw [List.take_length] at hmore
  have hM1 := hM.1
  have hPl : P'.length = (portK g.Shards).length + (rowK 3 0 more).length := by rw [e2, h4]
  obtain ⟨V, f1, f2, f3⟩ := zh5 (N := P'.length) hf hS (by omega)
  rw [f1, Option.bind_some]
  rw [z8]
  unfold z7y
  dsimp only
  have hvl := zfs hS g.Shards.length (Nat.le_refl _)
  rw [List.take_length] at hvl
  rw [if_pos (by simp; omega)]
  refine ⟨_, _, rfl, ?_, ?_, ?_, ?_, rfl, ?_⟩
  · dsimp only; rw [hPl, List.length_append]
  · intro m i s c hs hc
    have hi := (List.getElem?_eq_some_iff.1 hc).1
    refine ⟨_, h3 m s hs, ?_⟩
    rw [zjn hi, zb1 (t := 1) (m := 0) (t' := 1) (m' := m) i (by omega)]
  · intro m i s hs hi
    refine ⟨_, f3 m s hs, ?_⟩
    rw [List.getElem?_map, List.getElem?_range hi, hPl]
    rfl
  · dsimp only
    congr 1
    unfold allK
    rw [List.length_append, List.length_append, ← hPl]
    omega
  · intro i c hc
    have hi := (List.getElem?_eq_some_iff.1 hc).1
    rw [zjn hi, h4, zb1 (t := 1) (m := 0) (t' := 3) (m' := 0) i (by omega)]
end Go.E

