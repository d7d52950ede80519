/- From the reading of an argument (the statement's own datum) to plain data, and facts of 64-bit numbers. Conditions: each lemma names the type's table facts. -/
import Derived.Test.YteommboffflkbaaGreatIter
import Derived.Deep.Slices
import Derived.ChangeArms
import Derived.ProofKit
import Derived.OpenShut
import Derived.WideShapes
namespace Go.E
open Go.RowKit
set_option linter.unusedVariables false
set_option linter.unusedSimpArgs false

def I64 (n : Int) : Prop := -9223372036854775808 ≤ n ∧ n ≤ 9223372036854775807

theorem zeH {n : Int} (h : (Lit.int .i64 n).wf = true) : I64 n := by
  have h1 : IntKind.i64.min = -9223372036854775808 := rfl
  have h2 : IntKind.i64.max = 9223372036854775807 := rfl
  simp only [Lit.wf, Bool.and_eq_true, decide_eq_true_eq, h1, h2] at h
  exact h

theorem zhD {n : Int} (h : I64 n) : w64 n = n := by
  obtain ⟨h1, h2⟩ := h
  have e : w64 n = if n % 18446744073709551616 ≥ 9223372036854775808 then n % 18446744073709551616 - 18446744073709551616 else n % 18446744073709551616 := by
    unfold w64 IntKind.wrap
    show (if (true && decide (n % (2 ^ 64 : Int) ≥ (2 ^ 63 : Int))) = true then n % (2 ^ 64 : Int) - (2 ^ 64 : Int) else n % (2 ^ 64 : Int)) = _
    simp
  rw [e]
  split <;> omega

def Opens (P : Program) (t : TypeId) {α : Type} (T : Ty α) (wf : α → Prop) : Prop :=
  P.cellsOf t = T.size ∧ ∀ {H : Type} {enc : TypeId × Value → H} {w : World} {base : Nat} {spare : Nat → Bool} {held : Bool} {fuel : Nat} {cs : List Value} {x : DataW H × List MemPlace},
    DataW.trod enc P w base spare held fuel t cs = some x → ∃ a, T.ro w cs a ∧ wf a

theorem Opens.int {P : Program} {t : TypeId} (ht : P.underlying t = some (.int .i64)) (hc : P.cellsOf t = 1) : Opens P t tInt I64 :=
  ⟨hc, fun h => by
    obtain ⟨n, rfl, _, hw⟩ := DataW.trod_int ht h
    exact ⟨n, rfl, zeH hw⟩⟩

theorem Opens.bool {P : Program} {t : TypeId} (ht : P.underlying t = some .bool) (hc : P.cellsOf t = 1) : Opens P t tBool fun _ => True :=
  ⟨hc, fun h => by
    obtain ⟨n, rfl, _⟩ := DataW.trod_bool ht h
    exact ⟨n, rfl, trivial⟩⟩

theorem Opens.str {P : Program} {t : TypeId} (ht : P.underlying t = some .string) (hc : P.cellsOf t = 1) : Opens P t tStr fun s => s.size ≤ maxLen :=
  ⟨hc, fun h => by
    obtain ⟨n, rfl, _, hw⟩ := DataW.trod_string ht h
    exact ⟨n, rfl, hw⟩⟩

theorem At.append {w : World} {p : Addr} {cs es : List Value} (ha : At w p cs) (hb : At w (p.add cs.length) es) : At w p (cs ++ es) := fun j u hu => by
  rcases Nat.lt_or_ge j cs.length with h | h
  · rw [List.getElem?_append_left h] at hu
    exact ha j u hu
  · rw [List.getElem?_append_right h] at hu
    have := hb (j - cs.length) u hu
    rw [zgc] at this
    rwa [show cs.length + (j - cs.length) = j by omega] at this

theorem zce {α : Type} {T : Ty α} {wf : α → Prop} {w : World} {a : Addr} {base : Nat} : ∀ (n : Nat), (∀ i, i < n → ∃ cs', w.cells? base (a.add (i * T.size)) T.size = some cs' ∧ ∃ x, T.ro w cs' x ∧ wf x) →
    ∃ (xs : List α) (els : List Value), xs.length = n ∧ Els T w els xs ∧ At w a els ∧ ∀ x, x ∈ xs → wf x
  | 0, _ => ⟨[], [], rfl, rfl, fun j u hu => by simp at hu, fun x hx => by cases hx⟩
  | n + 1, h => by
    obtain ⟨xs, els, hl, he, ha, hw⟩ := zce n fun i hi => h i (Nat.lt_succ_of_lt hi)
    obtain ⟨cs', hc, x, hx, hwx⟩ := h n (Nat.lt_succ_self n)
    refine ⟨xs ++ [x], els ++ cs', by simp [hl], he.append ⟨cs', [], by simp, hx, rfl⟩, ha.append ?_, fun y hy => ?_⟩
    · obtain ⟨_, hcl, hat⟩ := World.cells?_some hc
      intro j u hu
      have hj := (List.getElem?_eq_some_iff.1 hu).1
      rw [he.length, hl, hat j (by omega)]
      exact hu
    · rcases List.mem_append.1 hy with hy | hy
      · exact hw y hy
      · simp only [List.mem_singleton] at hy; subst hy; exact hwx

def WfL {α : Type} (wf : α → Prop) (xs : List α) : Prop := xs.length ≤ maxLen ∧ ∀ x, x ∈ xs → wf x

theorem Opens.sl {P : Program} {t e : TypeId} {α : Type} {T : Ty α} {wf : α → Prop} (ht : P.underlying t = some (.slice e)) (hc : P.cellsOf t = 1) (ho : Opens P e T wf) : Opens P t (tSl e T) (WfL wf) :=
  ⟨hc, by
    intro H enc w base spare held fuel cs x h
    rcases Go.Deep.open_slice ht h with ⟨rfl, _⟩ | ⟨a, len, cap, m, n, D, Pl, rfl, _, hl, hm, hmm, _, hi⟩
    · exact ⟨[], ⟨none, 0, [], rfl, Nat.le_refl _, rfl, fun h => absurd rfl h⟩, ⟨Nat.zero_le _, fun x hx => by cases hx⟩⟩
    · have hlm : len ≤ m := by rw [hmm]; split <;> omega
      rw [ho.1] at hi
      obtain ⟨xs, els, hxl, he, ha, hw⟩ := zce (T := T) (wf := wf) (w := w) (a := a) (base := base) len fun i hil => by
        obtain ⟨cs', h1, h2⟩ := hi i (by omega)
        exact ⟨cs', h1, ho.2 h2⟩
      subst hxl
      exact ⟨xs, ⟨some a, cap, els, rfl, hl, he, fun _ => ⟨a, rfl, ha⟩⟩, ⟨by omega, hw⟩⟩⟩


def OpensF (P : Program) (o : Nat) (fs : List Field) {α : Type} (T : Ty α) (wf : α → Prop) : Prop :=
  ∀ {H : Type} {enc : TypeId × Value → H} {w : World} {base : Nat} {spare : Nat → Bool} {held : Bool} {fuel : Nat} {cs : List Value},
    (∀ (i : Nat) (f : Field), fs[i]? = some f → ∃ x, DataW.trod enc P w base spare held fuel f.type ((cs.drop f.offset).take (P.cellsOf f.type)) = some x) → ∃ a, T.ro w ((cs.drop o).take T.size) a ∧ wf a

theorem OpensF.nil {P : Program} {o : Nat} : OpensF P o [] tUnit fun _ => True := fun _ => ⟨(), by show List.take 0 _ = []; simp, trivial⟩

theorem OpensF.cons {P : Program} {o o' : Nat} {f : Field} {fs : List Field} {α β : Type} {T : Ty α} {U : Ty β} {wf : α → Prop} {wg : β → Prop} (ho : Opens P f.type T wf) (hf : f.offset = o) (h' : o' = o + T.size) (hr : OpensF P o' fs U wg) :
    OpensF P o (f :: fs) (tPair T U) fun x => wf x.1 ∧ wg x.2 := by
  intro H enc w base spare held fuel cs h
  obtain ⟨x, hx⟩ := h 0 f rfl
  obtain ⟨a, h1, h2⟩ := ho.2 hx
  obtain ⟨b, h3, h4⟩ := hr (cs := cs) fun i g hg => h (i + 1) g hg
  subst h'
  refine ⟨(a, b), ⟨_, _, ?_, h1, h3⟩, h2, h4⟩
  rw [ho.1, hf]
  show List.take (T.size + U.size) _ = _
  rw [List.take_add, List.drop_drop]

theorem Opens.struct {P : Program} {t : TypeId} {fs : Array Field} {α β : Type} {T : Ty α} {wf : α → Prop} {f : β → α} (ht : P.underlying t = some (.struct fs)) (hc : P.cellsOf t = T.size) (h : OpensF P 0 fs.toList T wf) (hs : ∀ a, ∃ b, f b = a) :
    Opens P t (tMap f T) fun b => wf (f b) :=
  ⟨hc, by
    intro H enc w base spare held fuel cs x hx
    obtain ⟨xs, n, _, _, hl, hxl, hf⟩ := DataW.trod_struct ht hx
    obtain ⟨a, h1, h2⟩ := h (cs := cs) (w := w) (enc := enc) (base := base) (spare := spare) (held := held) (fuel := n) fun i g hg => by
      have hi : i < fs.size := by simpa using (List.getElem?_eq_some_iff.1 hg).1
      exact ⟨xs[i]'(by omega), (hf i g (by simpa using hg)).trans (List.getElem?_eq_getElem _)⟩
    obtain ⟨b, rfl⟩ := hs a
    refine ⟨b, ?_, h2⟩
    show T.ro w cs (f b)
    rwa [List.drop_zero, List.take_of_length_le (by omega)] at h1⟩

section
variable {H : Type} {enc : TypeId × Value → H} {P : Program} {w : World} {base b0 : Nat} {spare : Nat → Bool} {held : Bool} {r : Reach} {t : TypeId} {v : Value} {d : DataW H} {p : List MemPlace}

theorem zea {α : Type} {T : Ty α} {wf : α → Prop} {fs : Array Field} (ht : P.underlying t = some (.struct fs)) (ho : Opens P t T wf) (hv : Value.okWide P w r b0 t v) (h : DataW.Trod enc P w base spare held t v d p) :
    ∃ cs x, v = .agg ⟨cs⟩ ∧ T.ro w cs x ∧ wf x := by
  obtain ⟨cs, rfl, _⟩ := WideShapes.okWide_struct ht hv
  obtain ⟨fuel, hf⟩ := h
  obtain ⟨x, h1, h2⟩ := ho.2 hf
  exact ⟨cs.toList, x, rfl, h1, h2⟩

end

theorem Ret.out {Q : Value → World → Prop} {e : Ending} {w : World} (h : Ret Q e w) : ∃ v, e = .returned v ∧ Q v w := by
  cases e with
  | returned v => exact ⟨v, rfl, h⟩
  | _ => exact False.elim h
end Go.E

