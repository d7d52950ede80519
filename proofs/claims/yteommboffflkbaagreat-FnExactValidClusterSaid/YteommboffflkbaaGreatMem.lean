/- Memory: what it means that a value stands for plain data (to be read, or owned), and how such facts live on from world to world. Conditions: none (definitions and rules). -/
import Derived.Test.YteommboffflkbaaGreatBase
import Derived.Maps.AppendAt
import Derived.Deep.Slices
import Derived.Laws.Rows
namespace Go.E
open Go.RowKit
set_option linter.unusedVariables false
set_option linter.unusedSimpArgs false


abbrev Ext (w w' : World) : Prop := Below w.heap.size w w'

theorem Ext.refl (w : World) : Ext w w := Below.refl _ _
theorem Ext.trans {a b c : World} (h : Ext a b) (k : Ext b c) : Ext a c := Below.trans h (Below.mono k h.size)
theorem Ext.alloc (w : World) (o : Obj) : Ext w (w.alloc o) := (Below.refl _ _).alloc (Nat.le_refl _) o
theorem Ext.draw (w : World) : Ext w { w with drawn := w.drawn + 1 } := ⟨rfl, rfl, rfl, Nat.le_refl _, fun _ _ => rfl⟩
theorem Ext.cell {w w' : World} (h : Ext w w') {p : Addr} {v : Value} (hc : w.cell? p = some v) : w'.cell? p = some v := by
  rw [Below.cell h (block_lt_of_cell hc)]; exact hc


def At (w : World) (p : Addr) (cs : List Value) : Prop := ∀ j u, cs[j]? = some u → w.cell? (p.add j) = some u

theorem At.ext {w w' : World} (h : Ext w w') {p : Addr} {cs : List Value} (ha : At w p cs) : At w' p cs := fun j u hu => h.cell (ha j u hu)

theorem zgc (a : Addr) (i j : Nat) : (a.add i).add j = a.add (i + j) := by
  unfold Addr.add
  by_cases hi : i = 0 <;> by_cases hj : j = 0 <;> simp [hi, hj, Nat.add_assoc]

theorem At.part {w : World} {p : Addr} {cs es : List Value} {i : Nat} (ha : At w p cs) (he : ∀ j u, es[j]? = some u → cs[i + j]? = some u) : At w (p.add i) es := fun j u hu => by
  rw [zgc]; exact ha _ u (he j u hu)

theorem At.left {w : World} {p : Addr} {cs es : List Value} (ha : At w p (cs ++ es)) : At w p cs := fun j u hu => ha j u (by
  rw [List.getElem?_append_left (List.getElem?_eq_some_iff.1 hu).1]; exact hu)
theorem At.right {w : World} {p : Addr} {cs es : List Value} (ha : At w p (cs ++ es)) : At w (p.add cs.length) es := ha.part fun j u hu => by
  rw [List.getElem?_append_right (Nat.le_add_right _ _)]; simpa using hu


structure Ty (α : Type) where
  size : Nat
  ro : World → List Value → α → Prop
  own : World → List Value → α → List Nat → Prop

  req : World → Prop
  len : ∀ {w cs x}, ro w cs x → cs.length = size
  lenO : ∀ {w cs x G}, own w cs x G → cs.length = size
  ext : ∀ {w w' cs x}, Ext w w' → ro w cs x → ro w' cs x
  own_ro : ∀ {w cs x G}, own w cs x G → req w → ro w cs x
  loc : ∀ {w w' cs x G}, own w cs x G → (∀ g, g ∈ G → w'.heap[g]? = w.heap[g]?) → own w' cs x G
  lt : ∀ {w cs x G}, own w cs x G → ∀ g, g ∈ G → g < w.heap.size
  one : ∀ {w cs x}, ro w cs x → ∀ u, u ∈ cs → u.oneCell' = true
  oneO : ∀ {w cs x G}, own w cs x G → ∀ u, u ∈ cs → u.oneCell' = true


def tFlat {α : Type} (f : α → Value) (h1 : ∀ x, (f x).oneCell' = true) : Ty α where
  size := 1
  ro := fun _ cs x => cs = [f x]
  own := fun _ cs x G => cs = [f x] ∧ G = []
  req := fun _ => True
  len := by rintro _ _ _ rfl; rfl
  lenO := by rintro _ _ _ _ ⟨rfl, _⟩; rfl
  ext := fun _ h => h
  own_ro := fun h _ => h.1
  loc := fun h _ => h
  lt := fun h g hg => by rw [h.2] at hg; cases hg
  one := by rintro _ _ x rfl u hu; simp only [List.mem_singleton] at hu; subst hu; exact h1 x
  oneO := by rintro _ _ x _ ⟨rfl, _⟩ u hu; simp only [List.mem_singleton] at hu; subst hu; exact h1 x

def tInt : Ty Int := tFlat (Value.int .i64) fun _ => rfl
def tIntK (k : IntKind) : Ty Int := tFlat (Value.int k) fun _ => rfl
def tBool : Ty Bool := tFlat Value.bool fun _ => rfl
def tStr : Ty ByteArray := tFlat Value.string fun _ => rfl

def tUnit : Ty Unit where
  size := 0
  ro := fun _ cs _ => cs = []
  own := fun _ cs _ G => cs = [] ∧ G = []
  req := fun _ => True
  len := by rintro _ _ _ rfl; rfl
  lenO := by rintro _ _ _ _ ⟨rfl, _⟩; rfl
  ext := fun _ h => h
  own_ro := fun h _ => h.1
  loc := fun h _ => h
  lt := fun h g hg => by rw [h.2] at hg; cases hg
  one := by rintro _ _ _ rfl u hu; cases hu
  oneO := by rintro _ _ _ _ ⟨rfl, _⟩ u hu; cases hu

def tPair {α β : Type} (T : Ty α) (U : Ty β) : Ty (α × β) where
  size := T.size + U.size
  ro := fun w cs x => ∃ c d, cs = c ++ d ∧ T.ro w c x.1 ∧ U.ro w d x.2
  own := fun w cs x G => ∃ c d H K, cs = c ++ d ∧ G = H ++ K ∧ T.own w c x.1 H ∧ U.own w d x.2 K
  req := fun w => T.req w ∧ U.req w
  len := by rintro _ _ _ ⟨c, d, rfl, h1, h2⟩; rw [List.length_append, T.len h1, U.len h2]
  lenO := by rintro _ _ _ _ ⟨c, d, H, K, rfl, rfl, h1, h2⟩; rw [List.length_append, T.lenO h1, U.lenO h2]
  ext := by rintro _ _ _ _ he ⟨c, d, rfl, h1, h2⟩; exact ⟨c, d, rfl, T.ext he h1, U.ext he h2⟩
  own_ro := by rintro _ _ _ _ ⟨c, d, H, K, rfl, rfl, h1, h2⟩ hq; exact ⟨c, d, rfl, T.own_ro h1 hq.1, U.own_ro h2 hq.2⟩
  loc := by
    rintro _ _ _ _ _ ⟨c, d, H, K, rfl, rfl, h1, h2⟩ hs
    exact ⟨c, d, H, K, rfl, rfl, T.loc h1 fun g hg => hs g (List.mem_append_left _ hg), U.loc h2 fun g hg => hs g (List.mem_append_right _ hg)⟩
  lt := by
    rintro _ _ _ _ ⟨c, d, H, K, rfl, rfl, h1, h2⟩ g hg
    rcases List.mem_append.1 hg with hg | hg
    · exact T.lt h1 g hg
    · exact U.lt h2 g hg
  one := by
    rintro _ _ _ ⟨c, d, rfl, h1, h2⟩ u hu
    rcases List.mem_append.1 hu with hu | hu
    · exact T.one h1 u hu
    · exact U.one h2 u hu
  oneO := by
    rintro _ _ _ _ ⟨c, d, H, K, rfl, rfl, h1, h2⟩ u hu
    rcases List.mem_append.1 hu with hu | hu
    · exact T.oneO h1 u hu
    · exact U.oneO h2 u hu

def tMap {α β : Type} (f : β → α) (T : Ty α) : Ty β where
  size := T.size
  ro := fun w cs x => T.ro w cs (f x)
  own := fun w cs x G => T.own w cs (f x) G
  req := T.req
  len := T.len
  lenO := T.lenO
  ext := T.ext
  own_ro := T.own_ro
  loc := T.loc
  lt := T.lt
  one := T.one
  oneO := T.oneO


def Els {α : Type} (T : Ty α) (w : World) : List Value → List α → Prop
  | cs, [] => cs = []
  | cs, x :: xs => ∃ c d, cs = c ++ d ∧ T.ro w c x ∧ Els T w d xs

def ElsO {α : Type} (T : Ty α) (w : World) : List Value → List α → List Nat → Prop
  | cs, [], G => cs = [] ∧ G = []
  | cs, x :: xs, G => ∃ c d H K, cs = c ++ d ∧ G = H ++ K ∧ T.own w c x H ∧ ElsO T w d xs K

section
variable {α : Type} {T : Ty α} {w w' : World}

theorem Els.length : ∀ {xs : List α} {cs : List Value}, Els T w cs xs → cs.length = xs.length * T.size
  | [], _, h => by rw [h]; simp
  | x :: xs, _, ⟨c, d, h, h1, h2⟩ => by rw [h, List.length_append, T.len h1, Els.length h2, List.length_cons, Nat.succ_mul]; omega

theorem Els.ext (he : Ext w w') : ∀ {xs : List α} {cs : List Value}, Els T w cs xs → Els T w' cs xs
  | [], _, h => h
  | _ :: _, _, ⟨c, d, h, h1, h2⟩ => ⟨c, d, h, T.ext he h1, Els.ext he h2⟩

theorem Els.one : ∀ {xs : List α} {cs : List Value}, Els T w cs xs → ∀ u, u ∈ cs → u.oneCell' = true
  | [], _, h, u, hu => by rw [h] at hu; cases hu
  | _ :: _, _, ⟨c, d, h, h1, h2⟩, u, hu => by
    rw [h] at hu
    rcases List.mem_append.1 hu with hu | hu
    · exact T.one h1 u hu
    · exact Els.one h2 u hu

theorem ElsO.els (hq : T.req w) : ∀ {xs : List α} {cs : List Value} {G : List Nat}, ElsO T w cs xs G → Els T w cs xs
  | [], _, _, h => h.1
  | _ :: _, _, _, ⟨c, d, _, _, h, _, h1, h2⟩ => ⟨c, d, h, T.own_ro h1 hq, ElsO.els hq h2⟩
theorem ElsO.length : ∀ {xs : List α} {cs : List Value} {G : List Nat}, ElsO T w cs xs G → cs.length = xs.length * T.size
  | [], _, _, h => by rw [h.1]; simp
  | x :: xs, _, _, ⟨c, d, _, _, h, _, h1, h2⟩ => by rw [h, List.length_append, T.lenO h1, ElsO.length h2, List.length_cons, Nat.succ_mul]; omega
theorem ElsO.one : ∀ {xs : List α} {cs : List Value} {G : List Nat}, ElsO T w cs xs G → ∀ u, u ∈ cs → u.oneCell' = true
  | [], _, _, h, u, hu => by rw [h.1] at hu; cases hu
  | _ :: _, _, _, ⟨c, d, _, _, h, _, h1, h2⟩, u, hu => by
    rw [h] at hu
    rcases List.mem_append.1 hu with hu | hu
    · exact T.oneO h1 u hu
    · exact ElsO.one h2 u hu

theorem ElsO.loc : ∀ {xs : List α} {cs : List Value} {G : List Nat}, ElsO T w cs xs G → (∀ g, g ∈ G → w'.heap[g]? = w.heap[g]?) → ElsO T w' cs xs G
  | [], _, _, h, _ => h
  | _ :: _, _, _, ⟨c, d, H, K, h, hG, h1, h2⟩, hs => by
    subst hG
    exact ⟨c, d, H, K, h, rfl, T.loc h1 fun g hg => hs g (List.mem_append_left _ hg), ElsO.loc h2 fun g hg => hs g (List.mem_append_right _ hg)⟩

theorem ElsO.lt : ∀ {xs : List α} {cs : List Value} {G : List Nat}, ElsO T w cs xs G → ∀ g, g ∈ G → g < w.heap.size
  | [], _, _, h, g, hg => by rw [h.2] at hg; cases hg
  | _ :: _, _, _, ⟨c, d, H, K, h, hG, h1, h2⟩, g, hg => by
    subst hG
    rcases List.mem_append.1 hg with hg | hg
    · exact T.lt h1 g hg
    · exact ElsO.lt h2 g hg


theorem Els.at_ : ∀ {xs : List α} {cs : List Value}, Els T w cs xs → ∀ {i : Nat} {x : α}, xs[i]? = some x → ∃ es, T.ro w es x ∧ ∀ j u, es[j]? = some u → cs[i * T.size + j]? = some u
  | [], _, _, i, x, hx => by simp at hx
  | y :: xs, _, ⟨c, d, h, h1, h2⟩, i, x, hx => by
    subst h
    cases i with
    | zero =>
      simp only [List.getElem?_cons_zero, Option.some.injEq] at hx
      subst hx
      refine ⟨c, h1, fun j u hu => ?_⟩
      rw [Nat.zero_mul, Nat.zero_add, List.getElem?_append_left (List.getElem?_eq_some_iff.1 hu).1]
      exact hu
    | succ i =>
      simp only [List.getElem?_cons_succ] at hx
      obtain ⟨es, h3, h4⟩ := Els.at_ h2 hx
      refine ⟨es, h3, fun j u hu => ?_⟩
      have : (i + 1) * T.size + j = c.length + (i * T.size + j) := by rw [T.len h1, Nat.succ_mul]; omega
      rw [this, List.getElem?_append_right (Nat.le_add_right _ _)]
      simpa using h4 j u hu

theorem Els.append : ∀ {xs ys : List α} {cs ds : List Value}, Els T w cs xs → Els T w ds ys → Els T w (cs ++ ds) (xs ++ ys)
  | [], _, _, _, h, k => by rw [h]; simpa using k
  | _ :: _, _, _, _, ⟨c, d, h, h1, h2⟩, k => ⟨c, d ++ _, by rw [h, List.append_assoc], h1, Els.append h2 k⟩

theorem ElsO.append : ∀ {xs ys : List α} {cs ds : List Value} {G H : List Nat}, ElsO T w cs xs G → ElsO T w ds ys H → ElsO T w (cs ++ ds) (xs ++ ys) (G ++ H)
  | [], _, _, _, _, _, h, k => by rw [h.1, h.2]; simpa using k
  | _ :: _, _, _, _, _, _, ⟨c, d, H, K, h, hG, h1, h2⟩, k => ⟨c, d ++ _, H, K ++ _, by rw [h, List.append_assoc], by rw [hG, List.append_assoc], h1, ElsO.append h2 k⟩

theorem Els.drop : ∀ {xs : List α} {cs : List Value}, Els T w cs xs → ∀ k, k ≤ xs.length → Els T w (cs.drop (k * T.size)) (xs.drop k)
  | xs, _, h, 0, _ => by simpa using h
  | [], _, _, k + 1, hk => by simp at hk
  | x :: xs, _, ⟨c, d, h, h1, h2⟩, k + 1, hk => by
    subst h
    have := Els.drop h2 k (by simpa using hk)
    rw [List.drop_succ_cons, Nat.succ_mul, Nat.add_comm, ← List.drop_drop, ← T.len h1]
    simpa [T.len h1] using this

theorem Els.take : ∀ {xs : List α} {cs : List Value}, Els T w cs xs → ∀ k, k ≤ xs.length → Els T w (cs.take (k * T.size)) (xs.take k)
  | xs, _, h, 0, _ => by simp [Els]
  | [], _, _, k + 1, hk => by simp at hk
  | x :: xs, _, ⟨c, d, h, h1, h2⟩, k + 1, hk => by
    subst h
    refine ⟨c, d.take (k * T.size), ?_, h1, Els.take h2 k (by simpa using hk)⟩
    rw [Nat.succ_mul, Nat.add_comm, ← T.len h1, List.take_length_add_append]
end


def tSl {α : Type} (e : TypeId) (T : Ty α) : Ty (List α) where
  size := 1
  ro := fun w cs xs => ∃ A c els, cs = [.slice A xs.length c] ∧ xs.length ≤ c ∧ Els T w els xs ∧ (els ≠ [] → ∃ p, A = some p ∧ At w p els)
  own := fun w cs xs G => ∃ v els, cs = [v] ∧ w.ownsRow 0 e T.size v xs.length els ∧ ∃ K, ElsO T w els xs K ∧ G = v.ownBlock.toList ++ K
  req := T.req
  len := by rintro _ _ _ ⟨_, _, _, rfl, _⟩; rfl
  lenO := by rintro _ _ _ _ ⟨_, _, rfl, _⟩; rfl
  ext := by
    rintro _ _ _ _ he ⟨A, c, els, rfl, hc, h1, h2⟩
    exact ⟨A, c, els, rfl, hc, h1.ext he, fun hn => let ⟨p, hp, ha⟩ := h2 hn; ⟨p, hp, ha.ext he⟩⟩
  own_ro := by
    rintro w _ xs G ⟨v, els, rfl, ho, K, hk, rfl⟩ hq
    rcases ho.2 with ⟨rfl, hn⟩ | ⟨g, cap, cur, rfl, _, hh, hnc, _, hsz, htk⟩
    · have : xs = [] := List.eq_nil_of_length_eq_zero hn
      subst this
      exact ⟨none, 0, [], rfl, Nat.le_refl _, rfl, fun h => absurd rfl h⟩
    · refine ⟨_, cap, els, rfl, hnc, hk.els hq, fun _ => ⟨_, rfl, fun j u hu => ?_⟩⟩
      have : Addr.add ⟨g, 0, none⟩ j = ⟨g, j, none⟩ := by unfold Addr.add; by_cases hj : j = 0 <;> simp [hj]
      rw [this, cell_of_row w g j cur e (0, 0) hh]
      rw [← htk] at hu
      have hj := (List.getElem?_eq_some_iff.1 hu).1
      rw [List.getElem?_take] at hu
      split at hu
      · simpa using hu
      · cases hu
  loc := by
    rintro w w' _ xs G ⟨v, els, rfl, ho, K, hk, rfl⟩ hs
    refine ⟨v, els, rfl, ⟨ho.1, ?_⟩, K, hk.loc fun g hg => hs g (List.mem_append_right _ hg), rfl⟩
    rcases ho.2 with h | ⟨g, cap, cur, rfl, h0, hh, h3⟩
    · exact .inl h
    · exact .inr ⟨g, cap, cur, rfl, h0, by rw [hs g (by simp [Value.ownBlock])]; exact hh, h3⟩
  lt := by
    rintro w _ xs G ⟨v, els, rfl, ho, K, hk, rfl⟩ g hg
    rcases List.mem_append.1 hg with hg | hg
    · rcases ho.2 with ⟨rfl, _⟩ | ⟨g', cap, cur, rfl, _, hh, _⟩
      · simp [Value.ownBlock] at hg
      · simp only [Value.ownBlock, Option.toList, List.mem_singleton] at hg
        subst hg
        rcases Nat.lt_or_ge g w.heap.size with h | h
        · exact h
        · rw [Array.getElem?_eq_none h] at hh; cases hh
    · exact hk.lt g hg
  one := by
    rintro _ _ _ ⟨_, _, _, rfl, _⟩ u hu
    simp only [List.mem_singleton] at hu; subst hu; rfl
  oneO := by
    rintro _ _ _ _ ⟨_, _, rfl, ho, _⟩ u hu
    simp only [List.mem_singleton] at hu; subst hu
    rcases ho.2 with ⟨rfl, _⟩ | ⟨g, cap, cur, rfl, _⟩ <;> rfl


def tBor {α : Type} (W : World) (T : Ty α) : Ty α where
  size := T.size
  ro := T.ro
  own := fun _ cs x G => T.ro W cs x ∧ G = []
  req := fun w => Ext W w
  len := T.len
  lenO := fun h => T.len h.1
  ext := T.ext
  own_ro := fun h he => T.ext he h.1
  loc := fun h _ => h
  lt := fun h g hg => by rw [h.2] at hg; cases hg
  one := T.one
  oneO := fun h => T.one h.1


class Reads (W : World) {α : Type} (T : Ty α) : Prop where
  req : ∀ {w}, Ext W w → T.req w
instance {W : World} : Reads W tInt := ⟨fun _ => trivial⟩
instance {W : World} {k : IntKind} : Reads W (tIntK k) := ⟨fun _ => trivial⟩
instance {W : World} : Reads W tBool := ⟨fun _ => trivial⟩
instance {W : World} : Reads W tStr := ⟨fun _ => trivial⟩
instance {W : World} : Reads W tUnit := ⟨fun _ => trivial⟩
instance {W : World} {α β : Type} {T : Ty α} {U : Ty β} [Reads W T] [Reads W U] : Reads W (tPair T U) := ⟨fun h => ⟨Reads.req h, Reads.req h⟩⟩
instance {W : World} {α β : Type} {f : β → α} {T : Ty α} [Reads W T] : Reads W (tMap f T) := ⟨fun h => Reads.req (T := T) h⟩
instance {W : World} {α : Type} {e : TypeId} {T : Ty α} [Reads W T] : Reads W (tSl e T) := ⟨fun h => Reads.req (T := T) h⟩
instance {W : World} {α : Type} {T : Ty α} : Reads W (tBor W T) := ⟨fun h => h⟩
end Go.E

