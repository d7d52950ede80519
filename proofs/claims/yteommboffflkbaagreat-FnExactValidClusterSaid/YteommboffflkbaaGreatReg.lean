/- Regions (lists of operations): rules that carry one operation after the other, in the text's order or in whatever order the model draws. Conditions: none (rules). -/
import Derived.Test.YteommboffflkbaaGreatOps
import Derived.Test.YteommboffflkbaaGreatSep
namespace Go.E
open Go.RowKit
set_option linter.unusedVariables false
set_option linter.unusedSimpArgs false


structure St (W w : World) (Rs : List Res) : Prop where
  ext : Ext W w
  sep : Sep w W.heap.size Rs

section
variable {W w w' : World} {Rs Ns A B : List Res}
theorem St.start (w : World) : St w w [] := ⟨Ext.refl w, trivial⟩
theorem St.le (h : St W w Rs) : W.heap.size ≤ w.heap.size := h.ext.size

theorem St.join (h : St W w Rs) (k : St w w' Ns) : St W w' (Ns ++ Rs) := ⟨h.ext.trans k.ext, h.sep.join k.ext k.sep h.le⟩
theorem St.step (h : St W w Rs) (k : Ext w w') : St W w' Rs := ⟨h.ext.trans k, h.sep.ext k⟩
theorem St.pick {R : Res} (h : St W w (A ++ R :: B)) : St W w (R :: (A ++ B)) := ⟨h.ext, h.sep.pick⟩
theorem St.back {R : Res} (h : St W w (R :: (A ++ B))) : St W w (A ++ R :: B) := ⟨h.ext, h.sep.back⟩
theorem St.drop {R : Res} (h : St W w (R :: B)) : St W w B := ⟨h.ext, h.sep.tail⟩
theorem St.perm {Rs' : List Res} (h : St W w Rs) (hp : Rs.Perm Rs') : St W w Rs' := ⟨h.ext, h.sep.perm hp⟩
theorem St.fuse {R S : Res} (h : St W w (R :: S :: B)) : St W w (Both R S :: B) := ⟨h.ext, h.sep.fuse⟩
theorem St.split {R S : Res} (h : St W w (Both R S :: B)) : St W w (R :: S :: B) := ⟨h.ext, h.sep.split⟩
theorem St.conv {R R' : Res} (h : St W w (R :: B)) (hc : ∀ G, R.A w G → R'.A w G) : St W w (R' :: B) := ⟨h.ext, h.sep.conv hc⟩

theorem St.box {g : Nat} {cs : List Value} {e : TypeId} (h : St W w (Box g cs e :: B)) : At w ⟨g, 0, none⟩ cs := fun j u hu => by
  obtain ⟨G, ⟨_, hh⟩, _⟩ := h.sep.head
  have : Addr.add ⟨g, 0, none⟩ j = ⟨g, j, none⟩ := by unfold Addr.add; by_cases hj : j = 0 <;> simp [hj]
  rw [this, cell_of_row w g j ⟨cs⟩ e (0, 0) hh]
  simpa using hu
theorem St.own {α : Type} {T : Ty α} {cs : List Value} {x : α} [Reads W T] (h : St W w (Own T cs x :: B)) : T.ro w cs x := by
  obtain ⟨G, hA, _⟩ := h.sep.head
  exact T.own_ro hA (Reads.req h.ext)

theorem St.new (h : St W w Rs) (cs : List Value) (e : TypeId) : St W (w.alloc (.cells ⟨cs⟩ e)) (Box w.heap.size cs e :: Rs) :=
  h.join (Ns := [Box w.heap.size cs e]) ⟨Ext.alloc _ _, ⟨[w.heap.size], ⟨rfl, heap_alloc_new w _⟩, by simp, fun g hg => by simp at hg; subst hg; exact ⟨Nat.le_refl _, by simp⟩, trivial⟩⟩

def setAt : List Value → Nat → List Value → Option (List Value)
  | cs, _, [] => some cs
  | cs, i, v :: vs => match Nat.blt i cs.length with
    | true => setAt (cs.set i v) (i + 1) vs
    | false => none
end



def Quiet (P : Program) (n : Nat) (F : Fr) (w : World) (o : Oper) (v : Value) : Prop :=
  ∀ a w', Fits n F a → Ext w w' → (execOp a.eval o).run P w' = .ok (.value v) w'

section
variable {P : Program} {T : TT} (ht : TTok P T) {n : Nat} {F : Fr} {w : World} {o : Oper} {v : Value}
include ht

theorem Quiet.pv (h : pv T F o.op = some v) : Quiet P n F w o v := fun _ w' ha _ => zc6 ht h ha w'

theorem Quiet.load1 {t : Nat} {x : Operand} {i : TI} {p q : Addr} {cs : List Value} (ho : o.op = .load t x) (hi : T.get t = some i) (hag : i.agg = false) (hx : F.ev x = some (.pointer (some q)))
    (hat : At w p cs) (off : Nat) (hq : q = p.add off) (hv : nthv cs off = some v) : Quiet P n F w o v := fun a w' ha he => by
  have hc : w'.cell? q = some v := by rw [hq]; rw [z2P] at hv; exact he.cell (hat off v hv)
  unfold execOp
  rw [ho]
  simp [ha.ev hx, Instr.loadAt, Instr.sureAddr, loadVar, ht.isAgg hi, hag, run_load, hc]

theorem Quiet.loadN {t : Nat} {x : Operand} {i : TI} {q : Addr} {cs : List Value} (ho : o.op = .load t x) (hi : T.get t = some i) (hag : i.agg = true) (hx : F.ev x = some (.pointer (some q)))
    (hat : At w q cs) (hl : cs.length = i.size) : Quiet P n F w o (.agg ⟨cs⟩) := fun a w' ha he => by
  have hr := run_loadCells_list (P := P) w' q cs fun j u hu => he.cell (hat j u hu)
  unfold execOp
  rw [ho]
  simp [ha.ev hx, Instr.loadAt, Instr.sureAddr, loadVar, ht.isAgg hi, ht.sizeOf hi, hag]
  rw [← hl, hr]
  rfl

theorem Quiet.idx {α : Type} {U : Ty α} {t e : Nat} {x ix : Operand} {i j : TI} {A : Option Addr} {len c : Nat} {xs : List α} {k : IntKind} {m : Int} (ho : o.op = .indexAddr t x ix)
    (hi : T.get t = some i) (hd : i.d = .slice e) (hj : T.get e = some j) (hs : U.size = j.size) (hpos : 0 < U.size) (hx : F.ev x = some (.slice A len c)) (hm : F.ev ix = some (.int k m))
    {e' : Nat} (hr : (tSl e' U).ro w [.slice A len c] xs) {a : α} (h0 : 0 ≤ m) (ha : xs[m.toNat]? = some a) :
    ∃ q es, Quiet P n F w o (.pointer (some q)) ∧ At w q es ∧ U.ro w es a := by
  obtain ⟨A', c', els, he, hc, hels, hat⟩ := hr
  simp only [List.cons.injEq, Value.slice.injEq, and_true] at he
  obtain ⟨rfl, rfl, rfl⟩ := he
  obtain ⟨es, h1, h2⟩ := hels.at_ ha
  have hlt : m.toNat < xs.length := (List.getElem?_eq_some_iff.1 ha).1
  have hn : els ≠ [] := fun hn => by
    have hl := U.len h1
    cases es with
    | nil => simp at hl; omega
    | cons u r => have := h2 0 u (by simp); rw [hn] at this; simp at this
  obtain ⟨p, rfl, hp⟩ := hat hn
  refine ⟨p.add (m.toNat * j.size), es, fun b w' hb hex => ?_, ?_, h1⟩
  · unfold execOp
    rw [ho]
    have hmm : m < xs.length := by omega
    simp [hb.ev hx, hb.ev hm, Instr.indexAt, asIntOf, Go.underlying, ht.slice hi hd, h0, hmm, ht.sizeOf hj]
  · rw [← hs]; exact hp.part fun j u hu => h2 j u hu

theorem Quiet.cut {α : Type} {U : Ty α} {t e : Nat} {x : Operand} {lo hi : Option Operand} {i j : TI} {A : Option Addr} {len c : Nat} {xs : List α} (ho : o.op = .slice t x lo hi none)
    (hi' : T.get t = some i) (hd : i.d = .slice e) (hj : T.get e = some j) (hs : U.size = j.size) (hx : F.ev x = some (.slice A len c)) {e' : Nat}
    (hr : (tSl e' U).ro w [.slice A len c] xs) {l h : Nat} (hl : (lo = none ∧ l = 0) ∨ ∃ y k, lo = some y ∧ F.ev y = some (.int k (l : Int))) (hh : (hi = none ∧ h = xs.length) ∨ ∃ y k, hi = some y ∧ F.ev y = some (.int k (h : Int)))
    (h1 : l ≤ h) (h2 : h ≤ xs.length) : ∃ A' c', Quiet P n F w o (.slice A' (h - l) c') ∧ (tSl e' U).ro w [.slice A' (h - l) c'] ((xs.take h).drop l) := by
  obtain ⟨A', c', els, he, hc, hels, hat⟩ := hr
  simp only [List.cons.injEq, Value.slice.injEq, and_true] at he
  obtain ⟨rfl, rfl, rfl⟩ := he
  refine ⟨if c = l then A else A.map (·.add (l * j.size)), c - l, fun a w' ha _ => ?_, ?_⟩
  · unfold execOp
    rw [ho]
    have hcap : h ≤ c := Nat.le_trans h2 hc
    have hb1 : ∀ (k : IntKind) (m y : Nat) (cd : BoundsCode), m ≤ y → (Instr.sliceBound (.int k (m : Int)) y cd).run P w' = .ok m w' := fun k m y cd hmy => by
      simp [Instr.sliceBound, asIntOf, hmy]
    rcases hl with ⟨rfl, rfl⟩ | ⟨y, k, rfl, hy⟩ <;> rcases hh with ⟨rfl, rfl⟩ | ⟨y', k', rfl, hy'⟩
    · simp [ha.ev hx, Instr.sliceAt, Instr.slice, Go.underlying, ht.slice hi' hd, Instr.sliceBounds, ht.sizeOf hj]
    · simp [ha.ev hx, ha.ev hy', Instr.sliceAt, Instr.slice, Go.underlying, ht.slice hi' hd, Instr.sliceBounds, ht.sizeOf hj, hb1, hcap]
    · simp [ha.ev hx, ha.ev hy, Instr.sliceAt, Instr.slice, Go.underlying, ht.slice hi' hd, Instr.sliceBounds, ht.sizeOf hj, hb1, h1]
    · simp [ha.ev hx, ha.ev hy, ha.ev hy', Instr.sliceAt, Instr.slice, Go.underlying, ht.slice hi' hd, Instr.sliceBounds, ht.sizeOf hj, hb1, hcap, h1]
  · have hlen : ((xs.take h).drop l).length = h - l := by simp [Nat.min_eq_left h2]
    refine ⟨_, c - l, (els.take (h * U.size)).drop (l * U.size), by rw [hlen], by rw [hlen]; omega, ?_, fun hne => ?_⟩
    · exact Els.drop (Els.take hels h h2) l (by simp [Nat.min_eq_left h2]; exact h1)
    · have hne' : els ≠ [] := by rintro rfl; simp at hne
      have hlt : l < h := by
        rcases Nat.lt_or_ge l h with h' | h'
        · exact h'
        · have : l = h := by omega
          subst this
          exact absurd (by rw [List.drop_eq_nil_iff, List.length_take]; exact Nat.min_le_left _ _) hne
      obtain ⟨p, rfl, hp⟩ := hat hne'
      rw [if_neg (by omega)]
      refine ⟨p.add (l * j.size), rfl, ?_⟩
      rw [← hs]
      refine hp.part fun m u hu => ?_
      rw [List.getElem?_drop, List.getElem?_take] at hu
      split at hu
      · exact hu
      · cases hu
end
end Go.E

