/- Values built from parts: structs, slices. Conditions: none (rules). -/
import Derived.Test.YteommboffflkbaaGreatOwnSl
import Derived.Laws.Tables
import Derived.Great.BuildSlice
namespace Go.E
open Go.RowKit
set_option linter.unusedVariables false
set_option linter.unusedSimpArgs false


def fillV (fs : List (Nat × Nat × Bool × Nat)) : List Value → List (Nat × Value) → Option (List Value)
  | cs, [] => some cs
  | cs, (i, v) :: r => match nthv fs i with
    | some g => match Nat.beq (cellsV v).length g.2.1, setAt cs g.1 (cellsV v) with
      | true, some cs' => fillV fs cs' r
      | _, _ => none
    | none => none

def partsOf (F : Fr) : List (Nat × Operand) → Option (List (Nat × Value))
  | [] => some []
  | (i, x) :: r => match F.ev x, partsOf F r with
    | some v, some l => some ((i, v) :: l)
    | _, _ => none

theorem z7C {F : Fr} {n : Nat} {a : Act} (ha : Fits n F a) : ∀ {l : List (Nat × Operand)} {vs : List (Nat × Value)}, partsOf F l = some vs → l.map (fun p => (p.1, a.eval p.2)) = vs
  | [], vs, h => by simp only [partsOf, Option.some.injEq] at h; subst h; rfl
  | (i, x) :: r, vs, h => by
    unfold partsOf at h
    split at h
    · rename_i v l hv hl
      simp only [Option.some.injEq] at h; subst h
      simp only [List.map_cons, ha.ev hv, z7C ha hl]
    · cases h

theorem zbc : ∀ (vs cs cs' : List Value) (off k : Nat), setAt cs (off + k) vs = some cs' →
    ((vs.zipIdx k).foldl (fun (c : Array Value) (p : Value × Nat) => c.setIfInBounds (off + p.2) p.1) ⟨cs⟩) = ⟨cs'⟩ ∧ (vs ≠ [] → off + k + vs.length ≤ cs.length) ∧ cs'.length = cs.length
  | [], cs, cs', off, k, h => by
    simp only [setAt, Option.some.injEq] at h; subst h
    exact ⟨rfl, fun h => absurd rfl h, rfl⟩
  | v :: vs, cs, cs', off, k, h => by
    unfold setAt at h
    split at h
    · rename_i hlt
      have hlt' : off + k < cs.length := by simpa using hlt
      obtain ⟨h1, h2, h3⟩ := zbc vs (cs.set (off + k) v) cs' off (k + 1) h
      refine ⟨?_, fun _ => ?_, by simpa using h3⟩
      · rw [List.zipIdx_cons, List.foldl_cons]
        have : (⟨cs⟩ : Array Value).setIfInBounds (off + k) v = ⟨cs.set (off + k) v⟩ := by simp
        rw [this]
        exact h1
      · cases vs with
        | nil => simp; omega
        | cons u us =>
          have := h2 (by simp)
          simp only [List.length_set, List.length_cons] at this ⊢
          omega
    · cases h

theorem zcc {P : Program} : ∀ {fs : List Field} {gs : List (Nat × Nat × Bool × Nat)}, fieldsOk P fs gs = true →
    ∃ places, fs.mapM (fun f => (P.info? f.type).map fun i => (f.offset, i.size)) = some places ∧ ∀ (j : Nat) g, gs[j]? = some g → places[j]? = some (g.1, g.2.1)
  | [], [], _ => ⟨[], rfl, fun j g h => by simp at h⟩
  | [], _ :: _, h => by simp [fieldsOk] at h
  | _ :: _, [], h => by simp [fieldsOk] at h
  | f :: fs, g :: gs, h => by
    unfold fieldsOk fieldOk at h
    cases hi : P.info? f.type with
    | none => simp [hi] at h
    | some i =>
      simp only [hi, Bool.and_eq_true, Nat.beq_eq] at h
      obtain ⟨places, h1, h2⟩ := zcc (fs := fs) (gs := gs) h.2
      refine ⟨(f.offset, i.size) :: places, by simp [List.mapM_cons, hi, h1], fun j g' hg => ?_⟩
      cases j with
      | zero =>
        simp only [List.getElem?_cons_zero, Option.some.injEq] at hg
        subst hg
        simp [h]
      | succ j => simpa using h2 j g' (by simpa using hg)

theorem zbJ {gs : List (Nat × Nat × Bool × Nat)} {place : Nat → Option (Nat × Nat)} (hp : ∀ (j : Nat) g, gs[j]? = some g → place j = some (g.1, g.2.1)) (hpos : ∀ (j : Nat) g, gs[j]? = some g → g.2.1 ≠ 0) :
    ∀ (parts : List (Nat × Value)) (cs cs' : List Value), fillV gs cs parts = some cs' → Instr.fill place ⟨cs⟩ parts = some ⟨cs'⟩
  | [], cs, cs', h => by simp only [fillV, Option.some.injEq] at h; subst h; rfl
  | (i, v) :: r, cs, cs', h => by
    unfold fillV at h
    split at h
    · rename_i g hg
      rw [z2P] at hg
      split at h
      · rename_i cs2 hl hs
        obtain ⟨h1, h2, h3⟩ := zbc (cellsV v) cs cs2 g.1 0 hs
        have hl' : (cellsV v).length = g.2.1 := by simpa using hl
        have hne : cellsV v ≠ [] := fun hn => hpos i g hg (by rw [← hl', hn]; rfl)
        have hc : v.cells = ⟨cellsV v⟩ := by rw [← z4W]
        unfold Instr.fill
        simp only [hp i g hg]
        rw [if_neg (by
          have := h2 hne
          simp [hc, hl']; omega)]
        rw [hc]
        have h1' : Array.foldl (fun (c : Array Value) (p : Value × Nat) => c.setIfInBounds (g.1 + p.2) p.1) (⟨cs⟩ : Array Value) (Array.zipIdx (⟨cellsV v⟩ : Array Value)) = ⟨cs2⟩ := by
          simpa using h1
        exact Eq.trans (congrArg (fun c => Instr.fill place c r) h1') (zbJ hp hpos r cs2 cs' h)
      · cases h
    · cases h

theorem Quiet.build {P : Program} {T : TT} (ht : TTok P T) {n : Nat} {F : Fr} {w : World} {o : Oper} {t : Nat} {ps : List (Nat × Operand)} {i : TI} {gs : List (Nat × Nat × Bool × Nat)} {vs : List (Nat × Value)} {cs : List Value}
    (ho : o.op = .build t ⟨ps⟩) (hi : T.get t = some i) (hd : i.d = .struct gs) (hv : partsOf F ps = some vs) (hc : fillV gs i.zero vs = some cs) : Quiet P n F w o (.agg ⟨cs⟩) := by
  intro a w' ha _
  obtain ⟨it, hit, _, _, z, hz, hzc⟩ := ht.info hi
  obtain ⟨d, h1, h2, _⟩ := ht.desc hi
  rw [hd] at h2
  cases d <;> simp only [descOk, Bool.false_eq_true] at h2
  rename_i fs _
  obtain ⟨places, hp1, hp2⟩ := zcc h2
  have hpos : ∀ (j : Nat) g, gs[j]? = some g → g.2.1 ≠ 0 := fun j g hg => by
    obtain ⟨_, _, _, _, _, h, _⟩ := ht.field hi hd hg
    exact h
  have hfill := zbJ (place := (places.toArray[·]?)) (fun j g hg => by simpa using hp2 j g hg) hpos vs i.zero cs hc
  have hb : P.built t vs = some ⟨cs⟩ := by
    unfold Program.built
    simp only [hit, h1, hz, hp1]
    rw [show z.cells = ⟨i.zero⟩ from by rw [← hzc]]
    exact hfill
  unfold execOp
  rw [ho]
  have := run_build (P := P) w' t ⟨vs⟩ ⟨cs⟩ hb
  have he : (#[] ++ (⟨ps⟩ : Array (Nat × Operand))).map (fun (p : Nat × Operand) => (p.1, a.eval p.2)) = ⟨vs⟩ := by
    simp [z7C ha hv]
  simp only [Array.empty_append] at he
  simp [show Array.map (fun x : Nat × Operand => (x.fst, a.eval x.snd)) ⟨ps⟩ = ⟨vs⟩ from he, this]

theorem St.boxSl {α : Type} {U : Ty α} {W w : World} {B : List Res} {g e : Nat} {els : List Value} {ys : List α} (hS : St W w (Box g els e :: OwnEls U els ys :: B)) (hmax : ys.length ≤ maxLen) :
    St W w (Own (tSl e U) [.slice (some ⟨g, 0, none⟩) ys.length ys.length] ys :: B) :=
  hS.fuse.conv fun G hG => by
    obtain ⟨H, K, rfl, ⟨rfl, hh⟩, hk⟩ := hG
    have hl : els.length = ys.length * U.size := ElsO.length hk
    exact z87 (w := w) (e := e) (U := U) (xs := ys) (g := g) (cap := ys.length) (els := els) (rest := []) (K := K) (by rw [List.append_nil]; exact hh) (Nat.le_refl _) hmax (by rw [List.append_nil]; exact hl) hl hk

theorem z84 {P : Program} {t e : TypeId} {i : TypeInfo} (w : World) (hu : P.underlying t = some (.slice e)) (hi : P.info? e = some i) :
    (Instr.buildSlice t 0 #[]).run P w = .ok (.slice (some ⟨w.heap.size, 0, none⟩) 0 0) (w.alloc (.cells #[] e)) := by
  simp [Instr.buildSlice, run_underlying hu, sizeOf, typeInfo, hi, newRow, Instr.fill]
  rw [show Array.range 0 = #[] from by simp [Array.range], Array.map_empty]

theorem RW.newSlice0 {α : Type} {U : Ty α} {P : Program} {T : TT} (ht : TTok P T) {n : Nat} {ops rest : List Oper} {Q : Post} {F : Fr} {W w : World} {Rs : List Res} {o : Oper} {t e : Nat} {i j : TI} (hS : St W w Rs) (hg : guardOf ops F o = some true)
    (ho : o.op = .buildSlice t 0 #[]) (hi : T.get t = some i) (hd : i.d = .slice e) (hj : T.get e = some j) {d : Nat} (hd' : o.dst = some d) (hn : Nat.blt d n = true)
    (h : ∀ A k w', Ext w w' → St W w' (Own (tSl e U) [.slice A ([] : List α).length k] [] :: Rs) → RW P n ops Q rest ((d, .slice A ([] : List α).length k) :: F) w') : RW P n ops Q (o :: rest) F w := by
  obtain ⟨jj, hjj, _⟩ := ht.info hj
  refine RW.ok (v := .slice (some ⟨w.heap.size, 0, none⟩) 0 0) hg (fun a ha => ?_) hd' hn (h (some ⟨w.heap.size, 0, none⟩) 0 _ (Ext.alloc w (.cells #[] e)) ?_)
  · unfold execOp
    rw [ho]
    simp [z84 w (ht.slice hi hd) hjj]
  · have h1 := (hS.flatEls (U := U) (els := []) (ys := []) ⟨rfl, rfl⟩).new [] e
    exact St.boxSl (ys := ([] : List α)) h1 (Nat.zero_le _)


def Flat {α : Type} (T : Ty α) : Prop := ∀ {w : World} {cs : List Value} {x : α}, T.ro w cs x → T.own w cs x []
theorem Flat.int : Flat tInt := fun h => ⟨h, rfl⟩
theorem Flat.bool : Flat tBool := fun h => ⟨h, rfl⟩
theorem Flat.str : Flat tStr := fun h => ⟨h, rfl⟩
theorem Flat.unit : Flat tUnit := fun h => ⟨h, rfl⟩
theorem Flat.pair {α β : Type} {T : Ty α} {U : Ty β} (h : Flat T) (k : Flat U) : Flat (tPair T U) := by
  rintro w _ x ⟨c, d, rfl, h1, h2⟩
  exact ⟨c, d, [], [], rfl, rfl, h h1, k h2⟩
theorem Flat.map {α β : Type} {f : β → α} {T : Ty α} (h : Flat T) : Flat (tMap f T) := fun k => h k

theorem Els.flat {α : Type} {T : Ty α} (hf : Flat T) {w : World} : ∀ {xs : List α} {cs : List Value}, Els T w cs xs → ElsO T w cs xs []
  | [], _, h => ⟨h, rfl⟩
  | _ :: _, _, ⟨c, d, h, h1, h2⟩ => ⟨c, d, [], [], h, rfl, hf h1, Els.flat hf h2⟩


theorem RW.appendRo {α : Type} {U : Ty α} {P : Program} {T : TT} (ht : TTok P T) (hfl : Flat U) {n : Nat} {ops rest : List Oper} {Q : Post} {F : Fr} {W w : World} {B : List Res} {o : Oper} {e : Nat} {A : Option Addr} {k : Nat} {xs ys : List α}
    (hS : St W w (Own (tSl e U) [.slice A xs.length k] xs :: B)) (hg : guardOf ops F o = some true)
    {t : Nat} {s x : Operand} {i j : TI} (ho : o.op = .call { callee := .builtin .append, args := #[s, x], argTypes := #[t, t] }) (hi : T.get t = some i) (hd : i.d = .slice e) (hj : T.get e = some j) (hs : U.size = j.size) (hpos : 0 < U.size)
    (hx : F.ev s = some (.slice A xs.length k)) {A2 : Option Addr} {k2 : Nat} (hy : F.ev x = some (.slice A2 ys.length k2)) {e' : Nat} (hr : (tSl e' U).ro w [.slice A2 ys.length k2] ys)
    (h63 : (xs.length : Int) + ys.length ≤ 4294967296) (hb : j.bytes ≤ 32768) {d : Nat} (hd' : o.dst = some d) (hn : Nat.blt d n = true)
    (h : ∀ A' k' w', St W w' (Own (tSl e U) [.slice A' (xs ++ ys).length k'] (xs ++ ys) :: B) → RW P n ops Q rest ((d, .slice A' (xs ++ ys).length k') :: F) w') : RW P n ops Q (o :: rest) F w := by
  obtain ⟨A3, c3, els, he, hc, h1, h2⟩ := hr
  simp only [List.cons.injEq, Value.slice.injEq, and_true] at he
  obtain ⟨rfl, _, rfl⟩ := he
  have hS2 := (hS.flatEls (U := U) (els := els) (ys := ys) (Els.flat hfl h1)).bring 1 rfl
  have hm : (xs.length + ys.length) * j.bytes ≤ 4294967296 * 32768 := Nat.mul_le_mul (by omega) hb
  exact RW.append ht hS2 hg ho hi hd hj hs hpos hx hy h2 (by simp only [maxLen]; omega) (by omega) hd' hn h


theorem zes {P : Program} {t e : TypeId} (w : World) (A : Option Addr) (n c : Nat) (ht : P.underlying t = some (.slice e)) : (binOp .eql t (.slice A n c) (.slice none 0 0)).run P w = .ok (.bool A.isNone) w := by
  have h : ∀ d, (Op.equalIn (d + 1) t (.slice A n c) (.slice none 0 0)).run P w = .ok A.isNone w := fun d => by cases A <;> simp [Op.equalIn, run_underlying ht]
  simp only [binOp, Op.equal, Op.maxDepth]
  simp [h 9999]

theorem Quiet.nilEq {P : Program} {T : TT} (ht : TTok P T) {n : Nat} {F : Fr} {w : World} {o : Oper} {t u e : Nat} {x y : Operand} {i : TI} {A : Option Addr} {l c : Nat}
    (ho : o.op = .binOp .eql t x y u) (hi : T.get t = some i) (hd : i.d = .slice e) (hx : F.ev x = some (.slice A l c)) (hy : F.ev y = some (.slice none 0 0)) : Quiet P n F w o (.bool A.isNone) := by
  intro a w' ha _
  unfold execOp
  rw [ho]
  have hg : (eqGuard .eql t x y (.slice A l c) (.slice none 0 0)).run P w' = .ok () w' := by unfold eqGuard; simp
  simp [ha.ev hx, ha.ev hy, hg, zes w' A l c (ht.slice hi hd)]

theorem zhi {α : Type} {U : Ty α} {e : Nat} {w : World} {xs : List α} {n c : Nat} (hpos : 0 < U.size) (hr : (tSl e U).ro w [.slice none n c] xs) : xs = [] := by
  obtain ⟨A, c', els, he, _, h1, h2⟩ := hr
  simp only [List.cons.injEq, Value.slice.injEq, and_true] at he
  obtain ⟨rfl, _, _⟩ := he
  have hl := h1.length
  by_cases hn : els = []
  · subst hn
    have h0 : xs.length * U.size = 0 := by simpa using hl.symm
    rcases Nat.mul_eq_zero.1 h0 with h | h
    · exact List.eq_nil_of_length_eq_zero h
    · omega
  · obtain ⟨p, hp, _⟩ := h2 hn
    cases hp


def slots (size : Nat) : Nat → Nat → List (Nat × Nat × Bool × Nat)
  | _, 0 => []
  | i, k + 1 => (i * size, size, false, 0) :: slots size (i + 1) k

theorem z8T (size : Nat) : ∀ (k i j : Nat) g, (slots size i k)[j]? = some g → g = ((i + j) * size, size, false, 0)
  | 0, i, j, g, h => by simp [slots] at h
  | k + 1, i, 0, g, h => by simp [slots] at h; simp [h]
  | k + 1, i, j + 1, g, h => by
    have := z8T size k (i + 1) j g (by simpa [slots] using h)
    rw [this, show i + 1 + j = i + (j + 1) by omega]

theorem RW.newSlice {α : Type} {U : Ty α} {P : Program} {T : TT} (ht : TTok P T) {n : Nat} {ops rest : List Oper} {Q : Post} {F : Fr} {W w : World} {Rs : List Res} {o : Oper} {t e m : Nat} {ps : List (Nat × Operand)} {vs : List (Nat × Value)} {els : List Value} {ys : List α} {i j : TI}
    (hS : St W w (OwnEls U els ys :: Rs)) (hg : guardOf ops F o = some true)
    (ho : o.op = .buildSlice t m ⟨ps⟩) (hi : T.get t = some i) (hd : i.d = .slice e) (hj : T.get e = some j) (hv : partsOf F ps = some vs) (hf : fillV (slots j.size 0 m) (chunks m j.zero) vs = some els)
    (hm : ys.length = m) (hpos : Nat.ble 1 (m * j.size) = true) (hsm : Nat.ble (m * j.size) 16777216 = true) {d : Nat} (hd' : o.dst = some d) (hn : Nat.blt d n = true)
    (h : ∀ A k w', Ext w w' → St W w' (Own (tSl e U) [.slice A ys.length k] ys :: Rs) → RW P n ops Q rest ((d, .slice A ys.length k) :: F) w') : RW P n ops Q (o :: rest) F w := by
  obtain ⟨jj, hjj, hsz, _, zz, hzz, hzc⟩ := ht.info hj
  have h1 : 1 ≤ m * j.size := by simpa using hpos
  have h2 : m * j.size ≤ 16777216 := by simpa using hsm
  have hzl : j.zero.length = j.size := by
    have := ht.zlen hj
    exact this
  have hcells : (Array.range (m * jj.size)).map (zz.cells[· % zz.cells.size]!) = ⟨chunks m j.zero⟩ := by
    have := z74 j.zero m
    rw [hzl] at this
    rw [hsz, show zz.cells = ⟨j.zero⟩ from by rw [← hzc]]
    have h5 : madeCells ⟨j.zero⟩ (m * j.size) = ⟨chunks m j.zero⟩ := by rw [← this]
    exact h5
  have hfill := zbJ (place := fun i => some (i * jj.size, jj.size)) (gs := slots j.size 0 m) (fun a g hg => by rw [z8T _ _ _ _ _ hg, hsz]; simp) (fun a g hg => by
    rw [z8T _ _ _ _ _ hg]
    intro h0
    have : j.size = 0 := h0
    rw [this] at h1; omega) vs _ els hf
  have hr := run_buildSlice (P := P) w t e m ⟨vs⟩ ⟨els⟩ jj zz (ht.slice hi hd) hjj hzz (by rw [hsz]; omega) (by rw [hsz]; omega) (by rw [hcells]; exact hfill)
  subst hm
  refine RW.ok (v := .slice (some ⟨w.heap.size, 0, none⟩) ys.length ys.length) hg (fun a ha => ?_) hd' hn (h (some ⟨w.heap.size, 0, none⟩) ys.length _ (Ext.alloc w (.cells ⟨els⟩ e)) ?_)
  · unfold execOp
    rw [ho]
    have he : (⟨ps⟩ : Array (Nat × Operand)).map (fun (p : Nat × Operand) => (p.1, a.eval p.2)) = ⟨vs⟩ := by
      simp [z7C ha hv]
    simp [show Array.map (fun x : Nat × Operand => (x.fst, a.eval x.snd)) ⟨ps⟩ = ⟨vs⟩ from he, hr]
  · have hs1 : 1 ≤ j.size := by
      rcases Nat.eq_zero_or_pos j.size with h0 | h0
      · rw [h0] at h1; omega
      · exact h0
    exact St.boxSl (hS.new els e) (by
      have : ys.length * 1 ≤ ys.length * j.size := Nat.mul_le_mul_left _ hs1
      unfold maxLen; omega)


theorem St.els {α : Type} {U : Ty α} {W w : World} {B : List Res} {e : Nat} {A : Option Addr} {k l : Nat} {ys : List α} (h : St W w (Own (tSl e U) [.slice A l k] ys :: B)) :
    ∃ els, St W w (OwnEls U els ys :: B) ∧ (els ≠ [] → ∃ p, A = some p ∧ At w p els) := by
  obtain ⟨he, G, hG, hnd, hlo, hrest⟩ := h
  obtain ⟨v, els, hv, ho, K, hk, rfl⟩ := hG
  simp only [List.cons.injEq, and_true] at hv
  subst hv
  refine ⟨els, ⟨he, K, hk, (List.nodup_append.1 hnd).2.1, fun g hg => hlo g (List.mem_append_right _ hg), hrest.congr fun g hg => ?_⟩, fun hn => ?_⟩
  · rcases List.mem_append.1 hg with hg | hg
    · exact List.mem_append_left _ (List.mem_append_right _ hg)
    · exact List.mem_append_right _ hg
  · rcases ho.2 with ⟨_, hn0⟩ | ⟨g, cap, cur, hv, _, hh, hnc, _, hsz, htk⟩
    · have := hk.length
      rw [hn0, Nat.zero_mul] at this
      exact absurd (List.eq_nil_of_length_eq_zero this) hn
    · simp only [Value.slice.injEq] at hv
      obtain ⟨rfl, _, _⟩ := hv
      refine ⟨_, rfl, fun j u hu => ?_⟩
      have : Addr.add ⟨g, 0, none⟩ j = ⟨g, j, none⟩ := by unfold Addr.add; by_cases hj : j = 0 <;> simp [hj]
      rw [this, cell_of_row w g j cur e (0, 0) hh]
      rw [← htk] at hu
      rw [List.getElem?_take] at hu
      split at hu
      · simpa using hu
      · cases hu


theorem RW.appendOwn {α : Type} {U : Ty α} {P : Program} {T : TT} (ht : TTok P T) {n : Nat} {ops rest : List Oper} {Q : Post} {F : Fr} {W w : World} {B : List Res} {o : Oper} {e e' : Nat} {A A2 : Option Addr} {k k2 : Nat} {xs ys : List α}
    (hS : St W w (Own (tSl e' U) [.slice A2 ys.length k2] ys :: Own (tSl e U) [.slice A xs.length k] xs :: B)) (hg : guardOf ops F o = some true)
    {t : Nat} {s x : Operand} {i j : TI} (ho : o.op = .call { callee := .builtin .append, args := #[s, x], argTypes := #[t, t] }) (hi : T.get t = some i) (hd : i.d = .slice e) (hj : T.get e = some j) (hs : U.size = j.size) (hpos : 0 < U.size)
    (hx : F.ev s = some (.slice A xs.length k)) (hy : F.ev x = some (.slice A2 ys.length k2))
    (h63 : (xs.length : Int) + ys.length ≤ 4294967296) (hb : j.bytes ≤ 32768) {d : Nat} (hd' : o.dst = some d) (hn : Nat.blt d n = true)
    (h : ∀ A' k' w', St W w' (Own (tSl e U) [.slice A' (xs ++ ys).length k'] (xs ++ ys) :: B) → RW P n ops Q rest ((d, .slice A' (xs ++ ys).length k') :: F) w') : RW P n ops Q (o :: rest) F w := by
  obtain ⟨els, h1, h2⟩ := hS.els
  have hm : (xs.length + ys.length) * j.bytes ≤ 4294967296 * 32768 := Nat.mul_le_mul (by omega) hb
  exact RW.append ht (h1.bring 1 rfl) hg ho hi hd hj hs hpos hx hy h2 (by simp only [maxLen]; omega) (by omega) hd' hn h
end Go.E

