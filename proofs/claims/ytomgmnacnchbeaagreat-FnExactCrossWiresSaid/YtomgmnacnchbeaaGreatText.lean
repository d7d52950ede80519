/- Texts: joining two, making one of bytes. Conditions: none (rules). -/
import Derived.Test.YtomgmnacnchbeaaGreatParam
import Derived.Laws.BytesArg
import Derived.Laws.Concat
namespace Go.E
open Go.RowKit
set_option linter.unusedVariables false
set_option linter.unusedSimpArgs false

/-- where a part of a slice begins -/
def cutA (A : Option Addr) (c l s : Nat) : Option Addr := if c = l then A else A.map (·.add (l * s))

theorem ro_cut {α : Type} {U : Ty α} {w : World} {e' : Nat} {A : Option Addr} {len c l h : Nat} {xs : List α} (hr : (tSl e' U).ro w [.slice A len c] xs) (h1 : l ≤ h) (h2 : h ≤ xs.length) : (tSl e' U).ro w [.slice (cutA A c l U.size) (h - l) (c - l)] ((xs.take h).drop l) := by
  obtain ⟨A', c', els, he, hc, hels, hat⟩ := hr
  simp only [List.cons.injEq, Value.slice.injEq, and_true] at he
  obtain ⟨rfl, rfl, rfl⟩ := he
  have hlen : ((xs.take h).drop l).length = h - l := by simp [Nat.min_eq_left h2]
  refine ⟨_, c - l, (els.take (h * U.size)).drop (l * U.size), by rw [hlen], by rw [hlen]; omega, ?_, fun hne => ?_⟩
  · exact Els.drop (Els.take hels h h2) l (by simp [Nat.min_eq_left h2]; exact h1)
  · have hne' : els ≠ [] := by rintro rfl; simp at hne
    have hlt : l < h := by
      rcases Nat.lt_or_ge l h with h' | h'
      · exact h'
      · have : l = h := by omega
        subst this
        exact absurd (by rw [List.drop_eq_nil_iff, List.length_take]; exact Nat.min_le_left _ _) hne
    obtain ⟨p, rfl, hp⟩ := hat hne'
    unfold cutA
    rw [if_neg (by omega)]
    refine ⟨p.add (l * U.size), rfl, ?_⟩
    refine hp.part fun m u hu => ?_
    rw [List.getElem?_drop, List.getElem?_take] at hu
    split at hu
    · exact hu
    · cases hu

theorem ro_cut' {α : Type} {U : Ty α} {w : World} {e' : Nat} {A : Option Addr} {len c l h : Nat} {xs : List α} (hr : (tSl e' U).ro w [.slice A len c] xs) (h1 : l ≤ h) (h2 : h ≤ xs.length) {m : Nat} (hm : h - l = m) : (tSl e' U).ro w [.slice (cutA A c l U.size) m (c - l)] ((xs.take h).drop l) := hm ▸ ro_cut hr h1 h2

theorem Quiet.cutX {P : Program} {T : TT} (ht : TTok P T) {n : Nat} {F : Fr} {w : World} {o : Oper} {α : Type} {U : Ty α} {t e : Nat} {x : Operand} {lo hi : Option Operand} {i j : TI} {A : Option Addr} {len c : Nat} {xs : List α} (ho : o.op = .slice t x lo hi none)
    (hi' : T.get t = some i) (hd : i.d = .slice e) (hj : T.get e = some j) (hs : U.size = j.size) (hx : F.ev x = some (.slice A len c)) {e' : Nat}
    (hr : (tSl e' U).ro w [.slice A len c] xs) {l h : Nat} (hl : (lo = none ∧ l = 0) ∨ ∃ y k, lo = some y ∧ F.ev y = some (.int k (l : Int))) (hh : (hi = none ∧ h = xs.length) ∨ ∃ y k, hi = some y ∧ F.ev y = some (.int k (h : Int)))
    (h1 : l ≤ h) (h2 : h ≤ xs.length) : Quiet P n F w o (.slice (cutA A c l U.size) (h - l) (c - l)) := by
  obtain ⟨A', c', els, he, hc, hels, hat⟩ := hr
  simp only [List.cons.injEq, Value.slice.injEq, and_true] at he
  obtain ⟨rfl, rfl, rfl⟩ := he
  intro a w' ha _
  unfold execOp cutA
  rw [ho, hs]
  have hcap : h ≤ c := Nat.le_trans h2 hc
  have hb1 : ∀ (k : IntKind) (m y : Nat) (cd : BoundsCode), m ≤ y → (Instr.sliceBound (.int k (m : Int)) y cd).run P w' = .ok m w' := fun k m y cd hmy => by
    simp [Instr.sliceBound, asIntOf, hmy]
  rcases hl with ⟨rfl, rfl⟩ | ⟨y, k, rfl, hy⟩ <;> rcases hh with ⟨rfl, rfl⟩ | ⟨y', k', rfl, hy'⟩
  · simp [ha.ev hx, Instr.sliceAt, Instr.slice, Go.underlying, ht.slice hi' hd, Instr.sliceBounds, ht.sizeOf hj]
  · simp [ha.ev hx, ha.ev hy', Instr.sliceAt, Instr.slice, Go.underlying, ht.slice hi' hd, Instr.sliceBounds, ht.sizeOf hj, hb1, hcap]
  · simp [ha.ev hx, ha.ev hy, Instr.sliceAt, Instr.slice, Go.underlying, ht.slice hi' hd, Instr.sliceBounds, ht.sizeOf hj, hb1, h1]
  · simp [ha.ev hx, ha.ev hy, ha.ev hy', Instr.sliceAt, Instr.slice, Go.underlying, ht.slice hi' hd, Instr.sliceBounds, ht.sizeOf hj, hb1, hcap, h1]

theorem RW.cutX {P : Program} {n : Nat} {Q : Post} {F : Fr} {w : World} {ops rest : List Oper} {o : Oper} {T : TT} (ht : TTok P T) {α : Type} {U : Ty α} {w1 : World} (he : Ext w1 w) (hg : guardOf ops F o = some true) {t e : Nat} {x : Operand} {lo hi : Option Operand} {i j : TI} {A : Option Addr} {len c : Nat} {xs : List α} (ho : o.op = .slice t x lo hi none)
    (hi' : T.get t = some i) (hd : i.d = .slice e) (hj : T.get e = some j) (hs : U.size = j.size) (hx : F.ev x = some (.slice A len c)) {e' : Nat}
    (hr : (tSl e' U).ro w1 [.slice A len c] xs) {l h : Nat} (hl : (lo = none ∧ l = 0) ∨ ∃ y k, lo = some y ∧ F.ev y = some (.int k (l : Int))) (hh : (hi = none ∧ h = xs.length) ∨ ∃ y k, hi = some y ∧ F.ev y = some (.int k (h : Int)))
    (h1 : l ≤ h) (h2 : h ≤ xs.length) {d : Nat} (hd' : o.dst = some d) (hn : Nat.blt d n = true)
    (hk : RW P n ops Q rest ((d, .slice (cutA A c l U.size) (h - l) (c - l)) :: F) w) : RW P n ops Q (o :: rest) F w :=
  RW.quiet hg ((Quiet.cutX ht ho hi' hd hj hs hx hr hl hh h1 h2).later he) hd' hn hk

theorem Quiet.buildK {P : Program} {n : Nat} {F : Fr} {w : World} {o : Oper} {t : Nat} {ps : List (Nat × Operand)} {vs : List (Nat × Value)} {cs : List Value}
    (ho : o.op = .build t ⟨ps⟩) (hv : partsOf F ps = some vs) (hb : P.built t vs = some ⟨cs⟩) : Quiet P n F w o (.agg ⟨cs⟩) := by
  intro a w' ha _
  unfold execOp
  rw [ho]
  have := run_build (P := P) w' t ⟨vs⟩ ⟨cs⟩ hb
  have he : (⟨ps⟩ : Array (Nat × Operand)).map (fun (p : Nat × Operand) => (p.1, a.eval p.2)) = ⟨vs⟩ := by
    simp [partsOf_eq ha hv]
  simp [show Array.map (fun x : Nat × Operand => (x.fst, a.eval x.snd)) ⟨ps⟩ = ⟨vs⟩ from he, this]

theorem Quiet.arrIdx {P : Program} {T : TT} (ht : TTok P T) {n : Nat} {F : Fr} {w : World} {o : Oper} {t e len : Nat} {x ix : Operand} {j : TI} {cs : List Value} {xs : List Int} {k kd : IntKind} {m a : Int} (ho : o.op = .index t x ix)
    (hu : P.underlying t = some (.array len e)) (hj : T.get e = some j) (hag : j.agg = false) (hs : j.size = 1) (hx : F.ev x = some (.agg ⟨cs⟩)) (hc : cs = xs.map (Value.int kd)) (hm : F.ev ix = some (.int k m)) (h0 : 0 ≤ m) (ha : xs[m.toNat]? = some a) (hl : xs.length = len := by rfl) : Quiet P n F w o (.int kd a) := by
  intro b w' hb _
  have hlt := (List.getElem?_eq_some_iff.1 ha).1
  have hr := run_part (P := P) ht hj (xs := cs) (off := m.toNat * 1) (x := .int kd a) (.inr ⟨hag, by
    rw [hs, Nat.mul_one, hc]
    have h1 : (xs.map (Value.int kd))[m.toNat]? = some (.int kd a) := by rw [List.getElem?_map, ha]; rfl
    have h2 := (List.getElem?_eq_some_iff.1 h1)
    rw [List.drop_eq_getElem_cons h2.1, h2.2]; rfl⟩) w'
  unfold execOp
  rw [ho]
  have hmm : m < len := by omega
  rw [Nat.mul_one] at hr
  simp [hb.ev hx, hb.ev hm, Instr.index, asIntOf, Go.underlying, hu, h0, hmm, ht.sizeOf hj, hs, hr]

theorem Quiet.cat {P : Program} {n : Nat} {F : Fr} {w : World} {o : Oper} {t u : Nat} {x y : Operand} {a b : ByteArray} (ho : o.op = .binOp .add t x y u) (hx : F.ev x = some (.string a)) (hy : F.ev y = some (.string b))
    (h : a.size + b.size ≤ 9223372036854775807) : Quiet P n F w o (.string (a ++ b)) := by
  intro c w' hc _
  unfold execOp
  rw [ho]
  have hr := run_string_add_sum (P := P) w' a b h
  have hg : (eqGuard .add t x y (.string a) (.string b)).run P w' = .ok () w' := by unfold eqGuard; simp
  simp [hc.ev hx, hc.ev hy, hg, binOp_string_add, hr]

theorem Quiet.rem {P : Program} {n : Nat} {F : Fr} {w : World} {o : Oper} {t u : Nat} {x y : Operand} {k : IntKind} {a b : Int} (ho : o.op = .binOp .rem t x y u) (hx : F.ev x = some (.int k a)) (hy : F.ev y = some (.int k b))
    (h : b ≠ 0) : Quiet P n F w o (.int k (a.tmod b)) := by
  intro c w' hc _
  unfold execOp
  rw [ho]
  have hg : (eqGuard .rem t x y (.int k a) (.int k b)).run P w' = .ok () w' := by unfold eqGuard; simp
  simp [hc.ev hx, hc.ev hy, hg, run_rem k a b h t w']

theorem Quiet.quo {P : Program} {n : Nat} {F : Fr} {w : World} {o : Oper} {t u : Nat} {x y : Operand} {k : IntKind} {a b : Int} (ho : o.op = .binOp .quo t x y u) (hx : F.ev x = some (.int k a)) (hy : F.ev y = some (.int k b))
    (h : b ≠ 0) : Quiet P n F w o (.int k (k.wrap (a.tdiv b))) := by
  intro c w' hc _
  unfold execOp
  rw [ho]
  have hg : (eqGuard .quo t x y (.int k a) (.int k b)).run P w' = .ok () w' := by unfold eqGuard; simp
  simp [hc.ev hx, hc.ev hy, hg, run_quo k a b h t w']

theorem Els.ints {k : IntKind} {w : World} : ∀ {xs : List Int} {cs : List Value}, Els (tIntK k) w cs xs → cs = xs.map (Value.int k)
  | [], _, h => h
  | x :: xs, _, ⟨c, d, h, h1, h2⟩ => by
    have h1' : c = [.int k x] := h1
    rw [h, h1', Els.ints h2]; rfl

theorem Quiet.bytesStr {P : Program} {T : TT} (ht : TTok P T) {n : Nat} {F : Fr} {w : World} {o : Oper} {s d e : Nat} {x : Operand} {i j l : TI} {A : Option Addr} {len c : Nat} {xs : List Int} (ho : o.op = .convert s d x)
    (hi : T.get s = some i) (hd : i.d = .slice e) (hj : T.get e = some j) (hjd : j.d = .int .u8) (hl : T.get d = some l) (hld : l.d = .str) (hx : F.ev x = some (.slice A len c)) {e' : Nat} (hr : (tSl e' (tIntK .u8)).ro w [.slice A len c] xs) :
    Quiet P n F w o (.string (strOfNums xs)) := by
  intro a w' ha hex
  obtain ⟨A', c', els, he, hc, hels, hat⟩ := hr
  simp only [List.cons.injEq, Value.slice.injEq, and_true] at he
  obtain ⟨rfl, rfl, rfl⟩ := he
  have hcs := hels.ints
  unfold execOp
  rw [ho]
  have hrun : (convert s d (.slice A xs.length c)).run P w' = .ok (.string (strOfNums xs)) w' := by
    cases A with
    | none =>
      have hn : xs = [] := by
        cases xs with
        | nil => rfl
        | cons y ys => obtain ⟨p, hp, _⟩ := hat (by rw [hcs]; simp); cases hp
      subst hn
      rw [run_convert_bytes_nil (P := P) w' s e (ht.slice hi hd) (ht.int hj hjd) _ _ d (ht.str hl hld)]
      rfl
    | some p =>
      have hl' : (loadCells p xs.length).run P w' = .ok (xs.map (Value.int .u8)).toArray w' := by
        have := run_loadCells_list (P := P) w' p (xs.map (Value.int .u8)) (fun j v hj => by
          have hne : els ≠ [] := by rw [hcs]; rintro h0; rw [h0] at hj; simp at hj
          obtain ⟨p', hp', hA⟩ := hat hne
          simp only [Option.some.injEq] at hp'
          subst hp'
          exact hex.cell (hA j v (by rw [hcs]; exact hj)))
        simpa using this
      rw [run_convert_bytes_string w' s d e _ xs.length c (ht.slice hi hd) (ht.int hj hjd) (ht.str hl hld), run_bytesToString w' _ xs.length c xs hl', foldl_push_bytes]
      simp [strOfNums, ByteArray.empty, ByteArray.emptyWithCapacity]
      rfl
  simp [ha.ev hx, hrun]
end Go.E
