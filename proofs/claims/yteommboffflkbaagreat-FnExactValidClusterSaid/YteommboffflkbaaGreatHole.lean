/- An element of a slice of one's own, taken out: the slice without it, and the element's own memory apart. Conditions: none (rules). -/
import Derived.Test.YteommboffflkbaaGreatBuild
namespace Go.E
open Go.RowKit


def Hole {α : Type} (U : Ty α) (e : Nat) (v : Value) (xs : List α) (i : Nat) (es : List Value) : Res where
  A := fun w G => ∃ g cap c1 c2 rest G1 G2, v = .slice (some ⟨g, 0, none⟩) xs.length cap ∧ w.heap[g]? = some (.cells ⟨(c1 ++ (es ++ c2)) ++ rest⟩ e (0, 0)) ∧ xs.length ≤ cap ∧ cap ≤ maxLen ∧
    ((c1 ++ (es ++ c2)) ++ rest).length = cap * U.size ∧ c1.length = i * U.size ∧ es.length = U.size ∧ i < xs.length ∧ ElsO U w c1 (xs.take i) G1 ∧ ElsO U w c2 (xs.drop (i + 1)) G2 ∧ G = g :: (G1 ++ G2)
  loc := by
    rintro w w' G ⟨g, cap, c1, c2, rest, G1, G2, hv, hh, a1, a2, a3, a4, a5, a6, k1, k2, rfl⟩ hs
    exact ⟨g, cap, c1, c2, rest, G1, G2, hv, by rw [hs g (by simp)]; exact hh, a1, a2, a3, a4, a5, a6, k1.loc fun b hb => hs b (by simp [hb]), k2.loc fun b hb => hs b (by simp [hb]), rfl⟩
  lt := by
    rintro w G ⟨g, cap, c1, c2, rest, G1, G2, hv, hh, a1, a2, a3, a4, a5, a6, k1, k2, rfl⟩ b hb
    simp only [List.mem_cons, List.mem_append] at hb
    rcases hb with rfl | hb | hb
    · rcases Nat.lt_or_ge b w.heap.size with h | h
      · exact h
      · rw [Array.getElem?_eq_none h] at hh; cases hh
    · exact k1.lt b hb
    · exact k2.lt b hb

theorem z7L {c1 es c2 rest es' vs : List Value} {off : Nat} (h : setAt es off vs = some es') : setAt ((c1 ++ (es ++ c2)) ++ rest) (c1.length + off) vs = some ((c1 ++ (es' ++ c2)) ++ rest) := by
  refine z7k _ _ _ _ ?_
  have key : ∀ (vs es es' : List Value) (off : Nat), setAt es off vs = some es' → setAt (c1 ++ es) (c1.length + off) vs = some (c1 ++ es') := by
    intro vs
    induction vs with
    | nil => intro es es' off h; simp only [setAt, Option.some.injEq] at h ⊢; rw [h]
    | cons v vs ih =>
      intro es es' off h
      unfold setAt at h ⊢
      split at h
      · rename_i hlt
        have h1 : off < es.length := by simpa using hlt
        have h2 : Nat.blt (c1.length + off) (c1 ++ es).length = true := by simp; omega
        rw [h2]
        have : (c1 ++ es).set (c1.length + off) v = c1 ++ es.set off v := by rw [List.set_append_right _ _ (by omega)]; simp
        simp only [this]
        exact ih _ _ (off + 1) h
      · cases h
  exact key _ _ _ _ (z7k _ _ _ _ h)

set_option linter.unusedVariables false
set_option linter.unusedSimpArgs false
section
variable {α : Type} {U : Ty α} {e : Nat} {W w : World} {B : List Res} {A : Option Addr} {k n i : Nat} {xs : List α} {a : α} {es : List Value}

theorem St.focus (h : St W w (Own (tSl e U) [.slice A xs.length k] xs :: B)) (hx : xs[i]? = some a) : ∃ es, St W w (Hole U e (.slice A xs.length k) xs i es :: Own U es a :: B) := by
  obtain ⟨he, G, hG, hnd, hlo, hrest⟩ := h
  have hi := (List.getElem?_eq_some_iff.1 hx).1
  obtain ⟨g, cap, els, rst, K, hv, hh, hc, hm, hl, hel, hk, rfl⟩ := z8Z hG (by rintro rfl; simp at hi)
  obtain ⟨c1, es, c2, G1, H, G2, rfl, rfl, hl1, k1, k2, k3⟩ := hk.split hx
  refine ⟨es, he, g :: (G1 ++ G2), ⟨g, cap, c1, c2, rst, G1, G2, hv, hh, hc, hm, hl, hl1, U.lenO k2, hi, k1, k3, rfl⟩, ?_, fun b hb => ⟨(hlo b ?_).1, by simp⟩, H, k2, ?_, fun b hb => ⟨(hlo b (by simp [hb])).1, ?_⟩, hrest.congr fun b hb => ?_⟩
  · simp only [List.nodup_cons, List.mem_append, List.nodup_append, not_or] at hnd ⊢
    obtain ⟨⟨h1, h2, h3⟩, h4, ⟨h5, h6, h7⟩, h8⟩ := hnd
    exact ⟨⟨h1, h3⟩, h4, h6, fun a ha b hb => h8 a ha b (.inr hb)⟩
  · simp only [List.mem_cons, List.mem_append] at hb ⊢
    rcases hb with hb | hb | hb <;> simp [hb]
  · simp only [List.nodup_cons, List.nodup_append] at hnd
    exact hnd.2.2.1.1
  · simp only [List.nodup_cons, List.mem_append, List.nodup_append, not_or, List.append_nil, List.mem_cons] at hnd ⊢
    obtain ⟨⟨h1, h2, h3⟩, h4, ⟨h5, h6, h7⟩, h8⟩ := hnd
    exact ⟨fun hbg => h2 (hbg ▸ hb), fun hb1 => h8 b hb1 b (.inl hb) rfl, fun hb2 => h7 b hb b hb2 rfl⟩
  · simp only [List.mem_append, List.mem_cons, List.append_nil] at hb ⊢
    rcases hb with hb | hb | hb | hb <;> simp [hb]

theorem St.turn {R R' : Res} (h : St W w (R :: B)) (hc : ∀ G, R.A w G → G.Nodup → ∃ G', R'.A w G' ∧ G'.Nodup ∧ ∀ g, g ∈ G' → g ∈ G) : St W w (R' :: B) :=
  ⟨h.ext, h.sep.upd h.le fun G hG hn _ => by
    obtain ⟨G', h1, h2, h3⟩ := hc G hG hn
    exact ⟨G', h1, h2, fun g hg => .inl (h3 g hg), fun _ _ _ => rfl⟩⟩

theorem St.unfocus (h : St W w (Hole U e (.slice A xs.length k) xs i es :: Own U es a :: B)) : St W w (Own (tSl e U) [.slice A (xs.set i a).length k] (xs.set i a) :: B) :=
  h.fuse.turn fun G hG hnd => by
    obtain ⟨H, K, rfl, ⟨g, cap, c1, c2, rest, G1, G2, hv, hh, a1, a2, a3, a4, a5, a6, k1, k2, rfl⟩, hk⟩ := hG
    simp only [Value.slice.injEq, true_and] at hv
    obtain ⟨rfl, rfl⟩ := hv
    have hset : xs.set i a = xs.take i ++ (a :: xs.drop (i + 1)) := by rw [List.set_eq_take_append_cons_drop, if_pos a6]
    have hsub : ElsO U w (c1 ++ (es ++ c2)) (xs.set i a) (G1 ++ (K ++ G2)) := by
      rw [hset]
      exact k1.append ⟨es, c2, K, G2, rfl, rfl, hk, k2⟩
    have hown := z87 (w := w) (e := e) (U := U) (xs := xs.set i a) (g := g) (els := c1 ++ (es ++ c2)) (rest := rest) (K := G1 ++ (K ++ G2)) hh (by simpa using a1) a2 a3 hsub.length hsub
    refine ⟨_, hown, ?_, fun b hb => ?_⟩
    · simp only [List.cons_append, List.nodup_cons, List.mem_append, List.nodup_append, not_or] at hnd ⊢
      obtain ⟨⟨⟨h1, h2⟩, h3⟩, ⟨h4, h5, h6⟩, h7, h8⟩ := hnd
      refine ⟨⟨h1, h3, h2⟩, h4, ⟨h7, h5, fun x hx y hy hxy => h8 y (.inr hy) x hx hxy.symm⟩, fun x hx y hy => ?_⟩
      rcases hy with hy | hy
      · exact h8 x (.inl hx) y hy
      · exact h6 x hx y hy
    · simp only [List.mem_append, List.mem_cons, List.cons_append] at hb ⊢
      rcases hb with hb | hb | hb | hb <;> simp [hb]


def ElAt (U : Ty α) (A : Option Addr) (i : Nat) (q : Addr) : Prop := ∃ g, A = some ⟨g, 0, none⟩ ∧ q = ⟨g, i * U.size, none⟩

theorem St.hole_at (h : St W w (Hole U e (.slice A xs.length k) xs i es :: B)) {q : Addr} (hq : ElAt U A i q) : At w q es := by
  obtain ⟨G, ⟨g, cap, c1, c2, rest, G1, G2, hv, hh, a1, a2, a3, a4, a5, a6, k1, k2, rfl⟩, _⟩ := h.sep.head
  obtain ⟨g', rfl, rfl⟩ := hq
  simp only [Value.slice.injEq, Option.some.injEq, Addr.mk.injEq, and_true, true_and] at hv
  obtain ⟨rfl, rfl⟩ := hv
  intro j u hu
  have hj := (List.getElem?_eq_some_iff.1 hu).1
  rw [z9S, cell_of_row w g' _ _ e (0, 0) hh]
  simp only [List.getElem?_toArray]
  rw [List.append_assoc, List.getElem?_append_right (by omega), a4, Nat.add_sub_cancel_left, List.append_assoc, List.getElem?_append_left hj]
  exact hu

theorem St.openSl {β : Type} {V : Ty β} {e' : Nat} {x : List β} {cs : List Value} (h : St W w (Own (tSl e' V) cs x :: B)) : ∃ A c, cs = [.slice A x.length c] ∧ St W w (Own (tSl e' V) [.slice A x.length c] x :: B) := by
  obtain ⟨A, c, rfl⟩ := h.form
  exact ⟨A, c, rfl, h⟩
end

section
variable {P : Program} {n : Nat} {Q : Post} {F : Fr} {W w : World} {ops rest : List Oper} {o : Oper} {T : TT} (ht : TTok P T)
include ht


theorem RW.idxHole {α : Type} {U : Ty α} {A : Option Addr} {k ln : Nat} (hA : ∃ g, A = some ⟨g, 0, none⟩) (hg : guardOf ops F o = some true) {t e' : Nat} {x ix : Operand} {i j : TI}
    {kd : IntKind} {m : Int} (ho : o.op = .indexAddr t x ix) (hi : T.get t = some i) (hd : i.d = .slice e') (hj : T.get e' = some j) (hs : U.size = j.size) (hx : F.ev x = some (.slice A ln k)) (hm : F.ev ix = some (.int kd m))
    (h0 : 0 ≤ m) (hlt : m.toNat < ln) {d : Nat} (hd' : o.dst = some d) (hn : Nat.blt d n = true)
    (h : ∀ q, ElAt U A m.toNat q → RW P n ops Q rest ((d, .pointer (some q)) :: F) w) : RW P n ops Q (o :: rest) F w := by
  obtain ⟨g, rfl⟩ := hA
  refine RW.ok (v := .pointer (some ⟨g, m.toNat * U.size, none⟩)) hg (fun a ha => ?_) hd' hn (h _ ⟨g, rfl, rfl⟩)
  unfold execOp
  rw [ho]
  have hmm : m < ln := by omega
  simp [ha.ev hx, ha.ev hm, Instr.indexAt, asIntOf, Go.underlying, ht.slice hi hd, h0, hmm, ht.sizeOf hj, zdh, hs]


theorem RW.storeHole {α : Type} {U : Ty α} {e : Nat} {A : Option Addr} {k m : Nat} {xs : List α} {es es' : List Value} {B : List Res} (hS : St W w (Hole U e (.slice A xs.length k) xs m es :: B)) {q : Addr} (hq : ElAt U A m q)
    (hg : guardOf ops F o = some true) {t : Nat} {x y : Operand} (ho : o.op = .store t x y) (hd : o.dst = none)
    {i : TI} (hi : T.get t = some i) {q' : Addr} (hx : F.ev x = some (.pointer (some q'))) (off : Nat) (hq' : q' = q.add off) {v : Value} (hy : F.ev y = some v) (hl : Nat.beq (cellsV v).length i.size = true)
    (h1 : oneCells (cellsV v) = true) (hs : setAt es off (cellsV v) = some es') (h : ∀ w', St W w' (Hole U e (.slice A xs.length k) xs m es' :: B) → RW P n ops Q rest F w') : RW P n ops Q (o :: rest) F w := by
  obtain ⟨G, ⟨g, cap, c1, c2, rst, G1, G2, hv, hh, a1, a2, a3, a4, a5, a6, k1, k2, hG⟩, _, hlo⟩ := hS.sep.head
  obtain ⟨g', rfl, rfl⟩ := hq
  simp only [Value.slice.injEq, Option.some.injEq, Addr.mk.injEq, and_true, true_and] at hv
  obtain ⟨rfl, rfl⟩ := hv
  have hset := z7L (c1 := c1) (c2 := c2) (rest := rst) hs
  rw [a4] at hset
  obtain ⟨w', r1, r2, r3, r4, r5, r6, r7⟩ := z2g (P := P) g' (m * U.size + off) e (cellsV v) 0 w _ ((c1 ++ (es' ++ c2)) ++ rst) h1 hh (by rw [Nat.add_zero]; exact hset)
  have hge : W.heap.size ≤ g' := hlo g' (by rw [hG]; simp)
  refine RW.unit (w' := w') hg (fun a ha => ?_) hd (h w' ⟨⟨r5.trans hS.ext.os, r6.trans hS.ext.tape, r7.trans hS.ext.output, by rw [r4]; exact hS.le, fun b hb => ?_⟩, ?_⟩)
  · unfold execOp
    rw [ho]
    have hsz : v.cells.size = i.size := by
      rw [← Array.length_toList, z4W]; exact Nat.eq_of_beq_eq_true hl
    simp [ha.ev hx, ha.ev hy, Instr.storeAt, Instr.sureAddr, storeVar, ht.sizeOf hi, hsz, z4W, hq', z9S, r1]
  · rw [r3 b (by omega)]; exact hS.ext.block b hb
  · refine hS.sep.upd hS.le fun G' hG' hnd' _ => ?_
    obtain ⟨g1, cap1, d1, d2, rst1, H1, H2, hv1, hh1, b1, b2, b3, b4, b5, b6, l1, l2, rfl⟩ := hG'
    simp only [Value.slice.injEq, Option.some.injEq, Addr.mk.injEq, and_true, true_and] at hv1
    obtain ⟨rfl, rfl⟩ := hv1
    rw [hh1] at hh
    simp only [Option.some.injEq, Obj.cells.injEq, Array.mk.injEq, and_true] at hh
    have hset1 := z7L (c1 := d1) (c2 := d2) (rest := rst1) hs
    have e1 : d1.length = c1.length := by rw [b4, a4]
    rw [hh, e1] at hset1
    rw [← a4] at hset
    have e2 : (c1 ++ (es' ++ c2)) ++ rst = (d1 ++ (es' ++ d2)) ++ rst1 := Option.some.inj (hset.symm.trans hset1)
    have hle := z82 _ _ _ _ hs
    simp only [List.nodup_cons, List.mem_append, not_or] at hnd'
    refine ⟨g' :: (H1 ++ H2), ⟨g', k, d1, d2, rst1, H1, H2, rfl, by rw [r2, e2], b1, b2, ?_, b4, by rw [hle]; exact b5, b6, l1.loc fun b hb => r3 b (by rintro rfl; exact hnd'.1.1 hb), l2.loc fun b hb => r3 b (by rintro rfl; exact hnd'.1.2 hb), rfl⟩, by simpa using hnd', fun b hb => .inl hb, fun b hb hn => r3 b (by rintro rfl; exact hn (by simp))⟩
    rw [← b3]
    simp only [List.length_append, hle]
end
end Go.E

