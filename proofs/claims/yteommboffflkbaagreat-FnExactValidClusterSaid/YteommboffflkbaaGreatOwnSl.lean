/- Slices of one's own: made, written element by element, appended to. Conditions: none (rules). -/
import Derived.Test.YteommboffflkbaaGreatData
import Derived.OwnWalk
namespace Go.E
open Go.RowKit
set_option linter.unusedVariables false
set_option linter.unusedSimpArgs false


theorem zbh {α : Type} : ∀ (l : List α) (i : Nat) (a : α), nthv l i = some a → l.Perm (a :: l.eraseIdx i)
  | [], _, _, h => by simp [nthv] at h
  | b :: l, 0, a, h => by simp only [nthv, Option.some.injEq] at h; subst h; simp
  | b :: l, i + 1, a, h => by
    simp only [nthv] at h
    exact ((zbh l i a h).cons b).trans (by simpa using List.Perm.swap a b (l.eraseIdx i))

section
variable {W w w' : World} {B Rs : List Res}
theorem St.bring (i : Nat) {R : Res} (h : St W w Rs) (hi : nthv Rs i = some R) : St W w (R :: Rs.eraseIdx i) := h.perm (zbh Rs i R hi)
theorem St.taken (k : Nat) (h : St W w Rs) : St W w (Rs.take k) := by
  induction Rs generalizing k with
  | nil => simpa using h
  | cons R Rs ih =>
    cases k with
    | zero => exact ⟨h.ext, trivial⟩
    | succ k =>
      have key : ∀ {Rs : List Res} {U : List Nat} (k : Nat), SepU w W.heap.size Rs U → SepU w W.heap.size (Rs.take k) U := by
        intro Rs
        induction Rs with
        | nil => intro U k h; simpa using h
        | cons S Ss ih2 =>
          intro U k h
          cases k with
          | zero => trivial
          | succ k => obtain ⟨G, h1, h2, h3, h4⟩ := h; exact ⟨G, h1, h2, h3, ih2 k h4⟩
      exact ⟨h.ext, key (k + 1) h.sep⟩


theorem St.flat {α : Type} {T : Ty α} {cs : List Value} {x : α} (h : St W w B) (hf : T.own w cs x []) : St W w (Own T cs x :: B) :=
  h.toEmp.conv fun G hG => by rw [show G = [] from hG]; exact hf
end

theorem ElsO.split {α : Type} {T : Ty α} {w : World} : ∀ {xs : List α} {cs : List Value} {G : List Nat}, ElsO T w cs xs G → ∀ {i : Nat} {x : α}, xs[i]? = some x →
    ∃ c1 es c2 G1 H G2, cs = c1 ++ (es ++ c2) ∧ G = G1 ++ (H ++ G2) ∧ c1.length = i * T.size ∧ ElsO T w c1 (xs.take i) G1 ∧ T.own w es x H ∧ ElsO T w c2 (xs.drop (i + 1)) G2
  | [], _, _, _, i, x, hx => by simp at hx
  | y :: xs, _, _, ⟨c, d, H, K, h, hG, h1, h2⟩, i, x, hx => by
    subst h; subst hG
    cases i with
    | zero =>
      simp only [List.getElem?_cons_zero, Option.some.injEq] at hx
      subst hx
      exact ⟨[], c, d, [], H, K, rfl, rfl, by simp, ⟨rfl, rfl⟩, h1, h2⟩
    | succ i =>
      simp only [List.getElem?_cons_succ] at hx
      obtain ⟨c1, es, c2, G1, H', G2, rfl, rfl, hl, k1, k2, k3⟩ := h2.split hx
      refine ⟨c ++ c1, es, c2, H ++ G1, H', G2, by simp, by simp, ?_, ⟨c, c1, H, G1, rfl, rfl, h1, k1⟩, k2, k3⟩
      rw [List.length_append, hl, T.lenO h1, Nat.succ_mul]; omega

theorem z82 : ∀ (vs cs cs' : List Value) (i : Nat), setAt cs i vs = some cs' → cs'.length = cs.length
  | [], cs, cs', i, h => by simp only [setAt, Option.some.injEq] at h; rw [h]
  | v :: vs, cs, cs', i, h => by
    unfold setAt at h
    split at h
    · rw [z82 vs _ cs' _ h]; simp
    · cases h

theorem zc5 : ∀ (es' c1 es c2 : List Value), es'.length = es.length → setAt (c1 ++ (es ++ c2)) c1.length es' = some (c1 ++ (es' ++ c2))
  | [], c1, es, c2, h => by have : es = [] := by simpa using h.symm
                            subst this; rfl
  | v :: es', c1, [], c2, h => by simp at h
  | v :: es', c1, u :: es, c2, h => by
    unfold setAt
    have hlt : Nat.blt c1.length (c1 ++ (u :: es ++ c2)).length = true := by simp
    rw [hlt]
    have : (c1 ++ (u :: es ++ c2)).set c1.length v = (c1 ++ [v]) ++ (es ++ c2) := by simp
    simp only [this]
    have := zc5 es' (c1 ++ [v]) es c2 (by simpa using h)
    simpa using this

theorem zah : ∀ (cs : List Value), (∀ u, u ∈ cs → u.oneCell' = true) → oneCells cs = true
  | [], _ => rfl
  | v :: vs, h => by
    unfold oneCells
    rw [h v (by simp)]
    exact zah vs fun u hu => h u (List.mem_cons_of_mem _ hu)

theorem z7k : ∀ (vs cs ds : List Value) (i : Nat) {cs' : List Value}, setAt cs i vs = some cs' → setAt (cs ++ ds) i vs = some (cs' ++ ds)
  | [], cs, ds, i, cs', h => by simp only [setAt, Option.some.injEq] at h ⊢; rw [h]
  | v :: vs, cs, ds, i, cs', h => by
    unfold setAt at h ⊢
    split at h
    · rename_i hlt
      have h1 : i < cs.length := by simpa using hlt
      have h2 : Nat.blt i (cs ++ ds).length = true := by simp; omega
      rw [h2]
      have : (cs ++ ds).set i v = cs.set i v ++ ds := by rw [List.set_append_left _ _ h1]
      simp only [this]
      exact z7k vs _ ds (i + 1) h
    · cases h

section
variable {P : Program} {α : Type} {U : Ty α} {W w : World} {B : List Res} {e : Nat} {A : Option Addr} {n k : Nat} {xs : List α}


theorem z8Z {v : Value} {G : List Nat} (h : (tSl e U).own w [v] xs G) (hne : xs ≠ []) :
    ∃ g cap els rest K, v = .slice (some ⟨g, 0, none⟩) xs.length cap ∧ w.heap[g]? = some (.cells ⟨els ++ rest⟩ e (0, 0)) ∧ xs.length ≤ cap ∧ cap ≤ maxLen ∧ (els ++ rest).length = cap * U.size ∧ els.length = xs.length * U.size ∧
      ElsO U w els xs K ∧ G = g :: K := by
  obtain ⟨v', els, hv, ho, K, hk, rfl⟩ := h
  simp only [List.cons.injEq, and_true] at hv
  subst hv
  rcases ho.2 with ⟨rfl, hn⟩ | ⟨g, cap, cur, rfl, _, hh, hnc, hmax, hsz, htk⟩
  · exact absurd (List.eq_nil_of_length_eq_zero hn) hne
  · refine ⟨g, cap, els, cur.toList.drop (xs.length * U.size), K, rfl, ?_, hnc, hmax, ?_, ho.1, hk, rfl⟩
    · rw [hh, ← htk, List.take_append_drop]
    · rw [← htk, List.take_append_drop]; simpa using hsz

theorem z87 {g cap : Nat} {els rest : List Value} {K : List Nat} (hh : w.heap[g]? = some (.cells ⟨els ++ rest⟩ e (0, 0))) (hc : xs.length ≤ cap) (hm : cap ≤ maxLen) (hl : (els ++ rest).length = cap * U.size)
    (he : els.length = xs.length * U.size) (hk : ElsO U w els xs K) : (tSl e U).own w [.slice (some ⟨g, 0, none⟩) xs.length cap] xs (g :: K) := by
  refine ⟨_, els, rfl, ⟨he, .inr ⟨g, cap, _, rfl, Nat.zero_le _, hh, hc, hm, by simpa using hl, ?_⟩⟩, K, hk, rfl⟩
  simp [← he]
end

section
variable {P : Program} {n : Nat} {Q : Post} {F : Fr} {W w : World} {ops rest : List Oper} {o : Oper} {T : TT} (ht : TTok P T)
include ht


theorem zac {α : Type} {U : Ty α} {B : List Res} {e : Nat} {A : Option Addr} {k : Nat} {xs : List α} {y : α} {es' : List Value} (hS : St W w (Own (tSl e U) [.slice A xs.length k] xs :: Own U es' y :: B))
    {i : Nat} (hi : i < xs.length) {q : Addr} (hq : ∃ g, A = some ⟨g, 0, none⟩ ∧ q = ⟨g, i * U.size, none⟩) {t : Nat} {j : TI} (hj : T.get t = some j) (hs : U.size = j.size) :
    ∃ w', (∀ v : Value, cellsV v = es' → (storeVar t q v).run P w = .ok () w') ∧ St W w' (Own (tSl e U) [.slice A xs.length k] (xs.set i y) :: B) := by
  obtain ⟨G, hG, hnd, hlo⟩ := hS.fuse.sep.head
  obtain ⟨H, K', hGe, hA, hy⟩ := hG
  obtain ⟨g, cap, els, rst, K, hv, hh, hc, hm, hl, hel, hk, hH⟩ := z8Z hA (by rintro rfl; simp at hi)
  obtain ⟨g', hA', rfl⟩ := hq
  subst hA'
  simp only [Value.slice.injEq, Option.some.injEq, Addr.mk.injEq, and_true, true_and] at hv
  obtain ⟨rfl, rfl⟩ := hv
  have hx : xs[i]? = some xs[i] := List.getElem?_eq_getElem hi
  obtain ⟨c1, es, c2, G1, H', G2, hcs, hKe, hl1, k1, k2, k3⟩ := hk.split hx
  have hlen : es'.length = es.length := by rw [U.lenO hy, U.lenO k2]
  have hset : setAt (els ++ rst) (i * U.size + 0) es' = some ((c1 ++ (es' ++ c2)) ++ rst) := by
    rw [Nat.add_zero, hcs, ← hl1]
    exact z7k _ _ _ _ (zc5 es' c1 es c2 hlen)
  obtain ⟨w', r1, r2, r3, r4, r5, r6, r7⟩ := z2g (P := P) g' (i * U.size) e es' 0 w _ _ (zah _ (U.oneO hy)) hh hset
  have hgG : g' ∈ G := by rw [hGe, hH]; simp
  have hge : W.heap.size ≤ g' := hlo g' hgG
  refine ⟨w', fun v hv => ?_, ⟨r5.trans hS.ext.os, r6.trans hS.ext.tape, r7.trans hS.ext.output, by rw [r4]; exact hS.le, fun b hb => by rw [r3 b (by omega)]; exact hS.ext.block b hb⟩, ?_⟩
  · have hsz : v.cells.size = j.size := by rw [← Array.length_toList, z4W, hv, U.lenO hy, hs]
    unfold storeVar
    simp [ht.sizeOf hj, hsz, z4W, hv, r1]
  · refine hS.fuse.sep.upd hS.le fun G' hG' hnd' _ => ?_
    obtain ⟨H1, K1, rfl, hA1, hy1⟩ := hG'
    obtain ⟨g1, cap1, els1, rst1, L1, hv1, hh1, hc1, hm1, hl1', hel1, hk1, hH1⟩ := z8Z hA1 (by rintro rfl; simp at hi)
    simp only [Value.slice.injEq, Option.some.injEq, Addr.mk.injEq, and_true, true_and] at hv1
    obtain ⟨rfl, rfl⟩ := hv1

    rw [hh1] at hh
    simp only [Option.some.injEq, Obj.cells.injEq, Array.mk.injEq, and_true] at hh
    have hels : els1 = els := by
      have := congrArg (List.take els.length) hh
      rw [List.take_left' rfl] at this
      rw [← this, List.take_left' (by rw [hel1, hel])]
    subst hels
    have hrst : rst1 = rst := by simpa using hh
    subst hrst
    obtain ⟨c1', es1, c2', G1', H1', G2', hcs', hKe', hl1'', m1, m2, m3⟩ := hk1.split hx
    have hnd2 := hnd'
    subst hH1; subst hKe'
    have hgn : g' ∉ G1' ++ (H1' ++ G2') ++ K1 := by
      simp only [List.cons_append, List.nodup_cons] at hnd2
      exact hnd2.1
    have same : ∀ b, b ∈ G1' ++ (H1' ++ G2') ++ K1 → w'.heap[b]? = w.heap[b]? := fun b hb => r3 b (by rintro rfl; exact hgn hb)
    have hcs2 : c1' = c1 := by
      have h1 := hcs'.symm.trans hcs
      have := congrArg (List.take c1.length) h1
      rwa [List.take_left' rfl, List.take_left' (by rw [hl1'', hl1])] at this
    subst hcs2
    have hes2 : es1 ++ c2' = es ++ c2 := by simpa using hcs'.symm.trans hcs
    have hc22 : c2' = c2 := by
      have hle : es1.length = es.length := by rw [U.lenO m2, U.lenO k2]
      have := congrArg (List.drop es.length) hes2
      rwa [List.drop_left' rfl, List.drop_left' hle] at this
    subst hc22
    refine ⟨g' :: (G1' ++ (K1 ++ G2')), ?_, ?_, fun b hb => ?_, fun b hb hn => r3 b (by rintro rfl; exact hn (by simp))⟩
    · have hset' : xs.set i y = xs.take i ++ (y :: xs.drop (i + 1)) := by rw [List.set_eq_take_append_cons_drop, if_pos hi]
      have hlx : xs.length = (xs.set i y).length := by simp
      have hown : (tSl e U).own w' [.slice (some ⟨g', 0, none⟩) (xs.set i y).length k] (xs.set i y) (g' :: (G1' ++ (K1 ++ G2'))) := by
        refine z87 (els := c1' ++ (es' ++ c2')) (rest := rst1) r2 (by simpa using hc1) hm1 ?_ ?_ ?_
        · have h5 := congrArg List.length hcs
          simp only [List.length_append] at hl1' h5 ⊢
          omega
        · have h5 := congrArg List.length hcs
          simp only [List.length_append, List.length_set] at hel1 h5 ⊢
          omega
        · rw [hset']
          refine (m1.loc fun b hb => same b (by simp [hb])).append ⟨es', c2', K1, G2', rfl, rfl, U.loc hy1 (fun b hb => same b (by simp [hb])), m3.loc fun b hb => same b (by simp [hb])⟩
      rw [← hlx] at hown
      exact hown
    · have hp : (g' :: (G1' ++ (K1 ++ G2'))).Sublist (g' :: (G1' ++ (K1 ++ G2'))) := List.Sublist.refl _
      simp only [List.cons_append, List.nodup_cons, List.nodup_append, List.mem_append, not_or] at hnd' ⊢
      obtain ⟨⟨hn1, hn3⟩, ⟨hG1, ⟨hH1, hG2, hHG⟩, hd1⟩, hK1, hd2⟩ := hnd'
      refine ⟨⟨hn1.1, hn3, hn1.2.2⟩, hG1, ⟨hK1, hG2, fun a ha b hb hab => ?_⟩, fun a ha b hb hab => ?_⟩
      · exact hd2 b (.inr (.inr hb)) a ha hab.symm
      · rcases hb with hb | hb
        · exact hd2 a (.inl ha) b hb hab
        · exact hd1 a ha b (.inr hb) hab
    · left
      simp only [List.mem_cons, List.mem_append] at hb
      rcases hb with hb | hb | hb | hb <;> simp [hb]

theorem RW.idxOwn {α : Type} {U : Ty α} {B : List Res} {e : Nat} {A : Option Addr} {k : Nat} {xs : List α} (hS : St W w (Own (tSl e U) [.slice A xs.length k] xs :: B)) (hg : guardOf ops F o = some true) {t e' : Nat} {x ix : Operand} {i j : TI}
    {kd : IntKind} {m : Int} (ho : o.op = .indexAddr t x ix) (hi : T.get t = some i) (hd : i.d = .slice e') (hj : T.get e' = some j) (hs : U.size = j.size) (hx : F.ev x = some (.slice A xs.length k)) (hm : F.ev ix = some (.int kd m))
    (h0 : 0 ≤ m) (hlt : m.toNat < xs.length) {d : Nat} (hd' : o.dst = some d) (hn : Nat.blt d n = true)
    (h : ∀ q, (∃ g, A = some ⟨g, 0, none⟩ ∧ q = ⟨g, m.toNat * U.size, none⟩) → RW P n ops Q rest ((d, .pointer (some q)) :: F) w) : RW P n ops Q (o :: rest) F w := by
  obtain ⟨G, hG, _, _⟩ := hS.sep.head
  obtain ⟨g, cap, els, rst, K, hv, hh, hc, hmx, hl, hel, hk, _⟩ := z8Z hG (by rintro rfl; simp at hlt)
  simp only [Value.slice.injEq, true_and] at hv
  obtain ⟨rfl, rfl⟩ := hv
  refine RW.ok (v := .pointer (some ⟨g, m.toNat * U.size, none⟩)) hg (fun a ha => ?_) hd' hn (h _ ⟨g, rfl, rfl⟩)
  unfold execOp
  rw [ho]
  have hmm : m < xs.length := by omega
  simp [ha.ev hx, ha.ev hm, Instr.indexAt, asIntOf, Go.underlying, ht.slice hi hd, h0, hmm, ht.sizeOf hj, zdh, hs]

theorem RW.storeEl {α : Type} {U : Ty α} {B : List Res} {e : Nat} {A : Option Addr} {k : Nat} {xs : List α} {y : α} {es' : List Value} (hS : St W w (Own (tSl e U) [.slice A xs.length k] xs :: Own U es' y :: B)) (hg : guardOf ops F o = some true)
    {t : Nat} {x yv : Operand} (ho : o.op = .store t x yv) (hd : o.dst = none) {j : TI} (hj : T.get t = some j) (hs : U.size = j.size) {q : Addr} (hx : F.ev x = some (.pointer (some q))) {m : Nat} (hlt : m < xs.length)
    (hq : ∃ g, A = some ⟨g, 0, none⟩ ∧ q = ⟨g, m * U.size, none⟩) {v : Value} (hy : F.ev yv = some v) (hc : cellsV v = es')
    (h : ∀ w', St W w' (Own (tSl e U) [.slice A (xs.set m y).length k] (xs.set m y) :: B) → RW P n ops Q rest F w') : RW P n ops Q (o :: rest) F w := by
  obtain ⟨w', h1, h2⟩ := zac (P := P) ht hS hlt hq hj hs
  refine RW.unit (w' := w') hg (fun a ha => ?_) hd (h w' (by simpa using h2))
  unfold execOp
  rw [ho]
  simp [ha.ev hx, ha.ev hy, Instr.storeAt, Instr.sureAddr, h1 v hc]

omit ht in
theorem z74 (z : List Value) : ∀ k : Nat, (madeCells ⟨z⟩ (k * z.length)).toList = chunks k z
  | 0 => by simp [madeCells, chunks]
  | k + 1 => by
    have ih := z74 z k
    unfold madeCells at ih ⊢
    simp only [Array.toList_map, Array.toList_range] at ih ⊢
    rw [show (k + 1) * z.length = z.length + k * z.length from by rw [Nat.succ_mul]; omega, List.range_add, List.map_append, chunks, ← ih, List.map_map]
    congr 1
    · apply List.ext_getElem
      · simp
      · intro i h1 h2
        simp only [List.length_map, List.length_range] at h1
        simp only [List.getElem_map, List.getElem_range, Nat.mod_eq_of_lt h1, List.size_toArray]
        rw [getElem!_pos _ _ (by simpa using h1)]
        rfl
    · apply List.map_congr_left
      intro i _
      simp

omit ht in
theorem z9s {α : Type} {U : Ty α} {z : α} {zs : List Value} {w : World} (hz : U.own w zs z []) : ∀ k : Nat, ElsO U w (chunks k zs) (List.replicate k z) []
  | 0 => ⟨rfl, rfl⟩
  | k + 1 => ⟨zs, chunks k zs, [], [], rfl, rfl, hz, z9s hz k⟩


theorem RW.make {α : Type} {U : Ty α} {Rs : List Res} (z : α) (hS : St W w Rs) (hg : guardOf ops F o = some true) {t e : Nat} {l c : Operand} {i j : TI} {k1 k2 : IntKind} {m : Int} (ho : o.op = .makeSlice t l c) (hi : T.get t = some i) (hd : i.d = .slice e)
    (hj : T.get e = some j) (hs : U.size = j.size) (hl : F.ev l = some (.int k1 m)) (hc : F.ev c = some (.int k2 m)) (h0 : 0 ≤ m) (hb : m * (j.bytes : Int) ≤ 281474976710656) (h63 : m ≤ maxLen) (hz : ∀ w', U.own w' j.zero z [])
    {d : Nat} (hd' : o.dst = some d) (hn : Nat.blt d n = true)
    (h : ∀ A k w', Ext w w' → St W w' (Own (tSl e U) [.slice A (List.replicate m.toNat z).length k] (List.replicate m.toNat z) :: Rs) → RW P n ops Q rest ((d, .slice A (List.replicate m.toNat z).length k) :: F) w') : RW P n ops Q (o :: rest) F w := by
  obtain ⟨jj, hjj, hsz, hby, zz, hzz, hzc⟩ := ht.info hj
  have hmx : m ≤ 9223372036854775807 := by simpa [maxLen] using h63
  have hr := run_make (P := P) w t e jj zz (ht.slice hi hd) hjj hzz k1 k2 m m h0 (Int.le_refl _) (by rw [hby, Int.mul_comm]; exact hb) hmx
  have hzl : j.zero.length = U.size := U.lenO (hz w)
  have hcells : madeCells zz.cells (m.toNat * jj.size) = ⟨chunks m.toNat j.zero⟩ := by
    rw [← z74 j.zero m.toNat, hzl, hs, hsz, show zz.cells = ⟨j.zero⟩ from by rw [← hzc]]
  rw [hcells] at hr
  have hlen : (List.replicate m.toNat z).length = m.toNat := by simp
  refine RW.ok (v := .slice (some ⟨w.heap.size, 0, none⟩) (List.replicate m.toNat z).length m.toNat) hg (fun a ha => ?_) hd' hn (h _ _ _ (Ext.alloc w (.cells ⟨chunks m.toNat j.zero⟩ e)) ?_)
  · unfold execOp
    rw [ho, hlen]
    simp [ha.ev hl, ha.ev hc, hr]
  · have hcl : ∀ k : Nat, (chunks k j.zero).length = k * U.size := fun k => by
      induction k with
      | zero => simp [chunks]
      | succ k ih => simp [chunks, ih, hzl, Nat.succ_mul, Nat.add_comm]
    have hown := z87 (w := w.alloc (.cells ⟨chunks m.toNat j.zero⟩ e)) (e := e) (U := U) (xs := List.replicate m.toNat z) (g := w.heap.size) (cap := m.toNat) (els := chunks m.toNat j.zero) (rest := []) (K := [])
      (by rw [List.append_nil]; exact heap_alloc_new w _) (by simp) (by have : (m.toNat : Int) = m := Int.toNat_of_nonneg h0; omega) (by simp [hcl]) (by simp [hcl]) (z9s (hz _) _)
    exact hS.join (Ns := [Own (tSl e U) [.slice (some ⟨w.heap.size, 0, none⟩) (List.replicate m.toNat z).length m.toNat] (List.replicate m.toNat z)])
      ⟨Ext.alloc _ _, ⟨[w.heap.size], hown, by simp, fun g hg => by simp at hg; subst hg; exact ⟨Nat.le_refl _, by simp⟩, trivial⟩⟩


def OwnEls {α : Type} (U : Ty α) (els : List Value) (ys : List α) : Res where
  A := fun w G => ElsO U w els ys G
  loc := ElsO.loc
  lt := ElsO.lt

omit ht in
omit ht in
theorem St.noEl {α : Type} (U : Ty α) {B : List Res} (h : St W w B) : St W w (OwnEls U [] [] :: B) :=
  h.toEmp.conv fun G hG => ⟨rfl, hG⟩
omit ht in
theorem St.consEl {α : Type} {U : Ty α} {B : List Res} {es els : List Value} {y : α} {ys : List α} (h : St W w (Own U es y :: OwnEls U els ys :: B)) : St W w (OwnEls U (es ++ els) (y :: ys) :: B) :=
  h.fuse.conv fun G hG => by
    obtain ⟨G1, G2, rfl, h1, h2⟩ := hG
    exact ⟨es, els, G1, G2, rfl, rfl, h1, h2⟩

omit ht in
theorem St.flatEls {α : Type} {U : Ty α} {B : List Res} {els : List Value} {ys : List α} (h : St W w B) (he : ElsO U w els ys []) : St W w (OwnEls U els ys :: B) :=
  h.toEmp.conv fun G hG => by rw [show G = [] from hG]; exact he

omit ht in
theorem zae {v : Value} {n' : Nat} {cells : List Value} {e size : Nat} {w : World} (hown : w.ownsRow 0 e size v n' cells) {t ty : TypeId} {jj : TypeInfo} (hu : P.underlying t = some (.slice e)) (hi : P.info? e = some jj) (c : Nat) :
    (Builtin.append_ #[t, t] ty #[v, .slice none 0 c]).run P w = .ok v w := by
  rcases hown.2 with ⟨rfl, rfl⟩ | ⟨g, cap, cur, rfl, _, _, hnc, _⟩
  · simp [Builtin.append_, run_underlying hu, sizeOf, typeInfo, hi, Builtin.lenOf, Builtin.firstCells]
  · simp [Builtin.append_, run_underlying hu, sizeOf, typeInfo, hi, Builtin.lenOf, Builtin.firstCells, hnc, storeCells]


theorem z8V {α : Type} {U : Ty α} {B : List Res} {e : Nat} {A : Option Addr} {k : Nat} {xs ys : List α} {els : List Value} (hS : St W w (Own (tSl e U) [.slice A xs.length k] xs :: OwnEls U els ys :: B)) {t ty : Nat} {i j : TI}
    (hi : T.get t = some i) (hd : i.d = .slice e) (hj : T.get e = some j) (hs : U.size = j.size) (hpos : 0 < U.size) {A2 : Option Addr} {k2 : Nat} (hat : els ≠ [] → ∃ p, A2 = some p ∧ At w p els)
    (h63 : xs.length + ys.length ≤ maxLen) (hb : (xs.length + ys.length) * j.bytes ≤ 140737488355328) :
    ∃ A' k' w', (Builtin.append_ #[t, t] ty #[.slice A xs.length k, .slice A2 ys.length k2]).run P w = .ok (.slice A' (xs ++ ys).length k') w' ∧ St W w' (Own (tSl e U) [.slice A' (xs ++ ys).length k'] (xs ++ ys) :: B) := by
  obtain ⟨jj, hjj, hsz, hby, zz, hzz, hzc⟩ := ht.info hj
  obtain ⟨G, ⟨H, K2, hGe, ⟨v, cells, hv, ho, K, hk, hH⟩, hk2⟩, hnd, hlo⟩ := hS.fuse.sep.head
  simp only [List.cons.injEq, and_true] at hv
  subst hv
  have helen := hk2.length

  have key : ∃ v' w', (Builtin.append_ #[t, t] ty #[.slice A xs.length k, .slice A2 ys.length k2]).run P w = .ok v' w' ∧ w'.ownsRow 0 e U.size v' (xs.length + ys.length) (cells ++ els) ∧ w.grownBy w' (Value.slice A xs.length k).ownBlock ∧
      (v'.ownBlock = (Value.slice A xs.length k).ownBlock ∨ v'.ownBlock = some w.heap.size) := by
    cases A2 with
    | none =>
      have hnil : els = [] := by
        cases els with
        | nil => rfl
        | cons u r => obtain ⟨p, hp, _⟩ := hat (by simp); cases hp
      subst hnil
      have hy : ys.length = 0 := by
        have : ys.length * U.size = 0 := by simpa using helen.symm
        rcases Nat.mul_eq_zero.1 this with h | h
        · exact h
        · omega
      rw [hy]
      exact ⟨_, w, zae ho (ht.slice hi hd) hjj k2, by simpa using ho, World.grownBy.refl w _, .inl rfl⟩
    | some a =>
      have hcell : ∀ m u, els[m]? = some u → w.cell? (a.add m) = some u := by
        intro m u hu
        obtain ⟨p, hp, hp2⟩ := hat (by rintro rfl; simp at hu)
        simp only [Option.some.injEq] at hp
        subst hp
        exact hp2 m u hu
      obtain ⟨v', w', h1, h2, h3, _, h5⟩ := run_append_own_at (P := P) w 0 t ty e jj zz U.size j.bytes (ht.slice hi hd) hjj hzz (by rw [hsz, hs]) hby
        (by rw [← Array.length_toList, hzc, ht.zlen hj, hs]) hpos
        (.slice A xs.length k) xs.length cells ho a ys.length k2 els helen hcell (ElsO.one hk2) h63 hb (Nat.zero_le _)
      exact ⟨v', w', h1, h2, h3, h5⟩
  obtain ⟨v', w', h1, h2, h3, h5⟩ := key
  have hform : ∃ A' k', v' = .slice A' (xs ++ ys).length k' := by
    rw [List.length_append]
    rcases h2.2 with ⟨rfl, h0⟩ | ⟨g, cap, cur, rfl, _⟩
    · exact ⟨none, 0, by rw [h0]⟩
    · exact ⟨_, cap, rfl⟩
  obtain ⟨A', k', rfl⟩ := hform

  have hKn : ∀ b, b ∈ K ++ K2 → some b ≠ (Value.slice A xs.length k).ownBlock := fun b hb hbo => by
    subst hGe; subst hH
    rw [← hbo] at hnd
    simp only [Option.toList, List.cons_append, List.nil_append, List.nodup_cons] at hnd
    exact hnd.1 hb
  have hlt : ∀ b, b ∈ K ++ K2 → b < w.heap.size := fun b hb => by
    rcases List.mem_append.1 hb with h | h
    · exact hk.lt b h
    · exact ElsO.lt hk2 b h
  have same : ∀ b, b ∈ K ++ K2 → w'.heap[b]? = w.heap[b]? := fun b hb => h3.block b (hlt b hb) (hKn b hb)
  have hbase : ∀ b, (Value.slice A xs.length k).ownBlock = some b → W.heap.size ≤ b := fun b hb => hlo b (by rw [hGe, hH, hb]; simp)
  have hown : (tSl e U).own w' [.slice A' (xs ++ ys).length k'] (xs ++ ys) ((Value.slice A' (xs ++ ys).length k').ownBlock.toList ++ (K ++ K2)) :=
    ⟨_, cells ++ els, rfl, by rw [List.length_append]; rw [List.length_append] at h2; exact h2, K ++ K2, (hk.loc fun b hb => same b (List.mem_append_left _ hb)).append (ElsO.loc hk2 fun b hb => same b (List.mem_append_right _ hb)), rfl⟩
  refine ⟨A', k', w', h1, ⟨h3.os.trans hS.ext.os, h3.tape.trans hS.ext.tape, h3.output.trans hS.ext.output, Nat.le_trans hS.le h3.size, fun b hb => ?_⟩, ?_⟩
  · rw [h3.block b (Nat.lt_of_lt_of_le hb hS.le) (fun hbo => by have := hbase b hbo.symm; omega)]
    exact hS.ext.block b hb
  · refine hS.fuse.sep.upd hS.le fun G' hG' hnd' _ => ?_
    obtain ⟨H1, L2, rfl, ⟨v1, cells1, hv1, ho1, L, hl, hH1⟩, hl2⟩ := hG'
    simp only [List.cons.injEq, and_true] at hv1
    subst hv1

    have hKn' : ∀ b, b ∈ L ++ L2 → some b ≠ (Value.slice A xs.length k).ownBlock := fun b hb hbo => by
      subst hH1
      rw [← hbo] at hnd'
      simp only [Option.toList, List.cons_append, List.nil_append, List.nodup_cons] at hnd'
      exact hnd'.1 hb
    have hlt' : ∀ b, b ∈ L ++ L2 → b < w.heap.size := fun b hb => by
      rcases List.mem_append.1 hb with h | h
      · exact hl.lt b h
      · exact ElsO.lt hl2 b h
    have same' : ∀ b, b ∈ L ++ L2 → w'.heap[b]? = w.heap[b]? := fun b hb => h3.block b (hlt' b hb) (hKn' b hb)
    have hcells : cells1 = cells := by
      rcases ho.2 with ⟨hn, h0⟩ | ⟨g, cap, cur, hvv, _, hh, _, _, _, htk⟩
      · have e1 : cells.length = 0 := by rw [ho.1, h0]; simp
        have e2 : cells1.length = 0 := by rw [ho1.1, h0]; simp
        rw [List.eq_nil_of_length_eq_zero e1, List.eq_nil_of_length_eq_zero e2]
      · rcases ho1.2 with ⟨hn, h0⟩ | ⟨g', cap', cur', hvv', _, hh', _, _, _, htk'⟩
        · have e1 : cells.length = 0 := by rw [ho.1, h0]; simp
          have e2 : cells1.length = 0 := by rw [ho1.1, h0]; simp
          rw [List.eq_nil_of_length_eq_zero e1, List.eq_nil_of_length_eq_zero e2]
        · rw [hvv] at hvv'
          simp only [Value.slice.injEq, Option.some.injEq, Addr.mk.injEq, and_true, true_and] at hvv'
          obtain ⟨rfl, rfl⟩ := hvv'
          rw [hh] at hh'
          simp only [Option.some.injEq, Obj.cells.injEq, and_true] at hh'
          subst hh'
          rw [← htk, ← htk']
    subst hcells
    refine ⟨(Value.slice A' (xs ++ ys).length k').ownBlock.toList ++ (L ++ L2), ?_, ?_, fun b hb => ?_, fun b hb hn => h3.block b hb fun hbo => hn ?_⟩
    · exact ⟨_, cells1 ++ els, rfl, by rw [List.length_append]; rw [List.length_append] at h2; exact h2, L ++ L2, (hl.loc fun b hb => same' b (List.mem_append_left _ hb)).append (ElsO.loc hl2 fun b hb => same' b (List.mem_append_right _ hb)), rfl⟩
    · have hLL : (L ++ L2).Nodup := by
        subst hH1
        rw [List.append_assoc] at hnd'
        exact (List.nodup_append.1 hnd').2.1
      rcases h5 with h5 | h5
      · rw [h5, ← List.append_assoc, ← hH1]; exact hnd'
      · rw [h5]
        simp only [Option.toList, List.cons_append, List.nil_append, List.nodup_cons]
        exact ⟨fun hb => by have := hlt' _ hb; omega, hLL⟩
    · rcases List.mem_append.1 hb with hb | hb
      · rcases h5 with h5 | h5
        · rw [h5] at hb; left; rw [hH1]; simp only [List.mem_append]; exact .inl (.inl hb)
        · rw [h5] at hb; simp only [Option.toList, List.mem_singleton] at hb; right; omega
      · left; rw [hH1]; simp only [List.mem_append] at hb ⊢; rcases hb with hb | hb
        · exact .inl (.inr hb)
        · exact .inr hb
    · rw [hH1, ← hbo]; simp
end

section
variable {P : Program} {n : Nat} {Q : Post} {F : Fr} {W w : World} {ops rest : List Oper} {o : Oper} {T : TT} (ht : TTok P T)
include ht


theorem RW.append {α : Type} {U : Ty α} {B : List Res} {e : Nat} {A : Option Addr} {k : Nat} {xs ys : List α} {els : List Value} (hS : St W w (Own (tSl e U) [.slice A xs.length k] xs :: OwnEls U els ys :: B)) (hg : guardOf ops F o = some true)
    {t : Nat} {s x : Operand} {i j : TI} (ho : o.op = .call { callee := .builtin .append, args := #[s, x], argTypes := #[t, t] }) (hi : T.get t = some i) (hd : i.d = .slice e) (hj : T.get e = some j) (hs : U.size = j.size) (hpos : 0 < U.size)
    (hx : F.ev s = some (.slice A xs.length k)) {A2 : Option Addr} {k2 : Nat} (hy : F.ev x = some (.slice A2 ys.length k2)) (hat : els ≠ [] → ∃ p, A2 = some p ∧ At w p els)
    (h63 : xs.length + ys.length ≤ maxLen) (hb : (xs.length + ys.length) * j.bytes ≤ 140737488355328) {d : Nat} (hd' : o.dst = some d) (hn : Nat.blt d n = true)
    (h : ∀ A' k' w', St W w' (Own (tSl e U) [.slice A' (xs ++ ys).length k'] (xs ++ ys) :: B) → RW P n ops Q rest ((d, .slice A' (xs ++ ys).length k') :: F) w') : RW P n ops Q (o :: rest) F w := by
  obtain ⟨A', k', w', h1, h2⟩ := z8V (P := P) (ty := o.type) ht hS hi hd hj hs hpos (k2 := k2) hat h63 hb
  refine RW.ok (w' := w') hg (fun a ha => ?_) hd' hn (h A' k' w' h2)
  unfold execOp
  rw [ho]
  simp [resolve, invoke, builtin, ha.ev hx, ha.ev hy]
  rw [h1]
  simp
end
end Go.E

