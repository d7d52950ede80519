/- Making, appending and storing in regions whose order is drawn. Conditions: none (rules; those of the text's order, carried over). -/
import Derived.Test.YteommboffflkbaaGreatText
namespace Go.E
open Go.RowKit
set_option linter.unusedVariables false
set_option linter.unusedSimpArgs false

section
variable {P : Program} {n : Nat} {Q : Post} {F : Fr} {w w0 W W9 : World} {ops : List Oper} {wm fuel kk mm : Nat} {sk : List (List Nat × Nat)} {o : Oper}

theorem LM.okD (hsk : skOf ops = sk ∧ ops.length = kk) {v : Value} {w' : World} {ii : Nat} (m' : Nat) (hm' : mm ||| 2 ^ ii = m') (hwi : wm.testBit ii = false) (hni : nthv ops ii = some o) (hg : guardOf ops F o = some true) (hr : ∀ a, Fits n F a → (execOp a.eval o).run P w = .ok (.value v) w') {d : Nat} (hd : o.dst = some d) (hn : Nat.blt d n = true) (hw : Ext w w')
    (h : DM P n ops Q W9 w0 wm fuel kk m' ((d, v) :: F) w') : LM P n ops Q W9 w0 wm fuel kk mm ii F w := by
  refine LM.ok hsk m' hm' hwi hni hg hr hw (by rw [hd]; exact hn) ?_
  rw [hd]
  exact h

theorem LM.okWD (hsk : skOf ops = sk ∧ ops.length = kk) {v : Value} {w' : World} {ii : Nat} (m' : Nat) (hm' : mm ||| 2 ^ ii = m') (hwi : wm.testBit ii = true) (hni : nthv ops ii = some o) (hg : guardOf ops F o = some true) (hr : ∀ a, Fits n F a → (execOp a.eval o).run P w = .ok (.value v) w') {d : Nat} (hd : o.dst = some d) (hn : Nat.blt d n = true) (hW : Ext W9 w')
    (h : DM P n ops Q W9 w0 wm fuel kk m' ((d, v) :: F) w') : LM P n ops Q W9 w0 wm fuel kk mm ii F w := by
  refine LM.okW hsk m' hm' hwi hni hg hr (by rw [hd]; exact hn) hW ?_
  rw [hd]
  exact h
end

theorem DW.quietP {P : Program} {n : Nat} {Q : Post} {F : Fr} {w w0 W9 : World} {ops : List Oper} {wr : Nat → Bool} {fuel : Nat} {listed : Array Bool} {o : Oper} {v : Value} (i : Nat) (hwi : wr i = false) (hi : nthv ops i = some o) (hf : freeAt ops listed i = true) (hg : guardOf ops F o = some true) (hq : ∀ w, Quiet P n F w o v) {d : Nat} (hd : o.dst = some d) (hn : Nat.blt d n = true)
    (h : DW P n ops Q W9 w0 wr fuel (listed.setIfInBounds i true) ((d, v) :: F) w) : DW P n ops Q W9 w0 wr (fuel + 1) listed F w := fun hs he hv a ha => by
  rw [z2P] at hi
  obtain ⟨h1, h2⟩ := z7R hf
  refine z60 (oi := o) (v := v) (by simpa using hi) hs h1 h2 (noPanic v _) hwi (.inl ⟨zo hg ha, fun w' _ => hq w' a w' ha (Ext.refl w')⟩) he hv ?_
  rw [hd]
  exact h hs (fun hn' => he (hn'.back hwi)) hv _ (ha.put hn v)

theorem DM.quietP {P : Program} {n : Nat} {Q : Post} {F : Fr} {w w0 W9 : World} {ops : List Oper} {wm fuel k m : Nat} {sk : List (List Nat × Nat)} {o : Oper} {v : Value} (hsk : skOf ops = sk ∧ ops.length = k) (i m' : Nat) (hm : m ||| 2 ^ i = m') (hwi : wm.testBit i = false) (hi : nthv ops i = some o) (hf : freeM sk (2 ^ k - 1) m i = true) (hg : guardOf ops F o = some true) (hq : ∀ w, Quiet P n F w o v) {d : Nat} (hd : o.dst = some d) (hn : Nat.blt d n = true)
    (h : DM P n ops Q W9 w0 wm fuel k m' ((d, v) :: F) w) : DM P n ops Q W9 w0 wm (fuel + 1) k m F w := fun l hl =>
  DW.quietP i hwi hi (z8u hsk.1 hsk.2 hl (by rw [← z2P]; exact hi) hf) hg hq hd hn (h _ (hl.set (z7E hsk.2 hi) hm))

theorem LW.callW {P : Program} {n : Nat} {Q : Post} {F : Fr} {w w0 W9 : World} {ops : List Oper} {wr : Nat → Bool} {fuel : Nat} {listed : Array Bool} {o : Oper} {i : Nat} (hwi : wr i = true) (hsz : i < listed.size) (hi : nthv ops i = some o) (hg : guardOf ops F o = some true) {f : FuncId} {vs : List Value} (hc : callOf F o.op = some (f, vs)) (hn : dstOk n o.dst = true) (hen : Enters P f)
    {R : Value → World → Prop} (hf : Calls P f ⟨vs⟩ w (Ret R)) (h : ∀ v w', R v w' → Ext W9 w' ∧ DW P n ops Q W9 w0 wr fuel (listed.setIfInBounds i true) (F.putO o.dst v) w') : LW P n ops Q W9 w0 wr fuel listed i F w := fun hs he hv a ha => by
  rw [z2P] at hi
  have hi' : ops.toArray[i]? = some o := by simpa using hi
  have hno : ¬ NoWr wr (listed.setIfInBounds i true) := fun hn' => by
    have := hn' i hwi
    simp [Array.getD_eq_getD_getElem?, hsz] at this
  unfold wpOp
  simp only [hi']
  rw [if_pos (zo hg ha)]
  refine .inl ?_
  unfold Oper.wp
  rw [z9j hen hc ha, Oper.upon_enter]
  refine hf.mono fun e w' hr => ?_
  cases e with
  | returned v => exact ⟨⟨fun hn' => absurd hn' hno, (h v w' hr).1⟩, (h v w' hr).2 hs (fun hn' => absurd hn' hno) (h v w' hr).1 _ (ha.putO hn v)⟩
  | panicked _ => exact hr.elim
  | outgrown => exact hr.elim

theorem LM.callW {P : Program} {n : Nat} {Q : Post} {F : Fr} {w w0 W9 : World} {ops : List Oper} {wm fuel k m : Nat} {sk : List (List Nat × Nat)} {o : Oper} (hsk : skOf ops = sk ∧ ops.length = k) {i : Nat} (m' : Nat) (hm : m ||| 2 ^ i = m') (hwi : wm.testBit i = true) (hi : nthv ops i = some o) (hg : guardOf ops F o = some true) {f : FuncId} {vs : List Value} (hc : callOf F o.op = some (f, vs)) (hn : dstOk n o.dst = true) (hen : Enters P f)
    {R : Value → World → Prop} (hf : Calls P f ⟨vs⟩ w (Ret R)) (h : ∀ v w', R v w' → Ext W9 w' ∧ DM P n ops Q W9 w0 wm fuel k m' (F.putO o.dst v) w') : LM P n ops Q W9 w0 wm fuel k m i F w := fun _ hl =>
  LW.callW hwi (by rw [hl.1]; exact z7E hsk.2 hi) hi hg hc hn hen hf fun v w' hR => ⟨(h v w' hR).1, (h v w' hR).2 _ (hl.set (z7E hsk.2 hi) hm)⟩

theorem LM.make {P : Program} {n : Nat} {Q : Post} {F : Fr} {W w : World} {ops : List Oper} {o : Oper} {T : TT} (ht : TTok P T) {α : Type} {U : Ty α} {Rs : List Res} (z : α) (hS : St W w Rs) {wm fuel kk mm ii : Nat} {w0 : World} {sk : List (List Nat × Nat)} (hsk : skOf ops = sk ∧ ops.length = kk) (m' : Nat) (hm' : mm ||| 2 ^ ii = m') (hwi : wm.testBit ii = false) (hni : nthv ops ii = some o) (hg : guardOf ops F o = some true) {t e : Nat} {l c : Operand} {i j : TI} {k1 k2 : IntKind} {m : Int} (ho : o.op = .makeSlice t l c) (hi : T.get t = some i) (hd : i.d = .slice e)
    (hj : T.get e = some j) (hs : U.size = j.size) (hl : F.ev l = some (.int k1 m)) (hc : F.ev c = some (.int k2 m)) (h0 : 0 ≤ m) (hb : m * (j.bytes : Int) ≤ 281474976710656) (h63 : m ≤ maxLen) (hz : ∀ w', U.own w' j.zero z [])
    {d : Nat} (hd' : o.dst = some d) (hn : Nat.blt d n = true)
    (h : ∀ A k w', Ext w w' → St W w' (Own (tSl e U) [.slice A (List.replicate m.toNat z).length k] (List.replicate m.toNat z) :: Rs) → DM P n ops Q W w0 wm fuel kk m' ((d, .slice A (List.replicate m.toNat z).length k) :: F) w') : LM P n ops Q W w0 wm fuel kk mm ii F w := by
  obtain ⟨jj, hjj, hsz, hby, zz, hzz, hzc⟩ := ht.info hj
  have hmx : m ≤ 9223372036854775807 := by simpa [maxLen] using h63
  have hr := run_make (P := P) w t e jj zz (ht.slice hi hd) hjj hzz k1 k2 m m h0 (Int.le_refl _) (by rw [hby, Int.mul_comm]; exact hb) hmx
  have hzl : j.zero.length = U.size := U.lenO (hz w)
  have hcells : madeCells zz.cells (m.toNat * jj.size) = ⟨chunks m.toNat j.zero⟩ := by
    rw [← z74 j.zero m.toNat, hzl, hs, hsz, show zz.cells = ⟨j.zero⟩ from by rw [← hzc]]
  rw [hcells] at hr
  have hlen : (List.replicate m.toNat z).length = m.toNat := by simp
  refine LM.okD hsk m' hm' hwi hni hg (v := .slice (some ⟨w.heap.size, 0, none⟩) (List.replicate m.toNat z).length m.toNat) (fun a ha => ?_) hd' hn (Ext.alloc w (.cells ⟨chunks m.toNat j.zero⟩ e)) (h _ _ _ (Ext.alloc w (.cells ⟨chunks m.toNat j.zero⟩ e)) ?_)
  · unfold execOp
    rw [ho, hlen]
    simp [ha.ev hl, ha.ev hc, hr]
  · have hcl : ∀ k : Nat, (chunks k j.zero).length = k * U.size := fun k => by
      induction k with
      | zero => simp [chunks]
      | succ k ih => simp [chunks, ih, hzl, Nat.succ_mul, Nat.add_comm]
    have hown := z87 (w := w.alloc (.cells ⟨chunks m.toNat j.zero⟩ e)) (e := e) (U := U) (xs := List.replicate m.toNat z) (g := w.heap.size) (cap := m.toNat) (els := chunks m.toNat j.zero) (rest := []) (K := [])
      (by rw [List.append_nil]; exact heap_alloc_new w _) (by simp) (by have : (m.toNat : Int) = m := Int.toNat_of_nonneg h0; omega) (by simp [hcl]) (by simp [hcl]) (z9s (hz _) _)
    exact hS.join (Ns := [Own (tSl e U) [.slice (some ⟨w.heap.size, 0, none⟩) (List.replicate m.toNat z).length m.toNat] (List.replicate m.toNat z)])
      ⟨Ext.alloc _ _, ⟨[w.heap.size], hown, by simp, fun g hg => by simp at hg; subst hg; exact ⟨Nat.le_refl _, by simp⟩, trivial⟩⟩

theorem LM.newSlice0 {α : Type} {U : Ty α} {P : Program} {T : TT} (ht : TTok P T) {n : Nat} {ops : List Oper} {Q : Post} {F : Fr} {W w : World} {Rs : List Res} {o : Oper} {t e : Nat} {i j : TI} (hS : St W w Rs) {wm fuel kk mm ii : Nat} {w0 : World} {sk : List (List Nat × Nat)} (hsk : skOf ops = sk ∧ ops.length = kk) (m' : Nat) (hm' : mm ||| 2 ^ ii = m') (hwi : wm.testBit ii = false) (hni : nthv ops ii = some o) (hg : guardOf ops F o = some true)
    (ho : o.op = .buildSlice t 0 #[]) (hi : T.get t = some i) (hd : i.d = .slice e) (hj : T.get e = some j) {d : Nat} (hd' : o.dst = some d) (hn : Nat.blt d n = true)
    (h : ∀ A k w', Ext w w' → St W w' (Own (tSl e U) [.slice A ([] : List α).length k] [] :: Rs) → DM P n ops Q W w0 wm fuel kk m' ((d, .slice A ([] : List α).length k) :: F) w') : LM P n ops Q W w0 wm fuel kk mm ii F w := by
  obtain ⟨jj, hjj, _⟩ := ht.info hj
  refine LM.okD hsk m' hm' hwi hni hg (v := .slice (some ⟨w.heap.size, 0, none⟩) 0 0) (fun a ha => ?_) hd' hn (Ext.alloc w (.cells #[] e)) (h (some ⟨w.heap.size, 0, none⟩) 0 _ (Ext.alloc w (.cells #[] e)) ?_)
  · unfold execOp
    rw [ho]
    simp [z84 w (ht.slice hi hd) hjj]
  · have h1 := (hS.flatEls (U := U) (els := []) (ys := []) ⟨rfl, rfl⟩).new [] e
    exact St.boxSl (ys := ([] : List α)) h1 (Nat.zero_le _)

theorem LM.newSlice {α : Type} {U : Ty α} {P : Program} {T : TT} (ht : TTok P T) {n : Nat} {ops : List Oper} {Q : Post} {F : Fr} {W w : World} {Rs : List Res} {o : Oper} {t e m : Nat} {ps : List (Nat × Operand)} {vs : List (Nat × Value)} {els : List Value} {ys : List α} {i j : TI}
    (hS : St W w (OwnEls U els ys :: Rs)) {wm fuel kk mm ii : Nat} {w0 : World} {sk : List (List Nat × Nat)} (hsk : skOf ops = sk ∧ ops.length = kk) (m' : Nat) (hm' : mm ||| 2 ^ ii = m') (hwi : wm.testBit ii = false) (hni : nthv ops ii = some o) (hg : guardOf ops F o = some true)
    (ho : o.op = .buildSlice t m ⟨ps⟩) (hi : T.get t = some i) (hd : i.d = .slice e) (hj : T.get e = some j) (hv : partsOf F ps = some vs) (hf : fillV (slots j.size 0 m) (chunks m j.zero) vs = some els)
    (hm : ys.length = m) (hpos : Nat.ble 1 (m * j.size) = true) (hsm : Nat.ble (m * j.size) 16777216 = true) {d : Nat} (hd' : o.dst = some d) (hn : Nat.blt d n = true)
    (h : ∀ A k w', Ext w w' → St W w' (Own (tSl e U) [.slice A ys.length k] ys :: Rs) → DM P n ops Q W w0 wm fuel kk m' ((d, .slice A ys.length k) :: F) w') : LM P n ops Q W w0 wm fuel kk mm ii F w := by
  obtain ⟨jj, hjj, hsz, _, zz, hzz, hzc⟩ := ht.info hj
  have h1 : 1 ≤ m * j.size := by simpa using hpos
  have h2 : m * j.size ≤ 16777216 := by simpa using hsm
  have hzl : j.zero.length = j.size := by
    have := ht.zlen hj
    exact this
  have hcells : (Array.range (m * jj.size)).map (zz.cells[· % zz.cells.size]!) = ⟨chunks m j.zero⟩ := by
    have := z74 j.zero m
    rw [hzl] at this
    rw [hsz, show zz.cells = ⟨j.zero⟩ from by rw [← hzc]]
    have h5 : madeCells ⟨j.zero⟩ (m * j.size) = ⟨chunks m j.zero⟩ := by rw [← this]
    exact h5
  have hfill := zbJ (place := fun i => some (i * jj.size, jj.size)) (gs := slots j.size 0 m) (fun a g hg => by rw [z8T _ _ _ _ _ hg, hsz]; simp) (fun a g hg => by
    rw [z8T _ _ _ _ _ hg]
    intro h0
    have : j.size = 0 := h0
    rw [this] at h1; omega) vs _ els hf
  have hr := run_buildSlice (P := P) w t e m ⟨vs⟩ ⟨els⟩ jj zz (ht.slice hi hd) hjj hzz (by rw [hsz]; omega) (by rw [hsz]; omega) (by rw [hcells]; exact hfill)
  subst hm
  refine LM.okD hsk m' hm' hwi hni hg (v := .slice (some ⟨w.heap.size, 0, none⟩) ys.length ys.length) (fun a ha => ?_) hd' hn (Ext.alloc w (.cells ⟨els⟩ e)) (h (some ⟨w.heap.size, 0, none⟩) ys.length _ (Ext.alloc w (.cells ⟨els⟩ e)) ?_)
  · unfold execOp
    rw [ho]
    have he : (⟨ps⟩ : Array (Nat × Operand)).map (fun (p : Nat × Operand) => (p.1, a.eval p.2)) = ⟨vs⟩ := by
      simp [z7C ha hv]
    simp [show Array.map (fun x : Nat × Operand => (x.fst, a.eval x.snd)) ⟨ps⟩ = ⟨vs⟩ from he, hr]
  · have hs1 : 1 ≤ j.size := by
      rcases Nat.eq_zero_or_pos j.size with h0 | h0
      · rw [h0] at h1; omega
      · exact h0
    exact St.boxSl (hS.new els e) (by
      have : ys.length * 1 ≤ ys.length * j.size := Nat.mul_le_mul_left _ hs1
      unfold maxLen; omega)

theorem LM.append {P : Program} {n : Nat} {Q : Post} {F : Fr} {W w : World} {ops : List Oper} {o : Oper} {T : TT} (ht : TTok P T) {α : Type} {U : Ty α} {B : List Res} {e : Nat} {A : Option Addr} {k : Nat} {xs ys : List α} {els : List Value} (hS : St W w (Own (tSl e U) [.slice A xs.length k] xs :: OwnEls U els ys :: B)) {wm fuel kk mm ii : Nat} {w0 : World} {sk : List (List Nat × Nat)} (hsk : skOf ops = sk ∧ ops.length = kk) (m' : Nat) (hm' : mm ||| 2 ^ ii = m') (hwi : wm.testBit ii = true) (hni : nthv ops ii = some o) (hg : guardOf ops F o = some true)
    {t : Nat} {s x : Operand} {i j : TI} (ho : o.op = .call { callee := .builtin .append, args := #[s, x], argTypes := #[t, t] }) (hi : T.get t = some i) (hd : i.d = .slice e) (hj : T.get e = some j) (hs : U.size = j.size) (hpos : 0 < U.size)
    (hx : F.ev s = some (.slice A xs.length k)) {A2 : Option Addr} {k2 : Nat} (hy : F.ev x = some (.slice A2 ys.length k2)) (hat : els ≠ [] → ∃ p, A2 = some p ∧ At w p els)
    (h63 : xs.length + ys.length ≤ maxLen) (hb : (xs.length + ys.length) * j.bytes ≤ 140737488355328) {d : Nat} (hd' : o.dst = some d) (hn : Nat.blt d n = true)
    (h : ∀ A' k' w', St W w' (Own (tSl e U) [.slice A' (xs ++ ys).length k'] (xs ++ ys) :: B) → DM P n ops Q W w0 wm fuel kk m' ((d, .slice A' (xs ++ ys).length k') :: F) w') : LM P n ops Q W w0 wm fuel kk mm ii F w := by
  obtain ⟨A', k', w', h1, h2⟩ := z8V (P := P) (ty := o.type) ht hS hi hd hj hs hpos (k2 := k2) hat h63 hb
  refine LM.okWD hsk m' hm' hwi hni hg (w' := w') (fun a ha => ?_) hd' hn h2.ext (h A' k' w' h2)
  unfold execOp
  rw [ho]
  simp [resolve, invoke, builtin, ha.ev hx, ha.ev hy]
  rw [h1]
  simp

theorem LM.appendRo {α : Type} {U : Ty α} {P : Program} {T : TT} (ht : TTok P T) (hfl : Flat U) {n : Nat} {ops : List Oper} {Q : Post} {F : Fr} {W w : World} {B : List Res} {o : Oper} {e : Nat} {A : Option Addr} {k : Nat} {xs ys : List α}
    (hS : St W w (Own (tSl e U) [.slice A xs.length k] xs :: B)) {wm fuel kk mm ii : Nat} {w0 : World} {sk : List (List Nat × Nat)} (hsk : skOf ops = sk ∧ ops.length = kk) (m' : Nat) (hm' : mm ||| 2 ^ ii = m') (hwi : wm.testBit ii = true) (hni : nthv ops ii = some o) (hg : guardOf ops F o = some true)
    {t : Nat} {s x : Operand} {i j : TI} (ho : o.op = .call { callee := .builtin .append, args := #[s, x], argTypes := #[t, t] }) (hi : T.get t = some i) (hd : i.d = .slice e) (hj : T.get e = some j) (hs : U.size = j.size) (hpos : 0 < U.size)
    (hx : F.ev s = some (.slice A xs.length k)) {A2 : Option Addr} {k2 : Nat} (hy : F.ev x = some (.slice A2 ys.length k2)) {e' : Nat} (hr : (tSl e' U).ro w [.slice A2 ys.length k2] ys)
    (h63 : (xs.length : Int) + ys.length ≤ 4294967296) (hb : j.bytes ≤ 32768) {d : Nat} (hd' : o.dst = some d) (hn : Nat.blt d n = true)
    (h : ∀ A' k' w', St W w' (Own (tSl e U) [.slice A' (xs ++ ys).length k'] (xs ++ ys) :: B) → DM P n ops Q W w0 wm fuel kk m' ((d, .slice A' (xs ++ ys).length k') :: F) w') : LM P n ops Q W w0 wm fuel kk mm ii F w := by
  obtain ⟨A3, c3, els, he, hc, h1, h2⟩ := hr
  simp only [List.cons.injEq, Value.slice.injEq, and_true] at he
  obtain ⟨rfl, _, rfl⟩ := he
  have hS2 := (hS.flatEls (U := U) (els := els) (ys := ys) (Els.flat hfl h1)).bring 1 rfl
  have hm : (xs.length + ys.length) * j.bytes ≤ 4294967296 * 32768 := Nat.mul_le_mul (by omega) hb
  exact LM.append ht hS2 hsk m' hm' hwi hni hg ho hi hd hj hs hpos hx hy h2 (by simp only [maxLen]; omega) (by omega) hd' hn h

theorem LM.appendOwn {α : Type} {U : Ty α} {P : Program} {T : TT} (ht : TTok P T) {n : Nat} {ops : List Oper} {Q : Post} {F : Fr} {W w : World} {B : List Res} {o : Oper} {e e' : Nat} {A A2 : Option Addr} {k k2 : Nat} {xs ys : List α}
    (hS : St W w (Own (tSl e' U) [.slice A2 ys.length k2] ys :: Own (tSl e U) [.slice A xs.length k] xs :: B)) {wm fuel kk mm ii : Nat} {w0 : World} {sk : List (List Nat × Nat)} (hsk : skOf ops = sk ∧ ops.length = kk) (m' : Nat) (hm' : mm ||| 2 ^ ii = m') (hwi : wm.testBit ii = true) (hni : nthv ops ii = some o) (hg : guardOf ops F o = some true)
    {t : Nat} {s x : Operand} {i j : TI} (ho : o.op = .call { callee := .builtin .append, args := #[s, x], argTypes := #[t, t] }) (hi : T.get t = some i) (hd : i.d = .slice e) (hj : T.get e = some j) (hs : U.size = j.size) (hpos : 0 < U.size)
    (hx : F.ev s = some (.slice A xs.length k)) (hy : F.ev x = some (.slice A2 ys.length k2))
    (h63 : (xs.length : Int) + ys.length ≤ 4294967296) (hb : j.bytes ≤ 32768) {d : Nat} (hd' : o.dst = some d) (hn : Nat.blt d n = true)
    (h : ∀ A' k' w', St W w' (Own (tSl e U) [.slice A' (xs ++ ys).length k'] (xs ++ ys) :: B) → DM P n ops Q W w0 wm fuel kk m' ((d, .slice A' (xs ++ ys).length k') :: F) w') : LM P n ops Q W w0 wm fuel kk mm ii F w := by
  obtain ⟨els, h1, h2⟩ := hS.els
  have hm : (xs.length + ys.length) * j.bytes ≤ 4294967296 * 32768 := Nat.mul_le_mul (by omega) hb
  exact LM.append ht (h1.bring 1 rfl) hsk m' hm' hwi hni hg ho hi hd hj hs hpos hx hy h2 (by simp only [maxLen]; omega) (by omega) hd' hn h

theorem LM.store {P : Program} {n : Nat} {Q : Post} {F : Fr} {W w : World} {ops : List Oper} {o : Oper} {T : TT} (ht : TTok P T) {A B : List Res} {g : Nat} {cs cs' : List Value} {e : TypeId} (hS : St W w (A ++ Box g cs e :: B)) {wm fuel kk mm ii : Nat} {w0 : World} {sk : List (List Nat × Nat)} (hsk : skOf ops = sk ∧ ops.length = kk) (m' : Nat) (hm' : mm ||| 2 ^ ii = m') (hwi : wm.testBit ii = true) (hni : nthv ops ii = some o) (hg : guardOf ops F o = some true) {t : Nat} {x y : Operand} (ho : o.op = .store t x y) (hd : o.dst = none)
    {i : TI} (hi : T.get t = some i) {q : Addr} (hx : F.ev x = some (.pointer (some q))) (off : Nat) (hq : q = ⟨g, off, none⟩) {v : Value} (hy : F.ev y = some v) (hl : Nat.beq (cellsV v).length i.size = true)
    (h1 : oneCells (cellsV v) = true) (hs : setAt cs off (cellsV v) = some cs') (h : ∀ w', St W w' (A ++ Box g cs' e :: B) → DM P n ops Q W w0 wm fuel kk m' F w') : LM P n ops Q W w0 wm fuel kk mm ii F w := by
  obtain ⟨G, ⟨hG, hh⟩, _, hlo⟩ := hS.sep.pick.head
  obtain ⟨w', r1, r2, r3, r4, r5, r6, r7⟩ := z2g (P := P) g off e (cellsV v) 0 w cs cs' h1 hh (by simpa using hs)
  have hge : W.heap.size ≤ g := hlo g (by rw [hG]; simp)
  have hS' : St W w' (A ++ Box g cs' e :: B) := by
    refine St.back ⟨⟨r5.trans hS.ext.os, r6.trans hS.ext.tape, r7.trans hS.ext.output, by rw [r4]; exact hS.le, fun k hk => ?_⟩, ?_⟩
    · rw [r3 k (by omega)]; exact hS.ext.block k hk
    · refine hS.sep.pick.upd hS.le fun G' hG' _ _ => ?_
      obtain ⟨e1, _⟩ := hG'
      exact ⟨[g], ⟨rfl, r2⟩, by simp, fun b hb => .inl (by rw [e1]; exact hb), fun b hb hn => r3 b (by rintro rfl; exact hn (by rw [e1]; simp))⟩
  refine LM.unitW hsk m' hm' hwi hni hg (w' := w') (fun a ha => ?_) hd hS'.ext (h w' hS')
  unfold execOp
  rw [ho]
  have hsz : v.cells.size = i.size := by
    rw [← Array.length_toList, z4W]; exact Nat.eq_of_beq_eq_true hl
  simp [ha.ev hx, ha.ev hy, Instr.storeAt, Instr.sureAddr, storeVar, ht.sizeOf hi, hsz, z4W, hq, r1]

theorem DM.all {P : Program} {n : Nat} {Q : Post} {F : Fr} {w w0 W9 : World} {ops : List Oper} {wm fuel kk mm : Nat} {sk : List (List Nat × Nat)} (hsk : skOf ops = sk ∧ ops.length = kk) (rs : List Nat) (hr : readyM sk kk mm = rs) (hne : rs ≠ []) (h : ∀ i, i ∈ rs → LM P n ops Q W9 w0 wm fuel kk mm i F w) : DM P n ops Q W9 w0 wm (fuel + 1) kk mm F w := DM.loud hsk rs hr hne h
end Go.E

