/- Regions whose order the model draws. Conditions: none (rules). -/
import Derived.Test.YteommboffflkbaaGreatEnter
import Derived.Test.YteommboffflkbaaGreatOrder
namespace Go.E
open Go.RowKit
set_option linter.unusedVariables false
set_option linter.unusedSimpArgs false


def Post.only (Q : Post) : Post
  | .normal, F, w => Q .normal F w
  | _, _, _ => False


def DW (P : Program) (n : Nat) (ops : List Oper) (Q : Post) (W9 w0 : World) (wr : Nat → Bool) (fuel : Nat) (listed : Array Bool) (F : Fr) (w : World) : Prop :=
  Region.noSelect ops.toArray = true → (NoWr wr listed → Ext w0 w) → Ext W9 w → ∀ a, Fits n F a → wpAnyL P .any ops.toArray (Q.only.up n) wr (Ext w0) (Ext W9) fuel listed a w


def LW (P : Program) (n : Nat) (ops : List Oper) (Q : Post) (W9 w0 : World) (wr : Nat → Bool) (fuel : Nat) (listed : Array Bool) (i : Nat) (F : Fr) (w : World) : Prop :=
  Region.noSelect ops.toArray = true → (NoWr wr listed → Ext w0 w) → Ext W9 w → ∀ a, Fits n F a → wpOp P ops.toArray (Q.only.up n) i (fun a' w' => ((NoWr wr (listed.setIfInBounds i true) → Ext w0 w') ∧ Ext W9 w') ∧ wpAnyL P .any ops.toArray (Q.only.up n) wr (Ext w0) (Ext W9) fuel (listed.setIfInBounds i true) a' w') a w

theorem noPanic {n : Nat} {Q : Post} (v : Value) (d : Option Nat) : ∀ c a w, Post.up n Q.only (.panic c) (a.put d v) w → Post.up n Q.only (.panic c) a w := by
  rintro c a w ⟨F', _, h⟩; exact h.elim

def freeAt (ops : List Oper) (listed : Array Bool) (i : Nat) : Bool :=
  match Region.free .any ops.toArray listed i with
  | true => (Region.ready .any ops.toArray listed).contains i
  | false => false

theorem z7R {ops : List Oper} {listed : Array Bool} {i : Nat} (h : freeAt ops listed i = true) : Region.free .any ops.toArray listed i = true ∧ (Region.ready .any ops.toArray listed).contains i = true := by
  unfold freeAt at h
  split at h
  · rename_i hf; exact ⟨hf, h⟩
  · cases h

def marked (listed : Array Bool) : List Nat → Array Bool
  | [] => listed
  | i :: r => marked (listed.setIfInBounds i true) r

def freeAll (ops : List Oper) : List Nat → Array Bool → Bool
  | [], _ => true
  | i :: r, listed => match freeAt ops listed i with
    | true => freeAll ops r (listed.setIfInBounds i true)
    | false => false


def pvsD (T : TT) (n : Nat) (ops : List Oper) : List Nat → Fr → Option Fr
  | [], F => some F
  | i :: r, F => match nthv ops i with
    | some o => match guardOf ops F o, o.dst with
      | some true, some d => match Nat.blt d n, pv T F o.op with
        | true, some v => pvsD T n ops r ((d, v) :: F)
        | _, _ => none
      | some false, some d => match Nat.blt d n with
        | true => pvsD T n ops r ((d, undef) :: F)
        | false => none
      | some true, none => match pv T F o.op with
        | some _ => pvsD T n ops r F
        | none => none
      | some false, none => pvsD T n ops r F
      | none, _ => none
    | _ => none

section
variable {P : Program} {n : Nat} {Q : Post} {F : Fr} {w w0 W9 : World} {ops : List Oper} {wr : Nat → Bool} {fuel : Nat} {listed : Array Bool}

theorem WP.drawn {id : Nat} (hm : P.follows .mixedOrders = true) (k : Nat) (hk : ops.toArray.size = k) (hs : Region.noSelect ops.toArray = true)
    (hv : Ext W9 w) (h : DW P n ops Q W9 w wr k (Array.replicate k false) F { w with drawn := w.drawn + 1 }) : WP P n (.region id ops.toArray true) Q F w := fun a ha => by
  subst hk
  refine wp_mono (zcN hm (h hs (fun _ => Ext.draw w) (hv.trans (Ext.draw w)) a ha)) ?_
  rintro e a' w' ⟨F', h1, h2⟩
  cases e <;> first | exact ⟨F', h1, h2⟩ | exact h2.elim

theorem DW.weak (F' : Fr) (hs : F.Has F') (h : DW P n ops Q W9 w0 wr fuel listed F' w) : DW P n ops Q W9 w0 wr fuel listed F w := fun hn he hv a ha => h hn he hv a (ha.weak hs)

theorem DW.done (hr : Region.ready .any ops.toArray listed = []) (h : Q .normal F w) : DW P n ops Q W9 w0 wr fuel listed F w := fun _ he _ _ ha => zcP hr ⟨F, ha, h⟩ fuel


theorem NoWr.back {i : Nat} (hw : wr i = false) (h : NoWr wr (listed.setIfInBounds i true)) : NoWr wr listed := fun k hk => by
  have := h k hk
  rwa [z5t (by rintro rfl; rw [hw] at hk; cases hk)] at this

theorem DW.quiet {o : Oper} {v : Value} (i : Nat) (hwi : wr i = false) (hdep : ∀ (j : Nat) (oj : Oper), wr j = true → ops[j]? = some oj → ∃ e, e ∈ oj.after ∧ Region.binds .any e = true ∧ e.on = i) (hnw : NoWr wr listed) (hi : nthv ops i = some o) (hf : freeAt ops listed i = true) (hg : guardOf ops F o = some true) (hq : Quiet P n F w0 o v) {d : Nat} (hd : o.dst = some d) (hn : Nat.blt d n = true)
    (h : DW P n ops Q W9 w0 wr fuel (listed.setIfInBounds i true) ((d, v) :: F) w) : DW P n ops Q W9 w0 wr (fuel + 1) listed F w := fun hs he hv a ha => by
  rw [z2P] at hi
  obtain ⟨h1, h2⟩ := z7R hf
  refine zcO (oi := o) (v := v) (by simpa using hi) hs h1 h2 (noPanic v _) hwi (fun j oj hj hoj => hdep j oj hj (by simpa using hoj)) (.inl ⟨zo hg ha, fun w' hw' => hq a w' ha hw'⟩) hnw (he hnw) hv ?_
  rw [hd]
  exact h hs (fun _ => he hnw) hv _ (ha.put hn v)


theorem DW.quietV {o : Oper} {v : Value} (i : Nat) (hwi : wr i = false) (hi : nthv ops i = some o) (hf : freeAt ops listed i = true) (hg : guardOf ops F o = some true) (hq : Quiet P n F W9 o v) {d : Nat} (hd : o.dst = some d) (hn : Nat.blt d n = true)
    (h : DW P n ops Q W9 w0 wr fuel (listed.setIfInBounds i true) ((d, v) :: F) w) : DW P n ops Q W9 w0 wr (fuel + 1) listed F w := fun hs he hv a ha => by
  rw [z2P] at hi
  obtain ⟨h1, h2⟩ := z7R hf
  refine z60 (oi := o) (v := v) (by simpa using hi) hs h1 h2 (noPanic v _) hwi (.inl ⟨zo hg ha, fun w' hw' => hq a w' ha hw'⟩) he hv ?_
  rw [hd]
  exact h hs (fun hn' => he (hn'.back hwi)) hv _ (ha.put hn v)

theorem DW.run {T : TT} (ht : TTok P T) (l : List Nat) (hwl : ∀ i, i ∈ l → wr i = false) (hl : freeAll ops l listed = true) {F' : Fr} (hr : pvsD T n ops l F = some F')
    (h : DW P n ops Q W9 w0 wr fuel (marked listed l) F' w) : DW P n ops Q W9 w0 wr (fuel + l.length) listed F w := by
  induction l generalizing listed F with
  | nil => simp only [pvsD, Option.some.injEq] at hr; subst hr; exact h
  | cons i l ih =>
    unfold freeAll at hl
    split at hl
    · rename_i hfr
      unfold pvsD at hr
      split at hr
      · rename_i o hi
        obtain ⟨hf, hrd⟩ := z7R hfr
        rw [z2P] at hi
        have hi' : ops.toArray[i]? = some o := by simpa using hi
        split at hr
        · rename_i d hg hd
          split at hr
          · rename_i v hn hv
            intro hs he hv9 a ha
            refine z60 (oi := o) (v := v) hi' hs hf hrd (noPanic v _) (hwl i (by simp)) (.inl ⟨zo hg ha, fun w' _ => zc6 ht hv ha w'⟩) he hv9 ?_
            rw [hd]
            exact ih (fun j hj => hwl j (by simp [hj])) hl hr h hs (fun hn' => he (hn'.back (hwl i (by simp)))) hv9 _ (ha.put hn v)
          · cases hr
        · rename_i d hg hd
          split at hr
          · rename_i hn
            intro hs he hv9 a ha
            refine z60 (oi := o) (v := undef) hi' hs hf hrd (noPanic undef _) (hwl i (by simp)) (.inr ⟨zo hg ha, rfl⟩) he hv9 ?_
            rw [hd]
            exact ih (fun j hj => hwl j (by simp [hj])) hl hr h hs (fun hn' => he (hn'.back (hwl i (by simp)))) hv9 _ (ha.put hn undef)
          · cases hr
        · rename_i hg hd
          split at hr
          · rename_i v hv
            intro hs he hv9 a ha
            refine z60 (oi := o) (v := v) hi' hs hf hrd (noPanic v _) (hwl i (by simp)) (.inl ⟨zo hg ha, fun w' _ => zc6 ht hv ha w'⟩) he hv9 ?_
            rw [hd]
            exact ih (fun j hj => hwl j (by simp [hj])) hl hr h hs (fun hn' => he (hn'.back (hwl i (by simp)))) hv9 _ ha
          · cases hr
        · rename_i hg hd
          intro hs he hv9 a ha
          refine z60 (oi := o) (v := undef) hi' hs hf hrd (noPanic undef _) (hwl i (by simp)) (.inr ⟨zo hg ha, rfl⟩) he hv9 ?_
          rw [hd]
          exact ih (fun j hj => hwl j (by simp [hj])) hl hr h hs (fun hn' => he (hn'.back (hwl i (by simp)))) hv9 _ ha
        · cases hr
      · cases hr
    · cases hl


theorem DW.loud (rs : List Nat) (hr : Region.ready .any ops.toArray listed = rs) (hne : rs ≠ []) (h : ∀ i, i ∈ rs → LW P n ops Q W9 w0 wr fuel listed i F w) : DW P n ops Q W9 w0 wr (fuel + 1) listed F w := fun hs he hv a ha =>
  zdA hr hne fun i hi => h i hi hs he hv a ha

theorem DW.one (i : Nat) (hr : Region.ready .any ops.toArray listed = [i]) (h : LW P n ops Q W9 w0 wr fuel listed i F w) : DW P n ops Q W9 w0 wr (fuel + 1) listed F w :=
  DW.loud [i] hr (by simp) (by rintro j hj; simp only [List.mem_singleton] at hj; subst hj; exact h)

theorem LW.skip {o : Oper} {i : Nat} (hwi : wr i = false) (hi : nthv ops i = some o) (hg : guardOf ops F o = some false) (hn : dstOk n o.dst = true)
    (h : DW P n ops Q W9 w0 wr fuel (listed.setIfInBounds i true) (F.putO o.dst undef) w) : LW P n ops Q W9 w0 wr fuel listed i F w := fun hs he hv a ha => by
  rw [z2P] at hi
  have hi' : ops.toArray[i]? = some o := by simpa using hi
  unfold wpOp
  simp only [hi']
  rw [if_neg (by rw [zo hg ha]; simp)]
  exact ⟨⟨fun hn' => he (hn'.back hwi), hv⟩, h hs (fun hn' => he (hn'.back hwi)) hv _ (ha.putO hn undef)⟩

theorem LW.ok {o : Oper} {v : Value} {w' : World} {i : Nat} (hwi : wr i = false) (hi : nthv ops i = some o) (hg : guardOf ops F o = some true) (hr : ∀ a, Fits n F a → (execOp a.eval o).run P w = .ok (.value v) w') (hw : Ext w w') (hn : dstOk n o.dst = true)
    (h : DW P n ops Q W9 w0 wr fuel (listed.setIfInBounds i true) (F.putO o.dst v) w') : LW P n ops Q W9 w0 wr fuel listed i F w := fun hs he hv a ha => by
  rw [z2P] at hi
  have hi' : ops.toArray[i]? = some o := by simpa using hi
  unfold wpOp
  simp only [hi']
  rw [if_pos (zo hg ha)]
  refine .inl ?_
  unfold Oper.wp
  rw [hr a ha, Oper.upon_value]
  exact ⟨⟨fun hn' => (he (hn'.back hwi)).trans hw, hv.trans hw⟩, h hs (fun hn' => (he (hn'.back hwi)).trans hw) (hv.trans hw) _ (ha.putO hn v)⟩


theorem LW.okW {o : Oper} {v : Value} {w' : World} {i : Nat} (hwi : wr i = true) (hsz : i < listed.size) (hi : nthv ops i = some o) (hg : guardOf ops F o = some true) (hr : ∀ a, Fits n F a → (execOp a.eval o).run P w = .ok (.value v) w') (hn : dstOk n o.dst = true) (hW : Ext W9 w')
    (h : DW P n ops Q W9 w0 wr fuel (listed.setIfInBounds i true) (F.putO o.dst v) w') : LW P n ops Q W9 w0 wr fuel listed i F w := fun hs he hv a ha => by
  rw [z2P] at hi
  have hi' : ops.toArray[i]? = some o := by simpa using hi
  have hno : ¬ NoWr wr (listed.setIfInBounds i true) := fun hn' => by
    have := hn' i hwi
    simp [Array.getD_eq_getD_getElem?, hsz] at this
  unfold wpOp
  simp only [hi']
  rw [if_pos (zo hg ha)]
  refine .inl ?_
  unfold Oper.wp
  rw [hr a ha, Oper.upon_value]
  exact ⟨⟨fun hn' => absurd hn' hno, hW⟩, h hs (fun hn' => absurd hn' hno) hW _ (ha.putO hn v)⟩

theorem LW.unitW {o : Oper} {w' : World} {i : Nat} (hwi : wr i = true) (hsz : i < listed.size) (hi : nthv ops i = some o) (hg : guardOf ops F o = some true) (hr : ∀ a, Fits n F a → (execOp a.eval o).run P w = .ok .skip w') (hd : o.dst = none) (hW : Ext W9 w')
    (h : DW P n ops Q W9 w0 wr fuel (listed.setIfInBounds i true) F w') : LW P n ops Q W9 w0 wr fuel listed i F w := fun hs he hv a ha => by
  rw [z2P] at hi
  have hi' : ops.toArray[i]? = some o := by simpa using hi
  have hno : ¬ NoWr wr (listed.setIfInBounds i true) := fun hn' => by
    have := hn' i hwi
    simp [Array.getD_eq_getD_getElem?, hsz] at this
  unfold wpOp
  simp only [hi']
  rw [if_pos (zo hg ha)]
  refine .inl ?_
  unfold Oper.wp
  rw [hr a ha, Oper.upon_skip, hd]
  exact ⟨⟨fun hn' => absurd hn' hno, hW⟩, h hs (fun hn' => absurd hn' hno) hW _ ha⟩

theorem LW.call {o : Oper} {i : Nat} (hwi : wr i = false) (hi : nthv ops i = some o) (hg : guardOf ops F o = some true) {f : FuncId} {vs : List Value} (hc : callOf F o.op = some (f, vs)) (hn : dstOk n o.dst = true) (hen : Enters P f)
    {R : Value → World → Prop} (hf : Calls P f ⟨vs⟩ w (Ret R)) (h : ∀ v w', R v w' → Ext w w' ∧ DW P n ops Q W9 w0 wr fuel (listed.setIfInBounds i true) (F.putO o.dst v) w') : LW P n ops Q W9 w0 wr fuel listed i F w := fun hs he hv a ha => by
  rw [z2P] at hi
  have hi' : ops.toArray[i]? = some o := by simpa using hi
  unfold wpOp
  simp only [hi']
  rw [if_pos (zo hg ha)]
  refine .inl ?_
  unfold Oper.wp
  rw [z9j hen hc ha, Oper.upon_enter]
  refine hf.mono fun e w' hr => ?_
  cases e with
  | returned v => exact ⟨⟨fun hn' => (he (hn'.back hwi)).trans (h v w' hr).1, hv.trans (h v w' hr).1⟩, (h v w' hr).2 hs (fun hn' => (he (hn'.back hwi)).trans (h v w' hr).1) (hv.trans (h v w' hr).1) _ (ha.putO hn v)⟩
  | panicked _ => exact hr.elim
  | outgrown => exact hr.elim

theorem LW.new {T : TT} (ht : TTok P T) {W : World} {Rs : List Res} (hS : St W w Rs) {o : Oper} {i : Nat} (hwi : wr i = false) (hi : nthv ops i = some o) (hg : guardOf ops F o = some true) {cs : List Value} {e : TypeId} (hc : newOf T F o.op = some (cs, e))
    {d : Nat} (hd : o.dst = some d) (hn : Nat.blt d n = true)
    (h : ∀ g w', Ext w w' → St W w' (Box g cs e :: Rs) → DW P n ops Q W9 w0 wr fuel (listed.setIfInBounds i true) ((d, .pointer (some ⟨g, 0, none⟩)) :: F) w') : LW P n ops Q W9 w0 wr fuel listed i F w := by
  refine LW.ok hwi hi hg (fun _ ha => zc7 ht hc ha) (Ext.alloc w (.cells ⟨cs⟩ e)) (by rw [hd]; exact hn) ?_
  rw [hd]
  exact h _ _ (Ext.alloc w (.cells ⟨cs⟩ e)) (hS.new cs e)

theorem Quiet.later {w1 : World} {o : Oper} {v : Value} (he : Ext w1 w) (h : Quiet P n F w1 o v) : Quiet P n F w o v := fun a w' ha hw => h a w' ha (he.trans hw)


variable {T : TT} (ht : TTok P T) {rest : List Oper} {o : Oper}
include ht

theorem RW.load1 (hg : guardOf ops F o = some true) {t : Nat} {x : Operand} {i : TI} {p q : Addr} {cs : List Value} (ho : o.op = .load t x) (hi : T.get t = some i) (hag : i.agg = false) (hx : F.ev x = some (.pointer (some q)))
    (hat : At w p cs) (off : Nat) (hq : q = p.add off) {v : Value} (hv : nthv cs off = some v) {d : Nat} (hd : o.dst = some d) (hn : Nat.blt d n = true)
    (h : RW P n ops Q rest ((d, v) :: F) w) : RW P n ops Q (o :: rest) F w := RW.quiet hg (Quiet.load1 ht ho hi hag hx hat off hq hv) hd hn h

theorem RW.loadN (hg : guardOf ops F o = some true) {t : Nat} {x : Operand} {i : TI} {q : Addr} {cs : List Value} (ho : o.op = .load t x) (hi : T.get t = some i) (hag : i.agg = true) (hx : F.ev x = some (.pointer (some q)))
    (hat : At w q cs) (hl : Nat.beq cs.length i.size = true) {d : Nat} (hd : o.dst = some d) (hn : Nat.blt d n = true)
    (h : RW P n ops Q rest ((d, .agg ⟨cs⟩) :: F) w) : RW P n ops Q (o :: rest) F w := RW.quiet hg (Quiet.loadN ht ho hi hag hx hat (Nat.eq_of_beq_eq_true hl)) hd hn h

theorem RW.idx {α : Type} {U : Ty α} {w1 : World} (he : Ext w1 w) (hg : guardOf ops F o = some true) {t e : Nat} {x ix : Operand} {i j : TI} {A : Option Addr} {len c : Nat} {xs : List α} {k : IntKind} {m : Int} (ho : o.op = .indexAddr t x ix)
    (hi : T.get t = some i) (hd : i.d = .slice e) (hj : T.get e = some j) (hs : U.size = j.size) (hpos : 0 < U.size) (hx : F.ev x = some (.slice A len c)) (hm : F.ev ix = some (.int k m))
    {e' : Nat} (hr : (tSl e' U).ro w1 [.slice A len c] xs) {a : α} (h0 : 0 ≤ m) (ha : xs[m.toNat]? = some a) {d : Nat} (hd' : o.dst = some d) (hn : Nat.blt d n = true)
    (h : ∀ q es, At w1 q es → U.ro w1 es a → RW P n ops Q rest ((d, .pointer (some q)) :: F) w) : RW P n ops Q (o :: rest) F w := by
  obtain ⟨q, es, h1, h2, h3⟩ := Quiet.idx (n := n) ht ho hi hd hj hs hpos hx hm hr h0 ha
  exact RW.quiet hg (h1.later he) hd' hn (h q es h2 h3)

theorem RW.cut {α : Type} {U : Ty α} {w1 : World} (he : Ext w1 w) (hg : guardOf ops F o = some true) {t e : Nat} {x : Operand} {lo hi : Option Operand} {i j : TI} {A : Option Addr} {len c : Nat} {xs : List α} (ho : o.op = .slice t x lo hi none)
    (hi' : T.get t = some i) (hd : i.d = .slice e) (hj : T.get e = some j) (hs : U.size = j.size) (hx : F.ev x = some (.slice A len c)) {e' : Nat}
    (hr : (tSl e' U).ro w1 [.slice A len c] xs) {l h : Nat} (hl : (lo = none ∧ l = 0) ∨ ∃ y k, lo = some y ∧ F.ev y = some (.int k (l : Int))) (hh : (hi = none ∧ h = xs.length) ∨ ∃ y k, hi = some y ∧ F.ev y = some (.int k (h : Int)))
    (h1 : l ≤ h) (h2 : h ≤ xs.length) {d : Nat} (hd' : o.dst = some d) (hn : Nat.blt d n = true)
    (hk : ∀ A' c', (tSl e' U).ro w1 [.slice A' (h - l) c'] ((xs.take h).drop l) → RW P n ops Q rest ((d, .slice A' (h - l) c') :: F) w) : RW P n ops Q (o :: rest) F w := by
  obtain ⟨A', c', k1, k2⟩ := Quiet.cut (n := n) ht ho hi' hd hj hs hx hr hl hh h1 h2
  exact RW.quiet hg (k1.later he) hd' hn (hk A' c' k2)
end


def Lst (k m : Nat) (listed : Array Bool) : Prop := listed.size = k ∧ ∀ i, listed.getD i false = m.testBit i

theorem Lst.start (k : Nat) : Lst k 0 (Array.replicate k false) := ⟨by simp, fun i => by
  simp only [Array.getD_eq_getD_getElem?, Array.getElem?_replicate, Nat.zero_testBit]
  split <;> rfl⟩

theorem Lst.getT {k m : Nat} {listed : Array Bool} (h : Lst k m listed) {i : Nat} (hi : i < k) : listed.getD i true = m.testBit i := by
  rw [← h.2 i]
  have hs : i < listed.size := by rw [h.1]; exact hi
  simp [Array.getD_eq_getD_getElem?, Array.getElem?_eq_getElem hs]

theorem Lst.set {k m m' i : Nat} {listed : Array Bool} (h : Lst k m listed) (hi : i < k) (hm : m ||| 2 ^ i = m') : Lst k m' (listed.setIfInBounds i true) := ⟨by simp [h.1], fun j => by
  subst hm
  rw [Nat.testBit_or, Nat.testBit_two_pow, ← h.2 j]
  have hs : i < listed.size := by rw [h.1]; exact hi
  by_cases hij : i = j
  · subst hij; simp [Array.getD_eq_getD_getElem?, hs]
  · simp [Array.getD_eq_getD_getElem?, Array.getElem?_setIfInBounds_ne hij, hij]⟩

def bits (p : Nat → Bool) : Nat → Nat
  | 0 => 0
  | k + 1 => match p k with
    | true => bits p k ||| 2 ^ k
    | false => bits p k

theorem zaE (p : Nat → Bool) : ∀ (k j : Nat), (bits p k).testBit j = true → p j = true
  | 0, j, h => by simp [bits] at h
  | k + 1, j, h => by
    unfold bits at h
    split at h
    · rename_i hk
      rw [Nat.testBit_or, Nat.testBit_two_pow, Bool.or_eq_true, decide_eq_true_eq] at h
      rcases h with h | rfl
      · exact zaE p k j h
      · exact hk
    · exact zaE p k j h

def depsOf (o : Oper) : List Nat := (o.after.toList.filter fun e => Region.binds .any e).map fun e => e.on
def apartAt (ops : List Oper) (i j : Nat) : Bool :=
  Nat.beq j i || match nthv ops i, nthv ops j with
    | some oi, some oj => (depsOf oj).contains i || oi.apart ops.toArray oj
    | _, _ => true

def skOf (ops : List Oper) : List (List Nat × Nat) := (List.range ops.length).map fun i => (((nthv ops i).map depsOf).getD [], bits (apartAt ops i) ops.length)

def freeM (sk : List (List Nat × Nat)) (full m i : Nat) : Bool :=
  match nthv sk i with
  | some (d, a) => !m.testBit i && d.all (fun j => m.testBit j) && Nat.beq (a ||| m) full
  | none => false
def readyM (sk : List (List Nat × Nat)) (k m : Nat) : List Nat :=
  (List.range k).filter fun i => !m.testBit i && ((nthv sk i).map fun x => x.1.all fun j => m.testBit j).getD false

theorem ze5 {k m : Nat} {listed : Array Bool} (h : Lst k m listed) (o : Oper) : (depsOf o).all (fun j => m.testBit j) = o.after.all fun e => !Region.binds .any e || listed.getD e.on false := by
  unfold depsOf
  rw [← Array.all_toList]
  induction o.after.toList with
  | nil => rfl
  | cons e l ih =>
    by_cases hb : Region.binds .any e = true
    · simp only [List.filter_cons, hb, if_true, List.map_cons, List.all_cons, ih, Bool.not_true, Bool.false_or, h.2]
    · have hb' := Bool.eq_false_iff.2 hb
      simp only [List.filter_cons, hb', Bool.false_eq_true, if_false, List.all_cons, ih, Bool.not_false, Bool.true_or, Bool.true_and]

theorem z9J {ops : List Oper} {sk : List (List Nat × Nat)} (hsk : skOf ops = sk) {i : Nat} {o : Oper} (hi : ops[i]? = some o) : nthv sk i = some (depsOf o, bits (apartAt ops i) ops.length) := by
  subst hsk
  have hl := (List.getElem?_eq_some_iff.1 hi).1
  rw [z2P]
  unfold skOf
  rw [List.getElem?_map, List.getElem?_range hl]
  simp [z2P, hi]

theorem zaf {ops : List Oper} {sk : List (List Nat × Nat)} (hsk : skOf ops = sk) {k m : Nat} {listed : Array Bool} (hk : ops.length = k) (h : Lst k m listed) : Region.ready .any ops.toArray listed = readyM sk k m := by
  unfold Region.ready readyM
  rw [show ops.toArray.size = k by simpa using hk]
  refine List.filter_congr fun i hi => ?_
  have hik : i < k := List.mem_range.1 hi
  obtain ⟨o, ho⟩ : ∃ o, ops[i]? = some o := ⟨_, List.getElem?_eq_getElem (by omega)⟩
  rw [z9J hsk ho, h.getT hik]
  simp only [List.getElem?_toArray, ho, Option.map_some, Option.getD_some]
  rw [ze5 h o]

theorem z8u {ops : List Oper} {sk : List (List Nat × Nat)} (hsk : skOf ops = sk) {k m i : Nat} {listed : Array Bool} (hk : ops.length = k) (h : Lst k m listed) {o : Oper} (ho : ops[i]? = some o) (hf : freeM sk (2 ^ k - 1) m i = true) :
    freeAt ops listed i = true := by
  have hik : i < k := by rw [← hk]; exact (List.getElem?_eq_some_iff.1 ho).1
  unfold freeM at hf
  rw [z9J hsk ho] at hf
  simp only [Bool.and_eq_true, Nat.beq_eq] at hf
  obtain ⟨⟨h1, h2⟩, h3⟩ := hf
  have hrd : (Region.ready .any ops.toArray listed).contains i = true := by
    rw [zaf hsk hk h, List.contains_iff_mem]
    unfold readyM
    rw [List.mem_filter, z9J hsk ho]
    exact ⟨List.mem_range.2 hik, by simp only [Option.map_some, Option.getD_some, h1, h2, Bool.and_self]⟩
  have hfr : Region.free .any ops.toArray listed i = true := by
    unfold Region.free
    simp only [List.getElem?_toArray, ho, List.all_eq_true, List.mem_range, List.size_toArray]
    intro j hj
    obtain ⟨oj, hoj⟩ : ∃ o, ops[j]? = some o := ⟨_, List.getElem?_eq_getElem hj⟩
    have hb : ((bits (apartAt ops i) ops.length) ||| m).testBit j = true := by
      rw [h3, Nat.testBit_two_pow_sub_one]; simpa using (by omega : j < k)
    rw [Nat.testBit_or, Bool.or_eq_true] at hb
    rcases hb with hb | hb
    · have := zaE _ _ _ hb
      unfold apartAt at this
      simp only [z2P, ho, hoj, Bool.or_eq_true, Nat.beq_eq] at this
      rcases this with this | this | this
      · simp [this]
      · have hc : ∃ e, e ∈ oj.after ∧ Region.binds .any e = true ∧ e.on = i := by
          rw [List.contains_iff_mem] at this
          unfold depsOf at this
          obtain ⟨e, he, rfl⟩ := List.mem_map.1 this
          obtain ⟨he1, he2⟩ := List.mem_filter.1 he
          exact ⟨e, by simpa using he1, by simpa using he2, rfl⟩
        obtain ⟨e, he1, he2, he3⟩ := hc
        simp only [hoj, Bool.or_eq_true]
        refine .inr (.inl ?_)
        rw [Array.any_eq_true']
        exact ⟨e, he1, by simp [he2, he3]⟩
      · simp only [hoj, Bool.or_eq_true]
        exact .inr (.inr this)
    · simp only [h.getT (show j < k by omega), hb, Bool.or_true, Bool.true_or]
  unfold freeAt
  rw [hfr]
  exact hrd


def DM (P : Program) (n : Nat) (ops : List Oper) (Q : Post) (W9 w0 : World) (wm fuel k m : Nat) (F : Fr) (w : World) : Prop := ∀ listed, Lst k m listed → DW P n ops Q W9 w0 (fun j => wm.testBit j) fuel listed F w

def LM (P : Program) (n : Nat) (ops : List Oper) (Q : Post) (W9 w0 : World) (wm fuel k m : Nat) (i : Nat) (F : Fr) (w : World) : Prop := ∀ listed, Lst k m listed → LW P n ops Q W9 w0 (fun j => wm.testBit j) fuel listed i F w

def wrOk (sk : List (List Nat × Nat)) (wm k i : Nat) : Bool := (List.range k).all fun j => !wm.testBit j || ((nthv sk j).map fun x => x.1.contains i).getD true

theorem zef {ops : List Oper} {sk : List (List Nat × Nat)} (hsk : skOf ops = sk) {k wm i : Nat} (hk : ops.length = k) (h : wrOk sk wm k i = true) (j : Nat) (oj : Oper) (hw : wm.testBit j = true) (ho : ops[j]? = some oj) :
    ∃ e, e ∈ oj.after ∧ Region.binds .any e = true ∧ e.on = i := by
  unfold wrOk at h
  rw [List.all_eq_true] at h
  have := h j (List.mem_range.2 (by rw [← hk]; exact (List.getElem?_eq_some_iff.1 ho).1))
  rw [z9J hsk ho, hw] at this
  simp only [Bool.not_true, Bool.false_or, Option.map_some, Option.getD_some, List.contains_iff_mem] at this
  unfold depsOf at this
  obtain ⟨e, he, rfl⟩ := List.mem_map.1 this
  obtain ⟨he1, he2⟩ := List.mem_filter.1 he
  exact ⟨e, by simpa using he1, by simpa using he2, rfl⟩

theorem zhv {k m wm : Nat} {listed : Array Bool} (h : Lst k m listed) (h0 : Nat.beq (m &&& wm) 0 = true) : NoWr (fun j => wm.testBit j) listed := fun j hj => by
  rw [h.2 j]
  have h00 : m &&& wm = 0 := by simpa using h0
  have hj' : wm.testBit j = true := hj
  have h1 : (m &&& wm).testBit j = false := by rw [h00]; simp
  rw [Nat.testBit_and] at h1
  cases hm : m.testBit j with
  | false => rfl
  | true => rw [hm, hj'] at h1; cases h1

def freeAllM (sk : List (List Nat × Nat)) (full : Nat) : List Nat → Nat → Option Nat
  | [], m => some m
  | i :: r, m => match freeM sk full m i with
    | true => freeAllM sk full r (m ||| 2 ^ i)
    | false => none

section
variable {P : Program} {n : Nat} {Q : Post} {F : Fr} {w w0 W9 : World} {ops : List Oper} {wm fuel k m m' : Nat} {sk : List (List Nat × Nat)} {o : Oper}

theorem WP.drawnM {id : Nat} (wm : Nat) (hm : P.follows .mixedOrders = true) (k : Nat) (hk : Nat.beq ops.length k = true) (hs : Region.noSelect ops.toArray = true) (sk : List (List Nat × Nat)) (hsk : skOf ops = sk) (hv : Ext W9 w)
    (h : (skOf ops = sk ∧ ops.length = k) → DM P n ops Q W9 w wm k k 0 F { w with drawn := w.drawn + 1 }) : WP P n (.region id ops.toArray true) Q F w :=
  WP.drawn hm k (by simpa using hk) hs hv (h ⟨hsk, by simpa using hk⟩ _ (Lst.start k))

theorem DM.weak (F' : Fr) (hs : F.Has F') (h : DM P n ops Q W9 w0 wm fuel k m F' w) : DM P n ops Q W9 w0 wm fuel k m F w := fun l hl => DW.weak F' hs (h l hl)

theorem DM.done (hsk : skOf ops = sk ∧ ops.length = k) (hr : readyM sk k m = []) (h : Q .normal F w) : DM P n ops Q W9 w0 wm fuel k m F w := fun _ hl => DW.done (by rw [zaf hsk.1 hsk.2 hl]; exact hr) h

theorem z7E (hk : ops.length = k) {i : Nat} (hi : nthv ops i = some o) : i < k := by
  rw [z2P] at hi
  rw [← hk]; exact (List.getElem?_eq_some_iff.1 hi).1

theorem DM.quiet {v : Value} (hsk : skOf ops = sk ∧ ops.length = k) (i m' : Nat) (hm : m ||| 2 ^ i = m') (hwi : wm.testBit i = false) (hwo : wrOk sk wm k i = true) (hnw : Nat.beq (m &&& wm) 0 = true) (hi : nthv ops i = some o) (hf : freeM sk (2 ^ k - 1) m i = true) (hg : guardOf ops F o = some true) (hq : Quiet P n F w0 o v) {d : Nat} (hd : o.dst = some d) (hn : Nat.blt d n = true)
    (h : DM P n ops Q W9 w0 wm fuel k m' ((d, v) :: F) w) : DM P n ops Q W9 w0 wm (fuel + 1) k m F w := fun l hl =>
  DW.quiet i hwi (fun j oj hj ho => zef hsk.1 hsk.2 hwo j oj hj ho) (zhv hl hnw) hi (z8u hsk.1 hsk.2 hl (by rw [← z2P]; exact hi) hf) hg hq hd hn (h _ (hl.set (z7E hsk.2 hi) hm))

theorem DM.quietV {v : Value} (hsk : skOf ops = sk ∧ ops.length = k) (i m' : Nat) (hm : m ||| 2 ^ i = m') (hwi : wm.testBit i = false) (hi : nthv ops i = some o) (hf : freeM sk (2 ^ k - 1) m i = true) (hg : guardOf ops F o = some true) (hq : Quiet P n F W9 o v) {d : Nat} (hd : o.dst = some d) (hn : Nat.blt d n = true)
    (h : DM P n ops Q W9 w0 wm fuel k m' ((d, v) :: F) w) : DM P n ops Q W9 w0 wm (fuel + 1) k m F w := fun l hl =>
  DW.quietV i hwi hi (z8u hsk.1 hsk.2 hl (by rw [← z2P]; exact hi) hf) hg hq hd hn (h _ (hl.set (z7E hsk.2 hi) hm))

theorem z9k (hsk : skOf ops = sk ∧ ops.length = k) : ∀ (l : List Nat) {m m' : Nat} {listed : Array Bool}, freeAllM sk (2 ^ k - 1) l m = some m' → Lst k m listed → freeAll ops l listed = true ∧ Lst k m' (marked listed l)
  | [], m, m', listed, h, hl => by
    simp only [freeAllM, Option.some.injEq] at h; subst h
    exact ⟨rfl, hl⟩
  | i :: r, m, m', listed, h, hl => by
    unfold freeAllM at h
    split at h
    · rename_i hf
      have hi : ∃ o, ops[i]? = some o := by
        rcases Nat.lt_or_ge i ops.length with h' | h'
        · exact ⟨_, List.getElem?_eq_getElem h'⟩
        · unfold freeM at hf
          have : nthv sk i = none := by
            rw [← hsk.1, z2P]
            unfold skOf
            rw [List.getElem?_map, List.getElem?_eq_none (by simpa using h')]
            rfl
          rw [this] at hf
          cases hf
      obtain ⟨o, hi⟩ := hi
      have h1 := z8u hsk.1 hsk.2 hl hi hf
      have h2 := hl.set (show i < k by rw [← hsk.2]; exact (List.getElem?_eq_some_iff.1 hi).1) rfl
      obtain ⟨h3, h4⟩ := z9k hsk r h h2
      refine ⟨?_, h4⟩
      unfold freeAll
      rw [h1]
      exact h3
    · cases h

theorem DM.run {T : TT} (ht : TTok P T) (hsk : skOf ops = sk ∧ ops.length = k) (l : List Nat) (m' : Nat) (hwl : l.all (fun i => !wm.testBit i) = true) (hl : freeAllM sk (2 ^ k - 1) l m = some m') {F' : Fr} (hr : pvsD T n ops l F = some F')
    (h : DM P n ops Q W9 w0 wm fuel k m' F' w) : DM P n ops Q W9 w0 wm (fuel + l.length) k m F w := fun _ hL =>
  DW.run ht l (fun i hi => by have := List.all_eq_true.1 hwl i hi; simpa using this) (z9k hsk l hl hL).1 hr (h _ (z9k hsk l hl hL).2)

theorem DM.loud (hsk : skOf ops = sk ∧ ops.length = k) (rs : List Nat) (hr : readyM sk k m = rs) (hne : rs ≠ []) (h : ∀ i, i ∈ rs → LM P n ops Q W9 w0 wm fuel k m i F w) : DM P n ops Q W9 w0 wm (fuel + 1) k m F w := fun l hl =>
  DW.loud rs (by rw [zaf hsk.1 hsk.2 hl]; exact hr) hne fun i hi => h i hi l hl

theorem DM.one (hsk : skOf ops = sk ∧ ops.length = k) (i : Nat) (hr : readyM sk k m = [i]) (h : LM P n ops Q W9 w0 wm fuel k m i F w) : DM P n ops Q W9 w0 wm (fuel + 1) k m F w :=
  DM.loud hsk [i] hr (by simp) (by rintro j hj; simp only [List.mem_singleton] at hj; subst hj; exact h)

theorem LM.skip (hsk : skOf ops = sk ∧ ops.length = k) {i : Nat} (m' : Nat) (hm : m ||| 2 ^ i = m') (hwi : wm.testBit i = false) (hi : nthv ops i = some o) (hg : guardOf ops F o = some false) (hn : dstOk n o.dst = true)
    (h : DM P n ops Q W9 w0 wm fuel k m' (F.putO o.dst undef) w) : LM P n ops Q W9 w0 wm fuel k m i F w := fun _ hl =>
  LW.skip hwi hi hg hn (h _ (hl.set (z7E hsk.2 hi) hm))

theorem LM.ok (hsk : skOf ops = sk ∧ ops.length = k) {v : Value} {w' : World} {i : Nat} (m' : Nat) (hm : m ||| 2 ^ i = m') (hwi : wm.testBit i = false) (hi : nthv ops i = some o) (hg : guardOf ops F o = some true) (hr : ∀ a, Fits n F a → (execOp a.eval o).run P w = .ok (.value v) w') (hw : Ext w w') (hn : dstOk n o.dst = true)
    (h : DM P n ops Q W9 w0 wm fuel k m' (F.putO o.dst v) w') : LM P n ops Q W9 w0 wm fuel k m i F w := fun _ hl =>
  LW.ok hwi hi hg hr hw hn (h _ (hl.set (z7E hsk.2 hi) hm))

theorem LM.okW (hsk : skOf ops = sk ∧ ops.length = k) {v : Value} {w' : World} {i : Nat} (m' : Nat) (hm : m ||| 2 ^ i = m') (hwi : wm.testBit i = true) (hi : nthv ops i = some o) (hg : guardOf ops F o = some true) (hr : ∀ a, Fits n F a → (execOp a.eval o).run P w = .ok (.value v) w') (hn : dstOk n o.dst = true) (hW : Ext W9 w')
    (h : DM P n ops Q W9 w0 wm fuel k m' (F.putO o.dst v) w') : LM P n ops Q W9 w0 wm fuel k m i F w := fun _ hl =>
  LW.okW hwi (by rw [hl.1]; exact z7E hsk.2 hi) hi hg hr hn hW (h _ (hl.set (z7E hsk.2 hi) hm))

theorem LM.unitW (hsk : skOf ops = sk ∧ ops.length = k) {w' : World} {i : Nat} (m' : Nat) (hm : m ||| 2 ^ i = m') (hwi : wm.testBit i = true) (hi : nthv ops i = some o) (hg : guardOf ops F o = some true) (hr : ∀ a, Fits n F a → (execOp a.eval o).run P w = .ok .skip w') (hd : o.dst = none) (hW : Ext W9 w')
    (h : DM P n ops Q W9 w0 wm fuel k m' F w') : LM P n ops Q W9 w0 wm fuel k m i F w := fun _ hl =>
  LW.unitW hwi (by rw [hl.1]; exact z7E hsk.2 hi) hi hg hr hd hW (h _ (hl.set (z7E hsk.2 hi) hm))

theorem LM.call (hsk : skOf ops = sk ∧ ops.length = k) {i : Nat} (m' : Nat) (hm : m ||| 2 ^ i = m') (hwi : wm.testBit i = false) (hi : nthv ops i = some o) (hg : guardOf ops F o = some true) {f : FuncId} {vs : List Value} (hc : callOf F o.op = some (f, vs)) (hn : dstOk n o.dst = true) (hen : Enters P f)
    {R : Value → World → Prop} (hf : Calls P f ⟨vs⟩ w (Ret R)) (h : ∀ v w', R v w' → Ext w w' ∧ DM P n ops Q W9 w0 wm fuel k m' (F.putO o.dst v) w') : LM P n ops Q W9 w0 wm fuel k m i F w := fun _ hl =>
  LW.call hwi hi hg hc hn hen hf fun v w' hR => ⟨(h v w' hR).1, (h v w' hR).2 _ (hl.set (z7E hsk.2 hi) hm)⟩

theorem LM.new {T : TT} (ht : TTok P T) (hsk : skOf ops = sk ∧ ops.length = k) {W : World} {Rs : List Res} (hS : St W w Rs) {i : Nat} (m' : Nat) (hm : m ||| 2 ^ i = m') (hwi : wm.testBit i = false) (hi : nthv ops i = some o) (hg : guardOf ops F o = some true) {cs : List Value} {e : TypeId} (hc : newOf T F o.op = some (cs, e))
    {d : Nat} (hd : o.dst = some d) (hn : Nat.blt d n = true)
    (h : ∀ g w', Ext w w' → St W w' (Box g cs e :: Rs) → DM P n ops Q W9 w0 wm fuel k m' ((d, .pointer (some ⟨g, 0, none⟩)) :: F) w') : LM P n ops Q W9 w0 wm fuel k m i F w := fun _ hl =>
  LW.new ht hS hwi hi hg hc hd hn fun g w' h1 h2 => h g w' h1 h2 _ (hl.set (z7E hsk.2 hi) hm)

variable {T : TT} (ht : TTok P T)
include ht

theorem DM.load1 (hsk : skOf ops = sk ∧ ops.length = k) (i m' : Nat) (hm : m ||| 2 ^ i = m') (hwi : wm.testBit i = false) (hwo : wrOk sk wm k i = true) (hnw : Nat.beq (m &&& wm) 0 = true) (hi : nthv ops i = some o) (hf : freeM sk (2 ^ k - 1) m i = true) (hg : guardOf ops F o = some true) {t : Nat} {x : Operand} {j : TI} {p q : Addr} {cs : List Value} (ho : o.op = .load t x) (hj : T.get t = some j) (hag : j.agg = false)
    (hx : F.ev x = some (.pointer (some q))) (hat : At w0 p cs) (off : Nat) (hq : q = p.add off) {v : Value} (hv : nthv cs off = some v) {d : Nat} (hd : o.dst = some d) (hn : Nat.blt d n = true)
    (h : DM P n ops Q W9 w0 wm fuel k m' ((d, v) :: F) w) : DM P n ops Q W9 w0 wm (fuel + 1) k m F w := DM.quiet hsk i m' hm hwi hwo hnw hi hf hg (Quiet.load1 ht ho hj hag hx hat off hq hv) hd hn h

theorem DM.loadN (hsk : skOf ops = sk ∧ ops.length = k) (i m' : Nat) (hm : m ||| 2 ^ i = m') (hwi : wm.testBit i = false) (hwo : wrOk sk wm k i = true) (hnw : Nat.beq (m &&& wm) 0 = true) (hi : nthv ops i = some o) (hf : freeM sk (2 ^ k - 1) m i = true) (hg : guardOf ops F o = some true) {t : Nat} {x : Operand} {j : TI} {q : Addr} {cs : List Value} (ho : o.op = .load t x) (hj : T.get t = some j) (hag : j.agg = true)
    (hx : F.ev x = some (.pointer (some q))) (hat : At w0 q cs) (hl : Nat.beq cs.length j.size = true) {d : Nat} (hd : o.dst = some d) (hn : Nat.blt d n = true)
    (h : DM P n ops Q W9 w0 wm fuel k m' ((d, .agg ⟨cs⟩) :: F) w) : DM P n ops Q W9 w0 wm (fuel + 1) k m F w := DM.quiet hsk i m' hm hwi hwo hnw hi hf hg (Quiet.loadN ht ho hj hag hx hat (Nat.eq_of_beq_eq_true hl)) hd hn h

theorem DM.idx {α : Type} {U : Ty α} {w1 : World} (he : Ext w1 w0) (hsk : skOf ops = sk ∧ ops.length = k) (i m' : Nat) (hm' : m ||| 2 ^ i = m') (hwi : wm.testBit i = false) (hwo : wrOk sk wm k i = true) (hnw : Nat.beq (m &&& wm) 0 = true) (hi : nthv ops i = some o) (hf : freeM sk (2 ^ k - 1) m i = true) (hg : guardOf ops F o = some true) {t e : Nat} {x ix : Operand} {j j' : TI} {A : Option Addr} {len c : Nat} {xs : List α} {kk : IntKind} {mm : Int} (ho : o.op = .indexAddr t x ix)
    (hj : T.get t = some j) (hd : j.d = .slice e) (hj' : T.get e = some j') (hs : U.size = j'.size) (hpos : 0 < U.size) (hx : F.ev x = some (.slice A len c)) (hm : F.ev ix = some (.int kk mm))
    {e' : Nat} (hr : (tSl e' U).ro w1 [.slice A len c] xs) {a : α} (h0 : 0 ≤ mm) (ha : xs[mm.toNat]? = some a) {d : Nat} (hd' : o.dst = some d) (hn : Nat.blt d n = true)
    (h : ∀ q es, At w1 q es → U.ro w1 es a → DM P n ops Q W9 w0 wm fuel k m' ((d, .pointer (some q)) :: F) w) : DM P n ops Q W9 w0 wm (fuel + 1) k m F w := by
  obtain ⟨q, es, h1, h2, h3⟩ := Quiet.idx (n := n) ht ho hj hd hj' hs hpos hx hm hr h0 ha
  exact DM.quiet hsk i m' hm' hwi hwo hnw hi hf hg (h1.later he) hd' hn (h q es h2 h3)

theorem DM.cut {α : Type} {U : Ty α} {w1 : World} (he : Ext w1 w0) (hsk : skOf ops = sk ∧ ops.length = k) (n' m' : Nat) (hm' : m ||| 2 ^ n' = m') (hwi : wm.testBit n' = false) (hwo : wrOk sk wm k n' = true) (hnw : Nat.beq (m &&& wm) 0 = true) (hni : nthv ops n' = some o) (hf : freeM sk (2 ^ k - 1) m n' = true) (hg : guardOf ops F o = some true) {t e : Nat} {x : Operand} {lo hi : Option Operand} {i j : TI} {A : Option Addr} {len c : Nat} {xs : List α} (ho : o.op = .slice t x lo hi none)
    (hi' : T.get t = some i) (hd : i.d = .slice e) (hj : T.get e = some j) (hs : U.size = j.size) (hx : F.ev x = some (.slice A len c)) {e' : Nat}
    (hr : (tSl e' U).ro w1 [.slice A len c] xs) {l h : Nat} (hl : (lo = none ∧ l = 0) ∨ ∃ y k, lo = some y ∧ F.ev y = some (.int k (l : Int))) (hh : (hi = none ∧ h = xs.length) ∨ ∃ y k, hi = some y ∧ F.ev y = some (.int k (h : Int)))
    (h1 : l ≤ h) (h2 : h ≤ xs.length) {d : Nat} (hd' : o.dst = some d) (hn : Nat.blt d n = true)
    (hk : ∀ A' c', (tSl e' U).ro w1 [.slice A' (h - l) c'] ((xs.take h).drop l) → DM P n ops Q W9 w0 wm fuel k m' ((d, .slice A' (h - l) c') :: F) w) : DM P n ops Q W9 w0 wm (fuel + 1) k m F w := by
  obtain ⟨A', c', k1, k2⟩ := Quiet.cut (n := n) ht ho hi' hd hj hs hx hr hl hh h1 h2
  exact DM.quiet hsk n' m' hm' hwi hwo hnw hni hf hg (k1.later he) hd' hn (hk A' c' k2)

theorem DM.idxV {α : Type} {U : Ty α} {w1 : World} (he : Ext w1 W9) (hsk : skOf ops = sk ∧ ops.length = k) (i m' : Nat) (hm' : m ||| 2 ^ i = m') (hwi : wm.testBit i = false) (hi : nthv ops i = some o) (hf : freeM sk (2 ^ k - 1) m i = true) (hg : guardOf ops F o = some true) {t e : Nat} {x ix : Operand} {j j' : TI} {A : Option Addr} {len c : Nat} {xs : List α} {kk : IntKind} {mm : Int} (ho : o.op = .indexAddr t x ix)
    (hj : T.get t = some j) (hd : j.d = .slice e) (hj' : T.get e = some j') (hs : U.size = j'.size) (hpos : 0 < U.size) (hx : F.ev x = some (.slice A len c)) (hm : F.ev ix = some (.int kk mm))
    {e' : Nat} (hr : (tSl e' U).ro w1 [.slice A len c] xs) {a : α} (h0 : 0 ≤ mm) (ha : xs[mm.toNat]? = some a) {d : Nat} (hd' : o.dst = some d) (hn : Nat.blt d n = true)
    (h : ∀ q es, At w1 q es → U.ro w1 es a → DM P n ops Q W9 w0 wm fuel k m' ((d, .pointer (some q)) :: F) w) : DM P n ops Q W9 w0 wm (fuel + 1) k m F w := by
  obtain ⟨q, es, h1, h2, h3⟩ := Quiet.idx (n := n) ht ho hj hd hj' hs hpos hx hm hr h0 ha
  exact DM.quietV hsk i m' hm' hwi hi hf hg (h1.later he) hd' hn (h q es h2 h3)

end
end Go.E

