/- Regions whose order the model draws. Conditions: none (rules). -/
import Derived.Test.YtlepmbkfpfnnfaaEnter
namespace Go.E
open Go.RowKit

/-- the end of a region alone -/
def Post.only (Q : Post) : Post
  | .normal, F, w => Q .normal F w
  | _, _, _ => False

/-- Whatever order is picked. w0: the world as the region begins; facts on memory that is read speak of it. -/
def DW (P : Program) (n : Nat) (ops : List Oper) (Q : Post) (w0 : World) (fuel : Nat) (listed : Array Bool) (F : Fr) (w : World) : Prop :=
  Region.noSelect ops.toArray = true → Ext w0 w → ∀ a, Fits n F a → wpAnyH P .any ops.toArray (Q.only.up n) (Ext w0) fuel listed a w

/-- the operation i comes up -/
def LW (P : Program) (n : Nat) (ops : List Oper) (Q : Post) (w0 : World) (fuel : Nat) (listed : Array Bool) (i : Nat) (F : Fr) (w : World) : Prop :=
  Region.noSelect ops.toArray = true → Ext w0 w → ∀ a, Fits n F a → wpOp P ops.toArray (Q.only.up n) i (fun a' w' => Ext w0 w' ∧ wpAnyH P .any ops.toArray (Q.only.up n) (Ext w0) fuel (listed.setIfInBounds i true) a' w') a w

theorem noPanic {n : Nat} {Q : Post} (v : Value) (d : Option Nat) : ∀ c a w, Post.up n Q.only (.panic c) (a.put d v) w → Post.up n Q.only (.panic c) a w := by
  rintro c a w ⟨F', _, h⟩; exact h.elim

def freeAt (ops : List Oper) (listed : Array Bool) (i : Nat) : Bool :=
  match Region.free .any ops.toArray listed i with
  | true => (Region.ready .any ops.toArray listed).contains i
  | false => false

theorem freeAt_spec {ops : List Oper} {listed : Array Bool} {i : Nat} (h : freeAt ops listed i = true) : Region.free .any ops.toArray listed i = true ∧ (Region.ready .any ops.toArray listed).contains i = true := by
  unfold freeAt at h
  split at h
  · rename_i hf; exact ⟨hf, h⟩
  · cases h

def marked (listed : Array Bool) : List Nat → Array Bool
  | [] => listed
  | i :: r => marked (listed.setIfInBounds i true) r

def freeAll (ops : List Oper) : List Nat → Array Bool → Bool
  | [], _ => true
  | i :: r, listed => match freeAt ops listed i with
    | true => freeAll ops r (listed.setIfInBounds i true)
    | false => false

/-- Many operations that only reckon, or that a guard passes over, in the order of the list. -/
def pvsD (T : TT) (n : Nat) (ops : List Oper) : List Nat → Fr → Option Fr
  | [], F => some F
  | i :: r, F => match nthv ops i with
    | some o => match guardOf ops F o, o.dst with
      | some true, some d => match Nat.blt d n, pv T F o.op with
        | true, some v => pvsD T n ops r ((d, v) :: F)
        | _, _ => none
      | some false, some d => match Nat.blt d n with
        | true => pvsD T n ops r ((d, undef) :: F)
        | false => none
      | some true, none => match pv T F o.op with
        | some _ => pvsD T n ops r F
        | none => none
      | some false, none => pvsD T n ops r F
      | none, _ => none
    | _ => none

section
variable {P : Program} {n : Nat} {Q : Post} {F : Fr} {w w0 : World} {ops : List Oper} {fuel : Nat} {listed : Array Bool}

theorem WP.drawn {id : Nat} (hm : P.follows .mixedOrders = true) (k : Nat) (hk : ops.toArray.size = k) (hs : Region.noSelect ops.toArray = true)
    (h : DW P n ops Q w k (Array.replicate k false) F { w with drawn := w.drawn + 1 }) : WP P n (.region id ops.toArray true) Q F w := fun a ha => by
  subst hk
  refine wp_mono (wp_region_held hm (h hs (Ext.draw w) a ha)) ?_
  rintro e a' w' ⟨F', h1, h2⟩
  cases e <;> first | exact ⟨F', h1, h2⟩ | exact h2.elim

theorem DW.weak (F' : Fr) (hs : F.Has F') (h : DW P n ops Q w0 fuel listed F' w) : DW P n ops Q w0 fuel listed F w := fun hn he a ha => h hn he a (ha.weak hs)

theorem DW.done (hr : Region.ready .any ops.toArray listed = []) (h : Ext w0 w → Q .normal F w) : DW P n ops Q w0 fuel listed F w := fun _ he _ ha => wpAnyH_done hr ⟨F, ha, h he⟩ fuel

/-- An operation that leaves the world as it is may be taken first. -/
theorem DW.quiet {o : Oper} {v : Value} (i : Nat) (hi : nthv ops i = some o) (hf : freeAt ops listed i = true) (hg : guardOf ops F o = some true) (hq : Quiet P n F w0 o v) {d : Nat} (hd : o.dst = some d) (hn : Nat.blt d n = true)
    (h : DW P n ops Q w0 fuel (listed.setIfInBounds i true) ((d, v) :: F) w) : DW P n ops Q w0 (fuel + 1) listed F w := fun hs he a ha => by
  rw [nthv_eq] at hi
  obtain ⟨h1, h2⟩ := freeAt_spec hf
  refine wpAnyH_take (oi := o) (v := v) (by simpa using hi) hs h1 h2 (noPanic v _) (.inl ⟨guardOf_wanted hg ha, fun w' hw' => hq a w' ha hw'⟩) he ?_
  rw [hd]
  exact h hs he _ (ha.put hn v)

theorem DW.run {T : TT} (ht : TTok P T) (l : List Nat) (hl : freeAll ops l listed = true) {F' : Fr} (hr : pvsD T n ops l F = some F')
    (h : DW P n ops Q w0 fuel (marked listed l) F' w) : DW P n ops Q w0 (fuel + l.length) listed F w := by
  induction l generalizing listed F with
  | nil => simp only [pvsD, Option.some.injEq] at hr; subst hr; exact h
  | cons i l ih =>
    unfold freeAll at hl
    split at hl
    · rename_i hfr
      unfold pvsD at hr
      split at hr
      · rename_i o hi
        obtain ⟨hf, hrd⟩ := freeAt_spec hfr
        rw [nthv_eq] at hi
        have hi' : ops.toArray[i]? = some o := by simpa using hi
        split at hr
        · rename_i d hg hd
          split at hr
          · rename_i v hn hv
            intro hs he a ha
            refine wpAnyH_take (oi := o) (v := v) hi' hs hf hrd (noPanic v _) (.inl ⟨guardOf_wanted hg ha, fun w' _ => run_pv ht hv ha w'⟩) he ?_
            rw [hd]
            exact ih hl hr h hs he _ (ha.put hn v)
          · cases hr
        · rename_i d hg hd
          split at hr
          · rename_i hn
            intro hs he a ha
            refine wpAnyH_take (oi := o) (v := undef) hi' hs hf hrd (noPanic undef _) (.inr ⟨guardOf_wanted hg ha, rfl⟩) he ?_
            rw [hd]
            exact ih hl hr h hs he _ (ha.put hn undef)
          · cases hr
        · rename_i hg hd
          split at hr
          · rename_i v hv
            intro hs he a ha
            refine wpAnyH_take (oi := o) (v := v) hi' hs hf hrd (noPanic v _) (.inl ⟨guardOf_wanted hg ha, fun w' _ => run_pv ht hv ha w'⟩) he ?_
            rw [hd]
            exact ih hl hr h hs he _ ha
          · cases hr
        · rename_i hg hd
          intro hs he a ha
          refine wpAnyH_take (oi := o) (v := undef) hi' hs hf hrd (noPanic undef _) (.inr ⟨guardOf_wanted hg ha, rfl⟩) he ?_
          rw [hd]
          exact ih hl hr h hs he _ ha
        · cases hr
      · cases hr
    · cases hl

/-- Operations that change the world: whichever comes up. -/
theorem DW.loud (rs : List Nat) (hr : Region.ready .any ops.toArray listed = rs) (hne : rs ≠ []) (h : ∀ i, i ∈ rs → LW P n ops Q w0 fuel listed i F w) : DW P n ops Q w0 (fuel + 1) listed F w := fun hs he a ha =>
  wpAnyH_all hr hne fun i hi => h i hi hs he a ha

theorem DW.one (i : Nat) (hr : Region.ready .any ops.toArray listed = [i]) (h : LW P n ops Q w0 fuel listed i F w) : DW P n ops Q w0 (fuel + 1) listed F w :=
  DW.loud [i] hr (by simp) (by rintro j hj; simp only [List.mem_singleton] at hj; subst hj; exact h)

theorem DW.two (i j : Nat) (hr : Region.ready .any ops.toArray listed = [i, j]) (h : LW P n ops Q w0 fuel listed i F w) (h' : LW P n ops Q w0 fuel listed j F w) : DW P n ops Q w0 (fuel + 1) listed F w :=
  DW.loud [i, j] hr (by simp) (by
    rintro k hk
    simp only [List.mem_cons, List.not_mem_nil, or_false] at hk
    rcases hk with rfl | rfl
    · exact h
    · exact h')

theorem LW.skip {o : Oper} {i : Nat} (hi : nthv ops i = some o) (hg : guardOf ops F o = some false) (hn : dstOk n o.dst = true)
    (h : DW P n ops Q w0 fuel (listed.setIfInBounds i true) (F.putO o.dst undef) w) : LW P n ops Q w0 fuel listed i F w := fun hs he a ha => by
  rw [nthv_eq] at hi
  have hi' : ops.toArray[i]? = some o := by simpa using hi
  unfold wpOp
  simp only [hi']
  rw [if_neg (by rw [guardOf_wanted hg ha]; simp)]
  exact ⟨he, h hs he _ (ha.putO hn undef)⟩

theorem LW.ok {o : Oper} {v : Value} {w' : World} {i : Nat} (hi : nthv ops i = some o) (hg : guardOf ops F o = some true) (hr : ∀ a, Fits n F a → (execOp a.eval o).run P w = .ok (.value v) w') (hw : Ext w w') (hn : dstOk n o.dst = true)
    (h : DW P n ops Q w0 fuel (listed.setIfInBounds i true) (F.putO o.dst v) w') : LW P n ops Q w0 fuel listed i F w := fun hs he a ha => by
  rw [nthv_eq] at hi
  have hi' : ops.toArray[i]? = some o := by simpa using hi
  unfold wpOp
  simp only [hi']
  rw [if_pos (guardOf_wanted hg ha)]
  refine .inl ?_
  unfold Oper.wp
  rw [hr a ha, Oper.upon_value]
  exact ⟨he.trans hw, h hs (he.trans hw) _ (ha.putO hn v)⟩

/-- The last operations of a region, which write: no fact on memory that is read is asked behind them. -/
theorem LW.unit {o : Oper} {w' : World} {i : Nat} (hi : nthv ops i = some o) (hg : guardOf ops F o = some true) (hr : ∀ a, Fits n F a → (execOp a.eval o).run P w = .ok .skip w') (hw : Ext w0 w → Ext w0 w') (hd : o.dst = none)
    (h : DW P n ops Q w0 fuel (listed.setIfInBounds i true) F w') : LW P n ops Q w0 fuel listed i F w := fun hs he a ha => by
  rw [nthv_eq] at hi
  have hi' : ops.toArray[i]? = some o := by simpa using hi
  unfold wpOp
  simp only [hi']
  rw [if_pos (guardOf_wanted hg ha)]
  refine .inl ?_
  unfold Oper.wp
  rw [hr a ha, Oper.upon_skip, hd]
  exact ⟨hw he, h hs (hw he) _ ha⟩

theorem LW.call {o : Oper} {i : Nat} (hi : nthv ops i = some o) (hg : guardOf ops F o = some true) {f : FuncId} {vs : List Value} (hc : callOf F o.op = some (f, vs)) (hn : dstOk n o.dst = true) (hen : Enters P f)
    {R : Value → World → Prop} (hf : Calls P f ⟨vs⟩ w (Ret R)) (h : ∀ v w', R v w' → Ext w w' ∧ DW P n ops Q w0 fuel (listed.setIfInBounds i true) (F.putO o.dst v) w') : LW P n ops Q w0 fuel listed i F w := fun hs he a ha => by
  rw [nthv_eq] at hi
  have hi' : ops.toArray[i]? = some o := by simpa using hi
  unfold wpOp
  simp only [hi']
  rw [if_pos (guardOf_wanted hg ha)]
  refine .inl ?_
  unfold Oper.wp
  rw [run_callOf hen hc ha, Oper.upon_enter]
  refine hf.mono fun e w' hr => ?_
  cases e with
  | returned v => exact ⟨he.trans (h v w' hr).1, (h v w' hr).2 hs (he.trans (h v w' hr).1) _ (ha.putO hn v)⟩
  | panicked _ => exact hr.elim
  | outgrown => exact hr.elim

theorem LW.new {T : TT} (ht : TTok P T) {W : World} {Rs : List Res} (hS : St W w Rs) {o : Oper} {i : Nat} (hi : nthv ops i = some o) (hg : guardOf ops F o = some true) {cs : List Value} {e : TypeId} (hc : newOf T F o.op = some (cs, e))
    {d : Nat} (hd : o.dst = some d) (hn : Nat.blt d n = true)
    (h : ∀ g w', Ext w w' → St W w' (Box g cs e :: Rs) → DW P n ops Q w0 fuel (listed.setIfInBounds i true) ((d, .pointer (some ⟨g, 0, none⟩)) :: F) w') : LW P n ops Q w0 fuel listed i F w := by
  refine LW.ok hi hg (fun _ ha => run_newOf ht hc ha) (Ext.alloc w (.cells ⟨cs⟩ e)) (by rw [hd]; exact hn) ?_
  rw [hd]
  exact h _ _ (Ext.alloc w (.cells ⟨cs⟩ e)) (hS.new cs e)

/-! ### Reading, at the level of a region: in the text's order (RW) and drawn (DW) -/
variable {T : TT} (ht : TTok P T) {rest : List Oper} {o : Oper}
include ht

theorem RW.load1 (hg : guardOf ops F o = some true) {t : Nat} {x : Operand} {i : TI} {p q : Addr} {cs : List Value} (ho : o.op = .load t x) (hi : T.get t = some i) (hag : i.agg = false) (hx : F.ev x = some (.pointer (some q)))
    (hat : At w p cs) (off : Nat) (hq : q = p.add off) {v : Value} (hv : nthv cs off = some v) {d : Nat} (hd : o.dst = some d) (hn : Nat.blt d n = true)
    (h : RW P n ops Q rest ((d, v) :: F) w) : RW P n ops Q (o :: rest) F w := RW.quiet hg (Quiet.load1 ht ho hi hag hx hat off hq hv) hd hn h

theorem RW.loadN (hg : guardOf ops F o = some true) {t : Nat} {x : Operand} {i : TI} {q : Addr} {cs : List Value} (ho : o.op = .load t x) (hi : T.get t = some i) (hag : i.agg = true) (hx : F.ev x = some (.pointer (some q)))
    (hat : At w q cs) (hl : Nat.beq cs.length i.size = true) {d : Nat} (hd : o.dst = some d) (hn : Nat.blt d n = true)
    (h : RW P n ops Q rest ((d, .agg ⟨cs⟩) :: F) w) : RW P n ops Q (o :: rest) F w := RW.quiet hg (Quiet.loadN ht ho hi hag hx hat (Nat.eq_of_beq_eq_true hl)) hd hn h

theorem RW.idx {α : Type} {U : Ty α} (hg : guardOf ops F o = some true) {t e : Nat} {x ix : Operand} {i j : TI} {A : Option Addr} {len c : Nat} {xs : List α} {k : IntKind} {m : Int} (ho : o.op = .indexAddr t x ix)
    (hi : T.get t = some i) (hd : i.d = .slice e) (hj : T.get e = some j) (hs : U.size = j.size) (hpos : 0 < U.size) (hx : F.ev x = some (.slice A len c)) (hm : F.ev ix = some (.int k m))
    {e' : Nat} (hr : (tSl e' U).ro w [.slice A len c] xs) {a : α} (h0 : 0 ≤ m) (ha : xs[m.toNat]? = some a) {d : Nat} (hd' : o.dst = some d) (hn : Nat.blt d n = true)
    (h : ∀ q es, At w q es → U.ro w es a → RW P n ops Q rest ((d, .pointer (some q)) :: F) w) : RW P n ops Q (o :: rest) F w := by
  obtain ⟨q, es, h1, h2, h3⟩ := Quiet.idx (n := n) ht ho hi hd hj hs hpos hx hm hr h0 ha
  exact RW.quiet hg h1 hd' hn (h q es h2 h3)

theorem RW.cut {α : Type} {U : Ty α} (hg : guardOf ops F o = some true) {t e : Nat} {x : Operand} {lo hi : Option Operand} {i j : TI} {A : Option Addr} {len c : Nat} {xs : List α} (ho : o.op = .slice t x lo hi none)
    (hi' : T.get t = some i) (hd : i.d = .slice e) (hj : T.get e = some j) (hs : U.size = j.size) (hx : F.ev x = some (.slice A len c)) {e' : Nat}
    (hr : (tSl e' U).ro w [.slice A len c] xs) {l h : Nat} (hl : (lo = none ∧ l = 0) ∨ ∃ y k, lo = some y ∧ F.ev y = some (.int k (l : Int))) (hh : (hi = none ∧ h = xs.length) ∨ ∃ y k, hi = some y ∧ F.ev y = some (.int k (h : Int)))
    (h1 : l ≤ h) (h2 : h ≤ xs.length) {d : Nat} (hd' : o.dst = some d) (hn : Nat.blt d n = true)
    (hk : ∀ A' c', (tSl e' U).ro w [.slice A' (h - l) c'] ((xs.take h).drop l) → RW P n ops Q rest ((d, .slice A' (h - l) c') :: F) w) : RW P n ops Q (o :: rest) F w := by
  obtain ⟨A', c', k1, k2⟩ := Quiet.cut (n := n) ht ho hi' hd hj hs hx hr hl hh h1 h2
  exact RW.quiet hg k1 hd' hn (hk A' c' k2)

theorem DW.load1 (i : Nat) (hi : nthv ops i = some o) (hf : freeAt ops listed i = true) (hg : guardOf ops F o = some true) {t : Nat} {x : Operand} {j : TI} {p q : Addr} {cs : List Value} (ho : o.op = .load t x) (hj : T.get t = some j) (hag : j.agg = false)
    (hx : F.ev x = some (.pointer (some q))) (hat : At w0 p cs) (off : Nat) (hq : q = p.add off) {v : Value} (hv : nthv cs off = some v) {d : Nat} (hd : o.dst = some d) (hn : Nat.blt d n = true)
    (h : DW P n ops Q w0 fuel (listed.setIfInBounds i true) ((d, v) :: F) w) : DW P n ops Q w0 (fuel + 1) listed F w := DW.quiet i hi hf hg (Quiet.load1 ht ho hj hag hx hat off hq hv) hd hn h

theorem DW.loadN (i : Nat) (hi : nthv ops i = some o) (hf : freeAt ops listed i = true) (hg : guardOf ops F o = some true) {t : Nat} {x : Operand} {j : TI} {q : Addr} {cs : List Value} (ho : o.op = .load t x) (hj : T.get t = some j) (hag : j.agg = true)
    (hx : F.ev x = some (.pointer (some q))) (hat : At w0 q cs) (hl : Nat.beq cs.length j.size = true) {d : Nat} (hd : o.dst = some d) (hn : Nat.blt d n = true)
    (h : DW P n ops Q w0 fuel (listed.setIfInBounds i true) ((d, .agg ⟨cs⟩) :: F) w) : DW P n ops Q w0 (fuel + 1) listed F w := DW.quiet i hi hf hg (Quiet.loadN ht ho hj hag hx hat (Nat.eq_of_beq_eq_true hl)) hd hn h

theorem DW.idx {α : Type} {U : Ty α} (i : Nat) (hi : nthv ops i = some o) (hf : freeAt ops listed i = true) (hg : guardOf ops F o = some true) {t e : Nat} {x ix : Operand} {j j' : TI} {A : Option Addr} {len c : Nat} {xs : List α} {k : IntKind} {m : Int} (ho : o.op = .indexAddr t x ix)
    (hj : T.get t = some j) (hd : j.d = .slice e) (hj' : T.get e = some j') (hs : U.size = j'.size) (hpos : 0 < U.size) (hx : F.ev x = some (.slice A len c)) (hm : F.ev ix = some (.int k m))
    {e' : Nat} (hr : (tSl e' U).ro w0 [.slice A len c] xs) {a : α} (h0 : 0 ≤ m) (ha : xs[m.toNat]? = some a) {d : Nat} (hd' : o.dst = some d) (hn : Nat.blt d n = true)
    (h : ∀ q es, At w0 q es → U.ro w0 es a → DW P n ops Q w0 fuel (listed.setIfInBounds i true) ((d, .pointer (some q)) :: F) w) : DW P n ops Q w0 (fuel + 1) listed F w := by
  obtain ⟨q, es, h1, h2, h3⟩ := Quiet.idx (n := n) ht ho hj hd hj' hs hpos hx hm hr h0 ha
  exact DW.quiet i hi hf hg h1 hd' hn (h q es h2 h3)

theorem DW.cut {α : Type} {U : Ty α} (n' : Nat) (hni : nthv ops n' = some o) (hf : freeAt ops listed n' = true) (hg : guardOf ops F o = some true) {t e : Nat} {x : Operand} {lo hi : Option Operand} {i j : TI} {A : Option Addr} {len c : Nat} {xs : List α} (ho : o.op = .slice t x lo hi none)
    (hi' : T.get t = some i) (hd : i.d = .slice e) (hj : T.get e = some j) (hs : U.size = j.size) (hx : F.ev x = some (.slice A len c)) {e' : Nat}
    (hr : (tSl e' U).ro w0 [.slice A len c] xs) {l h : Nat} (hl : (lo = none ∧ l = 0) ∨ ∃ y k, lo = some y ∧ F.ev y = some (.int k (l : Int))) (hh : (hi = none ∧ h = xs.length) ∨ ∃ y k, hi = some y ∧ F.ev y = some (.int k (h : Int)))
    (h1 : l ≤ h) (h2 : h ≤ xs.length) {d : Nat} (hd' : o.dst = some d) (hn : Nat.blt d n = true)
    (hk : ∀ A' c', (tSl e' U).ro w0 [.slice A' (h - l) c'] ((xs.take h).drop l) → DW P n ops Q w0 fuel (listed.setIfInBounds n' true) ((d, .slice A' (h - l) c') :: F) w) : DW P n ops Q w0 (fuel + 1) listed F w := by
  obtain ⟨A', c', k1, k2⟩ := Quiet.cut (n := n) ht ho hi' hd hj hs hx hr hl hh h1 h2
  exact DW.quiet n' hni hf hg k1 hd' hn (hk A' c' k2)
end
end Go.E
