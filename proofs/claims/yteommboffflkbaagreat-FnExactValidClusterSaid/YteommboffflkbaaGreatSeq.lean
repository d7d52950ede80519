/- Regions in the text's order (RW) and in whatever order the model draws (DW). Conditions: none (rules). -/
import Derived.Test.YteommboffflkbaaGreatReg
namespace Go.E
open Go.RowKit
set_option linter.unusedVariables false
set_option linter.unusedSimpArgs false


def guardOf (ops : List Oper) (F : Fr) (o : Oper) : Option Bool :=
  match o.guard with
  | none => some true
  | some (j, b) => match nthv ops j with
    | some oj => match oj.dst with
      | some d => match F.get d with
        | some (.bool true) => some b
        | some (.bool false) => some (!b)
        | some (.tuple _) => some false
        | _ => none
      | none => none
    | none => none

theorem zo {l : List Oper} {F : Fr} {o : Oper} {r : Bool} (h : guardOf l F o = some r) {n : Nat} {a : Act} (ha : Fits n F a) :
    Region.wanted o (yielded l.toArray a.tmps) = r := by
  unfold guardOf at h
  unfold Region.wanted
  split at h
  · rename_i hg; simp only [Option.some.injEq] at h; subst h; rw [hg]
  · rename_i j b hg
    rw [hg]
    split at h
    · rename_i oj hj
      rw [z2P] at hj
      split at h
      · rename_i d hd
        have hy : ∀ v, a.tmps[d]? = some v → yielded l.toArray a.tmps j = match v with | .bool b => some b | _ => none := by
          intro v hv
          unfold yielded
          simp [hj, hd, hv]
          cases v <;> rfl
        show (yielded l.toArray a.tmps j == some b) = r
        split at h
        · rename_i hv; rw [hy _ (ha.2.2 d _ hv)]; simp only [Option.some.injEq] at h; subst h; cases b <;> rfl
        · rename_i hv; rw [hy _ (ha.2.2 d _ hv)]; simp only [Option.some.injEq] at h; subst h; cases b <;> rfl
        · rename_i hv; rw [hy _ (ha.2.2 d _ hv)]; simp only [Option.some.injEq] at h; subst h; cases b <;> rfl
        · cases h
      · cases h
    · cases h


def RW (P : Program) (n : Nat) (ops : List Oper) (Q : Post) (rest : List Oper) (F : Fr) (w : World) : Prop :=
  ∀ a, Fits n F a → wpList P ops.toArray (Q.up n) rest a w

section
variable {P : Program} {n : Nat} {Q : Post} {F : Fr} {w : World} {ops rest : List Oper} {o : Oper}

theorem WP.region {id : Nat} (h : RW P n ops Q ops F w) : WP P n (.region id ops.toArray false) Q F w := fun a ha => wp_region_lit (h a ha)

theorem RW.nil (h : Q .normal F w) : RW P n ops Q [] F w := fun _ ha => wpList_nil ⟨F, ha, h⟩

theorem RW.weak (F' : Fr) (hs : F.Has F') (h : RW P n ops Q rest F' w) : RW P n ops Q rest F w := fun a ha => h a (ha.weak hs)

theorem RW.ok {v : Value} {w' : World} (hg : guardOf ops F o = some true) (hr : ∀ a, Fits n F a → (execOp a.eval o).run P w = .ok (.value v) w') {d : Nat} (hd : o.dst = some d) (hn : Nat.blt d n = true)
    (h : RW P n ops Q rest ((d, v) :: F) w') : RW P n ops Q (o :: rest) F w := fun a ha =>
  wpList_step fun K hK => by
    rw [if_pos (zo hg ha)]
    unfold Oper.wp
    rw [hr a ha, Oper.upon_value, hd]
    exact hK _ _ (h _ (ha.put hn v))


theorem RW.ok0 {v : Value} {w' : World} (hg : guardOf ops F o = some true) (hr : ∀ a, Fits n F a → (execOp a.eval o).run P w = .ok (.value v) w') (hd : o.dst = none)
    (h : RW P n ops Q rest F w') : RW P n ops Q (o :: rest) F w := fun a ha =>
  wpList_step fun K hK => by
    rw [if_pos (zo hg ha)]
    unfold Oper.wp
    rw [hr a ha, Oper.upon_value, hd]
    exact hK _ _ (h _ ha)

theorem RW.unit {w' : World} (hg : guardOf ops F o = some true) (hr : ∀ a, Fits n F a → (execOp a.eval o).run P w = .ok .skip w') (hd : o.dst = none)
    (h : RW P n ops Q rest F w') : RW P n ops Q (o :: rest) F w := fun a ha =>
  wpList_step fun K hK => by
    rw [if_pos (zo hg ha)]
    unfold Oper.wp
    rw [hr a ha, Oper.upon_skip, hd]
    exact hK _ _ (h _ ha)

theorem RW.skip (hg : guardOf ops F o = some false) {d : Nat} (hd : o.dst = some d) (hn : Nat.blt d n = true)
    (h : RW P n ops Q rest ((d, undef) :: F) w) : RW P n ops Q (o :: rest) F w := fun a ha =>
  wpList_step fun K hK => by
    rw [if_neg (by rw [zo hg ha]; simp), hd]
    exact hK _ _ (h _ (ha.put hn undef))

theorem RW.skip0 (hg : guardOf ops F o = some false) (hd : o.dst = none)
    (h : RW P n ops Q rest F w) : RW P n ops Q (o :: rest) F w := fun a ha =>
  wpList_step fun K hK => by
    rw [if_neg (by rw [zo hg ha]; simp), hd]
    exact hK _ _ (h _ ha)

theorem RW.quiet {v : Value} (hg : guardOf ops F o = some true) (hq : Quiet P n F w o v) {d : Nat} (hd : o.dst = some d) (hn : Nat.blt d n = true)
    (h : RW P n ops Q rest ((d, v) :: F) w) : RW P n ops Q (o :: rest) F w := RW.ok hg (fun a ha => hq a w ha (Ext.refl w)) hd hn h


def pvs (T : TT) (n : Nat) (ops : List Oper) : Nat → List Oper → Fr → Option (List Oper × Fr)
  | 0, rest, F => some (rest, F)
  | _ + 1, [], F => some ([], F)
  | k + 1, o :: rest, F => match guardOf ops F o, o.dst with
    | some true, some d => match Nat.blt d n, pv T F o.op with
      | true, some v => pvs T n ops k rest ((d, v) :: F)
      | _, _ => none
    | some true, none => match pv T F o.op with
      | some _ => pvs T n ops k rest F
      | none => none
    | some false, some d => match Nat.blt d n with
      | true => pvs T n ops k rest ((d, undef) :: F)
      | false => none
    | some false, none => pvs T n ops k rest F
    | none, _ => none

theorem RW.run {T : TT} (ht : TTok P T) (k : Nat) {rest' : List Oper} {F' : Fr} (hr : pvs T n ops k rest F = some (rest', F')) (h : RW P n ops Q rest' F' w) : RW P n ops Q rest F w := by
  induction k generalizing rest F with
  | zero => simp only [pvs, Option.some.injEq, Prod.mk.injEq] at hr; obtain ⟨rfl, rfl⟩ := hr; exact h
  | succ k ih =>
    cases rest with
    | nil => simp only [pvs, Option.some.injEq, Prod.mk.injEq] at hr; obtain ⟨rfl, rfl⟩ := hr; exact h
    | cons o rest =>
      unfold pvs at hr
      split at hr
      · rename_i d hg hd
        split at hr
        · rename_i v hn hv
          exact RW.ok hg (fun a ha => zc6 ht hv ha w) hd hn (ih hr)
        · cases hr
      · rename_i hg hd
        split at hr
        · rename_i v hv
          exact RW.ok0 hg (fun a ha => zc6 ht hv ha w) hd (ih hr)
        · cases hr
      · rename_i d hg hd
        split at hr
        · rename_i hn; exact RW.skip hg hd hn (ih hr)
        · cases hr
      · rename_i hg hd; exact RW.skip0 hg hd (ih hr)
      · cases hr


def chunks : Nat → List Value → List Value
  | 0, _ => []
  | k + 1, z => z ++ chunks k z


def cellsV : Value → List Value
  | .agg ⟨cs⟩ => cs
  | v => [v]

theorem z4W (v : Value) : v.cells.toList = cellsV v := by
  unfold Value.cells cellsV
  split <;> simp_all


def newOf (T : TT) (F : Fr) : Op → Option (List Value × TypeId)
  | .alloc e => match T.get e with
    | some i => some (i.zero, e)
    | none => none
  | .box e x => match F.ev x with
    | some v => some (cellsV v, e)
    | none => none
  | _ => none

theorem zc7 {T : TT} (ht : TTok P T) {cs : List Value} {e : TypeId} (h : newOf T F o.op = some (cs, e)) {a : Act} (ha : Fits n F a) :
    (execOp a.eval o).run P w = .ok (.value (.pointer (some ⟨w.heap.size, 0, none⟩))) (w.alloc (.cells ⟨cs⟩ e)) := by
  unfold newOf at h
  unfold execOp
  split at h <;> rename_i hop <;> (try rw [hop])
  · split at h
    · rename_i i hi
      simp only [Option.some.injEq, Prod.mk.injEq] at h
      obtain ⟨rfl, rfl⟩ := h
      obtain ⟨j, hj, _, _, z, hz, hzc⟩ := ht.info hi
      have hc : z.cells = ⟨i.zero⟩ := by rw [← hzc]
      simp [Instr.alloc, zeroValue, typeInfo, hj, hz, newVar, newRow, hc]
    · cases h
  · split at h
    · rename_i v hv
      simp only [Option.some.injEq, Prod.mk.injEq] at h
      obtain ⟨rfl, rfl⟩ := h
      have hc : v.cells = ⟨cellsV v⟩ := by rw [← z4W]
      simp [Instr.box, newVar, newRow, ha.ev hv, hc]
    · cases h
  · cases h

theorem RW.new {T : TT} (ht : TTok P T) {W : World} {Rs : List Res} (hS : St W w Rs) (hg : guardOf ops F o = some true) {cs : List Value} {e : TypeId} (hc : newOf T F o.op = some (cs, e))
    {d : Nat} (hd : o.dst = some d) (hn : Nat.blt d n = true)
    (h : ∀ g w', Ext w w' → St W w' (Box g cs e :: Rs) → RW P n ops Q rest ((d, .pointer (some ⟨g, 0, none⟩)) :: F) w') : RW P n ops Q (o :: rest) F w :=
  RW.ok hg (fun _ ha => zc7 ht hc ha) hd hn (h _ _ (Ext.alloc _ _) (hS.new cs e))



def Ret (R : Value → World → Prop) : Ending → World → Prop
  | .returned v, w => R v w
  | _, _ => False


def Enters (P : Program) (f : FuncId) : Prop := ∃ fn c, P.funcs[f]? = some fn ∧ fn.body = some c ∧ (fn.name == "runtime.NumGoroutine") = false

theorem zet {f : FuncId} (h : Enters P f) (args : Array Value) : (callFunc f args).run P w = .ok (.enter f args) w := by
  obtain ⟨fn, c, h1, h2, h3⟩ := h
  unfold callFunc
  have h3' : ¬ fn.name = "runtime.NumGoroutine" := by simpa using h3
  simp [h1, h2, h3']

def callOf (F : Fr) : Op → Option (FuncId × List Value)
  | .call { callee := .value f, args := ⟨xs⟩, argTypes := _ } => match F.ev f, F.evs xs with
    | some (.func (.func g) ⟨first⟩ ⟨cap⟩), some vs => some (g, first ++ vs ++ cap)
    | _, _ => none
  | _ => none

theorem z9j {f : FuncId} {vs : List Value} (hen : Enters P f) (h : callOf F o.op = some (f, vs)) {a : Act} (ha : Fits n F a) :
    (execOp a.eval o).run P w = .ok (.enter f ⟨vs⟩) w := by
  unfold callOf at h
  unfold execOp
  split at h
  · rename_i hop
    rw [hop]
    split at h
    · rename_i hf hv
      simp only [Option.some.injEq, Prod.mk.injEq] at h
      obtain ⟨rfl, rfl⟩ := h
      simp [resolve, ha.ev hf, Deferred.ofValue, invoke, ha.evs hv, zet hen]
    · cases h
  · cases h

def Fr.putO (F : Fr) : Option Nat → Value → Fr
  | some d, v => (d, v) :: F
  | none, _ => F

def dstOk (n : Nat) : Option Nat → Bool
  | some d => Nat.blt d n
  | none => true

theorem Fits.putO {a : Act} (ha : Fits n F a) {d : Option Nat} (hd : dstOk n d = true) (v : Value) : Fits n (F.putO d v) (a.put d v) := by
  cases d with
  | some d => exact ha.put hd v
  | none => exact ha

theorem RW.call (hg : guardOf ops F o = some true) {f : FuncId} {vs : List Value} (hc : callOf F o.op = some (f, vs)) (hn : dstOk n o.dst = true) (hen : Enters P f)
    {R : Value → World → Prop} (hf : Calls P f ⟨vs⟩ w (Ret R)) (h : ∀ v w', R v w' → RW P n ops Q rest (F.putO o.dst v) w') : RW P n ops Q (o :: rest) F w := fun a ha =>
  wpList_step fun K hK => by
    rw [if_pos (zo hg ha)]
    unfold Oper.wp
    rw [z9j hen hc ha, Oper.upon_enter]
    refine hf.mono fun e w' he => ?_
    cases e with
    | returned v => exact hK _ _ (h v w' he _ (ha.putO hn v))
    | panicked _ => exact he.elim
    | outgrown => exact he.elim
end
end Go.E

