/- What an operation of the model does, reckoned from the known slots alone (effOf), and that the model's own run agrees. Conditions: the table of types must be the program's (TTok). -/
import Derived.Test.YteommboffflkbaaGreatBase
import Derived.Laws.Cells
import Derived.LaidEql
import Derived.Laws.StructEq
namespace Go.E
set_option linter.unusedVariables false
set_option linter.unusedSimpArgs false


inductive TD where
  | int (k : IntKind) | bool | str
  | struct (fs : List (Nat × Nat × Bool × Nat))
  | slice (e : Nat) | ptr (e : Nat) | other

structure TI where
  id : Nat
  d : TD
  size : Nat
  zero : List Value
  bytes : Nat

abbrev TT := List TI

def TT.get : TT → Nat → Option TI
  | [], _ => none
  | i :: r, t => match Nat.beq i.id t with
    | true => some i
    | false => TT.get r t

def TI.agg (i : TI) : Bool := match i.d with | .struct _ => true | _ => false

def fieldOk (P : Program) (f : Field) (g : Nat × Nat × Bool × Nat) : Bool :=
  Nat.beq f.offset g.1 && Nat.beq f.type g.2.2.2 && !(f.name == "_") && (match P.info? f.type with | some i => Nat.beq i.size g.2.1 | none => false) && !(Nat.beq g.2.1 0) &&
  (match P.underlying f.type with | some (.struct _) | some (.array _ _) => g.2.2.1 | some _ => !g.2.2.1 | none => false)

def fieldsOk (P : Program) : List Field → List (Nat × Nat × Bool × Nat) → Bool
  | [], [] => true
  | f :: fs, g :: gs => fieldOk P f g && fieldsOk P fs gs
  | _, _ => false

def descOk (P : Program) (d : TypeDesc) : TD → Bool
  | .int k => match d with | .int k' => k == k' | _ => false
  | .bool => match d with | .bool => true | _ => false
  | .str => match d with | .string => true | _ => false
  | .slice e => match d with | .slice e' => Nat.beq e e' | _ => false
  | .ptr e => match d with | .pointer e' => Nat.beq e e' | _ => false
  | .struct fs => match d with | .struct fs' => fieldsOk P fs'.toList fs | _ => false
  | .other => true

def notAgg (d : TypeDesc) : Bool := match d with | .struct _ | .array _ _ => false | _ => true

def infoOk (P : Program) (i : TI) : Bool :=
  (match P.info? i.id with
   | some j => Nat.beq j.size i.size && Nat.beq j.bytes i.bytes && Nat.beq i.zero.length i.size
   | none => false) &&
  (match P.underlying i.id with
   | some d => descOk P d i.d && (i.agg || notAgg d)
   | none => false) &&
  (match i.d with
   | .struct _ => !(P.stoodInHeld i.id) && !(P.eqGuardType P.depth i.id)
   | _ => true)


structure TTok (P : Program) (T : TT) : Prop where
  ok : ∀ i ∈ T, infoOk P i = true
  zero : ∀ i ∈ T, (P.info? i.id).map (fun j => j.zero.map (fun v => v.cells.toList)) = some (some i.zero)

theorem TT.get_mem {T : TT} {t : Nat} {i : TI} (h : T.get t = some i) : i ∈ T ∧ i.id = t := by
  induction T with
  | nil => simp [TT.get] at h
  | cons j r ih =>
    unfold TT.get at h
    cases hb : Nat.beq j.id t with
    | true => rw [hb] at h; simp only [Option.some.injEq] at h; subst h; exact ⟨List.mem_cons_self .., Nat.eq_of_beq_eq_true hb⟩
    | false => rw [hb] at h; obtain ⟨h1, h2⟩ := ih h; exact ⟨List.mem_cons_of_mem _ h1, h2⟩

section
variable {P : Program} {T : TT} (ht : TTok P T)
include ht

theorem TTok.info {t : Nat} {i : TI} (h : T.get t = some i) : ∃ j, P.info? t = some j ∧ j.size = i.size ∧ j.bytes = i.bytes ∧ (∃ z, j.zero = some z ∧ z.cells.toList = i.zero) := by
  obtain ⟨hm, he⟩ := TT.get_mem h
  have h1 := ht.ok i hm
  have h2 := ht.zero i hm
  unfold infoOk at h1
  rw [he] at h1 h2
  rw [Bool.and_eq_true, Bool.and_eq_true] at h1
  replace h1 := h1.1
  cases hj : P.info? t with
  | none => rw [hj] at h2; simp at h2
  | some j =>
    rw [hj] at h1 h2
    simp only [Option.map_some, Option.some.injEq] at h2
    cases hz : j.zero with
    | none => rw [hz] at h2; simp at h2
    | some z =>
      rw [hz] at h2
      simp only [Option.map_some, Option.some.injEq] at h2
      have h3 := h1.1
      simp only [Bool.and_eq_true] at h3
      exact ⟨j, rfl, Nat.eq_of_beq_eq_true h3.1.1, Nat.eq_of_beq_eq_true h3.1.2, z, hz, h2⟩

theorem TTok.zlen {t : Nat} {i : TI} (h : T.get t = some i) : i.zero.length = i.size := by
  obtain ⟨hm, he⟩ := TT.get_mem h
  have h1 := ht.ok i hm
  unfold infoOk at h1
  rw [Bool.and_eq_true, Bool.and_eq_true] at h1
  replace h1 := h1.1
  cases hj : P.info? i.id with
  | none => rw [hj] at h1; simp at h1
  | some j =>
    rw [hj] at h1
    have h3 := h1.1
    simp only [Bool.and_eq_true] at h3
    exact Nat.eq_of_beq_eq_true h3.2

theorem TTok.desc {t : Nat} {i : TI} (h : T.get t = some i) : ∃ d, P.underlying t = some d ∧ descOk P d i.d = true ∧ (i.agg || notAgg d) = true := by
  obtain ⟨hm, he⟩ := TT.get_mem h
  have h1 := ht.ok i hm
  unfold infoOk at h1
  rw [he, Bool.and_eq_true, Bool.and_eq_true] at h1
  replace h1 := h1.1
  cases hj : P.underlying t with
  | none => rw [hj] at h1; simp at h1
  | some d => rw [hj] at h1; have := h1.2; simp only [Bool.and_eq_true] at this; exact ⟨d, rfl, this⟩

theorem TTok.isAgg {t : Nat} {i : TI} (h : T.get t = some i) (w : World) : (Go.isAgg t).run P w = .ok i.agg w := by
  obtain ⟨d, hd, hk, hn⟩ := ht.desc h
  unfold Go.isAgg Go.underlying
  have he : ∀ (x : TypeDesc), P.underlying t = some x → (Go.underlying t).run P w = .ok x w := by
    intro x hx; simp [Go.underlying, hx]
  unfold TI.agg at *
  cases hi : i.d with
  | struct fs =>
    rw [hi] at hk
    cases d <;> simp [descOk] at hk
    simp [hd]
  | _ =>
    rw [hi] at hn
    cases d <;> simp [notAgg] at hn <;> simp [hd]

theorem TTok.sizeOf {t : Nat} {i : TI} (h : T.get t = some i) (w : World) : (Go.sizeOf t).run P w = .ok i.size w := by
  obtain ⟨j, hj, hs, _⟩ := ht.info h
  simp [Go.sizeOf, typeInfo, hj, hs]
end


def seqb (a b : ByteArray) : Bool := a.toList == b.toList

theorem zgi {a b : ByteArray} : seqb a b = true ↔ a = b := by
  unfold seqb
  rw [ByteArray.toList_eq, ByteArray.toList_eq]
  constructor
  · intro h
    have h1 : a.data.toList = b.data.toList := by simpa using h
    cases a; cases b; simp only at h1; congr; exact Array.toList_inj.1 h1
  · rintro rfl; simp

def w64 (n : Int) : Int := IntKind.i64.wrap n

def intBin : BinOp → IntKind → Int → Int → Option Value
  | .add, k, a, b => some (.int k (k.wrap (a + b)))
  | .sub, k, a, b => some (.int k (k.wrap (a - b)))
  | .mul, k, a, b => some (.int k (k.wrap (a * b)))
  | .eql, _, a, b => some (.bool (a == b))
  | .neq, _, a, b => some (.bool (a != b))
  | .lss, _, a, b => some (.bool (decide (a < b)))
  | .leq, _, a, b => some (.bool (decide (a ≤ b)))
  | .gtr, _, a, b => some (.bool (decide (a > b)))
  | .geq, _, a, b => some (.bool (decide (a ≥ b)))
  | .quo, k, a, .ofNat (b + 1) => some (.int k (k.wrap (a.tdiv (.ofNat (b + 1)))))
  | .rem, k, a, .ofNat (b + 1) => some (.int k (a.tmod (.ofNat (b + 1))))
  | _, _, _, _ => none

def kindEq : IntKind → IntKind → Bool
  | .i8, .i8 | .i16, .i16 | .i32, .i32 | .i64, .i64 | .u8, .u8 | .u16, .u16 | .u32, .u32 | .u64, .u64 => true
  | _, _ => false

theorem zci {a b : IntKind} (h : kindEq a b = true) : a = b := by cases a <;> cases b <;> simp [kindEq] at h ⊢

def eqfs (T : TT) (E : TD → List Value → List Value → Option Bool) : List (Nat × Nat × Bool × Nat) → List Value → List Value → Option Bool
  | [], _, _ => some true
  | g :: gs, xs, ys => match T.get g.2.2.2 with
    | some i => match E i.d ((xs.drop g.1).take i.size) ((ys.drop g.1).take i.size), eqfs T E gs xs ys with
      | some a, some b => some (a && b)
      | _, _ => none
    | none => none

def eqFlat : TD → List Value → List Value → Option Bool
  | .int _, [.int k a], [.int k' b] => match kindEq k k' with
    | true => some (a == b)
    | false => none
  | .bool, [.bool a], [.bool b] => some (a == b)
  | .str, [.string a], [.string b] => some (seqb a b)
  | _, _, _ => none


def eqc (T : TT) : Nat → TD → List Value → List Value → Option Bool
  | 0, td, xs, ys => eqFlat td xs ys
  | n + 1, .struct fs, xs, ys => eqfs T (eqc T n) fs xs ys
  | _ + 1, td, xs, ys => eqFlat td xs ys

def binv (T : TT) (op : BinOp) (t : Nat) : Value → Value → Option Value
  | .int k a, .int k' b => match kindEq k k' with
    | true => intBin op k a b
    | false => none
  | .bool a, .bool b => match op, T.get t with
    | .eql, some ⟨_, .bool, _, _, _⟩ => some (.bool (a == b))
    | .neq, some ⟨_, .bool, _, _, _⟩ => some (.bool (!(a == b)))
    | _, _ => none
  | .string a, .string b => match op with
    | .eql => some (.bool (seqb a b))
    | .neq => some (.bool (!(seqb a b)))
    | _ => none
  | .agg ⟨xs⟩, .agg ⟨ys⟩ => match op, T.get t with
    | .eql, some ⟨_, .struct fs, _, _, _⟩ => match eqc T 9 (.struct fs) xs ys with
      | some b => some (.bool b)
      | none => none
    | .neq, some ⟨_, .struct fs, _, _, _⟩ => match eqc T 9 (.struct fs) xs ys with
      | some b => some (.bool (!b))
      | none => none
    | _, _ => none
  | _, _ => none

def nthv {α : Type} : List α → Nat → Option α
  | [], _ => none
  | a :: _, 0 => some a
  | _ :: r, n + 1 => nthv r n

theorem z2P {α : Type} : ∀ (l : List α) (n : Nat), nthv l n = l[n]?
  | [], _ => by simp [nthv]
  | _ :: _, 0 => by simp [nthv]
  | _ :: r, n + 1 => by simp [nthv, z2P r n]

def Fr.evs (F : Fr) : List Operand → Option (List Value)
  | [] => some []
  | x :: r => match F.ev x, Fr.evs F r with
    | some v, some vs => some (v :: vs)
    | _, _ => none

theorem Fits.evs {n : Nat} {F : Fr} {a : Act} (h : Fits n F a) : ∀ {xs : List Operand} {vs : List Value}, F.evs xs = some vs → xs.map a.eval = vs
  | [], vs, e => by simp only [Fr.evs, Option.some.injEq] at e; simpa using e
  | x :: r, vs, e => by
    simp only [Fr.evs] at e
    split at e
    · rename_i v us h1 h2
      simp only [Option.some.injEq] at e
      subst e
      simp [h.ev h1, h.evs h2]
    · cases e


def pv (T : TT) (F : Fr) : Op → Option Value
  | .move x | .assign x => F.ev x
  | .pick c a b => match F.ev c with
    | some (.bool true) => F.ev a
    | some (.bool false) => F.ev b
    | _ => none
  | .nilCheck x => match F.ev x with
    | some (.pointer (some p)) => some (.pointer (some p))
    | _ => none
  | .binOp op t x y _ => match F.ev x, F.ev y with
    | some a, some b => binv T op t a b
    | _, _ => none
  | .unOp .not _ x => match F.ev x with
    | some (.bool b) => some (.bool (!b))
    | _ => none
  | .unOp .neg _ x => match F.ev x with
    | some (.int k n) => some (.int k (k.wrap (0 - n)))
    | _ => none
  | .fieldAddr t x f => match T.get t, F.ev x with
    | some ⟨_, .struct fs, _, _, _⟩, some (.pointer (some p)) => match nthv fs f with
      | some g => some (.pointer (some (p.add g.1)))
      | none => none
    | _, _ => none
  | .extract x i => match F.ev x with
    | some (.tuple vs) => nthv vs.toList i
    | _ => none
  | .makeFunc fn ⟨first⟩ ⟨cap⟩ => match F.evs first, F.evs cap with
    | some vs, some us => some (.func fn ⟨vs⟩ ⟨us⟩)
    | _, _ => none
  | .convert s d x => match T.get s, T.get d, F.ev x with
    | some ⟨_, .int _, _, _, _⟩, some ⟨_, .int k, _, _, _⟩, some (.int _ n) => some (.int k (k.wrap n))
    | _, _, _ => none
  | .call { callee := .builtin .len, args := ⟨[x]⟩, argTypes := ⟨[t]⟩ } => match T.get t, F.ev x with
    | some ⟨_, .slice _, _, _, _⟩, some (.slice _ n _) => some (.int .i64 (n : Nat))
    | some ⟨_, .str, _, _, _⟩, some (.string s) => some (.int .i64 (s.size : Nat))
    | _, _ => none
  | _ => none

section
variable {P : Program} {T : TT} (ht : TTok P T)

theorem zer (k : IntKind) (a b : Int) (hb : b ≠ 0) (t : TypeId) (w : World) : (binOp .quo t (.int k a) (.int k b)).run P w = .ok (.int k (k.wrap (a.tdiv b))) w := by
  simp [binOp, Op.intDiv, hb]

theorem zeq (k : IntKind) (a b : Int) (hb : b ≠ 0) (t : TypeId) (w : World) : (binOp .rem t (.int k a) (.int k b)).run P w = .ok (.int k (a.tmod b)) w := by
  simp [binOp, Op.intDiv, hb]

theorem zdU {op : BinOp} {k : IntKind} {a b : Int} {v : Value} (h : intBin op k a b = some v) (t : TypeId) (w : World) :
    (binOp op t (.int k a) (.int k b)).run P w = .ok v w := by
  unfold intBin at h
  split at h <;> simp only [Option.some.injEq, reduceCtorEq] at h <;> subst h <;> first
    | (simp [binOp, Op.intArith, Op.intCmp]; done)
    | exact zer _ _ _ (by simp; omega) _ _
    | exact zeq _ _ _ (by simp; omega) _ _

theorem TTok.bool {t : Nat} {i : TI} (ht : TTok P T) (h : T.get t = some i) (hd : i.d = .bool) : P.underlying t = some .bool := by
  obtain ⟨d, h1, h2, _⟩ := ht.desc h
  rw [hd] at h2
  cases d <;> simp [descOk] at h2
  exact h1

theorem TTok.str {t : Nat} {i : TI} (ht : TTok P T) (h : T.get t = some i) (hd : i.d = .str) : P.underlying t = some .string := by
  obtain ⟨d, h1, h2, _⟩ := ht.desc h
  rw [hd] at h2
  cases d <;> simp [descOk] at h2
  exact h1

theorem TTok.int {t : Nat} {i : TI} {k : IntKind} (ht : TTok P T) (h : T.get t = some i) (hd : i.d = .int k) : P.underlying t = some (.int k) := by
  obtain ⟨d, h1, h2, _⟩ := ht.desc h
  rw [hd] at h2
  cases d <;> simp [descOk] at h2
  subst h2
  exact h1

theorem TTok.slice {t e : Nat} {i : TI} (ht : TTok P T) (h : T.get t = some i) (hd : i.d = .slice e) : P.underlying t = some (.slice e) := by
  obtain ⟨d, h1, h2, _⟩ := ht.desc h
  rw [hd] at h2
  cases d <;> simp [descOk] at h2
  rw [h1, h2]

theorem TTok.plainS {t : Nat} {i : TI} {gs : List (Nat × Nat × Bool × Nat)} (ht : TTok P T) (h : T.get t = some i) (hd : i.d = .struct gs) : P.stoodInHeld t = false ∧ P.eqGuardType P.depth t = false := by
  obtain ⟨hm, he⟩ := TT.get_mem h
  have h1 := ht.ok i hm
  unfold infoOk at h1
  rw [he, Bool.and_eq_true] at h1
  have h2 := h1.2
  rw [hd] at h2
  simpa using h2

theorem z9v : ∀ {fs : List Field} {gs : List (Nat × Nat × Bool × Nat)}, fieldsOk P fs gs = true → ∀ {j : Nat} {g : Nat × Nat × Bool × Nat}, gs[j]? = some g → ∃ f, fs[j]? = some f ∧ fieldOk P f g = true
  | [], [], _, j, g, h => by simp at h
  | [], _ :: _, h, _, _, _ => by simp [fieldsOk] at h
  | _ :: _, [], h, _, _, _ => by simp [fieldsOk] at h
  | f :: fs, g' :: gs, h, j, g, hj => by
    simp only [fieldsOk, Bool.and_eq_true] at h
    cases j with
    | zero => simp only [List.getElem?_cons_zero, Option.some.injEq] at hj; subst hj; exact ⟨f, by simp, h.1⟩
    | succ j => simp only [List.getElem?_cons_succ] at hj ⊢; exact z9v h.2 hj

theorem TTok.field {t : Nat} {i : TI} {gs : List (Nat × Nat × Bool × Nat)} (ht : TTok P T) (h : T.get t = some i) (hd : i.d = .struct gs) {j : Nat} {g : Nat × Nat × Bool × Nat} (hj : gs[j]? = some g) :
    ∃ fs f, P.underlying t = some (.struct fs) ∧ fs[j]? = some f ∧ f.offset = g.1 ∧ g.2.1 ≠ 0 ∧ (∃ k, P.info? f.type = some k ∧ k.size = g.2.1) := by
  obtain ⟨d, h1, h2, _⟩ := ht.desc h
  rw [hd] at h2
  cases d <;> simp only [descOk, Bool.false_eq_true] at h2
  rename_i fs _
  obtain ⟨f, hf, hok⟩ := z9v h2 hj
  simp only [fieldOk, Bool.and_eq_true] at hok
  obtain ⟨⟨⟨⟨⟨ho, _⟩, _⟩, hs⟩, h0⟩, ha⟩ := hok
  refine ⟨fs, f, h1, by simpa using hf, Nat.eq_of_beq_eq_true ho, ?_, ?_⟩
  · intro he; rw [he] at h0; simp at h0
  · cases hi : P.info? f.type with
    | none => rw [hi] at hs; simp at hs
    | some k => rw [hi] at hs; exact ⟨k, rfl, Nat.eq_of_beq_eq_true hs⟩

theorem zc9 {t : TypeId} (hu : P.underlying t = some .bool) (a b : Bool) (w : World) : (binOp .eql t (.bool a) (.bool b)).run P w = .ok (.bool (a == b)) w := by
  have h : ∀ d, (Op.equalIn (d + 1) t (.bool a) (.bool b)).run P w = .ok (a == b) w := fun d => by simp [Op.equalIn, Go.underlying, hu]
  simp only [binOp, Op.equal, Op.maxDepth]
  simp [h 9999]

theorem zc8 {t : TypeId} (hu : P.underlying t = some .bool) (a b : Bool) (w : World) : (binOp .neq t (.bool a) (.bool b)).run P w = .ok (.bool (!(a == b))) w := by
  have h : ∀ d, (Op.equalIn (d + 1) t (.bool a) (.bool b)).run P w = .ok (a == b) w := fun d => by simp [Op.equalIn, Go.underlying, hu]
  simp only [binOp, Op.equal, Op.maxDepth]
  simp [h 9999]

def isVal (i : TI) (xs : List Value) (x : Value) : Prop := (i.agg = true ∧ x = .agg ⟨xs⟩) ∨ (i.agg = false ∧ xs = [x])

theorem z9K (ht : TTok P T) {t : Nat} {i : TI} (hi : T.get t = some i) {xs : List Value} {off : Nat} {x : Value} (hx : isVal i ((xs.drop off).take i.size) x) (w : World) : (part t ⟨xs⟩ off).run P w = .ok x w := by
  unfold part
  rcases hx with ⟨ha, rfl⟩ | ⟨ha, hx⟩
  · have he : (⟨xs⟩ : Array Value).extract off (off + i.size) = ⟨(xs.drop off).take i.size⟩ := by
      apply Array.toList_inj.1
      simp [List.extract_eq_take_drop]
    simp only [Sem.run_bind, ht.isAgg hi, Result.andThen_ok, ha, if_true, ht.sizeOf hi, Sem.run_pure, he]
  · have hc : (⟨xs⟩ : Array Value)[off]? = some x := by
      have h0 : ((xs.drop off).take i.size)[0]? = some x := by rw [hx]; rfl
      rw [List.getElem?_take] at h0
      split at h0
      · simpa using h0
      · cases h0
    simp [ht.isAgg hi, ha, hc]

theorem zbd (ht : TTok P T) {td : TD} {xs ys : List Value} {b : Bool} (h : eqFlat td xs ys = some b) {t : Nat} {i : TI} (hi : T.get t = some i) (htd : i.d = td) (d : Nat) (w : World) {x y : Value} (hx : isVal i xs x) (hy : isVal i ys y) :
    (Op.equalIn (d + 1) t x y).run P w = .ok b w := by
  unfold eqFlat at h
  split at h
  · have hag : i.agg = false := by unfold TI.agg; rw [htd]
    rcases hx with ⟨h1, _⟩ | ⟨_, hx⟩
    · rw [hag] at h1; cases h1
    rcases hy with ⟨h1, _⟩ | ⟨_, hy⟩
    · rw [hag] at h1; cases h1
    simp only [List.cons.injEq, and_true] at hx hy
    subst hx; subst hy
    split at h
    · rename_i hk
      simp only [Option.some.injEq] at h; subst h
      rw [← zci hk]
      exact run_equalIn_int w d t _ _ _ _ (ht.int hi htd)
    · cases h
  · have hag : i.agg = false := by unfold TI.agg; rw [htd]
    rcases hx with ⟨h1, _⟩ | ⟨_, hx⟩
    · rw [hag] at h1; cases h1
    rcases hy with ⟨h1, _⟩ | ⟨_, hy⟩
    · rw [hag] at h1; cases h1
    simp only [List.cons.injEq, and_true] at hx hy
    subst hx; subst hy
    simp only [Option.some.injEq] at h; subst h
    exact run_equalIn_bool' w d t _ _ (ht.bool hi htd)
  · have hag : i.agg = false := by unfold TI.agg; rw [htd]
    rcases hx with ⟨h1, _⟩ | ⟨_, hx⟩
    · rw [hag] at h1; cases h1
    rcases hy with ⟨h1, _⟩ | ⟨_, hy⟩
    · rw [hag] at h1; cases h1
    simp only [List.cons.injEq, and_true] at hx hy
    subst hx; subst hy
    simp only [Option.some.injEq] at h; subst h
    exact run_equalIn_string w d t _ _ (ht.str hi htd)
  · cases h


def Shaped (E : TD → List Value → List Value → Option Bool) : Prop := ∀ (i : TI) (zs zs' : List Value) (a : Bool), E i.d zs zs' = some a → ∃ x y, isVal i zs x ∧ isVal i zs' y

theorem zaa : Shaped eqFlat := by
  intro i zs zs' a hz
  unfold eqFlat at hz
  split at hz
  · rename_i hd; exact ⟨_, _, .inr ⟨by unfold TI.agg; rw [hd], rfl⟩, .inr ⟨by unfold TI.agg; rw [hd], rfl⟩⟩
  · rename_i hd; exact ⟨_, _, .inr ⟨by unfold TI.agg; rw [hd], rfl⟩, .inr ⟨by unfold TI.agg; rw [hd], rfl⟩⟩
  · rename_i hd; exact ⟨_, _, .inr ⟨by unfold TI.agg; rw [hd], rfl⟩, .inr ⟨by unfold TI.agg; rw [hd], rfl⟩⟩
  · cases hz

theorem zbb (n : Nat) : Shaped (eqc T n) := by
  intro i zs zs' a hz
  cases n with
  | zero => exact zaa i zs zs' a hz
  | succ n =>
    cases hd : i.d with
    | struct fs => exact ⟨_, _, .inl ⟨by unfold TI.agg; rw [hd], rfl⟩, .inl ⟨by unfold TI.agg; rw [hd], rfl⟩⟩
    | _ => rw [hd] at hz; exact zaa i zs zs' a (by rw [hd]; exact hz)

theorem zgk (ht : TTok P T) {E : TD → List Value → List Value → Option Bool} (hE : Shaped E) (d : Nat)
    (he : ∀ (td : TD) (xs ys : List Value) (b : Bool), E td xs ys = some b → ∀ (t : Nat) (i : TI), T.get t = some i → i.d = td → ∀ (w : World), ∀ x y, isVal i xs x → isVal i ys y → (Op.equalIn d t x y).run P w = .ok b w) :
    ∀ (gs : List (Nat × Nat × Bool × Nat)) (xs ys : List Value) (b : Bool), eqfs T E gs xs ys = some b → ∀ (fs : List Field), fieldsOk P fs gs = true → ∀ (w : World), (Op.eqFields d ⟨xs⟩ ⟨ys⟩ fs).run P w = .ok b w := by
  intro gs
  induction gs with
  | nil =>
    intro xs ys b h fs hfs w
    cases fs with
    | nil => simp only [eqfs, Option.some.injEq] at h; subst h; simp [Op.eqFields]
    | cons f fs => simp [fieldsOk] at hfs
  | cons g gs ih =>
    intro xs ys b h fs hfs w
    cases fs with
    | nil => simp [fieldsOk] at hfs
    | cons f fs =>
      simp only [fieldsOk, Bool.and_eq_true] at hfs
      obtain ⟨hok, hrest⟩ := hfs
      simp only [fieldOk, Bool.and_eq_true] at hok
      obtain ⟨⟨⟨⟨⟨ho, hty⟩, hnm⟩, _⟩, _⟩, _⟩ := hok
      have hty' := Nat.eq_of_beq_eq_true hty
      have ho' := Nat.eq_of_beq_eq_true ho
      unfold eqfs at h
      split at h
      · rename_i i hi
        split at h
        · rename_i a c ha hc
          simp only [Option.some.injEq] at h
          subst h
          obtain ⟨x, y, hx, hy⟩ := hE i _ _ a ha
          have hnm' : f.name ≠ "_" := by simpa using hnm
          have e1 := z9K ht hi hx w
          have e2 := z9K ht hi hy w
          have e3 := he i.d _ _ a ha g.2.2.2 i hi rfl w x y hx hy
          unfold Op.eqFields
          rw [← hty', ← ho'] at *
          simp only [hnm', ne_eq, not_false_eq_true, if_true, Sem.run_bind, e1, e2, e3, Result.andThen_ok]
          cases a
          · simp
          · simp only [Bool.true_and]
            simpa using ih xs ys c hc fs hrest w
        · cases h
      · cases h

theorem zd2 (ht : TTok P T) : ∀ (n : Nat) (td : TD) (xs ys : List Value) (b : Bool), eqc T n td xs ys = some b → ∀ (t : Nat) (i : TI), T.get t = some i → i.d = td → ∀ (d : Nat) (w : World), n < d → ∀ x y, isVal i xs x → isVal i ys y → (Op.equalIn d t x y).run P w = .ok b w := by
  intro n
  induction n with
  | zero =>
    intro td xs ys b h t i hi htd d w hd x y hx hy
    obtain ⟨d, rfl⟩ : ∃ d', d = d' + 1 := ⟨d - 1, by omega⟩
    exact zbd ht h hi htd d w hx hy
  | succ n ih =>
    intro td xs ys b h t i hi htd d w hd x y hx hy
    obtain ⟨d, rfl⟩ : ∃ d', d = d' + 1 := ⟨d - 1, by omega⟩
    cases td with
    | struct gs =>
      have hag : i.agg = true := by unfold TI.agg; rw [htd]
      rcases hx with ⟨_, rfl⟩ | ⟨h1, _⟩
      case inr => rw [hag] at h1; cases h1
      rcases hy with ⟨_, rfl⟩ | ⟨h1, _⟩
      case inr => rw [hag] at h1; cases h1
      obtain ⟨dd, h1, h2, _⟩ := ht.desc hi
      rw [htd] at h2
      cases dd <;> simp only [descOk, Bool.false_eq_true] at h2
      rename_i fs _
      have hfo : P.fieldsOf t = fs := by unfold Program.fieldsOf; rw [h1]
      rw [run_equalIn_struct w d t _ _ (by rw [hfo]; exact h1) (ht.plainS hi htd).1, hfo]
      exact zgk ht (zbb n) d (fun td xs ys b h t i hi htd w x y hx hy => ih td xs ys b h t i hi htd d w (by omega) x y hx hy) gs xs ys b h fs.toList h2 w
    | _ => exact zbd ht h hi htd d w hx hy

include ht

theorem zgm {op : BinOp} {t : Nat} {x y v : Value} (h : binv T op t x y = some v) (w : World) : (binOp op t x y).run P w = .ok v w := by
  unfold binv at h
  split at h
  · split at h
    · rename_i hk; rw [← zci hk]; exact zdU h t w
    · cases h
  · split at h
    · simp only [Option.some.injEq] at h; subst h
      rename_i hg
      exact zc9 (ht.bool hg rfl) _ _ w
    · simp only [Option.some.injEq] at h; subst h
      rename_i hg
      exact zc8 (ht.bool hg rfl) _ _ w
    · cases h
  · split at h
    · simp only [Option.some.injEq] at h; subst h; simp [binOp, Op.stringOp, seqb]
    · simp only [Option.some.injEq] at h; subst h; simp [binOp, Op.stringOp, seqb]
    · cases h
  · split at h
    · rename_i hi
      split at h
      · rename_i b hb
        simp only [Option.some.injEq] at h; subst h
        rw [run_eql_struct, zd2 ht 9 _ _ _ _ hb t _ hi rfl 10000 w (by omega) _ _ (.inl ⟨rfl, rfl⟩) (.inl ⟨rfl, rfl⟩)]
        rfl
      · cases h
    · rename_i hi
      split at h
      · rename_i b hb
        simp only [Option.some.injEq] at h; subst h
        rw [run_neq_struct, zd2 ht 9 _ _ _ _ hb t _ hi rfl 10000 w (by omega) _ _ (.inl ⟨rfl, rfl⟩) (.inl ⟨rfl, rfl⟩)]
        rfl
      · cases h
    · cases h
  · cases h

theorem zd3 {op : BinOp} {t : Nat} {X Y : Operand} {x y v : Value} (h : binv T op t x y = some v) (w : World) : (eqGuard op t X Y x y).run P w = .ok () w := by
  unfold binv at h
  split at h
  · unfold eqGuard; split <;> simp
  · unfold eqGuard; split <;> simp
  · unfold eqGuard; split <;> simp
  · split at h
    · rename_i hi; exact run_eqGuard_agg w _ t X Y _ _ (ht.plainS hi rfl).2
    · rename_i hi; exact run_eqGuard_agg w _ t X Y _ _ (ht.plainS hi rfl).2
    · cases h
  · cases h

theorem zc6 {F : Fr} {n : Nat} {o : Oper} {v : Value} (h : pv T F o.op = some v) {a : Act} (ha : Fits n F a) (w : World) :
    (execOp a.eval o).run P w = .ok (.value v) w := by
  unfold execOp
  unfold pv at h
  split at h <;> rename_i hop <;> (try rw [hop])
  · simp [ha.ev h]
  · simp [ha.ev h]
  · split at h
    · rename_i hc; simp [ha.ev hc, asBool, ha.ev h]
    · rename_i hc; simp [ha.ev hc, asBool, ha.ev h]
    · cases h
  · split at h
    · rename_i hc; simp only [Option.some.injEq] at h; subst h; simp [ha.ev hc]
    · cases h
  · split at h
    · rename_i hx hy
      simp [ha.ev hx, ha.ev hy, zd3 ht h, zgm ht h]
    · cases h
  · split at h
    · rename_i hc; simp only [Option.some.injEq] at h; subst h; simp [ha.ev hc, Op.unary]
    · cases h
  · split at h
    · rename_i hc; simp only [Option.some.injEq] at h; subst h; simp [ha.ev hc, Op.unary, Op.intArith]
    · cases h
  · split at h
    · rename_i hg hx
      split at h
      · rename_i g hn
        simp only [Option.some.injEq] at h; subst h
        rw [z2P] at hn
        obtain ⟨fs, f, h1, h2, h3, h4, ⟨k, h5, h6⟩⟩ := ht.field hg rfl hn
        simp [ha.ev hx, Instr.fieldAt, Go.underlying, h1, h2, Instr.sureAddr, fieldPlace, Go.sizeOf, typeInfo, h5, h6, h4, h3]
      · cases h
    · cases h
  · split at h
    · rename_i vs hx
      rw [z2P] at h
      simp only [Array.getElem?_toList] at h
      simp [ha.ev hx, Instr.extract, h]
    · cases h
  · split at h
    · rename_i h1 h2
      simp only [Option.some.injEq] at h; subst h
      simp [Instr.makeFunc, ha.evs h1, ha.evs h2]
    · cases h
  · split at h
    · rename_i h1 h2 h3
      simp only [Option.some.injEq] at h; subst h
      simp [ha.ev h3, convert, Go.underlying, ht.int h1 rfl, ht.int h2 rfl, Conv.intToInt]
    · cases h
  · split at h
    · rename_i h1 h2
      simp only [Option.some.injEq] at h; subst h
      simp [resolve, invoke, builtin, Builtin.len_, ha.ev h2, Go.underlying, ht.slice h1 rfl, goInt]
    · rename_i h1 h2
      simp only [Option.some.injEq] at h; subst h
      simp [resolve, invoke, builtin, Builtin.len_, ha.ev h2, Go.underlying, ht.str h1 rfl, goInt]
    · cases h
  · cases h
end
end Go.E

