/- Maps of one's own: made, looked up, written; their data are the lists of their entries. Conditions: none (rules). -/
import Derived.Test.YtomgmnacnchbeaaDrawOwn
import Derived.MapKept
import Derived.ChangeMaps4
namespace Go.E
open Go.RowKit Go.MapKept
set_option linter.unusedVariables false
set_option linter.unusedSimpArgs false
set_option linter.unusedSectionVars false


structure KeyOk (P : Program) {κ : Type} (kt : Nat) (ek : κ → Value) : Prop where
  inj : ∀ {a b : κ}, ek a = ek b → a = b
  check : ∀ (e : Bool) (w : World) (k : κ), (Instr.checkKey e 10000 kt (ek k)).run P w = .ok () w
  find : ∀ (w : World) (k : κ) (es : List MapEntry), (∀ e, e ∈ es → ∃ k', e.key = ek k') →
    ((Instr.findKey kt (ek k) es).run P w = .ok none w ∧ ∀ e, e ∈ es → e.key ≠ ek k) ∨ ∃ j e, (Instr.findKey kt (ek k) es).run P w = .ok (some (j, e.val)) w ∧ es[j]? = some e ∧ e.key = ek k
  stays : ∀ (w : World) (k : κ), (Instr.keyThatStays (ek k) (ek k)).run P w = .ok (ek k) w

def scalarV : Value → Bool
  | .int _ _ | .bool _ | .string _ => true
  | _ => false

theorem z73 {v : Value} (h : scalarV v = true) (n : Nat) : Instr.sameBits n v v = true := by
  cases v <;> simp [scalarV] at h <;> cases n <;> simp [Instr.sameBits, bytes_beq]

theorem zbG {cs : List Value} (h : cs.all scalarV = true) (n : Nat) : Instr.sameBits (n + 1) (.agg ⟨cs⟩) (.agg ⟨cs⟩) = true := by
  simp only [Instr.sameBits, beq_self_eq_true, Bool.true_and]
  rw [List.all_eq_true] at h ⊢
  intro p hp
  have hp' : p ∈ cs.zip cs := hp
  obtain ⟨x, y⟩ := p
  have hx := (List.of_mem_zip hp').1
  have hxy : x = y := by
    obtain ⟨i, hi, he⟩ := List.getElem_of_mem hp'
    simp at he
    rw [← he.1, ← he.2]
  subst hxy
  exact z73 (h x hx) n

theorem KeyOk.plain {P : Program} {κ : Type} {kt : Nat} {ek : κ → Value} {d : TypeDesc} (hd : P.underlying kt = some d) (hk : ∀ k, IsKey d (ek k)) (hs : ∀ k, scalarV (ek k) = true) (hi : ∀ {a b : κ}, ek a = ek b → a = b) : KeyOk P kt ek where
  inj := hi
  check e w k := run_checkKey hd (hk k) e 9999
  find w k es hes := by
    rcases findNow_spec (hk k) es 0 (fun e he => by obtain ⟨k', h⟩ := hes e he; rw [h]; exact hk k') with ⟨h1, h2⟩ | ⟨j, e0, h1, h2, h3⟩
    · exact .inl ⟨run_findKey hd h1, h2⟩
    · exact .inr ⟨j, e0, by simpa using run_findKey (P := P) (w := w) hd h1, h2, h3⟩
  stays w k := by
    unfold Instr.keyThatStays
    rw [z73 (hs k)]
    simp

theorem KeyOk.int {P : Program} {kt : Nat} {q : IntKind} (hd : P.underlying kt = some (.int q)) : KeyOk P kt (Value.int q) :=
  KeyOk.plain hd (fun k => rfl) (fun k => rfl) (fun h => by simpa using h)
theorem KeyOk.str {P : Program} {kt : Nat} (hd : P.underlying kt = some .string) : KeyOk P kt Value.string :=
  KeyOk.plain hd (fun k => trivial) (fun k => rfl) (fun h => by simpa using h)

section
variable {P : Program} {T : TT}

theorem z69 (ht : TTok P T) {td : TD} {xs ys : List Value} {b : Bool} (h : eqFlat td xs ys = some b) {t : Nat} {i : TI} (hi : T.get t = some i) (htd : i.d = td) (em : Bool) (d : Nat) (w : World) {x : Value} (hx : isVal i xs x) :
    (Instr.checkKey em (d + 1) t x).run P w = .ok () w := by
  unfold eqFlat at h
  split at h
  · have hag : i.agg = false := by unfold TI.agg; rw [htd]
    rcases hx with ⟨h1, _⟩ | ⟨_, hx⟩
    · rw [hag] at h1; cases h1
    simp only [List.cons.injEq, and_true] at hx
    subst hx
    unfold Instr.checkKey
    simp [Go.underlying, ht.int hi htd]
  · have hag : i.agg = false := by unfold TI.agg; rw [htd]
    rcases hx with ⟨h1, _⟩ | ⟨_, hx⟩
    · rw [hag] at h1; cases h1
    simp only [List.cons.injEq, and_true] at hx
    subst hx
    unfold Instr.checkKey
    simp [Go.underlying, ht.bool hi htd]
  · have hag : i.agg = false := by unfold TI.agg; rw [htd]
    rcases hx with ⟨h1, _⟩ | ⟨_, hx⟩
    · rw [hag] at h1; cases h1
    simp only [List.cons.injEq, and_true] at hx
    subst hx
    unfold Instr.checkKey
    simp [Go.underlying, ht.str hi htd]
  · cases h

theorem z9n (ht : TTok P T) {E : TD → List Value → List Value → Option Bool} (hE : Shaped E) (em : Bool) (d : Nat)
    (he : ∀ (td : TD) (xs ys : List Value) (b : Bool), E td xs ys = some b → ∀ (t : Nat) (i : TI), T.get t = some i → i.d = td → ∀ (w : World), ∀ x, isVal i xs x → (Instr.checkKey em d t x).run P w = .ok () w) :
    ∀ (gs : List (Nat × Nat × Bool × Nat)) (xs ys : List Value) (b : Bool), eqfs T E gs xs ys = some b → ∀ (fs : List Field), fieldsOk P fs gs = true → ∀ (w : World),
      (forIn fs PUnit.unit (fun f (_ : PUnit) =>
        if f.name ≠ "_" then (do
          let v ← part f.type ⟨xs⟩ f.offset
          Instr.checkKey em d f.type v
          pure (ForInStep.yield PUnit.unit))
        else pure (ForInStep.yield PUnit.unit)) : Sem PUnit).run P w = .ok PUnit.unit w := by
  intro gs
  induction gs with
  | nil =>
    intro xs ys b h fs hfs w
    cases fs with
    | nil => simp
    | cons f fs => simp [fieldsOk] at hfs
  | cons g gs ih =>
    intro xs ys b h fs hfs w
    cases fs with
    | nil => simp [fieldsOk] at hfs
    | cons f fs =>
      simp only [fieldsOk, Bool.and_eq_true] at hfs
      obtain ⟨hok, hrest⟩ := hfs
      simp only [fieldOk, Bool.and_eq_true] at hok
      obtain ⟨⟨⟨⟨⟨ho, hty⟩, hnm⟩, _⟩, _⟩, _⟩ := hok
      have hty' := Nat.eq_of_beq_eq_true hty
      have ho' := Nat.eq_of_beq_eq_true ho
      unfold eqfs at h
      split at h
      · rename_i i hi
        split at h
        · rename_i a c ha hc
          obtain ⟨x, y, hx, hy⟩ := hE i _ _ a ha
          have hnm' : f.name ≠ "_" := by simpa using hnm
          have e1 := z6M ht hi hx w
          have e3 := he i.d _ _ a ha g.2.2.2 i hi rfl w x hx
          rw [← hty', ← ho'] at *
          simp only [List.forIn_cons, Sem.run_bind, hnm', ne_eq, not_false_eq_true, if_true, Result.andThen_ok, e1, e3, Sem.run_pure]
          simpa using ih xs ys c hc fs hrest w
        · cases h
      · cases h

theorem z86 (ht : TTok P T) (em : Bool) : ∀ (n : Nat) (td : TD) (xs ys : List Value) (b : Bool), eqc T n td xs ys = some b → ∀ (t : Nat) (i : TI), T.get t = some i → i.d = td → ∀ (d : Nat) (w : World), n < d → ∀ x, isVal i xs x → (Instr.checkKey em d t x).run P w = .ok () w := by
  intro n
  induction n with
  | zero =>
    intro td xs ys b h t i hi htd d w hd x hx
    obtain ⟨d, rfl⟩ : ∃ d', d = d' + 1 := ⟨d - 1, by omega⟩
    exact z69 ht h hi htd em d w hx
  | succ n ih =>
    intro td xs ys b h t i hi htd d w hd x hx
    obtain ⟨d, rfl⟩ : ∃ d', d = d' + 1 := ⟨d - 1, by omega⟩
    cases td with
    | struct gs =>
      have hag : i.agg = true := by unfold TI.agg; rw [htd]
      rcases hx with ⟨_, rfl⟩ | ⟨h1, _⟩
      case inr => rw [hag] at h1; cases h1
      obtain ⟨dd, h1, h2, _⟩ := ht.desc hi
      rw [htd] at h2
      cases dd <;> simp only [descOk, Bool.false_eq_true] at h2
      rename_i fs _
      have key := z9n ht (z7K n) em d (fun td xs ys b h t i hi htd w x hx => ih td xs ys b h t i hi htd d w (by omega) x hx) gs xs ys b h fs.toList h2 w
      unfold Instr.checkKey
      simp only [Sem.run_bind, run_underlying h1, Result.andThen_ok]
      rw [← Array.forIn_toList]
      refine Eq.trans (congrArg (fun r => Result.andThen r _) key) ?_
      simp
    | _ => exact z69 ht h hi htd em d w hx

theorem z5x {κ : Type} {kt : Nat} {ek : κ → Value} (w : World) (heq : ∀ a b : κ, ∃ r : Bool, (Op.equal kt (ek a) (ek b)).run P w = .ok r w ∧ (r = true ↔ a = b)) (k : κ) :
    ∀ (es : List MapEntry) (i : Nat), (∀ e, e ∈ es → ∃ k', e.key = ek k') →
      ((Instr.findAsking kt (ek k) es i).run P w = .ok none w ∧ ∀ e, e ∈ es → ∀ k', e.key = ek k' → k' ≠ k) ∨
      ∃ j e, (Instr.findAsking kt (ek k) es i).run P w = .ok (some (i + j, e.val)) w ∧ es[j]? = some e ∧ e.key = ek k
  | [], i, _ => .inl ⟨by simp [Instr.findAsking], by simp⟩
  | e :: es, i, hall => by
    obtain ⟨k1, hk1⟩ := hall e (by simp)
    obtain ⟨r, hr, hiff⟩ := heq k k1
    rw [← hk1] at hr
    cases r with
    | false =>
      have hne : k1 ≠ k := fun h => by have := hiff.2 h.symm; cases this
      rcases z5x w heq k es (i + 1) (fun y hy => hall y (by simp [hy])) with ⟨h1, h2⟩ | ⟨j, e', h1, h2, h3⟩
      · refine .inl ⟨by simp [Instr.findAsking, hr, h1], fun y hy k' hk' => ?_⟩
        rcases List.mem_cons.1 hy with rfl | hy
        · rintro rfl
          obtain ⟨r2, hr2, hiff2⟩ := heq k' k'
          rw [← hk'] at hr2
          rw [hk'] at hr
          rw [hk'] at hr2
          rw [hr] at hr2
          cases hr2
          have := hiff2.2 rfl
          cases this
        · exact h2 y hy k' hk'
      · exact .inr ⟨j + 1, e', by simp [Instr.findAsking, hr, h1]; omega, by simpa using h2, h3⟩
    | true =>
      refine .inr ⟨0, e, by simp [Instr.findAsking, hr], rfl, ?_⟩
      rw [hk1, hiff.1 rfl]

theorem KeyOk.struct (ht : TTok P T) {κ : Type} {kt : Nat} {i : TI} {gs : List (Nat × Nat × Bool × Nat)} (hi : T.get kt = some i) (hd : i.d = .struct gs) {cells : κ → List Value} {b : κ → κ → Bool}
    (he : ∀ x y, eqc T 9 (.struct gs) (cells x) (cells y) = some (b x y)) (hb : ∀ x y, b x y = true ↔ x = y) (hs : ∀ k, (cells k).all scalarV = true) (hinj : ∀ {a b : κ}, cells a = cells b → a = b) :
    KeyOk P kt (fun k => .agg ⟨cells k⟩) where
  inj := fun {a b} h => hinj (by simpa using h)
  check e w k := z86 ht e 9 _ _ _ _ (he k k) kt i hi hd 10000 w (by omega) _ (.inl ⟨by unfold TI.agg; rw [hd], rfl⟩)
  find w k es hes := by
    have hag : i.agg = true := by unfold TI.agg; rw [hd]
    have heq : ∀ x y : κ, ∃ r : Bool, (Op.equal kt (.agg ⟨cells x⟩) (.agg ⟨cells y⟩)).run P w = .ok r w ∧ (r = true ↔ x = y) := fun x y =>
      ⟨b x y, by
        unfold Op.equal
        exact z9k ht 9 _ _ _ _ (he x y) kt i hi hd _ w (by decide) _ _ (.inl ⟨hag, rfl⟩) (.inl ⟨hag, rfl⟩), hb x y⟩
    obtain ⟨dd, h1, h2, _⟩ := ht.desc hi
    rw [hd] at h2
    cases dd <;> simp only [descOk, Bool.false_eq_true] at h2
    rename_i fs _
    have hk := z5x (ek := fun k => Value.agg ⟨cells k⟩) w heq k es 0 hes
    cases es with
    | nil => exact .inl ⟨by simp [Instr.findKey, run_underlying h1, Instr.findNow], by simp⟩
    | cons e es =>
      have hfn : Instr.findNow (.struct fs) (.agg ⟨cells k⟩) (e :: es) 0 = none := by simp [Instr.findNow, Instr.sameNow]
      have hrun : (Instr.findKey kt (.agg ⟨cells k⟩) (e :: es)).run P w = (Instr.findAsking kt (.agg ⟨cells k⟩) (e :: es) 0).run P w := by
        unfold Instr.findKey
        simp only [Sem.run_bind, run_underlying h1, Result.andThen_ok, hfn]
      rw [hrun]
      rcases hk with ⟨a1, a2⟩ | ⟨j, e', a1, a2, a3⟩
      · refine .inl ⟨a1, fun y hy hyk => ?_⟩
        exact a2 y hy k hyk rfl
      · exact .inr ⟨j, e', by simpa using a1, a2, a3⟩
  stays w k := by
    unfold Instr.keyThatStays
    rw [zbG (hs k) 9999]
    simp
end


section
variable {κ α : Type} [DecidableEq κ]
def mget : List (κ × α) → κ → Option α
  | [], _ => none
  | p :: m, k => if p.1 = k then some p.2 else mget m k
theorem zaO {m : List (κ × α)} {k : κ} (h : ∀ p, p ∈ m → p.1 ≠ k) : mget m k = none := by
  induction m with
  | nil => rfl
  | cons p m ih => unfold mget; rw [if_neg (h p (by simp))]; exact ih fun q hq => h q (by simp [hq])
theorem zcz {m : List (κ × α)} (hn : (m.map (·.1)).Nodup) {j : Nat} {k : κ} {x : α} (h : m[j]? = some (k, x)) : mget m k = some x := by
  induction m generalizing j with
  | nil => simp at h
  | cons p m ih =>
    simp only [List.map_cons, List.nodup_cons] at hn
    unfold mget
    cases j with
    | zero => simp only [List.getElem?_cons_zero, Option.some.injEq] at h; subst h; simp
    | succ j =>
      simp only [List.getElem?_cons_succ] at h
      have hm : k ∈ m.map (·.1) := List.mem_map.2 ⟨(k, x), List.mem_of_getElem? h, rfl⟩
      rw [if_neg (fun e => hn.1 (by rw [e]; exact hm))]
      exact ih hn.2 h
end


section
variable {κ α : Type}

def MapAt (ek : κ → Value) (ev : α → Value) (w : World) (g : Nat) (m : List (κ × α)) : Prop :=
  ∃ es clock, w.heap[g]? = some (.map es clock) ∧ es.toList.map (fun e => (e.key, e.val)) = m.map (fun p => (ek p.1, ev p.2)) ∧ (m.map (·.1)).Nodup ∧ Stamped es clock

theorem zcA {w : World} {g : Nat} {o : Obj} (h : w.heap[g]? = some o) : g < w.heap.size := (Array.getElem?_eq_some_iff.1 h).1

theorem MapAt.same {ek : κ → Value} {ev : α → Value} {w w' : World} {g : Nat} {m : List (κ × α)} (h : MapAt ek ev w g m) (hs : w'.heap[g]? = w.heap[g]?) : MapAt ek ev w' g m := by
  obtain ⟨es, c, h1, h2⟩ := h
  exact ⟨es, c, by rw [hs]; exact h1, h2⟩
theorem MapAt.lt {ek : κ → Value} {ev : α → Value} {w : World} {g : Nat} {m : List (κ × α)} (h : MapAt ek ev w g m) : g < w.heap.size := by
  obtain ⟨es, c, h1, h2⟩ := h
  exact zcA h1
theorem MapAt.ext {ek : κ → Value} {ev : α → Value} {w w' : World} {g : Nat} {m : List (κ × α)} (h : MapAt ek ev w g m) (he : Ext w w') : MapAt ek ev w' g m := h.same (he.block g h.lt)

def tMp (ek : κ → Value) (ev : α → Value) : Ty (List (κ × α)) where
  size := 1
  ro := fun w cs m => ∃ g, cs = [.map (some g)] ∧ MapAt ek ev w g m
  own := fun w cs m G => ∃ g, cs = [.map (some g)] ∧ MapAt ek ev w g m ∧ G = [g]
  req := fun _ => True
  len := by rintro _ _ _ ⟨g, rfl, _⟩; rfl
  lenO := by rintro _ _ _ _ ⟨g, rfl, _⟩; rfl
  ext := by rintro _ _ _ _ he ⟨g, rfl, h⟩; exact ⟨g, rfl, h.ext he⟩
  own_ro := by rintro _ _ _ _ ⟨g, rfl, h, _⟩ _; exact ⟨g, rfl, h⟩
  loc := by rintro _ _ _ _ _ ⟨g, rfl, h, rfl⟩ hs; exact ⟨g, rfl, h.same (hs g (by simp)), rfl⟩
  lt := by rintro _ _ _ _ ⟨g, rfl, h, rfl⟩ g' hg; simp at hg; subst hg; exact h.lt
  one := by rintro _ _ _ ⟨g, rfl, _⟩ u hu; simp at hu; subst hu; rfl
  oneO := by rintro _ _ _ _ ⟨g, rfl, _⟩ u hu; simp at hu; subst hu; rfl

instance {W : World} {ek : κ → Value} {ev : α → Value} : Reads W (tMp ek ev) := ⟨fun _ => trivial⟩

end


structure MapOk (P : Program) {κ α : Type} (t k e : Nat) (ek : κ → Value) (ev : α → Value) (z : α) : Prop where
  und : P.underlying t = some (.map k e)
  zero : (P.info? e).bind (fun i => i.zero) = some (ev z)
  key : KeyOk P k ek

section
variable {P : Program} {κ α : Type} [DecidableEq κ] {t k e : Nat} {ek : κ → Value} {ev : α → Value} {z : α}

theorem zaQ {es : Array MapEntry} {m : List (κ × α)} (h : es.toList.map (fun e => (e.key, e.val)) = m.map (fun p => (ek p.1, ev p.2))) {j : Nat} {x : MapEntry} (hx : es.toList[j]? = some x) :
    ∃ p, m[j]? = some p ∧ x.key = ek p.1 ∧ x.val = ev p.2 := by
  have h1 := congrArg (fun l => l[j]?) h
  simp only [List.getElem?_map, hx, Option.map_some] at h1
  cases hm : m[j]? with
  | none => rw [hm] at h1; cases h1
  | some p =>
    rw [hm] at h1
    simp only [Option.map_some, Option.some.injEq, Prod.mk.injEq] at h1
    exact ⟨p, rfl, h1.1, h1.2⟩

theorem zbR {es : Array MapEntry} {m : List (κ × α)} (h : es.toList.map (fun e => (e.key, e.val)) = m.map (fun p => (ek p.1, ev p.2))) : ∀ x, x ∈ es.toList → ∃ k', x.key = ek k' := fun x hx => by
  obtain ⟨j, hj⟩ := List.getElem?_of_mem hx
  obtain ⟨p, _, h1, _⟩ := zaQ h hj
  exact ⟨p.1, h1⟩


theorem MapOk.find (h : MapOk P t k e ek ev z) {es : Array MapEntry} {m : List (κ × α)} (hr : es.toList.map (fun e => (e.key, e.val)) = m.map (fun p => (ek p.1, ev p.2))) (hn : (m.map (·.1)).Nodup) (w : World) (kk : κ) :
    ((Instr.findKey k (ek kk) es.toList).run P w = .ok none w ∧ mget m kk = none ∧ (∀ p, p ∈ m → p.1 ≠ kk) ∧ ∀ x, x ∈ es.toList → x.key ≠ ek kk) ∨
    ∃ j x0 v, (Instr.findKey k (ek kk) es.toList).run P w = .ok (some (j, ev v)) w ∧ es[j]? = some x0 ∧ x0.key = ek kk ∧ m[j]? = some (kk, v) ∧ mget m kk = some v := by
  rcases h.key.find w kk es.toList (zbR hr) with ⟨h1, h2⟩ | ⟨j, x0, h1, h2, h3⟩
  · have hm : ∀ p, p ∈ m → p.1 ≠ kk := fun p hp hpk => by
      obtain ⟨j, hj⟩ := List.getElem?_of_mem hp
      have h4 := congrArg (fun l => l[j]?) hr
      simp only [List.getElem?_map, hj, Option.map_some] at h4
      cases hx : es.toList[j]? with
      | none => rw [hx] at h4; cases h4
      | some x =>
        rw [hx] at h4
        simp only [Option.map_some, Option.some.injEq, Prod.mk.injEq] at h4
        exact h2 x (List.mem_of_getElem? hx) (by rw [h4.1, hpk])
    exact .inl ⟨h1, zaO hm, hm, h2⟩
  · obtain ⟨p, hp, hk, hv⟩ := zaQ hr h2
    have hpk : p.1 = kk := h.key.inj (by rw [← hk, h3])
    obtain ⟨p1, p2⟩ := p
    simp only at hpk hv
    subst hpk
    exact .inr ⟨j, x0, p2, by rw [h1, hv], by simpa using h2, h3, hp, zcz hn hp⟩

end


section
variable {P : Program} {n : Nat} {Q : Post} {F : Fr} {W w : World} {ops rest : List Oper} {o : Oper} {κ α : Type} [DecidableEq κ] {t k e : Nat} {ek : κ → Value} {ev : α → Value} {z : α}

end


theorem LM.quietL {P : Program} {n : Nat} {Q : Post} {F : Fr} {w w0 W9 : World} {ops : List Oper} {wm fuel kk mm : Nat} {sk : List (List Nat × Nat)} {o : Oper} (hsk : skOf ops = sk ∧ ops.length = kk) {v : Value} {ii : Nat} (m' : Nat) (hm' : mm ||| 2 ^ ii = m') (hwi : wm.testBit ii = false) (hni : nthv ops ii = some o) (hg : guardOf ops F o = some true) (hq : Quiet P n F w o v) {d : Nat} (hd : o.dst = some d) (hn : Nat.blt d n = true)
    (h : DM P n ops Q W9 w0 wm fuel kk m' ((d, v) :: F) w) : LM P n ops Q W9 w0 wm fuel kk mm ii F w :=
  LM.okD hsk m' hm' hwi hni hg (fun a ha => hq a w ha (Ext.refl w)) hd hn (Ext.refl w) h

theorem LM.idxL {P : Program} {n : Nat} {Q : Post} {F : Fr} {w w0 W9 : World} {ops : List Oper} {wm fuel kk mm : Nat} {sk : List (List Nat × Nat)} {o : Oper} {T : TT} (ht : TTok P T) {α : Type} {U : Ty α} {w1 : World} (he : Ext w1 w) (hsk : skOf ops = sk ∧ ops.length = kk) {ii : Nat} (m' : Nat) (hm' : mm ||| 2 ^ ii = m') (hwi : wm.testBit ii = false) (hni : nthv ops ii = some o)
    (hg : guardOf ops F o = some true) {t e : Nat} {x ix : Operand} {i j : TI} {A : Option Addr} {len c : Nat} {xs : List α} {k : IntKind} {m : Int} (ho : o.op = .indexAddr t x ix)
    (hi : T.get t = some i) (hd : i.d = .slice e) (hj : T.get e = some j) (hs : U.size = j.size) (hpos : 0 < U.size) (hx : F.ev x = some (.slice A len c)) (hm : F.ev ix = some (.int k m))
    {e' : Nat} (hr : (tSl e' U).ro w1 [.slice A len c] xs) {a : α} (h0 : 0 ≤ m) (ha : xs[m.toNat]? = some a) {d : Nat} (hd' : o.dst = some d) (hn : Nat.blt d n = true)
    (h : ∀ q es, At w1 q es → U.ro w1 es a → DM P n ops Q W9 w0 wm fuel kk m' ((d, .pointer (some q)) :: F) w) : LM P n ops Q W9 w0 wm fuel kk mm ii F w := by
  obtain ⟨q, es, h1, h2, h3⟩ := Quiet.idx (n := n) ht ho hi hd hj hs hpos hx hm hr h0 ha
  exact LM.quietL hsk m' hm' hwi hni hg (h1.later he) hd' hn (h q es h2 h3)
end Go.E

