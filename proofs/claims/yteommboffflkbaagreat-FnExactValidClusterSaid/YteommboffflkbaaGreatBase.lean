/- Rules for proving that code of the model runs as a plain Lean function says: frames as sparse lists of known slots, and one rule for each form of code. Conditions: none (rules). -/
import Derived.WalkKit
import Derived.OrdersHeld
namespace Go.E
set_option linter.unusedVariables false
set_option linter.unusedSimpArgs false


abbrev Fr := List (Nat × Value)

def Fr.get : Fr → Nat → Option Value
  | [], _ => none
  | (j, v) :: r, i => match Nat.beq j i with
    | true => some v
    | false => Fr.get r i

def Fr.ev (F : Fr) : Operand → Option Value
  | .tmp t => F.get t
  | .const v => some v
  | .func f => some (.func (.func f) #[] #[])
  | .global g => some (.pointer (some ⟨g, 0, none⟩))


def Fits (n : Nat) (F : Fr) (a : Act) : Prop := a.defers = [] ∧ a.tmps.size = n ∧ ∀ i v, F.get i = some v → a.tmps[i]? = some v

theorem Fits.ev {n : Nat} {F : Fr} {a : Act} (h : Fits n F a) {x : Operand} {v : Value} (e : F.ev x = some v) : a.eval x = v := by
  cases x with
  | tmp t => simp only [Fr.ev] at e; simp [Act.eval, Array.getD_eq_getD_getElem?, h.2.2 t v e]
  | const u => simp only [Fr.ev, Option.some.injEq] at e; simpa [Act.eval] using e
  | func f => simp only [Fr.ev, Option.some.injEq] at e; simpa [Act.eval] using e
  | global g => simp only [Fr.ev, Option.some.injEq] at e; simpa [Act.eval] using e

theorem Fr.get_cons (j : Nat) (v : Value) (r : Fr) (i : Nat) : Fr.get ((j, v) :: r) i = if j = i then some v else Fr.get r i := by
  by_cases h : j = i
  · subst h; simp [Fr.get]
  · have : Nat.beq j i = false := by rw [Bool.eq_false_iff]; intro hb; exact h (Nat.eq_of_beq_eq_true hb)
    simp [Fr.get, this, h]

theorem Fits.put {n : Nat} {F : Fr} {a : Act} (h : Fits n F a) {d : Nat} (hd : Nat.blt d n = true) (v : Value) : Fits n ((d, v) :: F) (a.put (some d) v) := by
  have hd' : d < n := by simpa using hd
  refine ⟨by simpa [Act.put] using h.1, by simp [Act.put, h.2.1], fun i u hu => ?_⟩
  rw [Fr.get_cons] at hu
  simp only [Act.put, Array.getElem?_setIfInBounds]
  by_cases hi : d = i
  · subst hi
    rw [if_pos rfl] at hu ⊢
    rw [h.2.1, if_pos hd']
    exact hu
  · rw [if_neg hi] at hu ⊢
    exact h.2.2 i u hu

def Fr.Has (F : Fr) : Fr → Prop
  | [] => True
  | (i, v) :: r => F.get i = some v ∧ Fr.Has F r

theorem Fr.has_get {F : Fr} : ∀ {F' : Fr}, F.Has F' → ∀ i v, F'.get i = some v → F.get i = some v
  | [], _, i, v, h => by simp [Fr.get] at h
  | (j, u) :: r, ⟨h1, h2⟩, i, v, h => by
    rw [Fr.get_cons] at h
    by_cases hi : j = i
    · subst hi; rw [if_pos rfl] at h; rw [h1]; exact h
    · rw [if_neg hi] at h; exact Fr.has_get h2 i v h

theorem Fits.weak {n : Nat} {F F' : Fr} {a : Act} (h : Fits n F a) (hs : F.Has F') : Fits n F' a :=
  ⟨h.1, h.2.1, fun i v hv => h.2.2 i v (Fr.has_get hs i v hv)⟩



abbrev Post := Exit → Fr → World → Prop

def Post.up (n : Nat) (Q : Post) : Exit → Act → World → Prop := fun e a w => ∃ F, Fits n F a ∧ Q e F w

def WP (P : Program) (n : Nat) (c : Code) (Q : Post) (F : Fr) (w : World) : Prop := ∀ a, Fits n F a → c.wp P (Q.up n) a w

def Post.after (K : Fr → World → Prop) (Q : Post) : Post
  | .normal, F, w => K F w
  | e, F, w => Q e F w

def Post.block (id : Nat) (Q : Post) : Post
  | .exit i, F, w => match Nat.beq i id with
    | true => Q .normal F w
    | false => Q (.exit i) F w
  | e, F, w => Q e F w

section
variable {P : Program} {n : Nat} {Q : Post} {F : Fr} {w : World}

theorem WP.weak {c : Code} (F' : Fr) (hs : F.Has F') (h : WP P n c Q F' w) : WP P n c Q F w := fun a ha => h a (ha.weak hs)

theorem WP.mono {c : Code} {Q' : Post} (h : WP P n c Q F w) (hq : ∀ e F w, Q e F w → Q' e F w) : WP P n c Q' F w :=
  fun a ha => wp_mono (h a ha) fun e _ w' ⟨F', hf, q⟩ => ⟨F', hf, hq e F' w' q⟩

theorem WP.seq {x y : Code} (h : WP P n x (Q.after (WP P n y Q)) F w) : WP P n (.seq x y) Q F w := fun a ha =>
  wp_seq (wp_mono (h a ha) fun e a' w' ⟨F', hf, q⟩ => by cases e <;> first | exact q a' hf | exact ⟨F', hf, q⟩)

theorem WP.skip (h : Q .normal F w) : WP P n .skip Q F w := fun _ ha => wp_skip ⟨F, ha, h⟩

theorem WP.ret (h : Q .ret F w) : WP P n .ret Q F w := fun _ ha => wp_ret ⟨F, ha, h⟩

theorem WP.exit {id : Nat} (h : Q (.exit id) F w) : WP P n (.exit id) Q F w := fun _ ha => wp_exit ⟨F, ha, h⟩

theorem WP.block {id : Nat} {c : Code} (h : WP P n c (Q.block id) F w) : WP P n (.block id c) Q F w := fun a ha =>
  wp_block (wp_mono (h a ha) fun e a' w' ⟨F', hf, q⟩ => by
    cases e with
    | exit i =>
      simp only [Exit.inBlock]
      by_cases hi : i = id
      · subst hi; have hb : Nat.beq i i = true := by simp
        simp only [Post.block, hb] at q; rw [if_pos rfl]; exact ⟨F', hf, q⟩
      · have : Nat.beq i id = false := by rw [Bool.eq_false_iff]; intro hb; exact hi (Nat.eq_of_beq_eq_true hb)
        simp only [Post.block, this] at q
        rw [if_neg hi]; exact ⟨F', hf, q⟩
    | _ => exact ⟨F', hf, q⟩)

theorem WP.cond {c : Operand} {x y : Code} (b : Bool) (hc : F.ev c = some (.bool b)) (ht : b = true → WP P n x Q F w) (hf : b = false → WP P n y Q F w) :
    WP P n (.cond c x y) Q F w := fun a ha => wp_cond_split (ha.ev hc) (fun h => ht h a ha) (fun h => hf h a ha)


theorem WP.loop {c : Code} {σ : Type} (J : σ → Fr → World → Prop) (μ : σ → Nat) (s0 : σ) (h0 : J s0 F w)
    (round : ∀ s F w, J s F w → WP P n c (Q.after (fun F' w' => ∃ s' F'', F'.Has F'' ∧ J s' F'' w' ∧ μ s' < μ s)) F w) : WP P n (.loop c) Q F w := fun a ha => by
  intro b k cs
  have key : ∀ m s F w a, μ s = m → J s F w → Fits n F a →
      ∃ e a' w', Q.up n e a' w' ∧ Arrives P (lone (b.at a (.code c :: .inLoop c :: k)) cs w) b k cs e a' w' := by
    intro m
    induction m using Nat.strongRecOn with
    | _ m ih =>
      intro s F w a hm hJ ha
      obtain ⟨e, a1, w1, hq, harr⟩ := round s F w hJ a ha b (.inLoop c :: k) cs
      cases e with
      | normal =>
        obtain ⟨F1, hf1, s1, F2, hhas, hJ1, hlt⟩ := hq
        obtain ⟨e2, a2, w2, hq2, harr2⟩ := ih (μ s1) (hm ▸ hlt) s1 F2 w1 a1 rfl hJ1 (hf1.weak hhas)
        exact ⟨e2, a2, w2, hq2, .of_steps (Steps.trans harr (.one step_inLoop)) harr2⟩
      | exit id => exact ⟨_, a1, w1, hq, .pass (x := .inLoop c) rfl (fun _ _ => .inl (by simp)) harr⟩
      | goto l => exact ⟨_, a1, w1, hq, .pass (x := .inLoop c) rfl (fun _ _ => .inl (by simp)) harr⟩
      | ret => exact ⟨_, a1, w1, hq, .pass (x := .inLoop c) rfl (fun _ _ => .inl (by simp)) harr⟩
      | panic ch => exact ⟨_, a1, w1, hq, .pass (x := .inLoop c) rfl (fun _ _ => .inl (by simp)) harr⟩
      | outgrown => exact ⟨_, a1, w1, hq, .pass (x := .inLoop c) rfl (fun _ _ => .inl (by simp)) harr⟩
  obtain ⟨e, a', w', hq, harr⟩ := key _ s0 F w a rfl h0 ha
  exact ⟨e, a', w', hq, .of_steps (.one step_loop) harr⟩

end
end Go.E

