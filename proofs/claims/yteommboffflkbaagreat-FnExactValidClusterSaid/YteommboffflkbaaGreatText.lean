/- Texts: joining two, making one of bytes. Conditions: none (rules). -/
import Derived.Test.YteommboffflkbaaGreatParam
import Derived.Laws.BytesArg
import Derived.Laws.Concat
namespace Go.E
open Go.RowKit
set_option linter.unusedVariables false
set_option linter.unusedSimpArgs false


theorem Quiet.buildK {P : Program} {n : Nat} {F : Fr} {w : World} {o : Oper} {t : Nat} {ps : List (Nat × Operand)} {vs : List (Nat × Value)} {cs : List Value}
    (ho : o.op = .build t ⟨ps⟩) (hv : partsOf F ps = some vs) (hb : P.built t vs = some ⟨cs⟩) : Quiet P n F w o (.agg ⟨cs⟩) := by
  intro a w' ha _
  unfold execOp
  rw [ho]
  have := run_build (P := P) w' t ⟨vs⟩ ⟨cs⟩ hb
  have he : (⟨ps⟩ : Array (Nat × Operand)).map (fun (p : Nat × Operand) => (p.1, a.eval p.2)) = ⟨vs⟩ := by
    simp [z7C ha hv]
  simp [show Array.map (fun x : Nat × Operand => (x.fst, a.eval x.snd)) ⟨ps⟩ = ⟨vs⟩ from he, this]

theorem Quiet.arrIdx {P : Program} {T : TT} (ht : TTok P T) {n : Nat} {F : Fr} {w : World} {o : Oper} {t e len : Nat} {x ix : Operand} {j : TI} {cs : List Value} {xs : List Int} {k kd : IntKind} {m a : Int} (ho : o.op = .index t x ix)
    (hu : P.underlying t = some (.array len e)) (hj : T.get e = some j) (hag : j.agg = false) (hs : j.size = 1) (hx : F.ev x = some (.agg ⟨cs⟩)) (hc : cs = xs.map (Value.int kd)) (hm : F.ev ix = some (.int k m)) (h0 : 0 ≤ m) (ha : xs[m.toNat]? = some a) (hl : xs.length = len := by rfl) : Quiet P n F w o (.int kd a) := by
  intro b w' hb _
  have hlt := (List.getElem?_eq_some_iff.1 ha).1
  have hr := z9K (P := P) ht hj (xs := cs) (off := m.toNat * 1) (x := .int kd a) (.inr ⟨hag, by
    rw [hs, Nat.mul_one, hc]
    have h1 : (xs.map (Value.int kd))[m.toNat]? = some (.int kd a) := by rw [List.getElem?_map, ha]; rfl
    have h2 := (List.getElem?_eq_some_iff.1 h1)
    rw [List.drop_eq_getElem_cons h2.1, h2.2]; rfl⟩) w'
  unfold execOp
  rw [ho]
  have hmm : m < len := by omega
  rw [Nat.mul_one] at hr
  simp [hb.ev hx, hb.ev hm, Instr.index, asIntOf, Go.underlying, hu, h0, hmm, ht.sizeOf hj, hs, hr]

theorem Quiet.rem {P : Program} {n : Nat} {F : Fr} {w : World} {o : Oper} {t u : Nat} {x y : Operand} {k : IntKind} {a b : Int} (ho : o.op = .binOp .rem t x y u) (hx : F.ev x = some (.int k a)) (hy : F.ev y = some (.int k b))
    (h : b ≠ 0) : Quiet P n F w o (.int k (a.tmod b)) := by
  intro c w' hc _
  unfold execOp
  rw [ho]
  have hg : (eqGuard .rem t x y (.int k a) (.int k b)).run P w' = .ok () w' := by unfold eqGuard; simp
  simp [hc.ev hx, hc.ev hy, hg, zeq k a b h t w']

theorem Quiet.quo {P : Program} {n : Nat} {F : Fr} {w : World} {o : Oper} {t u : Nat} {x y : Operand} {k : IntKind} {a b : Int} (ho : o.op = .binOp .quo t x y u) (hx : F.ev x = some (.int k a)) (hy : F.ev y = some (.int k b))
    (h : b ≠ 0) : Quiet P n F w o (.int k (k.wrap (a.tdiv b))) := by
  intro c w' hc _
  unfold execOp
  rw [ho]
  have hg : (eqGuard .quo t x y (.int k a) (.int k b)).run P w' = .ok () w' := by unfold eqGuard; simp
  simp [hc.ev hx, hc.ev hy, hg, zer k a b h t w']

end Go.E

