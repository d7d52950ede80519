/- Operations that write: a store into a block of one's own; make; append. Conditions: none (rules). -/
import Derived.Test.YteommboffflkbaaGreatSeq
import Derived.Laws.MakeOwn
namespace Go.E
open Go.RowKit
set_option linter.unusedVariables false
set_option linter.unusedSimpArgs false

theorem zdh (g off : Nat) : Addr.add ⟨g, 0, none⟩ off = ⟨g, off, none⟩ := by unfold Addr.add; by_cases hj : off = 0 <;> simp [hj]
theorem z9S (g off i : Nat) : Addr.add ⟨g, off, none⟩ i = ⟨g, off + i, none⟩ := by unfold Addr.add; by_cases hj : i = 0 <;> simp [hj]

def oneCells : List Value → Bool
  | [] => true
  | v :: vs => match v.oneCell' with
    | true => oneCells vs
    | false => false

section
variable {P : Program}

theorem z2g (g off : Nat) (e : TypeId) : ∀ (vs : List Value) (i : Nat) (w : World) (cs cs' : List Value), oneCells vs = true → w.heap[g]? = some (.cells ⟨cs⟩ e (0, 0)) → setAt cs (off + i) vs = some cs' →
    ∃ w', (storeCells ⟨g, off, none⟩ vs i).run P w = .ok () w' ∧ w'.heap[g]? = some (.cells ⟨cs'⟩ e (0, 0)) ∧ (∀ b, b ≠ g → w'.heap[b]? = w.heap[b]?) ∧ w'.heap.size = w.heap.size ∧ w'.os = w.os ∧ w'.tape = w.tape ∧ w'.output = w.output
  | [], i, w, cs, cs', _, hg, hs => by
    simp only [setAt, Option.some.injEq] at hs
    subst hs
    exact ⟨w, by simp [storeCells], hg, fun _ _ => rfl, rfl, rfl, rfl, rfl⟩
  | v :: vs, i, w, cs, cs', h1, hg, hs => by
    unfold oneCells at h1
    unfold setAt at hs
    split at h1
    · rename_i hv
      split at hs
      · rename_i hlt
        have hlt' : off + i < cs.length := by simpa using hlt
        have hc : w.cell? ⟨g, off + i, none⟩ = some (cs[off + i]) := by rw [cell_of_row w g _ ⟨cs⟩ e (0, 0) hg]; simp [hlt']
        have hf : w.frozen? ⟨g, off + i, none⟩ = false := frozen_of_row w g _ ⟨cs⟩ e hg
        have hg1 : (w.setCell ⟨g, off + i, none⟩ v).heap[g]? = some (.cells ⟨cs.set (off + i) v⟩ e (0, 0)) := by
          rw [heap_setCell_same w g (off + i) ⟨cs⟩ e v hg]
          simp
        obtain ⟨w', r1, r2, r3, r4, r5, r6, r7⟩ := z2g g off e vs (i + 1) (w.setCell ⟨g, off + i, none⟩ v) _ cs' h1 hg1 hs
        refine ⟨w', ?_, r2, fun b hb => (r3 b hb).trans (heap_setCell_other w _ b v hb), by rw [r4]; simp, r5, r6, r7⟩
        unfold storeCells
        simp only [z9S, Sem.run_bind]
        rw [run_store P w _ v _ hv]
        simp only [stored, hc, hf]
        exact r1
      · cases hs
    · cases h1

end

section
variable {P : Program} {n : Nat} {Q : Post} {F : Fr} {W w : World} {ops rest : List Oper} {o : Oper} {T : TT} (ht : TTok P T)
include ht


theorem RW.store {A B : List Res} {g : Nat} {cs cs' : List Value} {e : TypeId} (hS : St W w (A ++ Box g cs e :: B)) (hg : guardOf ops F o = some true) {t : Nat} {x y : Operand} (ho : o.op = .store t x y) (hd : o.dst = none)
    {i : TI} (hi : T.get t = some i) {q : Addr} (hx : F.ev x = some (.pointer (some q))) (off : Nat) (hq : q = ⟨g, off, none⟩) {v : Value} (hy : F.ev y = some v) (hl : Nat.beq (cellsV v).length i.size = true)
    (h1 : oneCells (cellsV v) = true) (hs : setAt cs off (cellsV v) = some cs') (h : ∀ w', St W w' (A ++ Box g cs' e :: B) → RW P n ops Q rest F w') : RW P n ops Q (o :: rest) F w := by
  obtain ⟨G, ⟨hG, hh⟩, _, hlo⟩ := hS.sep.pick.head
  obtain ⟨w', r1, r2, r3, r4, r5, r6, r7⟩ := z2g (P := P) g off e (cellsV v) 0 w cs cs' h1 hh (by simpa using hs)
  have hge : W.heap.size ≤ g := hlo g (by rw [hG]; simp)
  refine RW.unit (w' := w') hg (fun a ha => ?_) hd (h w' (St.back ⟨⟨r5.trans hS.ext.os, r6.trans hS.ext.tape, r7.trans hS.ext.output, by rw [r4]; exact hS.le, fun k hk => ?_⟩, ?_⟩))
  · unfold execOp
    rw [ho]
    have hsz : v.cells.size = i.size := by
      rw [← Array.length_toList, z4W]; exact Nat.eq_of_beq_eq_true hl
    simp [ha.ev hx, ha.ev hy, Instr.storeAt, Instr.sureAddr, storeVar, ht.sizeOf hi, hsz, z4W, hq, r1]
  · rw [r3 k (by omega)]; exact hS.ext.block k hk
  · refine hS.sep.pick.upd hS.le fun G' hG' _ _ => ?_
    obtain ⟨e1, _⟩ := hG'
    exact ⟨[g], ⟨rfl, r2⟩, by simp, fun b hb => .inl (by rw [e1]; exact hb), fun b hb hn => r3 b (by rintro rfl; exact hn (by rw [e1]; simp))⟩
end
end Go.E

