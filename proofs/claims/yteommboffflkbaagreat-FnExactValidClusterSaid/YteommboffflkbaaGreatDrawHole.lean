/- Elements taken out, and stores into elements, in regions whose order is drawn. Conditions: none (rules; those of the text's order, carried over). -/
import Derived.Test.YteommboffflkbaaGreatMaps
namespace Go.E
open Go.RowKit
set_option linter.unusedVariables false
set_option linter.unusedSimpArgs false

theorem Quiet.idxAddr {P : Program} {T : TT} (ht : TTok P T) {n : Nat} {F : Fr} {α : Type} {U : Ty α} {g k ln : Nat} {o : Oper} {t e' : Nat} {x ix : Operand} {i j : TI}
    {kd : IntKind} {m : Int} (ho : o.op = .indexAddr t x ix) (hi : T.get t = some i) (hd : i.d = .slice e') (hj : T.get e' = some j) (hs : U.size = j.size) (hx : F.ev x = some (.slice (some ⟨g, 0, none⟩) ln k)) (hm : F.ev ix = some (.int kd m))
    (h0 : 0 ≤ m) (hlt : m.toNat < ln) (w : World) : Quiet P n F w o (.pointer (some ⟨g, m.toNat * U.size, none⟩)) := fun a w' ha _ => by
  unfold execOp
  rw [ho]
  have hmm : m < ln := by omega
  simp [ha.ev hx, ha.ev hm, Instr.indexAt, asIntOf, Go.underlying, ht.slice hi hd, h0, hmm, ht.sizeOf hj, zdh, hs]

section
variable {P : Program} {n : Nat} {Q : Post} {F : Fr} {W w w0 w1 W9 : World} {ops : List Oper} {wm fuel kk mm : Nat} {sk : List (List Nat × Nat)} {o : Oper} {T : TT}

theorem DM.idxHole (ht : TTok P T) {α : Type} {U : Ty α} {A : Option Addr} {k ln : Nat} (hA : ∃ g, A = some ⟨g, 0, none⟩) (hsk : skOf ops = sk ∧ ops.length = kk) (ii m' : Nat) (hmm : mm ||| 2 ^ ii = m') (hwi : wm.testBit ii = false) (hni : nthv ops ii = some o) (hf : freeM sk (2 ^ kk - 1) mm ii = true) (hg : guardOf ops F o = some true) {t e' : Nat} {x ix : Operand} {i j : TI}
    {kd : IntKind} {m : Int} (ho : o.op = .indexAddr t x ix) (hi : T.get t = some i) (hd : i.d = .slice e') (hj : T.get e' = some j) (hs : U.size = j.size) (hx : F.ev x = some (.slice A ln k)) (hm : F.ev ix = some (.int kd m))
    (h0 : 0 ≤ m) (hlt : m.toNat < ln) {d : Nat} (hd' : o.dst = some d) (hn : Nat.blt d n = true)
    (h : ∀ q, ElAt U A m.toNat q → DM P n ops Q W9 w0 wm fuel kk m' ((d, .pointer (some q)) :: F) w) : DM P n ops Q W9 w0 wm (fuel + 1) kk mm F w := by
  obtain ⟨g, rfl⟩ := hA
  exact DM.quietP hsk ii m' hmm hwi hni hf hg (Quiet.idxAddr ht ho hi hd hj hs hx hm h0 hlt) hd' hn (h _ ⟨g, rfl, rfl⟩)

theorem DM.focus (ht : TTok P T) {α : Type} {U : Ty α} {B : List Res} {e : Nat} {A : Option Addr} {k ln : Nat} {xs : List α} {a : α} (hS : St W w1 (Own (tSl e U) [.slice A ln k] xs :: B)) (hsk : skOf ops = sk ∧ ops.length = kk) (ii m' : Nat) (hmm : mm ||| 2 ^ ii = m') (hwi : wm.testBit ii = false) (hni : nthv ops ii = some o) (hf : freeM sk (2 ^ kk - 1) mm ii = true) (hg : guardOf ops F o = some true) {t e' : Nat} {x ix : Operand} {i j : TI}
    {kd : IntKind} {m : Int} (ho : o.op = .indexAddr t x ix) (hi : T.get t = some i) (hd : i.d = .slice e') (hj : T.get e' = some j) (hs : U.size = j.size) (hx : F.ev x = some (.slice A ln k)) (hm : F.ev ix = some (.int kd m))
    (h0 : 0 ≤ m) (ha : xs[m.toNat]? = some a) {d : Nat} (hd' : o.dst = some d) (hn : Nat.blt d n = true)
    (h : ∀ q es, ElAt U A m.toNat q → St W w1 (Hole U e (.slice A ln k) xs m.toNat es :: Own U es a :: B) → DM P n ops Q W w0 wm fuel kk m' ((d, .pointer (some q)) :: F) w) : DM P n ops Q W w0 wm (fuel + 1) kk mm F w := by
  have hlt := (List.getElem?_eq_some_iff.1 ha).1
  obtain ⟨es, h1⟩ := hS.focusN ha
  have hl := hS.lenEq
  exact DM.idxHole ht (U := U) (hS.ownAddr hlt) hsk ii m' hmm hwi hni hf hg ho hi hd hj hs hx hm h0 (by omega) hd' hn fun q hq => h q es hq h1

theorem DM.idxAgain (ht : TTok P T) {α : Type} {U : Ty α} {B : List Res} {e : Nat} {A : Option Addr} {k ln : Nat} {xs : List α} {es : List Value} {m : Int} (hS : St W w1 (Hole U e (.slice A ln k) xs m.toNat es :: B)) (hsk : skOf ops = sk ∧ ops.length = kk) (ii m' : Nat) (hmm : mm ||| 2 ^ ii = m') (hwi : wm.testBit ii = false) (hni : nthv ops ii = some o) (hf : freeM sk (2 ^ kk - 1) mm ii = true) (hg : guardOf ops F o = some true) {t e' : Nat} {x ix : Operand} {i j : TI}
    {kd : IntKind} (ho : o.op = .indexAddr t x ix) (hi : T.get t = some i) (hd : i.d = .slice e') (hj : T.get e' = some j) (hs : U.size = j.size) (hx : F.ev x = some (.slice A ln k)) (hm : F.ev ix = some (.int kd m))
    (h0 : 0 ≤ m) {d : Nat} (hd' : o.dst = some d) (hn : Nat.blt d n = true)
    (h : ∀ q, ElAt U A m.toNat q → DM P n ops Q W w0 wm fuel kk m' ((d, .pointer (some q)) :: F) w) : DM P n ops Q W w0 wm (fuel + 1) kk mm F w := by
  obtain ⟨hl, hlt, hA⟩ := hS.hole_len
  exact DM.idxHole ht (U := U) hA hsk ii m' hmm hwi hni hf hg ho hi hd hj hs hx hm h0 (by omega) hd' hn h

theorem DM.idxOwnN (ht : TTok P T) {α : Type} {U : Ty α} {B : List Res} {e : Nat} {A : Option Addr} {k ln : Nat} {xs : List α} (hS : St W w1 (Own (tSl e U) [.slice A ln k] xs :: B)) (hsk : skOf ops = sk ∧ ops.length = kk) (ii m' : Nat) (hmm : mm ||| 2 ^ ii = m') (hwi : wm.testBit ii = false) (hni : nthv ops ii = some o) (hf : freeM sk (2 ^ kk - 1) mm ii = true) (hg : guardOf ops F o = some true) {t e' : Nat} {x ix : Operand} {i j : TI}
    {kd : IntKind} {m : Int} (ho : o.op = .indexAddr t x ix) (hi : T.get t = some i) (hd : i.d = .slice e') (hj : T.get e' = some j) (hs : U.size = j.size) (hx : F.ev x = some (.slice A ln k)) (hm : F.ev ix = some (.int kd m))
    (h0 : 0 ≤ m) (hlt : m.toNat < xs.length) {d : Nat} (hd' : o.dst = some d) (hn : Nat.blt d n = true)
    (h : ∀ q, (∃ g, A = some ⟨g, 0, none⟩ ∧ q = ⟨g, m.toNat * U.size, none⟩) → DM P n ops Q W w0 wm fuel kk m' ((d, .pointer (some q)) :: F) w) : DM P n ops Q W w0 wm (fuel + 1) kk mm F w := by
  have hl := hS.lenEq
  exact DM.idxHole ht (U := U) (hS.ownAddr hlt) hsk ii m' hmm hwi hni hf hg ho hi hd hj hs hx hm h0 (by omega) hd' hn h


theorem LM.idxHole (ht : TTok P T) {α : Type} {U : Ty α} {A : Option Addr} {k ln : Nat} (hA : ∃ g, A = some ⟨g, 0, none⟩) (hsk : skOf ops = sk ∧ ops.length = kk) {ii : Nat} (m' : Nat) (hm' : mm ||| 2 ^ ii = m') (hwi : wm.testBit ii = false) (hni : nthv ops ii = some o) (hg : guardOf ops F o = some true) {t e' : Nat} {x ix : Operand} {i j : TI}
    {kd : IntKind} {m : Int} (ho : o.op = .indexAddr t x ix) (hi : T.get t = some i) (hd : i.d = .slice e') (hj : T.get e' = some j) (hs : U.size = j.size) (hx : F.ev x = some (.slice A ln k)) (hm : F.ev ix = some (.int kd m))
    (h0 : 0 ≤ m) (hlt : m.toNat < ln) {d : Nat} (hd' : o.dst = some d) (hn : Nat.blt d n = true)
    (h : ∀ q, ElAt U A m.toNat q → DM P n ops Q W9 w0 wm fuel kk m' ((d, .pointer (some q)) :: F) w) : LM P n ops Q W9 w0 wm fuel kk mm ii F w := by
  obtain ⟨g, rfl⟩ := hA
  exact LM.quietL hsk m' hm' hwi hni hg (Quiet.idxAddr ht ho hi hd hj hs hx hm h0 hlt w) hd' hn (h _ ⟨g, rfl, rfl⟩)

theorem LM.focus (ht : TTok P T) {α : Type} {U : Ty α} {B : List Res} {e : Nat} {A : Option Addr} {k ln : Nat} {xs : List α} {a : α} (hS : St W w1 (Own (tSl e U) [.slice A ln k] xs :: B)) (hsk : skOf ops = sk ∧ ops.length = kk) {ii : Nat} (m' : Nat) (hm' : mm ||| 2 ^ ii = m') (hwi : wm.testBit ii = false) (hni : nthv ops ii = some o) (hg : guardOf ops F o = some true) {t e' : Nat} {x ix : Operand} {i j : TI}
    {kd : IntKind} {m : Int} (ho : o.op = .indexAddr t x ix) (hi : T.get t = some i) (hd : i.d = .slice e') (hj : T.get e' = some j) (hs : U.size = j.size) (hx : F.ev x = some (.slice A ln k)) (hm : F.ev ix = some (.int kd m))
    (h0 : 0 ≤ m) (ha : xs[m.toNat]? = some a) {d : Nat} (hd' : o.dst = some d) (hn : Nat.blt d n = true)
    (h : ∀ q es, ElAt U A m.toNat q → St W w1 (Hole U e (.slice A ln k) xs m.toNat es :: Own U es a :: B) → DM P n ops Q W w0 wm fuel kk m' ((d, .pointer (some q)) :: F) w) : LM P n ops Q W w0 wm fuel kk mm ii F w := by
  have hlt := (List.getElem?_eq_some_iff.1 ha).1
  obtain ⟨es, h1⟩ := hS.focusN ha
  have hl := hS.lenEq
  exact LM.idxHole ht (U := U) (hS.ownAddr hlt) hsk m' hm' hwi hni hg ho hi hd hj hs hx hm h0 (by omega) hd' hn fun q hq => h q es hq h1

theorem LM.idxAgain (ht : TTok P T) {α : Type} {U : Ty α} {B : List Res} {e : Nat} {A : Option Addr} {k ln : Nat} {xs : List α} {es : List Value} {m : Int} (hS : St W w1 (Hole U e (.slice A ln k) xs m.toNat es :: B)) (hsk : skOf ops = sk ∧ ops.length = kk) {ii : Nat} (m' : Nat) (hm' : mm ||| 2 ^ ii = m') (hwi : wm.testBit ii = false) (hni : nthv ops ii = some o) (hg : guardOf ops F o = some true) {t e' : Nat} {x ix : Operand} {i j : TI}
    {kd : IntKind} (ho : o.op = .indexAddr t x ix) (hi : T.get t = some i) (hd : i.d = .slice e') (hj : T.get e' = some j) (hs : U.size = j.size) (hx : F.ev x = some (.slice A ln k)) (hm : F.ev ix = some (.int kd m))
    (h0 : 0 ≤ m) {d : Nat} (hd' : o.dst = some d) (hn : Nat.blt d n = true)
    (h : ∀ q, ElAt U A m.toNat q → DM P n ops Q W w0 wm fuel kk m' ((d, .pointer (some q)) :: F) w) : LM P n ops Q W w0 wm fuel kk mm ii F w := by
  obtain ⟨hl, hlt, hA⟩ := hS.hole_len
  exact LM.idxHole ht (U := U) hA hsk m' hm' hwi hni hg ho hi hd hj hs hx hm h0 (by omega) hd' hn h

theorem LM.idxOwnN (ht : TTok P T) {α : Type} {U : Ty α} {B : List Res} {e : Nat} {A : Option Addr} {k ln : Nat} {xs : List α} (hS : St W w1 (Own (tSl e U) [.slice A ln k] xs :: B)) (hsk : skOf ops = sk ∧ ops.length = kk) {ii : Nat} (m' : Nat) (hm' : mm ||| 2 ^ ii = m') (hwi : wm.testBit ii = false) (hni : nthv ops ii = some o) (hg : guardOf ops F o = some true) {t e' : Nat} {x ix : Operand} {i j : TI}
    {kd : IntKind} {m : Int} (ho : o.op = .indexAddr t x ix) (hi : T.get t = some i) (hd : i.d = .slice e') (hj : T.get e' = some j) (hs : U.size = j.size) (hx : F.ev x = some (.slice A ln k)) (hm : F.ev ix = some (.int kd m))
    (h0 : 0 ≤ m) (hlt : m.toNat < xs.length) {d : Nat} (hd' : o.dst = some d) (hn : Nat.blt d n = true)
    (h : ∀ q, (∃ g, A = some ⟨g, 0, none⟩ ∧ q = ⟨g, m.toNat * U.size, none⟩) → DM P n ops Q W w0 wm fuel kk m' ((d, .pointer (some q)) :: F) w) : LM P n ops Q W w0 wm fuel kk mm ii F w := by
  have hl := hS.lenEq
  exact LM.idxHole ht (U := U) (hS.ownAddr hlt) hsk m' hm' hwi hni hg ho hi hd hj hs hx hm h0 (by omega) hd' hn h

theorem LM.storeElN (ht : TTok P T) {α : Type} {U : Ty α} {B : List Res} {e : Nat} {A : Option Addr} {k ln : Nat} {xs : List α} {y : α} {es' : List Value} (hS : St W w (Own (tSl e U) [.slice A ln k] xs :: Own U es' y :: B)) (hsk : skOf ops = sk ∧ ops.length = kk) {ii : Nat} (m' : Nat) (hm' : mm ||| 2 ^ ii = m') (hwi : wm.testBit ii = true) (hni : nthv ops ii = some o) (hg : guardOf ops F o = some true)
    {t : Nat} {x yv : Operand} (ho : o.op = .store t x yv) (hd : o.dst = none) {j : TI} (hj : T.get t = some j) (hs : U.size = j.size) {q : Addr} (hx : F.ev x = some (.pointer (some q))) {m : Nat} (hlt : m < xs.length)
    (hq : ∃ g, A = some ⟨g, 0, none⟩ ∧ q = ⟨g, m * U.size, none⟩) {v : Value} (hy : F.ev yv = some v) (hc : cellsV v = es')
    (h : ∀ w', St W w' (Own (tSl e U) [.slice A ln k] (xs.set m y) :: B) → DM P n ops Q W w0 wm fuel kk m' F w') : LM P n ops Q W w0 wm fuel kk mm ii F w := by
  have hl := hS.lenEq
  subst hl
  obtain ⟨w', h1, h2⟩ := zac (P := P) ht hS hlt hq hj hs
  have h3 : St W w' (Own (tSl e U) [.slice A xs.length k] (xs.set m y) :: B) := by simpa using h2
  refine LM.unitW hsk m' hm' hwi hni hg (w' := w') (fun a ha => ?_) hd h3.ext (h w' h3)
  unfold execOp
  rw [ho]
  simp [ha.ev hx, ha.ev hy, Instr.storeAt, Instr.sureAddr, h1 v hc]

theorem zbx (ht : TTok P T) {α : Type} {U : Ty α} {e : Nat} {A : Option Addr} {k m : Nat} {xs : List α} {es es' : List Value} {B : List Res} (hS : St W w (Hole U e (.slice A xs.length k) xs m es :: B)) {q : Addr} (hq : ElAt U A m q)
    {t : Nat} {i : TI} (hi : T.get t = some i) {q' : Addr} (off : Nat) (hq' : q' = q.add off) {v : Value} (hl : Nat.beq (cellsV v).length i.size = true)
    (h1 : oneCells (cellsV v) = true) (hs : setAt es off (cellsV v) = some es') : ∃ w', (storeVar t q' v).run P w = .ok () w' ∧ St W w' (Hole U e (.slice A xs.length k) xs m es' :: B) := by
  obtain ⟨G, ⟨g, cap, c1, c2, rst, G1, G2, hv, hh, a1, a2, a3, a4, a5, a6, k1, k2, hG⟩, _, hlo⟩ := hS.sep.head
  obtain ⟨g', rfl, rfl⟩ := hq
  simp only [Value.slice.injEq, Option.some.injEq, Addr.mk.injEq, and_true, true_and] at hv
  obtain ⟨rfl, rfl⟩ := hv
  have hset := z7L (c1 := c1) (c2 := c2) (rest := rst) hs
  rw [a4] at hset
  obtain ⟨w', r1, r2, r3, r4, r5, r6, r7⟩ := z2g (P := P) g' (m * U.size + off) e (cellsV v) 0 w _ ((c1 ++ (es' ++ c2)) ++ rst) h1 hh (by rw [Nat.add_zero]; exact hset)
  have hge : W.heap.size ≤ g' := hlo g' (by rw [hG]; simp)
  refine ⟨w', ?_, ⟨r5.trans hS.ext.os, r6.trans hS.ext.tape, r7.trans hS.ext.output, by rw [r4]; exact hS.le, fun b hb => ?_⟩, ?_⟩
  · have hsz : v.cells.size = i.size := by
      rw [← Array.length_toList, z4W]; exact Nat.eq_of_beq_eq_true hl
    simp [storeVar, ht.sizeOf hi, hsz, z4W, hq', z9S, r1]
  · rw [r3 b (by omega)]; exact hS.ext.block b hb
  · refine hS.sep.upd hS.le fun G' hG' hnd' _ => ?_
    obtain ⟨g1, cap1, d1, d2, rst1, H1, H2, hv1, hh1, b1, b2, b3, b4, b5, b6, l1, l2, rfl⟩ := hG'
    simp only [Value.slice.injEq, Option.some.injEq, Addr.mk.injEq, and_true, true_and] at hv1
    obtain ⟨rfl, rfl⟩ := hv1
    rw [hh1] at hh
    simp only [Option.some.injEq, Obj.cells.injEq, Array.mk.injEq, and_true] at hh
    have hset1 := z7L (c1 := d1) (c2 := d2) (rest := rst1) hs
    have e1 : d1.length = c1.length := by rw [b4, a4]
    rw [hh, e1] at hset1
    rw [← a4] at hset
    have e2 : (c1 ++ (es' ++ c2)) ++ rst = (d1 ++ (es' ++ d2)) ++ rst1 := Option.some.inj (hset.symm.trans hset1)
    have hle := z82 _ _ _ _ hs
    simp only [List.nodup_cons, List.mem_append, not_or] at hnd'
    refine ⟨g' :: (H1 ++ H2), ⟨g', k, d1, d2, rst1, H1, H2, rfl, by rw [r2, e2], b1, b2, ?_, b4, by rw [hle]; exact b5, b6, l1.loc fun b hb => r3 b (by rintro rfl; exact hnd'.1.1 hb), l2.loc fun b hb => r3 b (by rintro rfl; exact hnd'.1.2 hb), rfl⟩, by simpa using hnd', fun b hb => .inl hb, fun b hb hn => r3 b (by rintro rfl; exact hn (by simp))⟩
    rw [← b3]
    simp only [List.length_append, hle]

theorem LM.storeHoleN (ht : TTok P T) {α : Type} {U : Ty α} {e : Nat} {A : Option Addr} {k m ln : Nat} {xs : List α} {es es' : List Value} {B : List Res} (hS : St W w (Hole U e (.slice A ln k) xs m es :: B)) {q : Addr} (hq : ElAt U A m q)
    (hsk : skOf ops = sk ∧ ops.length = kk) {ii : Nat} (m' : Nat) (hm' : mm ||| 2 ^ ii = m') (hwi : wm.testBit ii = true) (hni : nthv ops ii = some o) (hg : guardOf ops F o = some true) {t : Nat} {x y : Operand} (ho : o.op = .store t x y) (hd : o.dst = none)
    {i : TI} (hi : T.get t = some i) {q' : Addr} (hx : F.ev x = some (.pointer (some q'))) (off : Nat) (hq' : q' = q.add off) {v : Value} (hy : F.ev y = some v) (hl : Nat.beq (cellsV v).length i.size = true)
    (h1 : oneCells (cellsV v) = true) (hs : setAt es off (cellsV v) = some es') (h : ∀ w', St W w' (Hole U e (.slice A ln k) xs m es' :: B) → DM P n ops Q W w0 wm fuel kk m' F w') : LM P n ops Q W w0 wm fuel kk mm ii F w := by
  obtain ⟨hn, _, _⟩ := hS.hole_len
  subst hn
  obtain ⟨w', r1, r2⟩ := zbx (P := P) ht hS hq hi off hq' hl h1 hs
  refine LM.unitW hsk m' hm' hwi hni hg (w' := w') (fun a ha => ?_) hd r2.ext (h w' r2)
  unfold execOp
  rw [ho]
  simp [ha.ev hx, ha.ev hy, Instr.storeAt, Instr.sureAddr, r1]


end
end Go.E

