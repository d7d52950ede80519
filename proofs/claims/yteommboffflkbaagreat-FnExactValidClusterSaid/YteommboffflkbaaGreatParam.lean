/- Slices of one's own whose header stays while their elements change; pieces of memory handed to a call and given back. Conditions: none (rules). -/
import Derived.Test.YteommboffflkbaaGreatHole
namespace Go.E
open Go.RowKit
set_option linter.unusedVariables false
set_option linter.unusedSimpArgs false

section
variable {α : Type} {U : Ty α} {e : Nat} {W w : World} {B : List Res} {A : Option Addr} {k n i : Nat} {xs : List α} {a : α} {es : List Value}

theorem St.lenEq (h : St W w (Own (tSl e U) [.slice A n k] xs :: B)) : n = xs.length := by
  obtain ⟨A', c', he⟩ := h.form
  simp only [List.cons.injEq, Value.slice.injEq, and_true] at he
  exact he.2.1

theorem St.reLen {n' : Nat} (h : St W w (Own (tSl e U) [.slice A n k] xs :: B)) (hn : n = n') : St W w (Own (tSl e U) [.slice A n' k] xs :: B) := hn ▸ h
theorem St.reBox {g : Nat} {t : TypeId} {cs cs' : List Value} (h : St W w (Box g cs t :: B)) (hc : cs = cs') : St W w (Box g cs' t :: B) := hc ▸ h
theorem St.focusN (h : St W w (Own (tSl e U) [.slice A n k] xs :: B)) (hx : xs[i]? = some a) : ∃ es, St W w (Hole U e (.slice A n k) xs i es :: Own U es a :: B) := by
  have hn := h.lenEq
  subst hn
  exact h.focus hx

theorem St.hole_len (h : St W w (Hole U e (.slice A n k) xs i es :: B)) : n = xs.length ∧ i < xs.length ∧ ∃ g, A = some ⟨g, 0, none⟩ := by
  obtain ⟨G, ⟨g, cap, c1, c2, rest, G1, G2, hv, hh, a1, a2, a3, a4, a5, a6, k1, k2, rfl⟩, _⟩ := h.sep.head
  simp only [Value.slice.injEq] at hv
  exact ⟨hv.2.1, a6, g, hv.1⟩

theorem St.unfocusN (h : St W w (Hole U e (.slice A n k) xs i es :: Own U es a :: B)) : St W w (Own (tSl e U) [.slice A n k] (xs.set i a) :: B) := by
  obtain ⟨hn, _, _⟩ := h.hole_len
  subst hn
  have h1 := h.unfocus
  rwa [List.length_set] at h1

theorem St.ownAddr (h : St W w (Own (tSl e U) [.slice A n k] xs :: B)) (hi : i < xs.length) : ∃ g, A = some ⟨g, 0, none⟩ := by
  obtain ⟨es, h1⟩ := h.focusN (List.getElem?_eq_getElem hi)
  exact h1.hole_len.2.2

theorem St.hole_atN (h : St W w (Hole U e (.slice A n k) xs i es :: B)) {q : Addr} (hq : ElAt U A i q) : At w q es := by
  obtain ⟨hn, _, _⟩ := h.hole_len
  subst hn
  exact h.hole_at hq
end

section
variable {P : Program} {n : Nat} {Q : Post} {F : Fr} {W w : World} {ops rest : List Oper} {o : Oper} {T : TT} (ht : TTok P T)
include ht


theorem RW.focus {α : Type} {U : Ty α} {B : List Res} {e : Nat} {A : Option Addr} {k ln : Nat} {xs : List α} {a : α} (hS : St W w (Own (tSl e U) [.slice A ln k] xs :: B)) (hg : guardOf ops F o = some true) {t e' : Nat} {x ix : Operand} {i j : TI}
    {kd : IntKind} {m : Int} (ho : o.op = .indexAddr t x ix) (hi : T.get t = some i) (hd : i.d = .slice e') (hj : T.get e' = some j) (hs : U.size = j.size) (hx : F.ev x = some (.slice A ln k)) (hm : F.ev ix = some (.int kd m))
    (h0 : 0 ≤ m) (ha : xs[m.toNat]? = some a) {d : Nat} (hd' : o.dst = some d) (hn : Nat.blt d n = true)
    (h : ∀ q es, ElAt U A m.toNat q → St W w (Hole U e (.slice A ln k) xs m.toNat es :: Own U es a :: B) → RW P n ops Q rest ((d, .pointer (some q)) :: F) w) : RW P n ops Q (o :: rest) F w := by
  have hlt := (List.getElem?_eq_some_iff.1 ha).1
  obtain ⟨es, h1⟩ := hS.focusN ha
  have hl := hS.lenEq
  exact RW.idxHole ht (U := U) (hS.ownAddr hlt) hg ho hi hd hj hs hx hm h0 (by omega) hd' hn fun q hq => h q es hq h1


theorem RW.idxAgain {α : Type} {U : Ty α} {B : List Res} {e : Nat} {A : Option Addr} {k ln : Nat} {xs : List α} {es : List Value} {m : Int} (hS : St W w (Hole U e (.slice A ln k) xs m.toNat es :: B)) (hg : guardOf ops F o = some true) {t e' : Nat} {x ix : Operand} {i j : TI}
    {kd : IntKind} (ho : o.op = .indexAddr t x ix) (hi : T.get t = some i) (hd : i.d = .slice e') (hj : T.get e' = some j) (hs : U.size = j.size) (hx : F.ev x = some (.slice A ln k)) (hm : F.ev ix = some (.int kd m))
    (h0 : 0 ≤ m) {d : Nat} (hd' : o.dst = some d) (hn : Nat.blt d n = true)
    (h : ∀ q, ElAt U A m.toNat q → RW P n ops Q rest ((d, .pointer (some q)) :: F) w) : RW P n ops Q (o :: rest) F w := by
  obtain ⟨hl, hlt, hA⟩ := hS.hole_len
  exact RW.idxHole ht (U := U) hA hg ho hi hd hj hs hx hm h0 (by omega) hd' hn h

theorem RW.storeHoleN {α : Type} {U : Ty α} {e : Nat} {A : Option Addr} {k m ln : Nat} {xs : List α} {es es' : List Value} {B : List Res} (hS : St W w (Hole U e (.slice A ln k) xs m es :: B)) {q : Addr} (hq : ElAt U A m q)
    (hg : guardOf ops F o = some true) {t : Nat} {x y : Operand} (ho : o.op = .store t x y) (hd : o.dst = none)
    {i : TI} (hi : T.get t = some i) {q' : Addr} (hx : F.ev x = some (.pointer (some q'))) (off : Nat) (hq' : q' = q.add off) {v : Value} (hy : F.ev y = some v) (hl : Nat.beq (cellsV v).length i.size = true)
    (h1 : oneCells (cellsV v) = true) (hs : setAt es off (cellsV v) = some es') (h : ∀ w', St W w' (Hole U e (.slice A ln k) xs m es' :: B) → RW P n ops Q rest F w') : RW P n ops Q (o :: rest) F w := by
  obtain ⟨hn, _, _⟩ := hS.hole_len
  subst hn
  exact RW.storeHole ht hS hq hg ho hd hi hx off hq' hy hl h1 hs h

theorem RW.idxOwnN {α : Type} {U : Ty α} {B : List Res} {e : Nat} {A : Option Addr} {k ln : Nat} {xs : List α} (hS : St W w (Own (tSl e U) [.slice A ln k] xs :: B)) (hg : guardOf ops F o = some true) {t e' : Nat} {x ix : Operand} {i j : TI}
    {kd : IntKind} {m : Int} (ho : o.op = .indexAddr t x ix) (hi : T.get t = some i) (hd : i.d = .slice e') (hj : T.get e' = some j) (hs : U.size = j.size) (hx : F.ev x = some (.slice A ln k)) (hm : F.ev ix = some (.int kd m))
    (h0 : 0 ≤ m) (hlt : m.toNat < xs.length) {d : Nat} (hd' : o.dst = some d) (hn : Nat.blt d n = true)
    (h : ∀ q, (∃ g, A = some ⟨g, 0, none⟩ ∧ q = ⟨g, m.toNat * U.size, none⟩) → RW P n ops Q rest ((d, .pointer (some q)) :: F) w) : RW P n ops Q (o :: rest) F w := by
  have hl := hS.lenEq
  subst hl
  exact RW.idxOwn ht hS hg ho hi hd hj hs hx hm h0 hlt hd' hn h

theorem RW.storeElN {α : Type} {U : Ty α} {B : List Res} {e : Nat} {A : Option Addr} {k ln : Nat} {xs : List α} {y : α} {es' : List Value} (hS : St W w (Own (tSl e U) [.slice A ln k] xs :: Own U es' y :: B)) (hg : guardOf ops F o = some true)
    {t : Nat} {x yv : Operand} (ho : o.op = .store t x yv) (hd : o.dst = none) {j : TI} (hj : T.get t = some j) (hs : U.size = j.size) {q : Addr} (hx : F.ev x = some (.pointer (some q))) {m : Nat} (hlt : m < xs.length)
    (hq : ∃ g, A = some ⟨g, 0, none⟩ ∧ q = ⟨g, m * U.size, none⟩) {v : Value} (hy : F.ev yv = some v) (hc : cellsV v = es')
    (h : ∀ w', St W w' (Own (tSl e U) [.slice A ln k] (xs.set m y) :: B) → RW P n ops Q rest F w') : RW P n ops Q (o :: rest) F w := by
  have hl := hS.lenEq
  subst hl
  refine RW.storeEl ht hS hg ho hd hj hs hx hlt hq hy hc fun w' h' => h w' ?_
  rwa [List.length_set] at h'
end
end Go.E

