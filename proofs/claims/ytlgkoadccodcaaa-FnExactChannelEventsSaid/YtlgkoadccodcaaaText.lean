/- Texts: joining two, making one of bytes. Conditions: none (rules). -/
import Derived.Test.YtlgkoadccodcaaaParam
import Derived.Laws.BytesArg
import Derived.Laws.Concat
namespace Go.E
open Go.RowKit

theorem Quiet.cat {P : Program} {n : Nat} {F : Fr} {w : World} {o : Oper} {t u : Nat} {x y : Operand} {a b : ByteArray} (ho : o.op = .binOp .add t x y u) (hx : F.ev x = some (.string a)) (hy : F.ev y = some (.string b))
    (h : a.size + b.size ≤ 9223372036854775807) : Quiet P n F w o (.string (a ++ b)) := by
  intro c w' hc _
  unfold execOp
  rw [ho]
  have hr := run_string_add_sum (P := P) w' a b h
  have hg : (eqGuard .add t x y (.string a) (.string b)).run P w' = .ok () w' := by unfold eqGuard; simp
  simp [hc.ev hx, hc.ev hy, hg, binOp_string_add, hr]

theorem Quiet.rem {P : Program} {n : Nat} {F : Fr} {w : World} {o : Oper} {t u : Nat} {x y : Operand} {k : IntKind} {a b : Int} (ho : o.op = .binOp .rem t x y u) (hx : F.ev x = some (.int k a)) (hy : F.ev y = some (.int k b))
    (h : b ≠ 0) : Quiet P n F w o (.int k (a.tmod b)) := by
  intro c w' hc _
  unfold execOp
  rw [ho]
  have hg : (eqGuard .rem t x y (.int k a) (.int k b)).run P w' = .ok () w' := by unfold eqGuard; simp
  simp [hc.ev hx, hc.ev hy, hg, run_rem k a b h t w']

theorem Quiet.quo {P : Program} {n : Nat} {F : Fr} {w : World} {o : Oper} {t u : Nat} {x y : Operand} {k : IntKind} {a b : Int} (ho : o.op = .binOp .quo t x y u) (hx : F.ev x = some (.int k a)) (hy : F.ev y = some (.int k b))
    (h : b ≠ 0) : Quiet P n F w o (.int k (k.wrap (a.tdiv b))) := by
  intro c w' hc _
  unfold execOp
  rw [ho]
  have hg : (eqGuard .quo t x y (.int k a) (.int k b)).run P w' = .ok () w' := by unfold eqGuard; simp
  simp [hc.ev hx, hc.ev hy, hg, run_quo k a b h t w']

theorem Els.ints {k : IntKind} {w : World} : ∀ {xs : List Int} {cs : List Value}, Els (tIntK k) w cs xs → cs = xs.map (Value.int k)
  | [], _, h => h
  | x :: xs, _, ⟨c, d, h, h1, h2⟩ => by
    have h1' : c = [.int k x] := h1
    rw [h, h1', Els.ints h2]; rfl

theorem Quiet.bytesStr {P : Program} {T : TT} (ht : TTok P T) {n : Nat} {F : Fr} {w : World} {o : Oper} {s d e : Nat} {x : Operand} {i j l : TI} {A : Option Addr} {len c : Nat} {xs : List Int} (ho : o.op = .convert s d x)
    (hi : T.get s = some i) (hd : i.d = .slice e) (hj : T.get e = some j) (hjd : j.d = .int .u8) (hl : T.get d = some l) (hld : l.d = .str) (hx : F.ev x = some (.slice A len c)) {e' : Nat} (hr : (tSl e' (tIntK .u8)).ro w [.slice A len c] xs) :
    Quiet P n F w o (.string (strOfNums xs)) := by
  intro a w' ha hex
  obtain ⟨A', c', els, he, hc, hels, hat⟩ := hr
  simp only [List.cons.injEq, Value.slice.injEq, and_true] at he
  obtain ⟨rfl, rfl, rfl⟩ := he
  have hcs := hels.ints
  unfold execOp
  rw [ho]
  have hrun : (convert s d (.slice A xs.length c)).run P w' = .ok (.string (strOfNums xs)) w' := by
    cases A with
    | none =>
      have hn : xs = [] := by
        cases xs with
        | nil => rfl
        | cons y ys => obtain ⟨p, hp, _⟩ := hat (by rw [hcs]; simp); cases hp
      subst hn
      rw [run_convert_bytes_nil (P := P) w' s e (ht.slice hi hd) (ht.int hj hjd) _ _ d (ht.str hl hld)]
      rfl
    | some p =>
      have hl' : (loadCells p xs.length).run P w' = .ok (xs.map (Value.int .u8)).toArray w' := by
        have := run_loadCells_list (P := P) w' p (xs.map (Value.int .u8)) (fun j v hj => by
          have hne : els ≠ [] := by rw [hcs]; rintro h0; rw [h0] at hj; simp at hj
          obtain ⟨p', hp', hA⟩ := hat hne
          simp only [Option.some.injEq] at hp'
          subst hp'
          exact hex.cell (hA j v (by rw [hcs]; exact hj)))
        simpa using this
      rw [run_convert_bytes_string w' s d e _ xs.length c (ht.slice hi hd) (ht.int hj hjd) (ht.str hl hld), run_bytesToString w' _ xs.length c xs hl', foldl_push_bytes]
      simp [strOfNums, ByteArray.empty, ByteArray.emptyWithCapacity]
      rfl
  simp [ha.ev hx, hrun]
end Go.E
