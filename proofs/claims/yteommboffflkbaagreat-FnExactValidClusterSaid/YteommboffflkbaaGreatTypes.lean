/- The types of the data, as tables and as plain Lean types (written by program). Conditions: none. -/
import Derived.Test.YteommboffflkbaaGreatMaps
import Derived.Test.YteommboffflkbaaGreatProg
import Derived.KernelRfl
namespace Go.E
open Go.RowKit Go.Proofs
set_option linter.unusedVariables false
set_option linter.unusedSimpArgs false


def tt : TT := [
  ⟨2, .int .i64, 1, [.int .i64 0], 8⟩,
  ⟨3, .int .i64, 1, [.int .i64 0], 8⟩,
  ⟨4, .bool, 1, [.bool false], 1⟩,
  ⟨22, .slice 199, 1, [.slice none 0 0], 24⟩,
  ⟨24, .struct [(0, 1, false, 2), (1, 1, false, 2), (2, 1, false, 2)], 3, [.int .i64 0, .int .i64 0, .int .i64 0], 24⟩,
  ⟨26, .struct [(0, 1, false, 22), (1, 3, true, 24)], 4, [.slice none 0 0, .int .i64 0, .int .i64 0, .int .i64 0], 48⟩,
  ⟨27, .slice 141, 1, [.slice none 0 0], 24⟩,
  ⟨28, .slice 29, 1, [.slice none 0 0], 24⟩,
  ⟨29, .slice 2, 1, [.slice none 0 0], 24⟩,
  ⟨31, .struct [(0, 4, true, 26), (4, 1, false, 27), (5, 1, false, 28), (6, 1, false, 29), (7, 1, false, 29)], 8, [.slice none 0 0, .int .i64 0, .int .i64 0, .int .i64 0, .slice none 0 0, .slice none 0 0, .slice none 0 0, .slice none 0 0], 144⟩,
  ⟨34, .slice 166, 1, [.slice none 0 0], 24⟩,
  ⟨35, .struct [(0, 1, false, 2), (1, 1, false, 2), (2, 1, false, 2)], 3, [.int .i64 0, .int .i64 0, .int .i64 0], 24⟩,
  ⟨37, .struct [(0, 1, false, 34), (1, 3, true, 35)], 4, [.slice none 0 0, .int .i64 0, .int .i64 0, .int .i64 0], 48⟩,
  ⟨38, .slice 149, 1, [.slice none 0 0], 24⟩,
  ⟨40, .struct [(0, 4, true, 37), (4, 1, false, 38), (5, 1, false, 28), (6, 1, false, 29), (7, 1, false, 29)], 8, [.slice none 0 0, .int .i64 0, .int .i64 0, .int .i64 0, .slice none 0 0, .slice none 0 0, .slice none 0 0, .slice none 0 0], 144⟩,
  ⟨51, .slice 114, 1, [.slice none 0 0], 24⟩,
  ⟨56, .slice 4, 1, [.slice none 0 0], 24⟩,
  ⟨58, .struct [(0, 8, true, 31), (8, 1, false, 2), (9, 1, false, 2), (10, 1, false, 4), (11, 1, false, 56), (12, 1, false, 2), (13, 1, false, 4)], 14, [.slice none 0 0, .int .i64 0, .int .i64 0, .int .i64 0, .slice none 0 0, .slice none 0 0, .slice none 0 0, .slice none 0 0, .int .i64 0, .int .i64 0, .bool false, .slice none 0 0, .int .i64 0, .bool false], 208⟩,
  ⟨62, .struct [(0, 8, true, 40), (8, 1, false, 2), (9, 1, false, 2), (10, 1, false, 4), (11, 1, false, 56), (12, 1, false, 2), (13, 1, false, 4)], 14, [.slice none 0 0, .int .i64 0, .int .i64 0, .int .i64 0, .slice none 0 0, .slice none 0 0, .slice none 0 0, .slice none 0 0, .int .i64 0, .int .i64 0, .bool false, .slice none 0 0, .int .i64 0, .bool false], 208⟩,
  ⟨67, .struct [(0, 1, false, 56), (1, 1, false, 22), (2, 1, false, 28), (3, 1, false, 56), (4, 1, false, 27)], 5, [.slice none 0 0, .slice none 0 0, .slice none 0 0, .slice none 0 0, .slice none 0 0], 120⟩,
  ⟨69, .struct [(0, 8, true, 31), (8, 5, true, 67)], 13, [.slice none 0 0, .int .i64 0, .int .i64 0, .int .i64 0, .slice none 0 0, .slice none 0 0, .slice none 0 0, .slice none 0 0, .slice none 0 0, .slice none 0 0, .slice none 0 0, .slice none 0 0, .slice none 0 0], 264⟩,
  ⟨73, .struct [(0, 1, false, 56), (1, 1, false, 34), (2, 1, false, 28), (3, 1, false, 56), (4, 1, false, 38)], 5, [.slice none 0 0, .slice none 0 0, .slice none 0 0, .slice none 0 0, .slice none 0 0], 120⟩,
  ⟨75, .struct [(0, 8, true, 40), (8, 5, true, 73)], 13, [.slice none 0 0, .int .i64 0, .int .i64 0, .int .i64 0, .slice none 0 0, .slice none 0 0, .slice none 0 0, .slice none 0 0, .slice none 0 0, .slice none 0 0, .slice none 0 0, .slice none 0 0, .slice none 0 0], 264⟩,
  ⟨91, .ptr 40, 1, [.pointer none], 8⟩,
  ⟨102, .slice 171, 1, [.slice none 0 0], 24⟩,
  ⟨114, .struct [(0, 1, false, 2), (1, 1, false, 2), (2, 1, false, 2)], 3, [.int .i64 0, .int .i64 0, .int .i64 0], 24⟩,
  ⟨117, .ptr 62, 1, [.pointer none], 8⟩,
  ⟨124, .ptr 75, 1, [.pointer none], 8⟩,
  ⟨141, .slice 205, 1, [.slice none 0 0], 24⟩,
  ⟨142, .ptr 221, 1, [.pointer none], 8⟩,
  ⟨146, .ptr 37, 1, [.pointer none], 8⟩,
  ⟨149, .slice 156, 1, [.slice none 0 0], 24⟩,
  ⟨152, .slice 35, 1, [.slice none 0 0], 24⟩,
  ⟨154, .struct [(0, 1, false, 2), (1, 1, false, 2), (2, 1, false, 2), (3, 1, false, 29), (4, 1, false, 152)], 5, [.int .i64 0, .int .i64 0, .int .i64 0, .slice none 0 0, .slice none 0 0], 72⟩,
  ⟨156, .struct [(0, 1, false, 2), (1, 5, true, 154), (6, 3, true, 35), (9, 3, true, 35)], 12, [.int .i64 0, .int .i64 0, .int .i64 0, .int .i64 0, .slice none 0 0, .slice none 0 0, .int .i64 0, .int .i64 0, .int .i64 0, .int .i64 0, .int .i64 0, .int .i64 0], 128⟩,
  ⟨162, .slice 154, 1, [.slice none 0 0], 24⟩,
  ⟨163, .slice 223, 1, [.slice none 0 0], 24⟩,
  ⟨164, .slice 239, 1, [.slice none 0 0], 24⟩,
  ⟨166, .struct [(0, 1, false, 162), (1, 1, false, 163), (2, 1, false, 164)], 3, [.slice none 0 0, .slice none 0 0, .slice none 0 0], 72⟩,
  ⟨169, .struct [(0, 3, true, 35), (3, 1, false, 2), (4, 1, false, 4)], 5, [.int .i64 0, .int .i64 0, .int .i64 0, .int .i64 0, .bool false], 40⟩,
  ⟨171, .struct [(0, 5, true, 169), (5, 5, true, 169)], 10, [.int .i64 0, .int .i64 0, .int .i64 0, .int .i64 0, .bool false, .int .i64 0, .int .i64 0, .int .i64 0, .int .i64 0, .bool false], 80⟩,
  ⟨182, .ptr 73, 1, [.pointer none], 8⟩,
  ⟨195, .slice 203, 1, [.slice none 0 0], 24⟩,
  ⟨196, .slice 288, 1, [.slice none 0 0], 24⟩,
  ⟨197, .slice 291, 1, [.slice none 0 0], 24⟩,
  ⟨199, .struct [(0, 1, false, 195), (1, 1, false, 196), (2, 1, false, 197)], 3, [.slice none 0 0, .slice none 0 0, .slice none 0 0], 72⟩,
  ⟨201, .slice 24, 1, [.slice none 0 0], 24⟩,
  ⟨203, .struct [(0, 1, false, 2), (1, 1, false, 2), (2, 1, false, 2), (3, 1, false, 29), (4, 1, false, 201)], 5, [.int .i64 0, .int .i64 0, .int .i64 0, .slice none 0 0, .slice none 0 0], 72⟩,
  ⟨205, .struct [(0, 1, false, 2), (1, 5, true, 203), (6, 3, true, 24), (9, 3, true, 24)], 12, [.int .i64 0, .int .i64 0, .int .i64 0, .int .i64 0, .slice none 0 0, .slice none 0 0, .int .i64 0, .int .i64 0, .int .i64 0, .int .i64 0, .int .i64 0, .int .i64 0], 128⟩,
  ⟨209, .ptr 156, 1, [.pointer none], 8⟩,
  ⟨214, .ptr 154, 1, [.pointer none], 8⟩,
  ⟨218, .slice 262, 1, [.slice none 0 0], 24⟩,
  ⟨219, .slice 264, 1, [.slice none 0 0], 24⟩,
  ⟨221, .struct [(0, 1, false, 218), (1, 1, false, 219), (2, 1, false, 28), (3, 1, false, 28), (4, 1, false, 28), (5, 1, false, 28)], 6, [.slice none 0 0, .slice none 0 0, .slice none 0 0, .slice none 0 0, .slice none 0 0, .slice none 0 0], 144⟩,
  ⟨223, .struct [(0, 1, false, 4), (1, 1, false, 4), (2, 3, true, 35)], 5, [.bool false, .bool false, .int .i64 0, .int .i64 0, .int .i64 0], 32⟩,
  ⟨235, .other, 1, [.map none], 8⟩,
  ⟨239, .struct [(0, 3, true, 35), (3, 3, true, 35)], 6, [.int .i64 0, .int .i64 0, .int .i64 0, .int .i64 0, .int .i64 0, .int .i64 0], 48⟩,
  ⟨254, .ptr 166, 1, [.pointer none], 8⟩,
  ⟨262, .struct [(0, 1, false, 2), (1, 1, false, 2), (2, 1, false, 2), (3, 1, false, 29), (4, 1, false, 219)], 5, [.int .i64 0, .int .i64 0, .int .i64 0, .slice none 0 0, .slice none 0 0], 72⟩,
  ⟨264, .struct [(0, 1, false, 2), (1, 1, false, 2)], 2, [.int .i64 0, .int .i64 0], 16⟩,
  ⟨275, .slice 169, 1, [.slice none 0 0], 24⟩,
  ⟨285, .ptr 262, 1, [.pointer none], 8⟩,
  ⟨288, .struct [(0, 1, false, 4), (1, 1, false, 4), (2, 3, true, 24)], 5, [.bool false, .bool false, .int .i64 0, .int .i64 0, .int .i64 0], 32⟩,
  ⟨291, .struct [(0, 3, true, 24), (3, 3, true, 24)], 6, [.int .i64 0, .int .i64 0, .int .i64 0, .int .i64 0, .int .i64 0, .int .i64 0], 48⟩]

def zerosOk (P : Program) : TT → Prop
  | [] => True
  | i :: r => (P.info? i.id).map (fun j => j.zero.map (fun v => v.cells.toList)) = some (some i.zero) ∧ zerosOk P r

theorem z9T {P : Program} : ∀ {T : TT}, zerosOk P T → ∀ i, i ∈ T → (P.info? i.id).map (fun j => j.zero.map (fun v => v.cells.toList)) = some (some i.zero)
  | [], _, i, h => by cases h
  | _ :: _, ⟨h1, h2⟩, i, h => by
    rcases List.mem_cons.1 h with rfl | h
    · exact h1
    · exact z9T h2 i h

theorem zhE : tt.all (infoOk Tryz.prog) = true := by kernel_rfl
theorem zgh : zerosOk Tryz.prog tt := ⟨by kernel_rfl, by kernel_rfl, by kernel_rfl, by kernel_rfl, by kernel_rfl, by kernel_rfl, by kernel_rfl, by kernel_rfl, by kernel_rfl, by kernel_rfl, by kernel_rfl, by kernel_rfl, by kernel_rfl, by kernel_rfl, by kernel_rfl, by kernel_rfl, by kernel_rfl, by kernel_rfl, by kernel_rfl, by kernel_rfl, by kernel_rfl, by kernel_rfl, by kernel_rfl, by kernel_rfl, by kernel_rfl, by kernel_rfl, by kernel_rfl, by kernel_rfl, by kernel_rfl, by kernel_rfl, by kernel_rfl, by kernel_rfl, by kernel_rfl, by kernel_rfl, by kernel_rfl, by kernel_rfl, by kernel_rfl, by kernel_rfl, by kernel_rfl, by kernel_rfl, by kernel_rfl, by kernel_rfl, by kernel_rfl, by kernel_rfl, by kernel_rfl, by kernel_rfl, by kernel_rfl, by kernel_rfl, by kernel_rfl, by kernel_rfl, by kernel_rfl, by kernel_rfl, by kernel_rfl, by kernel_rfl, by kernel_rfl, by kernel_rfl, by kernel_rfl, by kernel_rfl, by kernel_rfl, by kernel_rfl, by kernel_rfl, by kernel_rfl, by kernel_rfl, by kernel_rfl, trivial⟩
theorem ttok : TTok Tryz.prog tt := ⟨List.all_eq_true.1 zhE, z9T zgh⟩
theorem mixed : Tryz.prog.follows .mixedOrders = true := by kernel_rfl

structure D.Address where
  Machine : Int
  Kind : Int
  Index : Int
deriving Inhabited, DecidableEq

structure D.ShardCell where
  Kind : Int
  Level : Int
  Value : Int
  Data : (List Int)
  Aux : (List D.Address)
deriving Inhabited, DecidableEq

structure D.ShardVar where
  Used : Bool
  Full : Bool
  Held : D.Address
deriving Inhabited, DecidableEq

structure D.ShardRedex where
  A : D.Address
  B : D.Address
deriving Inhabited, DecidableEq

structure D.Shard where
  Cells : (List D.ShardCell)
  Vars : (List D.ShardVar)
  Redexes : (List D.ShardRedex)
deriving Inhabited, DecidableEq

structure D.Grid where
  Shards : (List D.Shard)
  Root : D.Address
deriving Inhabited, DecidableEq

structure D.Parcel where
  Kind : Int
  Cell : D.ShardCell
  A : D.Address
  B : D.Address
deriving Inhabited, DecidableEq

structure D.Cluster where
  Grid : D.Grid
  Channels : (List (List D.Parcel))
  Counts : (List (List Int))
  Sent : (List Int)
  Got : (List Int)
deriving Inhabited, DecidableEq

structure D.thing where
  at_ : D.Address
  slot : Int
  own : Bool
deriving Inhabited, DecidableEq

structure D.statement where
  a : D.thing
  b : D.thing
deriving Inhabited, DecidableEq

structure D.Port where
  Agent : Int
  Slot : Int
deriving Inhabited, DecidableEq

structure D.Agent where
  Kind : Int
  Level : Int
  Value : Int
  Data : (List Int)
  Ports : (List D.Port)
deriving Inhabited, DecidableEq

structure D.l27Links where
  agents : (List D.Agent)
  ports : (List D.Port)
  cells : (List (List Int))
  vars : (List (List Int))
  ends : (List (List Int))
  pairs : (List (List Int))
deriving Inhabited, DecidableEq

def ty29 : Ty (List Int) := tSl 2 tInt
instance {W : World} : Reads W ty29 := inferInstanceAs (Reads W (tSl 2 tInt))
theorem z1H {w : World} {cs : List Value} {xs : (List Int)} (h : ty29.ro w cs xs) : ∃ A c, cs = [.slice A xs.length c] := slForm h

def ty24 : Ty D.Address := tMap (fun c => (c.Machine, c.Kind, c.Index, ())) (tPair tInt (tPair tInt (tPair tInt tUnit)))
instance {W : World} : Reads W ty24 := inferInstanceAs (Reads W (tMap (fun c : D.Address => (c.Machine, c.Kind, c.Index, ())) (tPair tInt (tPair tInt (tPair tInt tUnit)))))
theorem z6F {w : World} {cs : List Value} {c : D.Address} (h : ty24.ro w cs c) : cs = [.int .i64 c.Machine, .int .i64 c.Kind, .int .i64 c.Index] := by
  obtain ⟨c0, d0, rfl, h0, c1, d1, rfl, h1, c2, d2, rfl, h2, hz⟩ := h
  subst hz
  subst h0
  subst h1
  subst h2
  rfl
theorem z72 {w : World} (c : D.Address)   : ty24.ro w [.int .i64 c.Machine, .int .i64 c.Kind, .int .i64 c.Index] c :=
  ⟨_, _, rfl, rfl, ⟨_, _, rfl, rfl, ⟨_, _, rfl, rfl, rfl⟩⟩⟩
def zaK : Ty (List D.Address) := tSl 24 ty24
instance {W : World} : Reads W zaK := inferInstanceAs (Reads W (tSl 24 ty24))
theorem zdG {w : World} {cs : List Value} {xs : (List D.Address)} (h : zaK.ro w cs xs) : ∃ A c, cs = [.slice A xs.length c] := slForm h

def zaJ : Ty D.ShardCell := tMap (fun c => (c.Kind, c.Level, c.Value, c.Data, c.Aux, ())) (tPair tInt (tPair tInt (tPair tInt (tPair ty29 (tPair zaK tUnit)))))
instance {W : World} : Reads W zaJ := inferInstanceAs (Reads W (tMap (fun c : D.ShardCell => (c.Kind, c.Level, c.Value, c.Data, c.Aux, ())) (tPair tInt (tPair tInt (tPair tInt (tPair ty29 (tPair zaK tUnit)))))))
theorem z7z {w : World} {cs : List Value} {c : D.ShardCell} (h : zaJ.ro w cs c) : ∃ A0 k0 A1 k1, cs = [.int .i64 c.Kind, .int .i64 c.Level, .int .i64 c.Value, .slice A0 c.Data.length k0, .slice A1 c.Aux.length k1] ∧ ty29.ro w [.slice A0 c.Data.length k0] c.Data ∧ zaK.ro w [.slice A1 c.Aux.length k1] c.Aux := by
  obtain ⟨c0, d0, rfl, h0, c1, d1, rfl, h1, c2, d2, rfl, h2, c3, d3, rfl, h3, c4, d4, rfl, h4, hz⟩ := h
  subst hz
  subst h0
  subst h1
  subst h2
  obtain ⟨A3_, k3_, e3⟩ := z1H h3
  subst e3
  obtain ⟨A4_, k4_, e4⟩ := zdG h4
  subst e4
  exact ⟨A3_, k3_, A4_, k4_, rfl, h3, h4⟩
theorem zb6 {w : World} (c : D.ShardCell) {A0 : Option Addr} {k0 : Nat} {A1 : Option Addr} {k1 : Nat} (h0 : ty29.ro w [.slice A0 c.Data.length k0] c.Data) (h1 : zaK.ro w [.slice A1 c.Aux.length k1] c.Aux) : zaJ.ro w [.int .i64 c.Kind, .int .i64 c.Level, .int .i64 c.Value, .slice A0 c.Data.length k0, .slice A1 c.Aux.length k1] c :=
  ⟨_, _, rfl, rfl, ⟨_, _, rfl, rfl, ⟨_, _, rfl, rfl, ⟨_, _, rfl, h0, ⟨_, _, rfl, h1, rfl⟩⟩⟩⟩⟩
def zbZ : Ty (List D.ShardCell) := tSl 203 zaJ
instance {W : World} : Reads W zbZ := inferInstanceAs (Reads W (tSl 203 zaJ))
theorem zdK {w : World} {cs : List Value} {xs : (List D.ShardCell)} (h : zbZ.ro w cs xs) : ∃ A c, cs = [.slice A xs.length c] := slForm h

def zdD : Ty D.ShardVar := tMap (fun c => (c.Used, c.Full, c.Held, ())) (tPair tBool (tPair tBool (tPair ty24 tUnit)))
instance {W : World} : Reads W zdD := inferInstanceAs (Reads W (tMap (fun c : D.ShardVar => (c.Used, c.Full, c.Held, ())) (tPair tBool (tPair tBool (tPair ty24 tUnit)))))
theorem zb0 {w : World} {cs : List Value} {c : D.ShardVar} (h : zdD.ro w cs c) : cs = [.bool c.Used, .bool c.Full, .int .i64 c.Held.Machine, .int .i64 c.Held.Kind, .int .i64 c.Held.Index] := by
  obtain ⟨c0, d0, rfl, h0, c1, d1, rfl, h1, c2, d2, rfl, h2, hz⟩ := h
  subst hz
  subst h0
  subst h1
  have e2 := z6F h2
  subst e2
  rfl
def zbY : Ty (List D.ShardVar) := tSl 288 zdD
instance {W : World} : Reads W zbY := inferInstanceAs (Reads W (tSl 288 zdD))
theorem zdJ {w : World} {cs : List Value} {xs : (List D.ShardVar)} (h : zbY.ro w cs xs) : ∃ A c, cs = [.slice A xs.length c] := slForm h

def zdC : Ty D.ShardRedex := tMap (fun c => (c.A, c.B, ())) (tPair ty24 (tPair ty24 tUnit))
instance {W : World} : Reads W zdC := inferInstanceAs (Reads W (tMap (fun c : D.ShardRedex => (c.A, c.B, ())) (tPair ty24 (tPair ty24 tUnit))))
theorem zaZ {w : World} {cs : List Value} {c : D.ShardRedex} (h : zdC.ro w cs c) : cs = [.int .i64 c.A.Machine, .int .i64 c.A.Kind, .int .i64 c.A.Index, .int .i64 c.B.Machine, .int .i64 c.B.Kind, .int .i64 c.B.Index] := by
  obtain ⟨c0, d0, rfl, h0, c1, d1, rfl, h1, hz⟩ := h
  subst hz
  have e0 := z6F h0
  subst e0
  have e1 := z6F h1
  subst e1
  rfl
def zbX : Ty (List D.ShardRedex) := tSl 291 zdC
instance {W : World} : Reads W zbX := inferInstanceAs (Reads W (tSl 291 zdC))
theorem zdH {w : World} {cs : List Value} {xs : (List D.ShardRedex)} (h : zbX.ro w cs xs) : ∃ A c, cs = [.slice A xs.length c] := slForm h

def zcV : Ty D.Shard := tMap (fun c => (c.Cells, c.Vars, c.Redexes, ())) (tPair zbZ (tPair zbY (tPair zbX tUnit)))
instance {W : World} : Reads W zcV := inferInstanceAs (Reads W (tMap (fun c : D.Shard => (c.Cells, c.Vars, c.Redexes, ())) (tPair zbZ (tPair zbY (tPair zbX tUnit)))))
theorem z8n {w : World} {cs : List Value} {c : D.Shard} (h : zcV.ro w cs c) : ∃ A0 k0 A1 k1 A2 k2, cs = [.slice A0 c.Cells.length k0, .slice A1 c.Vars.length k1, .slice A2 c.Redexes.length k2] ∧ zbZ.ro w [.slice A0 c.Cells.length k0] c.Cells ∧ zbY.ro w [.slice A1 c.Vars.length k1] c.Vars ∧ zbX.ro w [.slice A2 c.Redexes.length k2] c.Redexes := by
  obtain ⟨c0, d0, rfl, h0, c1, d1, rfl, h1, c2, d2, rfl, h2, hz⟩ := h
  subst hz
  obtain ⟨A0_, k0_, e0⟩ := zdK h0
  subst e0
  obtain ⟨A1_, k1_, e1⟩ := zdJ h1
  subst e1
  obtain ⟨A2_, k2_, e2⟩ := zdH h2
  subst e2
  exact ⟨A0_, k0_, A1_, k1_, A2_, k2_, rfl, h0, h1, h2⟩
def ty22 : Ty (List D.Shard) := tSl 199 zcV
instance {W : World} : Reads W ty22 := inferInstanceAs (Reads W (tSl 199 zcV))
theorem zek {w : World} {cs : List Value} {xs : (List D.Shard)} (h : ty22.ro w cs xs) : ∃ A c, cs = [.slice A xs.length c] := slForm h

def ty26 : Ty D.Grid := tMap (fun c => (c.Shards, c.Root, ())) (tPair ty22 (tPair ty24 tUnit))
instance {W : World} : Reads W ty26 := inferInstanceAs (Reads W (tMap (fun c : D.Grid => (c.Shards, c.Root, ())) (tPair ty22 (tPair ty24 tUnit))))
theorem z9V {w : World} {cs : List Value} {c : D.Grid} (h : ty26.ro w cs c) : ∃ A0 k0, cs = [.slice A0 c.Shards.length k0, .int .i64 c.Root.Machine, .int .i64 c.Root.Kind, .int .i64 c.Root.Index] ∧ ty22.ro w [.slice A0 c.Shards.length k0] c.Shards := by
  obtain ⟨c0, d0, rfl, h0, c1, d1, rfl, h1, hz⟩ := h
  subst hz
  obtain ⟨A0_, k0_, e0⟩ := zek h0
  subst e0
  have e1 := z6F h1
  subst e1
  exact ⟨A0_, k0_, rfl, h0⟩
theorem zbW {w : World} (c : D.Grid) {A0 : Option Addr} {k0 : Nat} (h0 : ty22.ro w [.slice A0 c.Shards.length k0] c.Shards) : ty26.ro w [.slice A0 c.Shards.length k0, .int .i64 c.Root.Machine, .int .i64 c.Root.Kind, .int .i64 c.Root.Index] c :=
  ⟨_, _, rfl, h0, ⟨_, _, rfl, (z72 c.Root ), rfl⟩⟩
def zcU : Ty D.Parcel := tMap (fun c => (c.Kind, c.Cell, c.A, c.B, ())) (tPair tInt (tPair zaJ (tPair ty24 (tPair ty24 tUnit))))
instance {W : World} : Reads W zcU := inferInstanceAs (Reads W (tMap (fun c : D.Parcel => (c.Kind, c.Cell, c.A, c.B, ())) (tPair tInt (tPair zaJ (tPair ty24 (tPair ty24 tUnit))))))
theorem z8m {w : World} {cs : List Value} {c : D.Parcel} (h : zcU.ro w cs c) : ∃ A0 k0 A1 k1, cs = [.int .i64 c.Kind, .int .i64 c.Cell.Kind, .int .i64 c.Cell.Level, .int .i64 c.Cell.Value, .slice A0 c.Cell.Data.length k0, .slice A1 c.Cell.Aux.length k1, .int .i64 c.A.Machine, .int .i64 c.A.Kind, .int .i64 c.A.Index, .int .i64 c.B.Machine, .int .i64 c.B.Kind, .int .i64 c.B.Index] ∧ ty29.ro w [.slice A0 c.Cell.Data.length k0] c.Cell.Data ∧ zaK.ro w [.slice A1 c.Cell.Aux.length k1] c.Cell.Aux := by
  obtain ⟨c0, d0, rfl, h0, c1, d1, rfl, h1, c2, d2, rfl, h2, c3, d3, rfl, h3, hz⟩ := h
  subst hz
  subst h0
  obtain ⟨A1_0, k1_0, A1_1, k1_1, e1, g1_0, g1_1⟩ := z7z h1
  subst e1
  have e2 := z6F h2
  subst e2
  have e3 := z6F h3
  subst e3
  exact ⟨A1_0, k1_0, A1_1, k1_1, rfl, g1_0, g1_1⟩
def zcZ : Ty (List D.Parcel) := tSl 205 zcU
instance {W : World} : Reads W zcZ := inferInstanceAs (Reads W (tSl 205 zcU))
theorem zba {w : World} {cs : List Value} {xs : (List D.Parcel)} (h : zcZ.ro w cs xs) : ∃ A c, cs = [.slice A xs.length c] := slForm h

def ty27 : Ty (List (List D.Parcel)) := tSl 141 zcZ
instance {W : World} : Reads W ty27 := inferInstanceAs (Reads W (tSl 141 zcZ))
theorem zei {w : World} {cs : List Value} {xs : (List (List D.Parcel))} (h : ty27.ro w cs xs) : ∃ A c, cs = [.slice A xs.length c] := slForm h

def ty28 : Ty (List (List Int)) := tSl 29 ty29
instance {W : World} : Reads W ty28 := inferInstanceAs (Reads W (tSl 29 ty29))
theorem z7y {w : World} {cs : List Value} {xs : (List (List Int))} (h : ty28.ro w cs xs) : ∃ A c, cs = [.slice A xs.length c] := slForm h

def ty31 : Ty D.Cluster := tMap (fun c => (c.Grid, c.Channels, c.Counts, c.Sent, c.Got, ())) (tPair ty26 (tPair ty27 (tPair ty28 (tPair ty29 (tPair ty29 tUnit)))))
instance {W : World} : Reads W ty31 := inferInstanceAs (Reads W (tMap (fun c : D.Cluster => (c.Grid, c.Channels, c.Counts, c.Sent, c.Got, ())) (tPair ty26 (tPair ty27 (tPair ty28 (tPair ty29 (tPair ty29 tUnit)))))))
theorem z9U {w : World} {cs : List Value} {c : D.Cluster} (h : ty31.ro w cs c) : ∃ A0 k0 A1 k1 A2 k2 A3 k3 A4 k4, cs = [.slice A0 c.Grid.Shards.length k0, .int .i64 c.Grid.Root.Machine, .int .i64 c.Grid.Root.Kind, .int .i64 c.Grid.Root.Index, .slice A1 c.Channels.length k1, .slice A2 c.Counts.length k2, .slice A3 c.Sent.length k3, .slice A4 c.Got.length k4] ∧ ty22.ro w [.slice A0 c.Grid.Shards.length k0] c.Grid.Shards ∧ ty27.ro w [.slice A1 c.Channels.length k1] c.Channels ∧ ty28.ro w [.slice A2 c.Counts.length k2] c.Counts ∧ ty29.ro w [.slice A3 c.Sent.length k3] c.Sent ∧ ty29.ro w [.slice A4 c.Got.length k4] c.Got := by
  obtain ⟨c0, d0, rfl, h0, c1, d1, rfl, h1, c2, d2, rfl, h2, c3, d3, rfl, h3, c4, d4, rfl, h4, hz⟩ := h
  subst hz
  obtain ⟨A0_0, k0_0, e0, g0_0⟩ := z9V h0
  subst e0
  obtain ⟨A1_, k1_, e1⟩ := zei h1
  subst e1
  obtain ⟨A2_, k2_, e2⟩ := z7y h2
  subst e2
  obtain ⟨A3_, k3_, e3⟩ := z1H h3
  subst e3
  obtain ⟨A4_, k4_, e4⟩ := z1H h4
  subst e4
  exact ⟨A0_0, k0_0, A1_, k1_, A2_, k2_, A3_, k3_, A4_, k4_, rfl, g0_0, h1, h2, h3, h4⟩
def ty35 : Ty D.Address := tMap (fun c => (c.Machine, c.Kind, c.Index, ())) (tPair tInt (tPair tInt (tPair tInt tUnit)))
instance {W : World} : Reads W ty35 := inferInstanceAs (Reads W (tMap (fun c : D.Address => (c.Machine, c.Kind, c.Index, ())) (tPair tInt (tPair tInt (tPair tInt tUnit)))))
theorem z12 {w : World} {cs : List Value} {c : D.Address} (h : ty35.ro w cs c) : cs = [.int .i64 c.Machine, .int .i64 c.Kind, .int .i64 c.Index] := by
  obtain ⟨c0, d0, rfl, h0, c1, d1, rfl, h1, c2, d2, rfl, h2, hz⟩ := h
  subst hz
  subst h0
  subst h1
  subst h2
  rfl
theorem zr {w : World} (c : D.Address)   : ty35.ro w [.int .i64 c.Machine, .int .i64 c.Kind, .int .i64 c.Index] c :=
  ⟨_, _, rfl, rfl, ⟨_, _, rfl, rfl, ⟨_, _, rfl, rfl, rfl⟩⟩⟩
theorem z6E {w : World} {c : D.Address}  {G : List Nat} (h : (All []).A w G) : ty35.own w [.int .i64 c.Machine, .int .i64 c.Kind, .int .i64 c.Index] c G := by
  have hz : G = [] := h
  subst hz
  exact cast (congrArg _ (by simp)) (show ty35.own w [.int .i64 c.Machine, .int .i64 c.Kind, .int .i64 c.Index] c (_) from ⟨_, _, _, _, rfl, rfl, ⟨rfl, rfl⟩, ⟨_, _, _, _, rfl, rfl, ⟨rfl, rfl⟩, ⟨_, _, _, _, rfl, rfl, ⟨rfl, rfl⟩, ⟨rfl, rfl⟩⟩⟩⟩)
theorem zdB {W w : World} {B : List Res} {c : D.Address}  (h : St W w ([] ++ B)) : St W w (Own ty35 [.int .i64 c.Machine, .int .i64 c.Kind, .int .i64 c.Index] c :: B) := (St.fuseAll h).conv fun _ hG => z6E hG

def z66 : Ty (List D.Address) := tSl 35 ty35
instance {W : World} : Reads W z66 := inferInstanceAs (Reads W (tSl 35 ty35))
theorem zdQ {w : World} {cs : List Value} {xs : (List D.Address)} (h : z66.ro w cs xs) : ∃ A c, cs = [.slice A xs.length c] := slForm h

def z5E : Ty D.ShardCell := tMap (fun c => (c.Kind, c.Level, c.Value, c.Data, c.Aux, ())) (tPair tInt (tPair tInt (tPair tInt (tPair ty29 (tPair z66 tUnit)))))
instance {W : World} : Reads W z5E := inferInstanceAs (Reads W (tMap (fun c : D.ShardCell => (c.Kind, c.Level, c.Value, c.Data, c.Aux, ())) (tPair tInt (tPair tInt (tPair tInt (tPair ty29 (tPair z66 tUnit)))))))
theorem zM {w : World} {cs : List Value} {c : D.ShardCell} (h : z5E.ro w cs c) : ∃ A0 k0 A1 k1, cs = [.int .i64 c.Kind, .int .i64 c.Level, .int .i64 c.Value, .slice A0 c.Data.length k0, .slice A1 c.Aux.length k1] ∧ ty29.ro w [.slice A0 c.Data.length k0] c.Data ∧ z66.ro w [.slice A1 c.Aux.length k1] c.Aux := by
  obtain ⟨c0, d0, rfl, h0, c1, d1, rfl, h1, c2, d2, rfl, h2, c3, d3, rfl, h3, c4, d4, rfl, h4, hz⟩ := h
  subst hz
  subst h0
  subst h1
  subst h2
  obtain ⟨A3_, k3_, e3⟩ := z1H h3
  subst e3
  obtain ⟨A4_, k4_, e4⟩ := zdQ h4
  subst e4
  exact ⟨A3_, k3_, A4_, k4_, rfl, h3, h4⟩
theorem z4X {w : World} (c : D.ShardCell) {A0 : Option Addr} {k0 : Nat} {A1 : Option Addr} {k1 : Nat} (h0 : ty29.ro w [.slice A0 c.Data.length k0] c.Data) (h1 : z66.ro w [.slice A1 c.Aux.length k1] c.Aux) : z5E.ro w [.int .i64 c.Kind, .int .i64 c.Level, .int .i64 c.Value, .slice A0 c.Data.length k0, .slice A1 c.Aux.length k1] c :=
  ⟨_, _, rfl, rfl, ⟨_, _, rfl, rfl, ⟨_, _, rfl, rfl, ⟨_, _, rfl, h0, ⟨_, _, rfl, h1, rfl⟩⟩⟩⟩⟩
theorem z99 {w : World} {c : D.ShardCell} {A0 : Option Addr} {k0 : Nat} {A1 : Option Addr} {k1 : Nat} {G : List Nat} (h : (All [Own ty29 [.slice A0 c.Data.length k0] c.Data, Own z66 [.slice A1 c.Aux.length k1] c.Aux]).A w G) : z5E.own w [.int .i64 c.Kind, .int .i64 c.Level, .int .i64 c.Value, .slice A0 c.Data.length k0, .slice A1 c.Aux.length k1] c G := by
  obtain ⟨G0, R0, rfl, h0, G1, R1, rfl, h1, hz⟩ := h
  have hz' : R1 = [] := hz
  subst hz'
  exact cast (congrArg _ (by simp)) (show z5E.own w [.int .i64 c.Kind, .int .i64 c.Level, .int .i64 c.Value, .slice A0 c.Data.length k0, .slice A1 c.Aux.length k1] c (_) from ⟨_, _, _, _, rfl, rfl, ⟨rfl, rfl⟩, ⟨_, _, _, _, rfl, rfl, ⟨rfl, rfl⟩, ⟨_, _, _, _, rfl, rfl, ⟨rfl, rfl⟩, ⟨_, _, _, _, rfl, rfl, h0, ⟨_, _, _, _, rfl, rfl, h1, ⟨rfl, rfl⟩⟩⟩⟩⟩⟩)
theorem zcY {W w : World} {B : List Res} {c : D.ShardCell} {A0 : Option Addr} {k0 : Nat} {A1 : Option Addr} {k1 : Nat} (h : St W w ([Own ty29 [.slice A0 c.Data.length k0] c.Data, Own z66 [.slice A1 c.Aux.length k1] c.Aux] ++ B)) : St W w (Own z5E [.int .i64 c.Kind, .int .i64 c.Level, .int .i64 c.Value, .slice A0 c.Data.length k0, .slice A1 c.Aux.length k1] c :: B) := (St.fuseAll h).conv fun _ hG => z99 hG

def z80 : Ty (List D.ShardCell) := tSl 154 z5E
instance {W : World} : Reads W z80 := inferInstanceAs (Reads W (tSl 154 z5E))
theorem zdO {w : World} {cs : List Value} {xs : (List D.ShardCell)} (h : z80.ro w cs xs) : ∃ A c, cs = [.slice A xs.length c] := slForm h

def z8y : Ty D.ShardVar := tMap (fun c => (c.Used, c.Full, c.Held, ())) (tPair tBool (tPair tBool (tPair ty35 tUnit)))
instance {W : World} : Reads W z8y := inferInstanceAs (Reads W (tMap (fun c : D.ShardVar => (c.Used, c.Full, c.Held, ())) (tPair tBool (tPair tBool (tPair ty35 tUnit)))))
theorem z23 {w : World} {cs : List Value} {c : D.ShardVar} (h : z8y.ro w cs c) : cs = [.bool c.Used, .bool c.Full, .int .i64 c.Held.Machine, .int .i64 c.Held.Kind, .int .i64 c.Held.Index] := by
  obtain ⟨c0, d0, rfl, h0, c1, d1, rfl, h1, c2, d2, rfl, h2, hz⟩ := h
  subst hz
  subst h0
  subst h1
  have e2 := z12 h2
  subst e2
  rfl
theorem zb3 {w : World} {c : D.ShardVar}  {G : List Nat} (h : (All []).A w G) : z8y.own w [.bool c.Used, .bool c.Full, .int .i64 c.Held.Machine, .int .i64 c.Held.Kind, .int .i64 c.Held.Index] c G := by
  have hz : G = [] := h
  subst hz
  exact cast (congrArg _ (by simp)) (show z8y.own w [.bool c.Used, .bool c.Full, .int .i64 c.Held.Machine, .int .i64 c.Held.Kind, .int .i64 c.Held.Index] c (_) from ⟨_, _, _, _, rfl, rfl, ⟨rfl, rfl⟩, ⟨_, _, _, _, rfl, rfl, ⟨rfl, rfl⟩, ⟨_, _, _, _, rfl, rfl, (z6E (c := c.Held) rfl), ⟨rfl, rfl⟩⟩⟩⟩)
theorem zcT {W w : World} {B : List Res} {c : D.ShardVar}  (h : St W w ([] ++ B)) : St W w (Own z8y [.bool c.Used, .bool c.Full, .int .i64 c.Held.Machine, .int .i64 c.Held.Kind, .int .i64 c.Held.Index] c :: B) := (St.fuseAll h).conv fun _ hG => zb3 hG

def z8F : Ty (List D.ShardVar) := tSl 223 z8y
instance {W : World} : Reads W z8F := inferInstanceAs (Reads W (tSl 223 z8y))
theorem zdM {w : World} {cs : List Value} {xs : (List D.ShardVar)} (h : z8F.ro w cs xs) : ∃ A c, cs = [.slice A xs.length c] := slForm h

def z9X : Ty D.ShardRedex := tMap (fun c => (c.A, c.B, ())) (tPair ty35 (tPair ty35 tUnit))
instance {W : World} : Reads W z9X := inferInstanceAs (Reads W (tMap (fun c : D.ShardRedex => (c.A, c.B, ())) (tPair ty35 (tPair ty35 tUnit))))
theorem z6z {w : World} {cs : List Value} {c : D.ShardRedex} (h : z9X.ro w cs c) : cs = [.int .i64 c.A.Machine, .int .i64 c.A.Kind, .int .i64 c.A.Index, .int .i64 c.B.Machine, .int .i64 c.B.Kind, .int .i64 c.B.Index] := by
  obtain ⟨c0, d0, rfl, h0, c1, d1, rfl, h1, hz⟩ := h
  subst hz
  have e0 := z12 h0
  subst e0
  have e1 := z12 h1
  subst e1
  rfl
theorem zb2 {w : World} {c : D.ShardRedex}  {G : List Nat} (h : (All []).A w G) : z9X.own w [.int .i64 c.A.Machine, .int .i64 c.A.Kind, .int .i64 c.A.Index, .int .i64 c.B.Machine, .int .i64 c.B.Kind, .int .i64 c.B.Index] c G := by
  have hz : G = [] := h
  subst hz
  exact cast (congrArg _ (by simp)) (show z9X.own w [.int .i64 c.A.Machine, .int .i64 c.A.Kind, .int .i64 c.A.Index, .int .i64 c.B.Machine, .int .i64 c.B.Kind, .int .i64 c.B.Index] c (_) from ⟨_, _, _, _, rfl, rfl, (z6E (c := c.A) rfl), ⟨_, _, _, _, rfl, rfl, (z6E (c := c.B) rfl), ⟨rfl, rfl⟩⟩⟩)
theorem zcS {W w : World} {B : List Res} {c : D.ShardRedex}  (h : St W w ([] ++ B)) : St W w (Own z9X [.int .i64 c.A.Machine, .int .i64 c.A.Kind, .int .i64 c.A.Index, .int .i64 c.B.Machine, .int .i64 c.B.Kind, .int .i64 c.B.Index] c :: B) := (St.fuseAll h).conv fun _ hG => zb2 hG

def z98 : Ty (List D.ShardRedex) := tSl 239 z9X
instance {W : World} : Reads W z98 := inferInstanceAs (Reads W (tSl 239 z9X))
theorem zdL {w : World} {cs : List Value} {xs : (List D.ShardRedex)} (h : z98.ro w cs xs) : ∃ A c, cs = [.slice A xs.length c] := slForm h

def z8E : Ty D.Shard := tMap (fun c => (c.Cells, c.Vars, c.Redexes, ())) (tPair z80 (tPair z8F (tPair z98 tUnit)))
instance {W : World} : Reads W z8E := inferInstanceAs (Reads W (tMap (fun c : D.Shard => (c.Cells, c.Vars, c.Redexes, ())) (tPair z80 (tPair z8F (tPair z98 tUnit)))))
theorem z1i {w : World} {cs : List Value} {c : D.Shard} (h : z8E.ro w cs c) : ∃ A0 k0 A1 k1 A2 k2, cs = [.slice A0 c.Cells.length k0, .slice A1 c.Vars.length k1, .slice A2 c.Redexes.length k2] ∧ z80.ro w [.slice A0 c.Cells.length k0] c.Cells ∧ z8F.ro w [.slice A1 c.Vars.length k1] c.Vars ∧ z98.ro w [.slice A2 c.Redexes.length k2] c.Redexes := by
  obtain ⟨c0, d0, rfl, h0, c1, d1, rfl, h1, c2, d2, rfl, h2, hz⟩ := h
  subst hz
  obtain ⟨A0_, k0_, e0⟩ := zdO h0
  subst e0
  obtain ⟨A1_, k1_, e1⟩ := zdM h1
  subst e1
  obtain ⟨A2_, k2_, e2⟩ := zdL h2
  subst e2
  exact ⟨A0_, k0_, A1_, k1_, A2_, k2_, rfl, h0, h1, h2⟩
theorem zb8 {w : World} {c : D.Shard} {A0 : Option Addr} {k0 : Nat} {A1 : Option Addr} {k1 : Nat} {A2 : Option Addr} {k2 : Nat} {G : List Nat} (h : (All [Own z80 [.slice A0 c.Cells.length k0] c.Cells, Own z8F [.slice A1 c.Vars.length k1] c.Vars, Own z98 [.slice A2 c.Redexes.length k2] c.Redexes]).A w G) : z8E.own w [.slice A0 c.Cells.length k0, .slice A1 c.Vars.length k1, .slice A2 c.Redexes.length k2] c G := by
  obtain ⟨G0, R0, rfl, h0, G1, R1, rfl, h1, G2, R2, rfl, h2, hz⟩ := h
  have hz' : R2 = [] := hz
  subst hz'
  exact cast (congrArg _ (by simp)) (show z8E.own w [.slice A0 c.Cells.length k0, .slice A1 c.Vars.length k1, .slice A2 c.Redexes.length k2] c (_) from ⟨_, _, _, _, rfl, rfl, h0, ⟨_, _, _, _, rfl, rfl, h1, ⟨_, _, _, _, rfl, rfl, h2, ⟨rfl, rfl⟩⟩⟩⟩)
theorem zcW {W w : World} {B : List Res} {c : D.Shard} {A0 : Option Addr} {k0 : Nat} {A1 : Option Addr} {k1 : Nat} {A2 : Option Addr} {k2 : Nat} (h : St W w ([Own z80 [.slice A0 c.Cells.length k0] c.Cells, Own z8F [.slice A1 c.Vars.length k1] c.Vars, Own z98 [.slice A2 c.Redexes.length k2] c.Redexes] ++ B)) : St W w (Own z8E [.slice A0 c.Cells.length k0, .slice A1 c.Vars.length k1, .slice A2 c.Redexes.length k2] c :: B) := (St.fuseAll h).conv fun _ hG => zb8 hG

def ty34 : Ty (List D.Shard) := tSl 166 z8E
instance {W : World} : Reads W ty34 := inferInstanceAs (Reads W (tSl 166 z8E))
theorem zeh {w : World} {cs : List Value} {xs : (List D.Shard)} (h : ty34.ro w cs xs) : ∃ A c, cs = [.slice A xs.length c] := slForm h

def ty37 : Ty D.Grid := tMap (fun c => (c.Shards, c.Root, ())) (tPair ty34 (tPair ty35 tUnit))
instance {W : World} : Reads W ty37 := inferInstanceAs (Reads W (tMap (fun c : D.Grid => (c.Shards, c.Root, ())) (tPair ty34 (tPair ty35 tUnit))))
theorem z3w {w : World} {cs : List Value} {c : D.Grid} (h : ty37.ro w cs c) : ∃ A0 k0, cs = [.slice A0 c.Shards.length k0, .int .i64 c.Root.Machine, .int .i64 c.Root.Kind, .int .i64 c.Root.Index] ∧ ty34.ro w [.slice A0 c.Shards.length k0] c.Shards := by
  obtain ⟨c0, d0, rfl, h0, c1, d1, rfl, h1, hz⟩ := h
  subst hz
  obtain ⟨A0_, k0_, e0⟩ := zeh h0
  subst e0
  have e1 := z12 h1
  subst e1
  exact ⟨A0_, k0_, rfl, h0⟩
theorem z59 {w : World} (c : D.Grid) {A0 : Option Addr} {k0 : Nat} (h0 : ty34.ro w [.slice A0 c.Shards.length k0] c.Shards) : ty37.ro w [.slice A0 c.Shards.length k0, .int .i64 c.Root.Machine, .int .i64 c.Root.Kind, .int .i64 c.Root.Index] c :=
  ⟨_, _, rfl, h0, ⟨_, _, rfl, (zr c.Root ), rfl⟩⟩
def z81 : Ty D.Parcel := tMap (fun c => (c.Kind, c.Cell, c.A, c.B, ())) (tPair tInt (tPair z5E (tPair ty35 (tPair ty35 tUnit))))
instance {W : World} : Reads W z81 := inferInstanceAs (Reads W (tMap (fun c : D.Parcel => (c.Kind, c.Cell, c.A, c.B, ())) (tPair tInt (tPair z5E (tPair ty35 (tPair ty35 tUnit))))))
theorem z2T {w : World} {cs : List Value} {c : D.Parcel} (h : z81.ro w cs c) : ∃ A0 k0 A1 k1, cs = [.int .i64 c.Kind, .int .i64 c.Cell.Kind, .int .i64 c.Cell.Level, .int .i64 c.Cell.Value, .slice A0 c.Cell.Data.length k0, .slice A1 c.Cell.Aux.length k1, .int .i64 c.A.Machine, .int .i64 c.A.Kind, .int .i64 c.A.Index, .int .i64 c.B.Machine, .int .i64 c.B.Kind, .int .i64 c.B.Index] ∧ ty29.ro w [.slice A0 c.Cell.Data.length k0] c.Cell.Data ∧ z66.ro w [.slice A1 c.Cell.Aux.length k1] c.Cell.Aux := by
  obtain ⟨c0, d0, rfl, h0, c1, d1, rfl, h1, c2, d2, rfl, h2, c3, d3, rfl, h3, hz⟩ := h
  subst hz
  subst h0
  obtain ⟨A1_0, k1_0, A1_1, k1_1, e1, g1_0, g1_1⟩ := zM h1
  subst e1
  have e2 := z12 h2
  subst e2
  have e3 := z12 h3
  subst e3
  exact ⟨A1_0, k1_0, A1_1, k1_1, rfl, g1_0, g1_1⟩
theorem zb9 {w : World} {c : D.Parcel} {A0 : Option Addr} {k0 : Nat} {A1 : Option Addr} {k1 : Nat} {G : List Nat} (h : (All [Own ty29 [.slice A0 c.Cell.Data.length k0] c.Cell.Data, Own z66 [.slice A1 c.Cell.Aux.length k1] c.Cell.Aux]).A w G) : z81.own w [.int .i64 c.Kind, .int .i64 c.Cell.Kind, .int .i64 c.Cell.Level, .int .i64 c.Cell.Value, .slice A0 c.Cell.Data.length k0, .slice A1 c.Cell.Aux.length k1, .int .i64 c.A.Machine, .int .i64 c.A.Kind, .int .i64 c.A.Index, .int .i64 c.B.Machine, .int .i64 c.B.Kind, .int .i64 c.B.Index] c G := by
  obtain ⟨G0, R0, rfl, h0, G1, R1, rfl, h1, hz⟩ := h
  have hz' : R1 = [] := hz
  subst hz'
  exact cast (congrArg _ (by simp)) (show z81.own w [.int .i64 c.Kind, .int .i64 c.Cell.Kind, .int .i64 c.Cell.Level, .int .i64 c.Cell.Value, .slice A0 c.Cell.Data.length k0, .slice A1 c.Cell.Aux.length k1, .int .i64 c.A.Machine, .int .i64 c.A.Kind, .int .i64 c.A.Index, .int .i64 c.B.Machine, .int .i64 c.B.Kind, .int .i64 c.B.Index] c (_) from ⟨_, _, _, _, rfl, rfl, ⟨rfl, rfl⟩, ⟨_, _, _, _, rfl, rfl, (z99 (c := c.Cell) ⟨_, _, rfl, h0, ⟨_, _, rfl, h1, rfl⟩⟩), ⟨_, _, _, _, rfl, rfl, (z6E (c := c.A) rfl), ⟨_, _, _, _, rfl, rfl, (z6E (c := c.B) rfl), ⟨rfl, rfl⟩⟩⟩⟩⟩)
theorem zcX {W w : World} {B : List Res} {c : D.Parcel} {A0 : Option Addr} {k0 : Nat} {A1 : Option Addr} {k1 : Nat} (h : St W w ([Own ty29 [.slice A0 c.Cell.Data.length k0] c.Cell.Data, Own z66 [.slice A1 c.Cell.Aux.length k1] c.Cell.Aux] ++ B)) : St W w (Own z81 [.int .i64 c.Kind, .int .i64 c.Cell.Kind, .int .i64 c.Cell.Level, .int .i64 c.Cell.Value, .slice A0 c.Cell.Data.length k0, .slice A1 c.Cell.Aux.length k1, .int .i64 c.A.Machine, .int .i64 c.A.Kind, .int .i64 c.A.Index, .int .i64 c.B.Machine, .int .i64 c.B.Kind, .int .i64 c.B.Index] c :: B) := (St.fuseAll h).conv fun _ hG => zb9 hG

def z8O : Ty (List D.Parcel) := tSl 156 z81
instance {W : World} : Reads W z8O := inferInstanceAs (Reads W (tSl 156 z81))
theorem z2U {w : World} {cs : List Value} {xs : (List D.Parcel)} (h : z8O.ro w cs xs) : ∃ A c, cs = [.slice A xs.length c] := slForm h

def ty38 : Ty (List (List D.Parcel)) := tSl 149 z8O
instance {W : World} : Reads W ty38 := inferInstanceAs (Reads W (tSl 149 z8O))
theorem zeg {w : World} {cs : List Value} {xs : (List (List D.Parcel))} (h : ty38.ro w cs xs) : ∃ A c, cs = [.slice A xs.length c] := slForm h

def ty40 : Ty D.Cluster := tMap (fun c => (c.Grid, c.Channels, c.Counts, c.Sent, c.Got, ())) (tPair ty37 (tPair ty38 (tPair ty28 (tPair ty29 (tPair ty29 tUnit)))))
instance {W : World} : Reads W ty40 := inferInstanceAs (Reads W (tMap (fun c : D.Cluster => (c.Grid, c.Channels, c.Counts, c.Sent, c.Got, ())) (tPair ty37 (tPair ty38 (tPair ty28 (tPair ty29 (tPair ty29 tUnit)))))))
theorem z65 {w : World} {cs : List Value} {c : D.Cluster} (h : ty40.ro w cs c) : ∃ A0 k0 A1 k1 A2 k2 A3 k3 A4 k4, cs = [.slice A0 c.Grid.Shards.length k0, .int .i64 c.Grid.Root.Machine, .int .i64 c.Grid.Root.Kind, .int .i64 c.Grid.Root.Index, .slice A1 c.Channels.length k1, .slice A2 c.Counts.length k2, .slice A3 c.Sent.length k3, .slice A4 c.Got.length k4] ∧ ty34.ro w [.slice A0 c.Grid.Shards.length k0] c.Grid.Shards ∧ ty38.ro w [.slice A1 c.Channels.length k1] c.Channels ∧ ty28.ro w [.slice A2 c.Counts.length k2] c.Counts ∧ ty29.ro w [.slice A3 c.Sent.length k3] c.Sent ∧ ty29.ro w [.slice A4 c.Got.length k4] c.Got := by
  obtain ⟨c0, d0, rfl, h0, c1, d1, rfl, h1, c2, d2, rfl, h2, c3, d3, rfl, h3, c4, d4, rfl, h4, hz⟩ := h
  subst hz
  obtain ⟨A0_0, k0_0, e0, g0_0⟩ := z3w h0
  subst e0
  obtain ⟨A1_, k1_, e1⟩ := zeg h1
  subst e1
  obtain ⟨A2_, k2_, e2⟩ := z7y h2
  subst e2
  obtain ⟨A3_, k3_, e3⟩ := z1H h3
  subst e3
  obtain ⟨A4_, k4_, e4⟩ := z1H h4
  subst e4
  exact ⟨A0_0, k0_0, A1_, k1_, A2_, k2_, A3_, k3_, A4_, k4_, rfl, g0_0, h1, h2, h3, h4⟩
theorem z8N {w : World} (c : D.Cluster) {A0 : Option Addr} {k0 : Nat} {A1 : Option Addr} {k1 : Nat} {A2 : Option Addr} {k2 : Nat} {A3 : Option Addr} {k3 : Nat} {A4 : Option Addr} {k4 : Nat} (h0 : ty34.ro w [.slice A0 c.Grid.Shards.length k0] c.Grid.Shards) (h1 : ty38.ro w [.slice A1 c.Channels.length k1] c.Channels) (h2 : ty28.ro w [.slice A2 c.Counts.length k2] c.Counts) (h3 : ty29.ro w [.slice A3 c.Sent.length k3] c.Sent) (h4 : ty29.ro w [.slice A4 c.Got.length k4] c.Got) : ty40.ro w [.slice A0 c.Grid.Shards.length k0, .int .i64 c.Grid.Root.Machine, .int .i64 c.Grid.Root.Kind, .int .i64 c.Grid.Root.Index, .slice A1 c.Channels.length k1, .slice A2 c.Counts.length k2, .slice A3 c.Sent.length k3, .slice A4 c.Got.length k4] c :=
  ⟨_, _, rfl, (z59 c.Grid h0), ⟨_, _, rfl, h1, ⟨_, _, rfl, h2, ⟨_, _, rfl, h3, ⟨_, _, rfl, h4, rfl⟩⟩⟩⟩⟩
def z9Y : Ty D.thing := tMap (fun c => (c.at_, c.slot, c.own, ())) (tPair ty35 (tPair tInt (tPair tBool tUnit)))
instance {W : World} : Reads W z9Y := inferInstanceAs (Reads W (tMap (fun c : D.thing => (c.at_, c.slot, c.own, ())) (tPair ty35 (tPair tInt (tPair tBool tUnit)))))
theorem z97 {w : World} {cs : List Value} {c : D.thing} (h : z9Y.ro w cs c) : cs = [.int .i64 c.at_.Machine, .int .i64 c.at_.Kind, .int .i64 c.at_.Index, .int .i64 c.slot, .bool c.own] := by
  obtain ⟨c0, d0, rfl, h0, c1, d1, rfl, h1, c2, d2, rfl, h2, hz⟩ := h
  subst hz
  have e0 := z12 h0
  subst e0
  subst h1
  subst h2
  rfl
theorem z8o {w : World} {c : D.thing}  {G : List Nat} (h : (All []).A w G) : z9Y.own w [.int .i64 c.at_.Machine, .int .i64 c.at_.Kind, .int .i64 c.at_.Index, .int .i64 c.slot, .bool c.own] c G := by
  have hz : G = [] := h
  subst hz
  exact cast (congrArg _ (by simp)) (show z9Y.own w [.int .i64 c.at_.Machine, .int .i64 c.at_.Kind, .int .i64 c.at_.Index, .int .i64 c.slot, .bool c.own] c (_) from ⟨_, _, _, _, rfl, rfl, (z6E (c := c.at_) rfl), ⟨_, _, _, _, rfl, rfl, ⟨rfl, rfl⟩, ⟨_, _, _, _, rfl, rfl, ⟨rfl, rfl⟩, ⟨rfl, rfl⟩⟩⟩⟩)
def z7K : Ty D.statement := tMap (fun c => (c.a, c.b, ())) (tPair z9Y (tPair z9Y tUnit))
instance {W : World} : Reads W z7K := inferInstanceAs (Reads W (tMap (fun c : D.statement => (c.a, c.b, ())) (tPair z9Y (tPair z9Y tUnit))))
theorem zb7 {w : World} {cs : List Value} {c : D.statement} (h : z7K.ro w cs c) : cs = [.int .i64 c.a.at_.Machine, .int .i64 c.a.at_.Kind, .int .i64 c.a.at_.Index, .int .i64 c.a.slot, .bool c.a.own, .int .i64 c.b.at_.Machine, .int .i64 c.b.at_.Kind, .int .i64 c.b.at_.Index, .int .i64 c.b.slot, .bool c.b.own] := by
  obtain ⟨c0, d0, rfl, h0, c1, d1, rfl, h1, hz⟩ := h
  subst hz
  have e0 := z97 h0
  subst e0
  have e1 := z97 h1
  subst e1
  rfl
theorem z48 {w : World} {c : D.statement}  {G : List Nat} (h : (All []).A w G) : z7K.own w [.int .i64 c.a.at_.Machine, .int .i64 c.a.at_.Kind, .int .i64 c.a.at_.Index, .int .i64 c.a.slot, .bool c.a.own, .int .i64 c.b.at_.Machine, .int .i64 c.b.at_.Kind, .int .i64 c.b.at_.Index, .int .i64 c.b.slot, .bool c.b.own] c G := by
  have hz : G = [] := h
  subst hz
  exact cast (congrArg _ (by simp)) (show z7K.own w [.int .i64 c.a.at_.Machine, .int .i64 c.a.at_.Kind, .int .i64 c.a.at_.Index, .int .i64 c.a.slot, .bool c.a.own, .int .i64 c.b.at_.Machine, .int .i64 c.b.at_.Kind, .int .i64 c.b.at_.Index, .int .i64 c.b.slot, .bool c.b.own] c (_) from ⟨_, _, _, _, rfl, rfl, (z8o (c := c.a) rfl), ⟨_, _, _, _, rfl, rfl, (z8o (c := c.b) rfl), ⟨rfl, rfl⟩⟩⟩)
def z5R : Ty (List D.statement) := tSl 171 z7K
instance {W : World} : Reads W z5R := inferInstanceAs (Reads W (tSl 171 z7K))
def z9x : Ty D.Port := tMap (fun c => (c.Agent, c.Slot, ())) (tPair tInt (tPair tInt tUnit))
instance {W : World} : Reads W z9x := inferInstanceAs (Reads W (tMap (fun c : D.Port => (c.Agent, c.Slot, ())) (tPair tInt (tPair tInt tUnit))))
theorem z6y {w : World} {c : D.Port}  {G : List Nat} (h : (All []).A w G) : z9x.own w [.int .i64 c.Agent, .int .i64 c.Slot] c G := by
  have hz : G = [] := h
  subst hz
  exact cast (congrArg _ (by simp)) (show z9x.own w [.int .i64 c.Agent, .int .i64 c.Slot] c (_) from ⟨_, _, _, _, rfl, rfl, ⟨rfl, rfl⟩, ⟨_, _, _, _, rfl, rfl, ⟨rfl, rfl⟩, ⟨rfl, rfl⟩⟩⟩)
def z1G : Ty (List D.Port) := tSl 264 z9x
instance {W : World} : Reads W z1G := inferInstanceAs (Reads W (tSl 264 z9x))
theorem zb5 {w : World} {cs : List Value} {xs : (List D.Port)} (h : z1G.ro w cs xs) : ∃ A c, cs = [.slice A xs.length c] := slForm h

def z8w : Ty D.Agent := tMap (fun c => (c.Kind, c.Level, c.Value, c.Data, c.Ports, ())) (tPair tInt (tPair tInt (tPair tInt (tPair ty29 (tPair z1G tUnit)))))
instance {W : World} : Reads W z8w := inferInstanceAs (Reads W (tMap (fun c : D.Agent => (c.Kind, c.Level, c.Value, c.Data, c.Ports, ())) (tPair tInt (tPair tInt (tPair tInt (tPair ty29 (tPair z1G tUnit)))))))
theorem z8k {w : World} {cs : List Value} {c : D.Agent} (h : z8w.ro w cs c) : ∃ A0 k0 A1 k1, cs = [.int .i64 c.Kind, .int .i64 c.Level, .int .i64 c.Value, .slice A0 c.Data.length k0, .slice A1 c.Ports.length k1] ∧ ty29.ro w [.slice A0 c.Data.length k0] c.Data ∧ z1G.ro w [.slice A1 c.Ports.length k1] c.Ports := by
  obtain ⟨c0, d0, rfl, h0, c1, d1, rfl, h1, c2, d2, rfl, h2, c3, d3, rfl, h3, c4, d4, rfl, h4, hz⟩ := h
  subst hz
  subst h0
  subst h1
  subst h2
  obtain ⟨A3_, k3_, e3⟩ := z1H h3
  subst e3
  obtain ⟨A4_, k4_, e4⟩ := zb5 h4
  subst e4
  exact ⟨A3_, k3_, A4_, k4_, rfl, h3, h4⟩
theorem zb1 {w : World} (c : D.Agent) {A0 : Option Addr} {k0 : Nat} {A1 : Option Addr} {k1 : Nat} (h0 : ty29.ro w [.slice A0 c.Data.length k0] c.Data) (h1 : z1G.ro w [.slice A1 c.Ports.length k1] c.Ports) : z8w.ro w [.int .i64 c.Kind, .int .i64 c.Level, .int .i64 c.Value, .slice A0 c.Data.length k0, .slice A1 c.Ports.length k1] c :=
  ⟨_, _, rfl, rfl, ⟨_, _, rfl, rfl, ⟨_, _, rfl, rfl, ⟨_, _, rfl, h0, ⟨_, _, rfl, h1, rfl⟩⟩⟩⟩⟩
theorem zdE {w : World} {c : D.Agent} {A0 : Option Addr} {k0 : Nat} {A1 : Option Addr} {k1 : Nat} {G : List Nat} (h : (All [Own ty29 [.slice A0 c.Data.length k0] c.Data, Own z1G [.slice A1 c.Ports.length k1] c.Ports]).A w G) : z8w.own w [.int .i64 c.Kind, .int .i64 c.Level, .int .i64 c.Value, .slice A0 c.Data.length k0, .slice A1 c.Ports.length k1] c G := by
  obtain ⟨G0, R0, rfl, h0, G1, R1, rfl, h1, hz⟩ := h
  have hz' : R1 = [] := hz
  subst hz'
  exact cast (congrArg _ (by simp)) (show z8w.own w [.int .i64 c.Kind, .int .i64 c.Level, .int .i64 c.Value, .slice A0 c.Data.length k0, .slice A1 c.Ports.length k1] c (_) from ⟨_, _, _, _, rfl, rfl, ⟨rfl, rfl⟩, ⟨_, _, _, _, rfl, rfl, ⟨rfl, rfl⟩, ⟨_, _, _, _, rfl, rfl, ⟨rfl, rfl⟩, ⟨_, _, _, _, rfl, rfl, h0, ⟨_, _, _, _, rfl, rfl, h1, ⟨rfl, rfl⟩⟩⟩⟩⟩⟩)
theorem z9W {W w : World} {B : List Res} {c : D.Agent} {A0 : Option Addr} {k0 : Nat} {A1 : Option Addr} {k1 : Nat} (h : St W w ([Own ty29 [.slice A0 c.Data.length k0] c.Data, Own z1G [.slice A1 c.Ports.length k1] c.Ports] ++ B)) : St W w (Own z8w [.int .i64 c.Kind, .int .i64 c.Level, .int .i64 c.Value, .slice A0 c.Data.length k0, .slice A1 c.Ports.length k1] c :: B) := (St.fuseAll h).conv fun _ hG => zdE hG

def z2f : Ty (List D.Agent) := tSl 262 z8w
instance {W : World} : Reads W z2f := inferInstanceAs (Reads W (tSl 262 z8w))
theorem zdF {w : World} {cs : List Value} {xs : (List D.Agent)} (h : z2f.ro w cs xs) : ∃ A c, cs = [.slice A xs.length c] := slForm h

def zem : Ty D.l27Links := tMap (fun c => (c.agents, c.ports, c.cells, c.vars, c.ends, c.pairs, ())) (tPair z2f (tPair z1G (tPair ty28 (tPair ty28 (tPair ty28 (tPair ty28 tUnit))))))
instance {W : World} : Reads W zem := inferInstanceAs (Reads W (tMap (fun c : D.l27Links => (c.agents, c.ports, c.cells, c.vars, c.ends, c.pairs, ())) (tPair z2f (tPair z1G (tPair ty28 (tPair ty28 (tPair ty28 (tPair ty28 tUnit))))))))
theorem zb4 {w : World} {cs : List Value} {c : D.l27Links} (h : zem.ro w cs c) : ∃ A0 k0 A1 k1 A2 k2 A3 k3 A4 k4 A5 k5, cs = [.slice A0 c.agents.length k0, .slice A1 c.ports.length k1, .slice A2 c.cells.length k2, .slice A3 c.vars.length k3, .slice A4 c.ends.length k4, .slice A5 c.pairs.length k5] ∧ z2f.ro w [.slice A0 c.agents.length k0] c.agents ∧ z1G.ro w [.slice A1 c.ports.length k1] c.ports ∧ ty28.ro w [.slice A2 c.cells.length k2] c.cells ∧ ty28.ro w [.slice A3 c.vars.length k3] c.vars ∧ ty28.ro w [.slice A4 c.ends.length k4] c.ends ∧ ty28.ro w [.slice A5 c.pairs.length k5] c.pairs := by
  obtain ⟨c0, d0, rfl, h0, c1, d1, rfl, h1, c2, d2, rfl, h2, c3, d3, rfl, h3, c4, d4, rfl, h4, c5, d5, rfl, h5, hz⟩ := h
  subst hz
  obtain ⟨A0_, k0_, e0⟩ := zdF h0
  subst e0
  obtain ⟨A1_, k1_, e1⟩ := zb5 h1
  subst e1
  obtain ⟨A2_, k2_, e2⟩ := z7y h2
  subst e2
  obtain ⟨A3_, k3_, e3⟩ := z7y h3
  subst e3
  obtain ⟨A4_, k4_, e4⟩ := z7y h4
  subst e4
  obtain ⟨A5_, k5_, e5⟩ := z7y h5
  subst e5
  exact ⟨A0_, k0_, A1_, k1_, A2_, k2_, A3_, k3_, A4_, k4_, A5_, k5_, rfl, h0, h1, h2, h3, h4, h5⟩
theorem z3s {w : World} (c : D.l27Links) {A0 : Option Addr} {k0 : Nat} {A1 : Option Addr} {k1 : Nat} {A2 : Option Addr} {k2 : Nat} {A3 : Option Addr} {k3 : Nat} {A4 : Option Addr} {k4 : Nat} {A5 : Option Addr} {k5 : Nat} (h0 : z2f.ro w [.slice A0 c.agents.length k0] c.agents) (h1 : z1G.ro w [.slice A1 c.ports.length k1] c.ports) (h2 : ty28.ro w [.slice A2 c.cells.length k2] c.cells) (h3 : ty28.ro w [.slice A3 c.vars.length k3] c.vars) (h4 : ty28.ro w [.slice A4 c.ends.length k4] c.ends) (h5 : ty28.ro w [.slice A5 c.pairs.length k5] c.pairs) : zem.ro w [.slice A0 c.agents.length k0, .slice A1 c.ports.length k1, .slice A2 c.cells.length k2, .slice A3 c.vars.length k3, .slice A4 c.ends.length k4, .slice A5 c.pairs.length k5] c :=
  ⟨_, _, rfl, h0, ⟨_, _, rfl, h1, ⟨_, _, rfl, h2, ⟨_, _, rfl, h3, ⟨_, _, rfl, h4, ⟨_, _, rfl, h5, rfl⟩⟩⟩⟩⟩⟩
def zfZ : D.Address → Value := fun c => .agg ⟨[.int .i64 c.Machine, .int .i64 c.Kind, .int .i64 c.Index]⟩
theorem zhy : KeyOk Tryz.prog 35 zfZ := KeyOk.struct ttok (cells := fun c : D.Address => [.int .i64 c.Machine, .int .i64 c.Kind, .int .i64 c.Index]) (b := fun x y => (((x.Machine : Int) == y.Machine) && (((x.Kind : Int) == y.Kind) && (((x.Index : Int) == y.Index) && true)))) rfl rfl (fun _ _ => rfl) (fun x y => by cases x; cases y; simp [zgi]) (fun _ => rfl) (fun {x y} h => by cases x; cases y; simpa using h)
def z8x : Ty (List (D.Address × Int)) := tMp zfZ (Value.int .i64)
instance {W : World} : Reads W z8x := inferInstanceAs (Reads W (tMp zfZ (Value.int .i64)))
theorem z8s : MapOk Tryz.prog 235 35 3 zfZ (Value.int .i64) (0 : Int) := ⟨by kernel_rfl, by kernel_rfl, zhy⟩

def zej : Ty (List D.thing) := tSl 169 z9Y
instance {W : World} : Reads W zej := inferInstanceAs (Reads W (tSl 169 z9Y))
end Go.E

