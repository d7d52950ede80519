/- The types of the data, as tables and as plain Lean types (written by program). Conditions: none. -/
import Derived.Test.YteommboffflkbaaGreatMaps
import Derived.Test.YteommboffflkbaaGreatProg
import Derived.KernelRfl
namespace Go.E
open Go.RowKit Go.Proofs
set_option linter.unusedVariables false
set_option linter.unusedSimpArgs false


def tt : TT := [
  ⟨2, .int .i64, 1, [.int .i64 0], 8⟩,
  ⟨3, .int .i64, 1, [.int .i64 0], 8⟩,
  ⟨4, .bool, 1, [.bool false], 1⟩,
  ⟨22, .slice 199, 1, [.slice none 0 0], 24⟩,
  ⟨24, .struct [(0, 1, false, 2), (1, 1, false, 2), (2, 1, false, 2)], 3, [.int .i64 0, .int .i64 0, .int .i64 0], 24⟩,
  ⟨26, .struct [(0, 1, false, 22), (1, 3, true, 24)], 4, [.slice none 0 0, .int .i64 0, .int .i64 0, .int .i64 0], 48⟩,
  ⟨27, .slice 141, 1, [.slice none 0 0], 24⟩,
  ⟨28, .slice 29, 1, [.slice none 0 0], 24⟩,
  ⟨29, .slice 2, 1, [.slice none 0 0], 24⟩,
  ⟨31, .struct [(0, 4, true, 26), (4, 1, false, 27), (5, 1, false, 28), (6, 1, false, 29), (7, 1, false, 29)], 8, [.slice none 0 0, .int .i64 0, .int .i64 0, .int .i64 0, .slice none 0 0, .slice none 0 0, .slice none 0 0, .slice none 0 0], 144⟩,
  ⟨34, .slice 166, 1, [.slice none 0 0], 24⟩,
  ⟨35, .struct [(0, 1, false, 2), (1, 1, false, 2), (2, 1, false, 2)], 3, [.int .i64 0, .int .i64 0, .int .i64 0], 24⟩,
  ⟨37, .struct [(0, 1, false, 34), (1, 3, true, 35)], 4, [.slice none 0 0, .int .i64 0, .int .i64 0, .int .i64 0], 48⟩,
  ⟨38, .slice 149, 1, [.slice none 0 0], 24⟩,
  ⟨40, .struct [(0, 4, true, 37), (4, 1, false, 38), (5, 1, false, 28), (6, 1, false, 29), (7, 1, false, 29)], 8, [.slice none 0 0, .int .i64 0, .int .i64 0, .int .i64 0, .slice none 0 0, .slice none 0 0, .slice none 0 0, .slice none 0 0], 144⟩,
  ⟨51, .slice 114, 1, [.slice none 0 0], 24⟩,
  ⟨56, .slice 4, 1, [.slice none 0 0], 24⟩,
  ⟨58, .struct [(0, 8, true, 31), (8, 1, false, 2), (9, 1, false, 2), (10, 1, false, 4), (11, 1, false, 56), (12, 1, false, 2), (13, 1, false, 4)], 14, [.slice none 0 0, .int .i64 0, .int .i64 0, .int .i64 0, .slice none 0 0, .slice none 0 0, .slice none 0 0, .slice none 0 0, .int .i64 0, .int .i64 0, .bool false, .slice none 0 0, .int .i64 0, .bool false], 208⟩,
  ⟨62, .struct [(0, 8, true, 40), (8, 1, false, 2), (9, 1, false, 2), (10, 1, false, 4), (11, 1, false, 56), (12, 1, false, 2), (13, 1, false, 4)], 14, [.slice none 0 0, .int .i64 0, .int .i64 0, .int .i64 0, .slice none 0 0, .slice none 0 0, .slice none 0 0, .slice none 0 0, .int .i64 0, .int .i64 0, .bool false, .slice none 0 0, .int .i64 0, .bool false], 208⟩,
  ⟨67, .struct [(0, 1, false, 56), (1, 1, false, 22), (2, 1, false, 28), (3, 1, false, 56), (4, 1, false, 27)], 5, [.slice none 0 0, .slice none 0 0, .slice none 0 0, .slice none 0 0, .slice none 0 0], 120⟩,
  ⟨69, .struct [(0, 8, true, 31), (8, 5, true, 67)], 13, [.slice none 0 0, .int .i64 0, .int .i64 0, .int .i64 0, .slice none 0 0, .slice none 0 0, .slice none 0 0, .slice none 0 0, .slice none 0 0, .slice none 0 0, .slice none 0 0, .slice none 0 0, .slice none 0 0], 264⟩,
  ⟨73, .struct [(0, 1, false, 56), (1, 1, false, 34), (2, 1, false, 28), (3, 1, false, 56), (4, 1, false, 38)], 5, [.slice none 0 0, .slice none 0 0, .slice none 0 0, .slice none 0 0, .slice none 0 0], 120⟩,
  ⟨75, .struct [(0, 8, true, 40), (8, 5, true, 73)], 13, [.slice none 0 0, .int .i64 0, .int .i64 0, .int .i64 0, .slice none 0 0, .slice none 0 0, .slice none 0 0, .slice none 0 0, .slice none 0 0, .slice none 0 0, .slice none 0 0, .slice none 0 0, .slice none 0 0], 264⟩,
  ⟨91, .ptr 40, 1, [.pointer none], 8⟩,
  ⟨102, .slice 171, 1, [.slice none 0 0], 24⟩,
  ⟨114, .struct [(0, 1, false, 2), (1, 1, false, 2), (2, 1, false, 2)], 3, [.int .i64 0, .int .i64 0, .int .i64 0], 24⟩,
  ⟨117, .ptr 62, 1, [.pointer none], 8⟩,
  ⟨124, .ptr 75, 1, [.pointer none], 8⟩,
  ⟨141, .slice 205, 1, [.slice none 0 0], 24⟩,
  ⟨142, .ptr 221, 1, [.pointer none], 8⟩,
  ⟨146, .ptr 37, 1, [.pointer none], 8⟩,
  ⟨149, .slice 156, 1, [.slice none 0 0], 24⟩,
  ⟨152, .slice 35, 1, [.slice none 0 0], 24⟩,
  ⟨154, .struct [(0, 1, false, 2), (1, 1, false, 2), (2, 1, false, 2), (3, 1, false, 29), (4, 1, false, 152)], 5, [.int .i64 0, .int .i64 0, .int .i64 0, .slice none 0 0, .slice none 0 0], 72⟩,
  ⟨156, .struct [(0, 1, false, 2), (1, 5, true, 154), (6, 3, true, 35), (9, 3, true, 35)], 12, [.int .i64 0, .int .i64 0, .int .i64 0, .int .i64 0, .slice none 0 0, .slice none 0 0, .int .i64 0, .int .i64 0, .int .i64 0, .int .i64 0, .int .i64 0, .int .i64 0], 128⟩,
  ⟨162, .slice 154, 1, [.slice none 0 0], 24⟩,
  ⟨163, .slice 223, 1, [.slice none 0 0], 24⟩,
  ⟨164, .slice 239, 1, [.slice none 0 0], 24⟩,
  ⟨166, .struct [(0, 1, false, 162), (1, 1, false, 163), (2, 1, false, 164)], 3, [.slice none 0 0, .slice none 0 0, .slice none 0 0], 72⟩,
  ⟨169, .struct [(0, 3, true, 35), (3, 1, false, 2), (4, 1, false, 4)], 5, [.int .i64 0, .int .i64 0, .int .i64 0, .int .i64 0, .bool false], 40⟩,
  ⟨171, .struct [(0, 5, true, 169), (5, 5, true, 169)], 10, [.int .i64 0, .int .i64 0, .int .i64 0, .int .i64 0, .bool false, .int .i64 0, .int .i64 0, .int .i64 0, .int .i64 0, .bool false], 80⟩,
  ⟨182, .ptr 73, 1, [.pointer none], 8⟩,
  ⟨195, .slice 203, 1, [.slice none 0 0], 24⟩,
  ⟨196, .slice 288, 1, [.slice none 0 0], 24⟩,
  ⟨197, .slice 291, 1, [.slice none 0 0], 24⟩,
  ⟨199, .struct [(0, 1, false, 195), (1, 1, false, 196), (2, 1, false, 197)], 3, [.slice none 0 0, .slice none 0 0, .slice none 0 0], 72⟩,
  ⟨201, .slice 24, 1, [.slice none 0 0], 24⟩,
  ⟨203, .struct [(0, 1, false, 2), (1, 1, false, 2), (2, 1, false, 2), (3, 1, false, 29), (4, 1, false, 201)], 5, [.int .i64 0, .int .i64 0, .int .i64 0, .slice none 0 0, .slice none 0 0], 72⟩,
  ⟨205, .struct [(0, 1, false, 2), (1, 5, true, 203), (6, 3, true, 24), (9, 3, true, 24)], 12, [.int .i64 0, .int .i64 0, .int .i64 0, .int .i64 0, .slice none 0 0, .slice none 0 0, .int .i64 0, .int .i64 0, .int .i64 0, .int .i64 0, .int .i64 0, .int .i64 0], 128⟩,
  ⟨209, .ptr 156, 1, [.pointer none], 8⟩,
  ⟨214, .ptr 154, 1, [.pointer none], 8⟩,
  ⟨218, .slice 262, 1, [.slice none 0 0], 24⟩,
  ⟨219, .slice 264, 1, [.slice none 0 0], 24⟩,
  ⟨221, .struct [(0, 1, false, 218), (1, 1, false, 219), (2, 1, false, 28), (3, 1, false, 28), (4, 1, false, 28), (5, 1, false, 28)], 6, [.slice none 0 0, .slice none 0 0, .slice none 0 0, .slice none 0 0, .slice none 0 0, .slice none 0 0], 144⟩,
  ⟨223, .struct [(0, 1, false, 4), (1, 1, false, 4), (2, 3, true, 35)], 5, [.bool false, .bool false, .int .i64 0, .int .i64 0, .int .i64 0], 32⟩,
  ⟨235, .other, 1, [.map none], 8⟩,
  ⟨239, .struct [(0, 3, true, 35), (3, 3, true, 35)], 6, [.int .i64 0, .int .i64 0, .int .i64 0, .int .i64 0, .int .i64 0, .int .i64 0], 48⟩,
  ⟨254, .ptr 166, 1, [.pointer none], 8⟩,
  ⟨262, .struct [(0, 1, false, 2), (1, 1, false, 2), (2, 1, false, 2), (3, 1, false, 29), (4, 1, false, 219)], 5, [.int .i64 0, .int .i64 0, .int .i64 0, .slice none 0 0, .slice none 0 0], 72⟩,
  ⟨264, .struct [(0, 1, false, 2), (1, 1, false, 2)], 2, [.int .i64 0, .int .i64 0], 16⟩,
  ⟨275, .slice 169, 1, [.slice none 0 0], 24⟩,
  ⟨285, .ptr 262, 1, [.pointer none], 8⟩,
  ⟨288, .struct [(0, 1, false, 4), (1, 1, false, 4), (2, 3, true, 24)], 5, [.bool false, .bool false, .int .i64 0, .int .i64 0, .int .i64 0], 32⟩,
  ⟨291, .struct [(0, 3, true, 24), (3, 3, true, 24)], 6, [.int .i64 0, .int .i64 0, .int .i64 0, .int .i64 0, .int .i64 0, .int .i64 0], 48⟩]

def zerosOk (P : Program) : TT → Prop
  | [] => True
  | i :: r => (P.info? i.id).map (fun j => j.zero.map (fun v => v.cells.toList)) = some (some i.zero) ∧ zerosOk P r

theorem zc6 {P : Program} : ∀ {T : TT}, zerosOk P T → ∀ i, i ∈ T → (P.info? i.id).map (fun j => j.zero.map (fun v => v.cells.toList)) = some (some i.zero)
  | [], _, i, h => by cases h
  | _ :: _, ⟨h1, h2⟩, i, h => by
    rcases List.mem_cons.1 h with rfl | h
    · exact h1
    · exact zc6 h2 i h

theorem zkU : tt.all (infoOk Tryz.prog) = true := by kernel_rfl
theorem zjx : zerosOk Tryz.prog tt := ⟨by kernel_rfl, by kernel_rfl, by kernel_rfl, by kernel_rfl, by kernel_rfl, by kernel_rfl, by kernel_rfl, by kernel_rfl, by kernel_rfl, by kernel_rfl, by kernel_rfl, by kernel_rfl, by kernel_rfl, by kernel_rfl, by kernel_rfl, by kernel_rfl, by kernel_rfl, by kernel_rfl, by kernel_rfl, by kernel_rfl, by kernel_rfl, by kernel_rfl, by kernel_rfl, by kernel_rfl, by kernel_rfl, by kernel_rfl, by kernel_rfl, by kernel_rfl, by kernel_rfl, by kernel_rfl, by kernel_rfl, by kernel_rfl, by kernel_rfl, by kernel_rfl, by kernel_rfl, by kernel_rfl, by kernel_rfl, by kernel_rfl, by kernel_rfl, by kernel_rfl, by kernel_rfl, by kernel_rfl, by kernel_rfl, by kernel_rfl, by kernel_rfl, by kernel_rfl, by kernel_rfl, by kernel_rfl, by kernel_rfl, by kernel_rfl, by kernel_rfl, by kernel_rfl, by kernel_rfl, by kernel_rfl, by kernel_rfl, by kernel_rfl, by kernel_rfl, by kernel_rfl, by kernel_rfl, by kernel_rfl, by kernel_rfl, by kernel_rfl, by kernel_rfl, by kernel_rfl, trivial⟩
theorem ttok : TTok Tryz.prog tt := ⟨List.all_eq_true.1 zkU, zc6 zjx⟩
theorem mixed : Tryz.prog.follows .mixedOrders = true := by kernel_rfl

structure D.Address where
  Machine : Int
  Kind : Int
  Index : Int
deriving Inhabited, DecidableEq

structure D.ShardCell where
  Kind : Int
  Level : Int
  Value : Int
  Data : (List Int)
  Aux : (List D.Address)
deriving Inhabited, DecidableEq

structure D.ShardVar where
  Used : Bool
  Full : Bool
  Held : D.Address
deriving Inhabited, DecidableEq

structure D.ShardRedex where
  A : D.Address
  B : D.Address
deriving Inhabited, DecidableEq

structure D.Shard where
  Cells : (List D.ShardCell)
  Vars : (List D.ShardVar)
  Redexes : (List D.ShardRedex)
deriving Inhabited, DecidableEq

structure D.Grid where
  Shards : (List D.Shard)
  Root : D.Address
deriving Inhabited, DecidableEq

structure D.Parcel where
  Kind : Int
  Cell : D.ShardCell
  A : D.Address
  B : D.Address
deriving Inhabited, DecidableEq

structure D.Cluster where
  Grid : D.Grid
  Channels : (List (List D.Parcel))
  Counts : (List (List Int))
  Sent : (List Int)
  Got : (List Int)
deriving Inhabited, DecidableEq

structure D.Action where
  Kind : Int
  A : Int
  B : Int
deriving Inhabited, DecidableEq

structure D.Detector where
  Cluster : D.Cluster
  Holder : Int
  Count : Int
  Dark : Bool
  Stained : (List Bool)
  Rounds : Int
  Announced : Bool
deriving Inhabited, DecidableEq

structure D.Shot where
  Taken : (List Bool)
  Shards : (List D.Shard)
  Counts : (List (List Int))
  Recording : (List Bool)
  Saved : (List (List D.Parcel))
deriving Inhabited, DecidableEq

structure D.Watched where
  Cluster : D.Cluster
  Shot : D.Shot
deriving Inhabited, DecidableEq

structure D.thing where
  at_ : D.Address
  slot : Int
  own : Bool
deriving Inhabited, DecidableEq

structure D.statement where
  a : D.thing
  b : D.thing
deriving Inhabited, DecidableEq

structure D.Port where
  Agent : Int
  Slot : Int
deriving Inhabited, DecidableEq

structure D.Agent where
  Kind : Int
  Level : Int
  Value : Int
  Data : (List Int)
  Ports : (List D.Port)
deriving Inhabited, DecidableEq

structure D.l27Links where
  agents : (List D.Agent)
  ports : (List D.Port)
  cells : (List (List Int))
  vars : (List (List Int))
  ends : (List (List Int))
  pairs : (List (List Int))
deriving Inhabited, DecidableEq

def ty29 : Ty (List Int) := tSl 2 tInt
instance {W : World} : Reads W ty29 := inferInstanceAs (Reads W (tSl 2 tInt))
theorem z1u {w : World} {cs : List Value} {xs : (List Int)} (h : ty29.ro w cs xs) : ∃ A c, cs = [.slice A xs.length c] := slForm h

def ty24 : Ty D.Address := tMap (fun c => (c.Machine, c.Kind, c.Index, ())) (tPair tInt (tPair tInt (tPair tInt tUnit)))
instance {W : World} : Reads W ty24 := inferInstanceAs (Reads W (tMap (fun c : D.Address => (c.Machine, c.Kind, c.Index, ())) (tPair tInt (tPair tInt (tPair tInt tUnit)))))
theorem z86 {w : World} {cs : List Value} {c : D.Address} (h : ty24.ro w cs c) : cs = [.int .i64 c.Machine, .int .i64 c.Kind, .int .i64 c.Index] := by
  obtain ⟨c0, d0, rfl, h0, c1, d1, rfl, h1, c2, d2, rfl, h2, hz⟩ := h
  subst hz
  subst h0
  subst h1
  subst h2
  rfl
theorem z8z {w : World} (c : D.Address)   : ty24.ro w [.int .i64 c.Machine, .int .i64 c.Kind, .int .i64 c.Index] c :=
  ⟨_, _, rfl, rfl, ⟨_, _, rfl, rfl, ⟨_, _, rfl, rfl, rfl⟩⟩⟩
def zd0 : Ty (List D.Address) := tSl 24 ty24
instance {W : World} : Reads W zd0 := inferInstanceAs (Reads W (tSl 24 ty24))
theorem zgC {w : World} {cs : List Value} {xs : (List D.Address)} (h : zd0.ro w cs xs) : ∃ A c, cs = [.slice A xs.length c] := slForm h

def zcZ : Ty D.ShardCell := tMap (fun c => (c.Kind, c.Level, c.Value, c.Data, c.Aux, ())) (tPair tInt (tPair tInt (tPair tInt (tPair ty29 (tPair zd0 tUnit)))))
instance {W : World} : Reads W zcZ := inferInstanceAs (Reads W (tMap (fun c : D.ShardCell => (c.Kind, c.Level, c.Value, c.Data, c.Aux, ())) (tPair tInt (tPair tInt (tPair tInt (tPair ty29 (tPair zd0 tUnit)))))))
theorem z9i {w : World} {cs : List Value} {c : D.ShardCell} (h : zcZ.ro w cs c) : ∃ A0 k0 A1 k1, cs = [.int .i64 c.Kind, .int .i64 c.Level, .int .i64 c.Value, .slice A0 c.Data.length k0, .slice A1 c.Aux.length k1] ∧ ty29.ro w [.slice A0 c.Data.length k0] c.Data ∧ zd0.ro w [.slice A1 c.Aux.length k1] c.Aux := by
  obtain ⟨c0, d0, rfl, h0, c1, d1, rfl, h1, c2, d2, rfl, h2, c3, d3, rfl, h3, c4, d4, rfl, h4, hz⟩ := h
  subst hz
  subst h0
  subst h1
  subst h2
  obtain ⟨A3_, k3_, e3⟩ := z1u h3
  subst e3
  obtain ⟨A4_, k4_, e4⟩ := zgC h4
  subst e4
  exact ⟨A3_, k3_, A4_, k4_, rfl, h3, h4⟩
theorem zdj {w : World} (c : D.ShardCell) {A0 : Option Addr} {k0 : Nat} {A1 : Option Addr} {k1 : Nat} (h0 : ty29.ro w [.slice A0 c.Data.length k0] c.Data) (h1 : zd0.ro w [.slice A1 c.Aux.length k1] c.Aux) : zcZ.ro w [.int .i64 c.Kind, .int .i64 c.Level, .int .i64 c.Value, .slice A0 c.Data.length k0, .slice A1 c.Aux.length k1] c :=
  ⟨_, _, rfl, rfl, ⟨_, _, rfl, rfl, ⟨_, _, rfl, rfl, ⟨_, _, rfl, h0, ⟨_, _, rfl, h1, rfl⟩⟩⟩⟩⟩
def zeq : Ty (List D.ShardCell) := tSl 203 zcZ
instance {W : World} : Reads W zeq := inferInstanceAs (Reads W (tSl 203 zcZ))
theorem zgF {w : World} {cs : List Value} {xs : (List D.ShardCell)} (h : zeq.ro w cs xs) : ∃ A c, cs = [.slice A xs.length c] := slForm h

def zgz : Ty D.ShardVar := tMap (fun c => (c.Used, c.Full, c.Held, ())) (tPair tBool (tPair tBool (tPair ty24 tUnit)))
instance {W : World} : Reads W zgz := inferInstanceAs (Reads W (tMap (fun c : D.ShardVar => (c.Used, c.Full, c.Held, ())) (tPair tBool (tPair tBool (tPair ty24 tUnit)))))
theorem zdd {w : World} {cs : List Value} {c : D.ShardVar} (h : zgz.ro w cs c) : cs = [.bool c.Used, .bool c.Full, .int .i64 c.Held.Machine, .int .i64 c.Held.Kind, .int .i64 c.Held.Index] := by
  obtain ⟨c0, d0, rfl, h0, c1, d1, rfl, h1, c2, d2, rfl, h2, hz⟩ := h
  subst hz
  subst h0
  subst h1
  have e2 := z86 h2
  subst e2
  rfl
def zep : Ty (List D.ShardVar) := tSl 288 zgz
instance {W : World} : Reads W zep := inferInstanceAs (Reads W (tSl 288 zgz))
theorem zgE {w : World} {cs : List Value} {xs : (List D.ShardVar)} (h : zep.ro w cs xs) : ∃ A c, cs = [.slice A xs.length c] := slForm h

def zgy : Ty D.ShardRedex := tMap (fun c => (c.A, c.B, ())) (tPair ty24 (tPair ty24 tUnit))
instance {W : World} : Reads W zgy := inferInstanceAs (Reads W (tMap (fun c : D.ShardRedex => (c.A, c.B, ())) (tPair ty24 (tPair ty24 tUnit))))
theorem zdc {w : World} {cs : List Value} {c : D.ShardRedex} (h : zgy.ro w cs c) : cs = [.int .i64 c.A.Machine, .int .i64 c.A.Kind, .int .i64 c.A.Index, .int .i64 c.B.Machine, .int .i64 c.B.Kind, .int .i64 c.B.Index] := by
  obtain ⟨c0, d0, rfl, h0, c1, d1, rfl, h1, hz⟩ := h
  subst hz
  have e0 := z86 h0
  subst e0
  have e1 := z86 h1
  subst e1
  rfl
def zeo : Ty (List D.ShardRedex) := tSl 291 zgy
instance {W : World} : Reads W zeo := inferInstanceAs (Reads W (tSl 291 zgy))
theorem zgD {w : World} {cs : List Value} {xs : (List D.ShardRedex)} (h : zeo.ro w cs xs) : ∃ A c, cs = [.slice A xs.length c] := slForm h

def zfw : Ty D.Shard := tMap (fun c => (c.Cells, c.Vars, c.Redexes, ())) (tPair zeq (tPair zep (tPair zeo tUnit)))
instance {W : World} : Reads W zfw := inferInstanceAs (Reads W (tMap (fun c : D.Shard => (c.Cells, c.Vars, c.Redexes, ())) (tPair zeq (tPair zep (tPair zeo tUnit)))))
theorem zaf {w : World} {cs : List Value} {c : D.Shard} (h : zfw.ro w cs c) : ∃ A0 k0 A1 k1 A2 k2, cs = [.slice A0 c.Cells.length k0, .slice A1 c.Vars.length k1, .slice A2 c.Redexes.length k2] ∧ zeq.ro w [.slice A0 c.Cells.length k0] c.Cells ∧ zep.ro w [.slice A1 c.Vars.length k1] c.Vars ∧ zeo.ro w [.slice A2 c.Redexes.length k2] c.Redexes := by
  obtain ⟨c0, d0, rfl, h0, c1, d1, rfl, h1, c2, d2, rfl, h2, hz⟩ := h
  subst hz
  obtain ⟨A0_, k0_, e0⟩ := zgF h0
  subst e0
  obtain ⟨A1_, k1_, e1⟩ := zgE h1
  subst e1
  obtain ⟨A2_, k2_, e2⟩ := zgD h2
  subst e2
  exact ⟨A0_, k0_, A1_, k1_, A2_, k2_, rfl, h0, h1, h2⟩
def ty22 : Ty (List D.Shard) := tSl 199 zfw
instance {W : World} : Reads W ty22 := inferInstanceAs (Reads W (tSl 199 zfw))
theorem zen {w : World} {cs : List Value} {xs : (List D.Shard)} (h : ty22.ro w cs xs) : ∃ A c, cs = [.slice A xs.length c] := slForm h

def ty26 : Ty D.Grid := tMap (fun c => (c.Shards, c.Root, ())) (tPair ty22 (tPair ty24 tUnit))
instance {W : World} : Reads W ty26 := inferInstanceAs (Reads W (tMap (fun c : D.Grid => (c.Shards, c.Root, ())) (tPair ty22 (tPair ty24 tUnit))))
theorem zcb {w : World} {cs : List Value} {c : D.Grid} (h : ty26.ro w cs c) : ∃ A0 k0, cs = [.slice A0 c.Shards.length k0, .int .i64 c.Root.Machine, .int .i64 c.Root.Kind, .int .i64 c.Root.Index] ∧ ty22.ro w [.slice A0 c.Shards.length k0] c.Shards := by
  obtain ⟨c0, d0, rfl, h0, c1, d1, rfl, h1, hz⟩ := h
  subst hz
  obtain ⟨A0_, k0_, e0⟩ := zen h0
  subst e0
  have e1 := z86 h1
  subst e1
  exact ⟨A0_, k0_, rfl, h0⟩
theorem zca {w : World} (c : D.Grid) {A0 : Option Addr} {k0 : Nat} (h0 : ty22.ro w [.slice A0 c.Shards.length k0] c.Shards) : ty26.ro w [.slice A0 c.Shards.length k0, .int .i64 c.Root.Machine, .int .i64 c.Root.Kind, .int .i64 c.Root.Index] c :=
  ⟨_, _, rfl, h0, ⟨_, _, rfl, (z8z c.Root ), rfl⟩⟩
def zfv : Ty D.Parcel := tMap (fun c => (c.Kind, c.Cell, c.A, c.B, ())) (tPair tInt (tPair zcZ (tPair ty24 (tPair ty24 tUnit))))
instance {W : World} : Reads W zfv := inferInstanceAs (Reads W (tMap (fun c : D.Parcel => (c.Kind, c.Cell, c.A, c.B, ())) (tPair tInt (tPair zcZ (tPair ty24 (tPair ty24 tUnit))))))
theorem zae {w : World} {cs : List Value} {c : D.Parcel} (h : zfv.ro w cs c) : ∃ A0 k0 A1 k1, cs = [.int .i64 c.Kind, .int .i64 c.Cell.Kind, .int .i64 c.Cell.Level, .int .i64 c.Cell.Value, .slice A0 c.Cell.Data.length k0, .slice A1 c.Cell.Aux.length k1, .int .i64 c.A.Machine, .int .i64 c.A.Kind, .int .i64 c.A.Index, .int .i64 c.B.Machine, .int .i64 c.B.Kind, .int .i64 c.B.Index] ∧ ty29.ro w [.slice A0 c.Cell.Data.length k0] c.Cell.Data ∧ zd0.ro w [.slice A1 c.Cell.Aux.length k1] c.Cell.Aux := by
  obtain ⟨c0, d0, rfl, h0, c1, d1, rfl, h1, c2, d2, rfl, h2, c3, d3, rfl, h3, hz⟩ := h
  subst hz
  subst h0
  obtain ⟨A1_0, k1_0, A1_1, k1_1, e1, g1_0, g1_1⟩ := z9i h1
  subst e1
  have e2 := z86 h2
  subst e2
  have e3 := z86 h3
  subst e3
  exact ⟨A1_0, k1_0, A1_1, k1_1, rfl, g1_0, g1_1⟩
def zfA : Ty (List D.Parcel) := tSl 205 zfv
instance {W : World} : Reads W zfA := inferInstanceAs (Reads W (tSl 205 zfv))
theorem zdp {w : World} {cs : List Value} {xs : (List D.Parcel)} (h : zfA.ro w cs xs) : ∃ A c, cs = [.slice A xs.length c] := slForm h

def ty27 : Ty (List (List D.Parcel)) := tSl 141 zfA
instance {W : World} : Reads W ty27 := inferInstanceAs (Reads W (tSl 141 zfA))
theorem zem {w : World} {cs : List Value} {xs : (List (List D.Parcel))} (h : ty27.ro w cs xs) : ∃ A c, cs = [.slice A xs.length c] := slForm h

def ty28 : Ty (List (List Int)) := tSl 29 ty29
instance {W : World} : Reads W ty28 := inferInstanceAs (Reads W (tSl 29 ty29))
theorem z85 {w : World} {cs : List Value} {xs : (List (List Int))} (h : ty28.ro w cs xs) : ∃ A c, cs = [.slice A xs.length c] := slForm h

def ty31 : Ty D.Cluster := tMap (fun c => (c.Grid, c.Channels, c.Counts, c.Sent, c.Got, ())) (tPair ty26 (tPair ty27 (tPair ty28 (tPair ty29 (tPair ty29 tUnit)))))
instance {W : World} : Reads W ty31 := inferInstanceAs (Reads W (tMap (fun c : D.Cluster => (c.Grid, c.Channels, c.Counts, c.Sent, c.Got, ())) (tPair ty26 (tPair ty27 (tPair ty28 (tPair ty29 (tPair ty29 tUnit)))))))
theorem zc9 {w : World} {cs : List Value} {c : D.Cluster} (h : ty31.ro w cs c) : ∃ A0 k0 A1 k1 A2 k2 A3 k3 A4 k4, cs = [.slice A0 c.Grid.Shards.length k0, .int .i64 c.Grid.Root.Machine, .int .i64 c.Grid.Root.Kind, .int .i64 c.Grid.Root.Index, .slice A1 c.Channels.length k1, .slice A2 c.Counts.length k2, .slice A3 c.Sent.length k3, .slice A4 c.Got.length k4] ∧ ty22.ro w [.slice A0 c.Grid.Shards.length k0] c.Grid.Shards ∧ ty27.ro w [.slice A1 c.Channels.length k1] c.Channels ∧ ty28.ro w [.slice A2 c.Counts.length k2] c.Counts ∧ ty29.ro w [.slice A3 c.Sent.length k3] c.Sent ∧ ty29.ro w [.slice A4 c.Got.length k4] c.Got := by
  obtain ⟨c0, d0, rfl, h0, c1, d1, rfl, h1, c2, d2, rfl, h2, c3, d3, rfl, h3, c4, d4, rfl, h4, hz⟩ := h
  subst hz
  obtain ⟨A0_0, k0_0, e0, g0_0⟩ := zcb h0
  subst e0
  obtain ⟨A1_, k1_, e1⟩ := zem h1
  subst e1
  obtain ⟨A2_, k2_, e2⟩ := z85 h2
  subst e2
  obtain ⟨A3_, k3_, e3⟩ := z1u h3
  subst e3
  obtain ⟨A4_, k4_, e4⟩ := z1u h4
  subst e4
  exact ⟨A0_0, k0_0, A1_, k1_, A2_, k2_, A3_, k3_, A4_, k4_, rfl, g0_0, h1, h2, h3, h4⟩
theorem zek {w : World} (c : D.Cluster) {A0 : Option Addr} {k0 : Nat} {A1 : Option Addr} {k1 : Nat} {A2 : Option Addr} {k2 : Nat} {A3 : Option Addr} {k3 : Nat} {A4 : Option Addr} {k4 : Nat} (h0 : ty22.ro w [.slice A0 c.Grid.Shards.length k0] c.Grid.Shards) (h1 : ty27.ro w [.slice A1 c.Channels.length k1] c.Channels) (h2 : ty28.ro w [.slice A2 c.Counts.length k2] c.Counts) (h3 : ty29.ro w [.slice A3 c.Sent.length k3] c.Sent) (h4 : ty29.ro w [.slice A4 c.Got.length k4] c.Got) : ty31.ro w [.slice A0 c.Grid.Shards.length k0, .int .i64 c.Grid.Root.Machine, .int .i64 c.Grid.Root.Kind, .int .i64 c.Grid.Root.Index, .slice A1 c.Channels.length k1, .slice A2 c.Counts.length k2, .slice A3 c.Sent.length k3, .slice A4 c.Got.length k4] c :=
  ⟨_, _, rfl, (zca c.Grid h0), ⟨_, _, rfl, h1, ⟨_, _, rfl, h2, ⟨_, _, rfl, h3, ⟨_, _, rfl, h4, rfl⟩⟩⟩⟩⟩
def ty35 : Ty D.Address := tMap (fun c => (c.Machine, c.Kind, c.Index, ())) (tPair tInt (tPair tInt (tPair tInt tUnit)))
instance {W : World} : Reads W ty35 := inferInstanceAs (Reads W (tMap (fun c : D.Address => (c.Machine, c.Kind, c.Index, ())) (tPair tInt (tPair tInt (tPair tInt tUnit)))))
theorem z1k {w : World} {cs : List Value} {c : D.Address} (h : ty35.ro w cs c) : cs = [.int .i64 c.Machine, .int .i64 c.Kind, .int .i64 c.Index] := by
  obtain ⟨c0, d0, rfl, h0, c1, d1, rfl, h1, c2, d2, rfl, h2, hz⟩ := h
  subst hz
  subst h0
  subst h1
  subst h2
  rfl
theorem zC {w : World} (c : D.Address)   : ty35.ro w [.int .i64 c.Machine, .int .i64 c.Kind, .int .i64 c.Index] c :=
  ⟨_, _, rfl, rfl, ⟨_, _, rfl, rfl, ⟨_, _, rfl, rfl, rfl⟩⟩⟩
theorem z84 {w : World} {c : D.Address}  {G : List Nat} (h : (All []).A w G) : ty35.own w [.int .i64 c.Machine, .int .i64 c.Kind, .int .i64 c.Index] c G := by
  have hz : G = [] := h
  subst hz
  exact cast (congrArg _ (by simp)) (show ty35.own w [.int .i64 c.Machine, .int .i64 c.Kind, .int .i64 c.Index] c (_) from ⟨_, _, _, _, rfl, rfl, ⟨rfl, rfl⟩, ⟨_, _, _, _, rfl, rfl, ⟨rfl, rfl⟩, ⟨_, _, _, _, rfl, rfl, ⟨rfl, rfl⟩, ⟨rfl, rfl⟩⟩⟩⟩)
theorem zgx {W w : World} {B : List Res} {c : D.Address}  (h : St W w ([] ++ B)) : St W w (Own ty35 [.int .i64 c.Machine, .int .i64 c.Kind, .int .i64 c.Index] c :: B) := (St.fuseAll h).conv fun _ hG => z84 hG

def z77 : Ty (List D.Address) := tSl 35 ty35
instance {W : World} : Reads W z77 := inferInstanceAs (Reads W (tSl 35 ty35))
theorem zgN {w : World} {cs : List Value} {xs : (List D.Address)} (h : z77.ro w cs xs) : ∃ A c, cs = [.slice A xs.length c] := slForm h

def z6k : Ty D.ShardCell := tMap (fun c => (c.Kind, c.Level, c.Value, c.Data, c.Aux, ())) (tPair tInt (tPair tInt (tPair tInt (tPair ty29 (tPair z77 tUnit)))))
instance {W : World} : Reads W z6k := inferInstanceAs (Reads W (tMap (fun c : D.ShardCell => (c.Kind, c.Level, c.Value, c.Data, c.Aux, ())) (tPair tInt (tPair tInt (tPair tInt (tPair ty29 (tPair z77 tUnit)))))))
theorem zH {w : World} {cs : List Value} {c : D.ShardCell} (h : z6k.ro w cs c) : ∃ A0 k0 A1 k1, cs = [.int .i64 c.Kind, .int .i64 c.Level, .int .i64 c.Value, .slice A0 c.Data.length k0, .slice A1 c.Aux.length k1] ∧ ty29.ro w [.slice A0 c.Data.length k0] c.Data ∧ z77.ro w [.slice A1 c.Aux.length k1] c.Aux := by
  obtain ⟨c0, d0, rfl, h0, c1, d1, rfl, h1, c2, d2, rfl, h2, c3, d3, rfl, h3, c4, d4, rfl, h4, hz⟩ := h
  subst hz
  subst h0
  subst h1
  subst h2
  obtain ⟨A3_, k3_, e3⟩ := z1u h3
  subst e3
  obtain ⟨A4_, k4_, e4⟩ := zgN h4
  subst e4
  exact ⟨A3_, k3_, A4_, k4_, rfl, h3, h4⟩
theorem z4e {w : World} (c : D.ShardCell) {A0 : Option Addr} {k0 : Nat} {A1 : Option Addr} {k1 : Nat} (h0 : ty29.ro w [.slice A0 c.Data.length k0] c.Data) (h1 : z77.ro w [.slice A1 c.Aux.length k1] c.Aux) : z6k.ro w [.int .i64 c.Kind, .int .i64 c.Level, .int .i64 c.Value, .slice A0 c.Data.length k0, .slice A1 c.Aux.length k1] c :=
  ⟨_, _, rfl, rfl, ⟨_, _, rfl, rfl, ⟨_, _, rfl, rfl, ⟨_, _, rfl, h0, ⟨_, _, rfl, h1, rfl⟩⟩⟩⟩⟩
theorem zbg {w : World} {c : D.ShardCell} {A0 : Option Addr} {k0 : Nat} {A1 : Option Addr} {k1 : Nat} {G : List Nat} (h : (All [Own ty29 [.slice A0 c.Data.length k0] c.Data, Own z77 [.slice A1 c.Aux.length k1] c.Aux]).A w G) : z6k.own w [.int .i64 c.Kind, .int .i64 c.Level, .int .i64 c.Value, .slice A0 c.Data.length k0, .slice A1 c.Aux.length k1] c G := by
  obtain ⟨G0, R0, rfl, h0, G1, R1, rfl, h1, hz⟩ := h
  have hz' : R1 = [] := hz
  subst hz'
  exact cast (congrArg _ (by simp)) (show z6k.own w [.int .i64 c.Kind, .int .i64 c.Level, .int .i64 c.Value, .slice A0 c.Data.length k0, .slice A1 c.Aux.length k1] c (_) from ⟨_, _, _, _, rfl, rfl, ⟨rfl, rfl⟩, ⟨_, _, _, _, rfl, rfl, ⟨rfl, rfl⟩, ⟨_, _, _, _, rfl, rfl, ⟨rfl, rfl⟩, ⟨_, _, _, _, rfl, rfl, h0, ⟨_, _, _, _, rfl, rfl, h1, ⟨rfl, rfl⟩⟩⟩⟩⟩⟩)
theorem zfz {W w : World} {B : List Res} {c : D.ShardCell} {A0 : Option Addr} {k0 : Nat} {A1 : Option Addr} {k1 : Nat} (h : St W w ([Own ty29 [.slice A0 c.Data.length k0] c.Data, Own z77 [.slice A1 c.Aux.length k1] c.Aux] ++ B)) : St W w (Own z6k [.int .i64 c.Kind, .int .i64 c.Level, .int .i64 c.Value, .slice A0 c.Data.length k0, .slice A1 c.Aux.length k1] c :: B) := (St.fuseAll h).conv fun _ hG => zbg hG

def z8e : Ty (List D.ShardCell) := tSl 154 z6k
instance {W : World} : Reads W z8e := inferInstanceAs (Reads W (tSl 154 z6k))
theorem zgL {w : World} {cs : List Value} {xs : (List D.ShardCell)} (h : z8e.ro w cs xs) : ∃ A c, cs = [.slice A xs.length c] := slForm h

def z9N : Ty D.ShardVar := tMap (fun c => (c.Used, c.Full, c.Held, ())) (tPair tBool (tPair tBool (tPair ty35 tUnit)))
instance {W : World} : Reads W z9N := inferInstanceAs (Reads W (tMap (fun c : D.ShardVar => (c.Used, c.Full, c.Held, ())) (tPair tBool (tPair tBool (tPair ty35 tUnit)))))
theorem z1y {w : World} {cs : List Value} {c : D.ShardVar} (h : z9N.ro w cs c) : cs = [.bool c.Used, .bool c.Full, .int .i64 c.Held.Machine, .int .i64 c.Held.Kind, .int .i64 c.Held.Index] := by
  obtain ⟨c0, d0, rfl, h0, c1, d1, rfl, h1, c2, d2, rfl, h2, hz⟩ := h
  subst hz
  subst h0
  subst h1
  have e2 := z1k h2
  subst e2
  rfl
theorem zdg {w : World} {c : D.ShardVar}  {G : List Nat} (h : (All []).A w G) : z9N.own w [.bool c.Used, .bool c.Full, .int .i64 c.Held.Machine, .int .i64 c.Held.Kind, .int .i64 c.Held.Index] c G := by
  have hz : G = [] := h
  subst hz
  exact cast (congrArg _ (by simp)) (show z9N.own w [.bool c.Used, .bool c.Full, .int .i64 c.Held.Machine, .int .i64 c.Held.Kind, .int .i64 c.Held.Index] c (_) from ⟨_, _, _, _, rfl, rfl, ⟨rfl, rfl⟩, ⟨_, _, _, _, rfl, rfl, ⟨rfl, rfl⟩, ⟨_, _, _, _, rfl, rfl, (z84 (c := c.Held) rfl), ⟨rfl, rfl⟩⟩⟩⟩)
theorem zfu {W w : World} {B : List Res} {c : D.ShardVar}  (h : St W w ([] ++ B)) : St W w (Own z9N [.bool c.Used, .bool c.Full, .int .i64 c.Held.Machine, .int .i64 c.Held.Kind, .int .i64 c.Held.Index] c :: B) := (St.fuseAll h).conv fun _ hG => zdg hG

def z8A : Ty (List D.ShardVar) := tSl 223 z9N
instance {W : World} : Reads W z8A := inferInstanceAs (Reads W (tSl 223 z9N))
theorem zgJ {w : World} {cs : List Value} {xs : (List D.ShardVar)} (h : z8A.ro w cs xs) : ∃ A c, cs = [.slice A xs.length c] := slForm h

def zbe : Ty D.ShardRedex := tMap (fun c => (c.A, c.B, ())) (tPair ty35 (tPair ty35 tUnit))
instance {W : World} : Reads W zbe := inferInstanceAs (Reads W (tMap (fun c : D.ShardRedex => (c.A, c.B, ())) (tPair ty35 (tPair ty35 tUnit))))
theorem z52 {w : World} {cs : List Value} {c : D.ShardRedex} (h : zbe.ro w cs c) : cs = [.int .i64 c.A.Machine, .int .i64 c.A.Kind, .int .i64 c.A.Index, .int .i64 c.B.Machine, .int .i64 c.B.Kind, .int .i64 c.B.Index] := by
  obtain ⟨c0, d0, rfl, h0, c1, d1, rfl, h1, hz⟩ := h
  subst hz
  have e0 := z1k h0
  subst e0
  have e1 := z1k h1
  subst e1
  rfl
theorem zdf {w : World} {c : D.ShardRedex}  {G : List Nat} (h : (All []).A w G) : zbe.own w [.int .i64 c.A.Machine, .int .i64 c.A.Kind, .int .i64 c.A.Index, .int .i64 c.B.Machine, .int .i64 c.B.Kind, .int .i64 c.B.Index] c G := by
  have hz : G = [] := h
  subst hz
  exact cast (congrArg _ (by simp)) (show zbe.own w [.int .i64 c.A.Machine, .int .i64 c.A.Kind, .int .i64 c.A.Index, .int .i64 c.B.Machine, .int .i64 c.B.Kind, .int .i64 c.B.Index] c (_) from ⟨_, _, _, _, rfl, rfl, (z84 (c := c.A) rfl), ⟨_, _, _, _, rfl, rfl, (z84 (c := c.B) rfl), ⟨rfl, rfl⟩⟩⟩)
theorem zft {W w : World} {B : List Res} {c : D.ShardRedex}  (h : St W w ([] ++ B)) : St W w (Own zbe [.int .i64 c.A.Machine, .int .i64 c.A.Kind, .int .i64 c.A.Index, .int .i64 c.B.Machine, .int .i64 c.B.Kind, .int .i64 c.B.Index] c :: B) := (St.fuseAll h).conv fun _ hG => zdf hG

def z98 : Ty (List D.ShardRedex) := tSl 239 zbe
instance {W : World} : Reads W z98 := inferInstanceAs (Reads W (tSl 239 zbe))
theorem zgH {w : World} {cs : List Value} {xs : (List D.ShardRedex)} (h : z98.ro w cs xs) : ∃ A c, cs = [.slice A xs.length c] := slForm h

def z97 : Ty D.Shard := tMap (fun c => (c.Cells, c.Vars, c.Redexes, ())) (tPair z8e (tPair z8A (tPair z98 tUnit)))
instance {W : World} : Reads W z97 := inferInstanceAs (Reads W (tMap (fun c : D.Shard => (c.Cells, c.Vars, c.Redexes, ())) (tPair z8e (tPair z8A (tPair z98 tUnit)))))
theorem zW {w : World} {cs : List Value} {c : D.Shard} (h : z97.ro w cs c) : ∃ A0 k0 A1 k1 A2 k2, cs = [.slice A0 c.Cells.length k0, .slice A1 c.Vars.length k1, .slice A2 c.Redexes.length k2] ∧ z8e.ro w [.slice A0 c.Cells.length k0] c.Cells ∧ z8A.ro w [.slice A1 c.Vars.length k1] c.Vars ∧ z98.ro w [.slice A2 c.Redexes.length k2] c.Redexes := by
  obtain ⟨c0, d0, rfl, h0, c1, d1, rfl, h1, c2, d2, rfl, h2, hz⟩ := h
  subst hz
  obtain ⟨A0_, k0_, e0⟩ := zgL h0
  subst e0
  obtain ⟨A1_, k1_, e1⟩ := zgJ h1
  subst e1
  obtain ⟨A2_, k2_, e2⟩ := zgH h2
  subst e2
  exact ⟨A0_, k0_, A1_, k1_, A2_, k2_, rfl, h0, h1, h2⟩
theorem zdm {w : World} (c : D.Shard) {A0 : Option Addr} {k0 : Nat} {A1 : Option Addr} {k1 : Nat} {A2 : Option Addr} {k2 : Nat} (h0 : z8e.ro w [.slice A0 c.Cells.length k0] c.Cells) (h1 : z8A.ro w [.slice A1 c.Vars.length k1] c.Vars) (h2 : z98.ro w [.slice A2 c.Redexes.length k2] c.Redexes) : z97.ro w [.slice A0 c.Cells.length k0, .slice A1 c.Vars.length k1, .slice A2 c.Redexes.length k2] c :=
  ⟨_, _, rfl, h0, ⟨_, _, rfl, h1, ⟨_, _, rfl, h2, rfl⟩⟩⟩
theorem zdn {w : World} {c : D.Shard} {A0 : Option Addr} {k0 : Nat} {A1 : Option Addr} {k1 : Nat} {A2 : Option Addr} {k2 : Nat} {G : List Nat} (h : (All [Own z8e [.slice A0 c.Cells.length k0] c.Cells, Own z8A [.slice A1 c.Vars.length k1] c.Vars, Own z98 [.slice A2 c.Redexes.length k2] c.Redexes]).A w G) : z97.own w [.slice A0 c.Cells.length k0, .slice A1 c.Vars.length k1, .slice A2 c.Redexes.length k2] c G := by
  obtain ⟨G0, R0, rfl, h0, G1, R1, rfl, h1, G2, R2, rfl, h2, hz⟩ := h
  have hz' : R2 = [] := hz
  subst hz'
  exact cast (congrArg _ (by simp)) (show z97.own w [.slice A0 c.Cells.length k0, .slice A1 c.Vars.length k1, .slice A2 c.Redexes.length k2] c (_) from ⟨_, _, _, _, rfl, rfl, h0, ⟨_, _, _, _, rfl, rfl, h1, ⟨_, _, _, _, rfl, rfl, h2, ⟨rfl, rfl⟩⟩⟩⟩)
theorem zfx {W w : World} {B : List Res} {c : D.Shard} {A0 : Option Addr} {k0 : Nat} {A1 : Option Addr} {k1 : Nat} {A2 : Option Addr} {k2 : Nat} (h : St W w ([Own z8e [.slice A0 c.Cells.length k0] c.Cells, Own z8A [.slice A1 c.Vars.length k1] c.Vars, Own z98 [.slice A2 c.Redexes.length k2] c.Redexes] ++ B)) : St W w (Own z97 [.slice A0 c.Cells.length k0, .slice A1 c.Vars.length k1, .slice A2 c.Redexes.length k2] c :: B) := (St.fuseAll h).conv fun _ hG => zdn hG

def ty34 : Ty (List D.Shard) := tSl 166 z97
instance {W : World} : Reads W ty34 := inferInstanceAs (Reads W (tSl 166 z97))
theorem zej {w : World} {cs : List Value} {xs : (List D.Shard)} (h : ty34.ro w cs xs) : ∃ A c, cs = [.slice A xs.length c] := slForm h

def ty37 : Ty D.Grid := tMap (fun c => (c.Shards, c.Root, ())) (tPair ty34 (tPair ty35 tUnit))
instance {W : World} : Reads W ty37 := inferInstanceAs (Reads W (tMap (fun c : D.Grid => (c.Shards, c.Root, ())) (tPair ty34 (tPair ty35 tUnit))))
theorem z4p {w : World} {cs : List Value} {c : D.Grid} (h : ty37.ro w cs c) : ∃ A0 k0, cs = [.slice A0 c.Shards.length k0, .int .i64 c.Root.Machine, .int .i64 c.Root.Kind, .int .i64 c.Root.Index] ∧ ty34.ro w [.slice A0 c.Shards.length k0] c.Shards := by
  obtain ⟨c0, d0, rfl, h0, c1, d1, rfl, h1, hz⟩ := h
  subst hz
  obtain ⟨A0_, k0_, e0⟩ := zej h0
  subst e0
  have e1 := z1k h1
  subst e1
  exact ⟨A0_, k0_, rfl, h0⟩
theorem z5N {w : World} (c : D.Grid) {A0 : Option Addr} {k0 : Nat} (h0 : ty34.ro w [.slice A0 c.Shards.length k0] c.Shards) : ty37.ro w [.slice A0 c.Shards.length k0, .int .i64 c.Root.Machine, .int .i64 c.Root.Kind, .int .i64 c.Root.Index] c :=
  ⟨_, _, rfl, h0, ⟨_, _, rfl, (zC c.Root ), rfl⟩⟩
def z9Q : Ty D.Parcel := tMap (fun c => (c.Kind, c.Cell, c.A, c.B, ())) (tPair tInt (tPair z6k (tPair ty35 (tPair ty35 tUnit))))
instance {W : World} : Reads W z9Q := inferInstanceAs (Reads W (tMap (fun c : D.Parcel => (c.Kind, c.Cell, c.A, c.B, ())) (tPair tInt (tPair z6k (tPair ty35 (tPair ty35 tUnit))))))
theorem z2o {w : World} {cs : List Value} {c : D.Parcel} (h : z9Q.ro w cs c) : ∃ A0 k0 A1 k1, cs = [.int .i64 c.Kind, .int .i64 c.Cell.Kind, .int .i64 c.Cell.Level, .int .i64 c.Cell.Value, .slice A0 c.Cell.Data.length k0, .slice A1 c.Cell.Aux.length k1, .int .i64 c.A.Machine, .int .i64 c.A.Kind, .int .i64 c.A.Index, .int .i64 c.B.Machine, .int .i64 c.B.Kind, .int .i64 c.B.Index] ∧ ty29.ro w [.slice A0 c.Cell.Data.length k0] c.Cell.Data ∧ z77.ro w [.slice A1 c.Cell.Aux.length k1] c.Cell.Aux := by
  obtain ⟨c0, d0, rfl, h0, c1, d1, rfl, h1, c2, d2, rfl, h2, c3, d3, rfl, h3, hz⟩ := h
  subst hz
  subst h0
  obtain ⟨A1_0, k1_0, A1_1, k1_1, e1, g1_0, g1_1⟩ := zH h1
  subst e1
  have e2 := z1k h2
  subst e2
  have e3 := z1k h3
  subst e3
  exact ⟨A1_0, k1_0, A1_1, k1_1, rfl, g1_0, g1_1⟩
theorem zdo {w : World} {c : D.Parcel} {A0 : Option Addr} {k0 : Nat} {A1 : Option Addr} {k1 : Nat} {G : List Nat} (h : (All [Own ty29 [.slice A0 c.Cell.Data.length k0] c.Cell.Data, Own z77 [.slice A1 c.Cell.Aux.length k1] c.Cell.Aux]).A w G) : z9Q.own w [.int .i64 c.Kind, .int .i64 c.Cell.Kind, .int .i64 c.Cell.Level, .int .i64 c.Cell.Value, .slice A0 c.Cell.Data.length k0, .slice A1 c.Cell.Aux.length k1, .int .i64 c.A.Machine, .int .i64 c.A.Kind, .int .i64 c.A.Index, .int .i64 c.B.Machine, .int .i64 c.B.Kind, .int .i64 c.B.Index] c G := by
  obtain ⟨G0, R0, rfl, h0, G1, R1, rfl, h1, hz⟩ := h
  have hz' : R1 = [] := hz
  subst hz'
  exact cast (congrArg _ (by simp)) (show z9Q.own w [.int .i64 c.Kind, .int .i64 c.Cell.Kind, .int .i64 c.Cell.Level, .int .i64 c.Cell.Value, .slice A0 c.Cell.Data.length k0, .slice A1 c.Cell.Aux.length k1, .int .i64 c.A.Machine, .int .i64 c.A.Kind, .int .i64 c.A.Index, .int .i64 c.B.Machine, .int .i64 c.B.Kind, .int .i64 c.B.Index] c (_) from ⟨_, _, _, _, rfl, rfl, ⟨rfl, rfl⟩, ⟨_, _, _, _, rfl, rfl, (zbg (c := c.Cell) ⟨_, _, rfl, h0, ⟨_, _, rfl, h1, rfl⟩⟩), ⟨_, _, _, _, rfl, rfl, (z84 (c := c.A) rfl), ⟨_, _, _, _, rfl, rfl, (z84 (c := c.B) rfl), ⟨rfl, rfl⟩⟩⟩⟩⟩)
theorem zfy {W w : World} {B : List Res} {c : D.Parcel} {A0 : Option Addr} {k0 : Nat} {A1 : Option Addr} {k1 : Nat} (h : St W w ([Own ty29 [.slice A0 c.Cell.Data.length k0] c.Cell.Data, Own z77 [.slice A1 c.Cell.Aux.length k1] c.Cell.Aux] ++ B)) : St W w (Own z9Q [.int .i64 c.Kind, .int .i64 c.Cell.Kind, .int .i64 c.Cell.Level, .int .i64 c.Cell.Value, .slice A0 c.Cell.Data.length k0, .slice A1 c.Cell.Aux.length k1, .int .i64 c.A.Machine, .int .i64 c.A.Kind, .int .i64 c.A.Index, .int .i64 c.B.Machine, .int .i64 c.B.Kind, .int .i64 c.B.Index] c :: B) := (St.fuseAll h).conv fun _ hG => zdo hG

def zas : Ty (List D.Parcel) := tSl 156 z9Q
instance {W : World} : Reads W zas := inferInstanceAs (Reads W (tSl 156 z9Q))
theorem z1f {w : World} {cs : List Value} {xs : (List D.Parcel)} (h : zas.ro w cs xs) : ∃ A c, cs = [.slice A xs.length c] := slForm h

def ty38 : Ty (List (List D.Parcel)) := tSl 149 zas
instance {W : World} : Reads W ty38 := inferInstanceAs (Reads W (tSl 149 zas))
theorem zei {w : World} {cs : List Value} {xs : (List (List D.Parcel))} (h : ty38.ro w cs xs) : ∃ A c, cs = [.slice A xs.length c] := slForm h

def ty40 : Ty D.Cluster := tMap (fun c => (c.Grid, c.Channels, c.Counts, c.Sent, c.Got, ())) (tPair ty37 (tPair ty38 (tPair ty28 (tPair ty29 (tPair ty29 tUnit)))))
instance {W : World} : Reads W ty40 := inferInstanceAs (Reads W (tMap (fun c : D.Cluster => (c.Grid, c.Channels, c.Counts, c.Sent, c.Got, ())) (tPair ty37 (tPair ty38 (tPair ty28 (tPair ty29 (tPair ty29 tUnit)))))))
theorem z7r {w : World} {cs : List Value} {c : D.Cluster} (h : ty40.ro w cs c) : ∃ A0 k0 A1 k1 A2 k2 A3 k3 A4 k4, cs = [.slice A0 c.Grid.Shards.length k0, .int .i64 c.Grid.Root.Machine, .int .i64 c.Grid.Root.Kind, .int .i64 c.Grid.Root.Index, .slice A1 c.Channels.length k1, .slice A2 c.Counts.length k2, .slice A3 c.Sent.length k3, .slice A4 c.Got.length k4] ∧ ty34.ro w [.slice A0 c.Grid.Shards.length k0] c.Grid.Shards ∧ ty38.ro w [.slice A1 c.Channels.length k1] c.Channels ∧ ty28.ro w [.slice A2 c.Counts.length k2] c.Counts ∧ ty29.ro w [.slice A3 c.Sent.length k3] c.Sent ∧ ty29.ro w [.slice A4 c.Got.length k4] c.Got := by
  obtain ⟨c0, d0, rfl, h0, c1, d1, rfl, h1, c2, d2, rfl, h2, c3, d3, rfl, h3, c4, d4, rfl, h4, hz⟩ := h
  subst hz
  obtain ⟨A0_0, k0_0, e0, g0_0⟩ := z4p h0
  subst e0
  obtain ⟨A1_, k1_, e1⟩ := zei h1
  subst e1
  obtain ⟨A2_, k2_, e2⟩ := z85 h2
  subst e2
  obtain ⟨A3_, k3_, e3⟩ := z1u h3
  subst e3
  obtain ⟨A4_, k4_, e4⟩ := z1u h4
  subst e4
  exact ⟨A0_0, k0_0, A1_, k1_, A2_, k2_, A3_, k3_, A4_, k4_, rfl, g0_0, h1, h2, h3, h4⟩
theorem z8y {w : World} (c : D.Cluster) {A0 : Option Addr} {k0 : Nat} {A1 : Option Addr} {k1 : Nat} {A2 : Option Addr} {k2 : Nat} {A3 : Option Addr} {k3 : Nat} {A4 : Option Addr} {k4 : Nat} (h0 : ty34.ro w [.slice A0 c.Grid.Shards.length k0] c.Grid.Shards) (h1 : ty38.ro w [.slice A1 c.Channels.length k1] c.Channels) (h2 : ty28.ro w [.slice A2 c.Counts.length k2] c.Counts) (h3 : ty29.ro w [.slice A3 c.Sent.length k3] c.Sent) (h4 : ty29.ro w [.slice A4 c.Got.length k4] c.Got) : ty40.ro w [.slice A0 c.Grid.Shards.length k0, .int .i64 c.Grid.Root.Machine, .int .i64 c.Grid.Root.Kind, .int .i64 c.Grid.Root.Index, .slice A1 c.Channels.length k1, .slice A2 c.Counts.length k2, .slice A3 c.Sent.length k3, .slice A4 c.Got.length k4] c :=
  ⟨_, _, rfl, (z5N c.Grid h0), ⟨_, _, rfl, h1, ⟨_, _, rfl, h2, ⟨_, _, rfl, h3, ⟨_, _, rfl, h4, rfl⟩⟩⟩⟩⟩
def ty56 : Ty (List Bool) := tSl 4 tBool
instance {W : World} : Reads W ty56 := inferInstanceAs (Reads W (tSl 4 tBool))
theorem zaM {w : World} {cs : List Value} {xs : (List Bool)} (h : ty56.ro w cs xs) : ∃ A c, cs = [.slice A xs.length c] := slForm h

def ty67 : Ty D.Shot := tMap (fun c => (c.Taken, c.Shards, c.Counts, c.Recording, c.Saved, ())) (tPair ty56 (tPair ty22 (tPair ty28 (tPair ty56 (tPair ty27 tUnit)))))
instance {W : World} : Reads W ty67 := inferInstanceAs (Reads W (tMap (fun c : D.Shot => (c.Taken, c.Shards, c.Counts, c.Recording, c.Saved, ())) (tPair ty56 (tPair ty22 (tPair ty28 (tPair ty56 (tPair ty27 tUnit)))))))
theorem zc8 {w : World} {cs : List Value} {c : D.Shot} (h : ty67.ro w cs c) : ∃ A0 k0 A1 k1 A2 k2 A3 k3 A4 k4, cs = [.slice A0 c.Taken.length k0, .slice A1 c.Shards.length k1, .slice A2 c.Counts.length k2, .slice A3 c.Recording.length k3, .slice A4 c.Saved.length k4] ∧ ty56.ro w [.slice A0 c.Taken.length k0] c.Taken ∧ ty22.ro w [.slice A1 c.Shards.length k1] c.Shards ∧ ty28.ro w [.slice A2 c.Counts.length k2] c.Counts ∧ ty56.ro w [.slice A3 c.Recording.length k3] c.Recording ∧ ty27.ro w [.slice A4 c.Saved.length k4] c.Saved := by
  obtain ⟨c0, d0, rfl, h0, c1, d1, rfl, h1, c2, d2, rfl, h2, c3, d3, rfl, h3, c4, d4, rfl, h4, hz⟩ := h
  subst hz
  obtain ⟨A0_, k0_, e0⟩ := zaM h0
  subst e0
  obtain ⟨A1_, k1_, e1⟩ := zen h1
  subst e1
  obtain ⟨A2_, k2_, e2⟩ := z85 h2
  subst e2
  obtain ⟨A3_, k3_, e3⟩ := zaM h3
  subst e3
  obtain ⟨A4_, k4_, e4⟩ := zem h4
  subst e4
  exact ⟨A0_, k0_, A1_, k1_, A2_, k2_, A3_, k3_, A4_, k4_, rfl, h0, h1, h2, h3, h4⟩
theorem zeh {w : World} (c : D.Shot) {A0 : Option Addr} {k0 : Nat} {A1 : Option Addr} {k1 : Nat} {A2 : Option Addr} {k2 : Nat} {A3 : Option Addr} {k3 : Nat} {A4 : Option Addr} {k4 : Nat} (h0 : ty56.ro w [.slice A0 c.Taken.length k0] c.Taken) (h1 : ty22.ro w [.slice A1 c.Shards.length k1] c.Shards) (h2 : ty28.ro w [.slice A2 c.Counts.length k2] c.Counts) (h3 : ty56.ro w [.slice A3 c.Recording.length k3] c.Recording) (h4 : ty27.ro w [.slice A4 c.Saved.length k4] c.Saved) : ty67.ro w [.slice A0 c.Taken.length k0, .slice A1 c.Shards.length k1, .slice A2 c.Counts.length k2, .slice A3 c.Recording.length k3, .slice A4 c.Saved.length k4] c :=
  ⟨_, _, rfl, h0, ⟨_, _, rfl, h1, ⟨_, _, rfl, h2, ⟨_, _, rfl, h3, ⟨_, _, rfl, h4, rfl⟩⟩⟩⟩⟩
def ty69 : Ty D.Watched := tMap (fun c => (c.Cluster, c.Shot, ())) (tPair ty31 (tPair ty67 tUnit))
instance {W : World} : Reads W ty69 := inferInstanceAs (Reads W (tMap (fun c : D.Watched => (c.Cluster, c.Shot, ())) (tPair ty31 (tPair ty67 tUnit))))
theorem zaL {w : World} {cs : List Value} {c : D.Watched} (h : ty69.ro w cs c) : ∃ A0 k0 A1 k1 A2 k2 A3 k3 A4 k4 A5 k5 A6 k6 A7 k7 A8 k8 A9 k9, cs = [.slice A0 c.Cluster.Grid.Shards.length k0, .int .i64 c.Cluster.Grid.Root.Machine, .int .i64 c.Cluster.Grid.Root.Kind, .int .i64 c.Cluster.Grid.Root.Index, .slice A1 c.Cluster.Channels.length k1, .slice A2 c.Cluster.Counts.length k2, .slice A3 c.Cluster.Sent.length k3, .slice A4 c.Cluster.Got.length k4, .slice A5 c.Shot.Taken.length k5, .slice A6 c.Shot.Shards.length k6, .slice A7 c.Shot.Counts.length k7, .slice A8 c.Shot.Recording.length k8, .slice A9 c.Shot.Saved.length k9] ∧ ty22.ro w [.slice A0 c.Cluster.Grid.Shards.length k0] c.Cluster.Grid.Shards ∧ ty27.ro w [.slice A1 c.Cluster.Channels.length k1] c.Cluster.Channels ∧ ty28.ro w [.slice A2 c.Cluster.Counts.length k2] c.Cluster.Counts ∧ ty29.ro w [.slice A3 c.Cluster.Sent.length k3] c.Cluster.Sent ∧ ty29.ro w [.slice A4 c.Cluster.Got.length k4] c.Cluster.Got ∧ ty56.ro w [.slice A5 c.Shot.Taken.length k5] c.Shot.Taken ∧ ty22.ro w [.slice A6 c.Shot.Shards.length k6] c.Shot.Shards ∧ ty28.ro w [.slice A7 c.Shot.Counts.length k7] c.Shot.Counts ∧ ty56.ro w [.slice A8 c.Shot.Recording.length k8] c.Shot.Recording ∧ ty27.ro w [.slice A9 c.Shot.Saved.length k9] c.Shot.Saved := by
  obtain ⟨c0, d0, rfl, h0, c1, d1, rfl, h1, hz⟩ := h
  subst hz
  obtain ⟨A0_0, k0_0, A0_1, k0_1, A0_2, k0_2, A0_3, k0_3, A0_4, k0_4, e0, g0_0, g0_1, g0_2, g0_3, g0_4⟩ := zc9 h0
  subst e0
  obtain ⟨A1_0, k1_0, A1_1, k1_1, A1_2, k1_2, A1_3, k1_3, A1_4, k1_4, e1, g1_0, g1_1, g1_2, g1_3, g1_4⟩ := zc8 h1
  subst e1
  exact ⟨A0_0, k0_0, A0_1, k0_1, A0_2, k0_2, A0_3, k0_3, A0_4, k0_4, A1_0, k1_0, A1_1, k1_1, A1_2, k1_2, A1_3, k1_3, A1_4, k1_4, rfl, g0_0, g0_1, g0_2, g0_3, g0_4, g1_0, g1_1, g1_2, g1_3, g1_4⟩
def ty73 : Ty D.Shot := tMap (fun c => (c.Taken, c.Shards, c.Counts, c.Recording, c.Saved, ())) (tPair ty56 (tPair ty34 (tPair ty28 (tPair ty56 (tPair ty38 tUnit)))))
instance {W : World} : Reads W ty73 := inferInstanceAs (Reads W (tMap (fun c : D.Shot => (c.Taken, c.Shards, c.Counts, c.Recording, c.Saved, ())) (tPair ty56 (tPair ty34 (tPair ty28 (tPair ty56 (tPair ty38 tUnit)))))))
theorem z9h {w : World} {cs : List Value} {c : D.Shot} (h : ty73.ro w cs c) : ∃ A0 k0 A1 k1 A2 k2 A3 k3 A4 k4, cs = [.slice A0 c.Taken.length k0, .slice A1 c.Shards.length k1, .slice A2 c.Counts.length k2, .slice A3 c.Recording.length k3, .slice A4 c.Saved.length k4] ∧ ty56.ro w [.slice A0 c.Taken.length k0] c.Taken ∧ ty34.ro w [.slice A1 c.Shards.length k1] c.Shards ∧ ty28.ro w [.slice A2 c.Counts.length k2] c.Counts ∧ ty56.ro w [.slice A3 c.Recording.length k3] c.Recording ∧ ty38.ro w [.slice A4 c.Saved.length k4] c.Saved := by
  obtain ⟨c0, d0, rfl, h0, c1, d1, rfl, h1, c2, d2, rfl, h2, c3, d3, rfl, h3, c4, d4, rfl, h4, hz⟩ := h
  subst hz
  obtain ⟨A0_, k0_, e0⟩ := zaM h0
  subst e0
  obtain ⟨A1_, k1_, e1⟩ := zej h1
  subst e1
  obtain ⟨A2_, k2_, e2⟩ := z85 h2
  subst e2
  obtain ⟨A3_, k3_, e3⟩ := zaM h3
  subst e3
  obtain ⟨A4_, k4_, e4⟩ := zei h4
  subst e4
  exact ⟨A0_, k0_, A1_, k1_, A2_, k2_, A3_, k3_, A4_, k4_, rfl, h0, h1, h2, h3, h4⟩
theorem z9g {w : World} (c : D.Shot) {A0 : Option Addr} {k0 : Nat} {A1 : Option Addr} {k1 : Nat} {A2 : Option Addr} {k2 : Nat} {A3 : Option Addr} {k3 : Nat} {A4 : Option Addr} {k4 : Nat} (h0 : ty56.ro w [.slice A0 c.Taken.length k0] c.Taken) (h1 : ty34.ro w [.slice A1 c.Shards.length k1] c.Shards) (h2 : ty28.ro w [.slice A2 c.Counts.length k2] c.Counts) (h3 : ty56.ro w [.slice A3 c.Recording.length k3] c.Recording) (h4 : ty38.ro w [.slice A4 c.Saved.length k4] c.Saved) : ty73.ro w [.slice A0 c.Taken.length k0, .slice A1 c.Shards.length k1, .slice A2 c.Counts.length k2, .slice A3 c.Recording.length k3, .slice A4 c.Saved.length k4] c :=
  ⟨_, _, rfl, h0, ⟨_, _, rfl, h1, ⟨_, _, rfl, h2, ⟨_, _, rfl, h3, ⟨_, _, rfl, h4, rfl⟩⟩⟩⟩⟩
def ty75 : Ty D.Watched := tMap (fun c => (c.Cluster, c.Shot, ())) (tPair ty40 (tPair ty73 tUnit))
instance {W : World} : Reads W ty75 := inferInstanceAs (Reads W (tMap (fun c : D.Watched => (c.Cluster, c.Shot, ())) (tPair ty40 (tPair ty73 tUnit))))
theorem z6T {w : World} {cs : List Value} {c : D.Watched} (h : ty75.ro w cs c) : ∃ A0 k0 A1 k1 A2 k2 A3 k3 A4 k4 A5 k5 A6 k6 A7 k7 A8 k8 A9 k9, cs = [.slice A0 c.Cluster.Grid.Shards.length k0, .int .i64 c.Cluster.Grid.Root.Machine, .int .i64 c.Cluster.Grid.Root.Kind, .int .i64 c.Cluster.Grid.Root.Index, .slice A1 c.Cluster.Channels.length k1, .slice A2 c.Cluster.Counts.length k2, .slice A3 c.Cluster.Sent.length k3, .slice A4 c.Cluster.Got.length k4, .slice A5 c.Shot.Taken.length k5, .slice A6 c.Shot.Shards.length k6, .slice A7 c.Shot.Counts.length k7, .slice A8 c.Shot.Recording.length k8, .slice A9 c.Shot.Saved.length k9] ∧ ty34.ro w [.slice A0 c.Cluster.Grid.Shards.length k0] c.Cluster.Grid.Shards ∧ ty38.ro w [.slice A1 c.Cluster.Channels.length k1] c.Cluster.Channels ∧ ty28.ro w [.slice A2 c.Cluster.Counts.length k2] c.Cluster.Counts ∧ ty29.ro w [.slice A3 c.Cluster.Sent.length k3] c.Cluster.Sent ∧ ty29.ro w [.slice A4 c.Cluster.Got.length k4] c.Cluster.Got ∧ ty56.ro w [.slice A5 c.Shot.Taken.length k5] c.Shot.Taken ∧ ty34.ro w [.slice A6 c.Shot.Shards.length k6] c.Shot.Shards ∧ ty28.ro w [.slice A7 c.Shot.Counts.length k7] c.Shot.Counts ∧ ty56.ro w [.slice A8 c.Shot.Recording.length k8] c.Shot.Recording ∧ ty38.ro w [.slice A9 c.Shot.Saved.length k9] c.Shot.Saved := by
  obtain ⟨c0, d0, rfl, h0, c1, d1, rfl, h1, hz⟩ := h
  subst hz
  obtain ⟨A0_0, k0_0, A0_1, k0_1, A0_2, k0_2, A0_3, k0_3, A0_4, k0_4, e0, g0_0, g0_1, g0_2, g0_3, g0_4⟩ := z7r h0
  subst e0
  obtain ⟨A1_0, k1_0, A1_1, k1_1, A1_2, k1_2, A1_3, k1_3, A1_4, k1_4, e1, g1_0, g1_1, g1_2, g1_3, g1_4⟩ := z9h h1
  subst e1
  exact ⟨A0_0, k0_0, A0_1, k0_1, A0_2, k0_2, A0_3, k0_3, A0_4, k0_4, A1_0, k1_0, A1_1, k1_1, A1_2, k1_2, A1_3, k1_3, A1_4, k1_4, rfl, g0_0, g0_1, g0_2, g0_3, g0_4, g1_0, g1_1, g1_2, g1_3, g1_4⟩
theorem z83 {w : World} (c : D.Watched) {A0 : Option Addr} {k0 : Nat} {A1 : Option Addr} {k1 : Nat} {A2 : Option Addr} {k2 : Nat} {A3 : Option Addr} {k3 : Nat} {A4 : Option Addr} {k4 : Nat} {A5 : Option Addr} {k5 : Nat} {A6 : Option Addr} {k6 : Nat} {A7 : Option Addr} {k7 : Nat} {A8 : Option Addr} {k8 : Nat} {A9 : Option Addr} {k9 : Nat} (h0 : ty34.ro w [.slice A0 c.Cluster.Grid.Shards.length k0] c.Cluster.Grid.Shards) (h1 : ty38.ro w [.slice A1 c.Cluster.Channels.length k1] c.Cluster.Channels) (h2 : ty28.ro w [.slice A2 c.Cluster.Counts.length k2] c.Cluster.Counts) (h3 : ty29.ro w [.slice A3 c.Cluster.Sent.length k3] c.Cluster.Sent) (h4 : ty29.ro w [.slice A4 c.Cluster.Got.length k4] c.Cluster.Got) (h5 : ty56.ro w [.slice A5 c.Shot.Taken.length k5] c.Shot.Taken) (h6 : ty34.ro w [.slice A6 c.Shot.Shards.length k6] c.Shot.Shards) (h7 : ty28.ro w [.slice A7 c.Shot.Counts.length k7] c.Shot.Counts) (h8 : ty56.ro w [.slice A8 c.Shot.Recording.length k8] c.Shot.Recording) (h9 : ty38.ro w [.slice A9 c.Shot.Saved.length k9] c.Shot.Saved) : ty75.ro w [.slice A0 c.Cluster.Grid.Shards.length k0, .int .i64 c.Cluster.Grid.Root.Machine, .int .i64 c.Cluster.Grid.Root.Kind, .int .i64 c.Cluster.Grid.Root.Index, .slice A1 c.Cluster.Channels.length k1, .slice A2 c.Cluster.Counts.length k2, .slice A3 c.Cluster.Sent.length k3, .slice A4 c.Cluster.Got.length k4, .slice A5 c.Shot.Taken.length k5, .slice A6 c.Shot.Shards.length k6, .slice A7 c.Shot.Counts.length k7, .slice A8 c.Shot.Recording.length k8, .slice A9 c.Shot.Saved.length k9] c :=
  ⟨_, _, rfl, (z8y c.Cluster h0 h1 h2 h3 h4), ⟨_, _, rfl, (z9g c.Shot h5 h6 h7 h8 h9), rfl⟩⟩
def zcd : Ty D.thing := tMap (fun c => (c.at_, c.slot, c.own, ())) (tPair ty35 (tPair tInt (tPair tBool tUnit)))
instance {W : World} : Reads W zcd := inferInstanceAs (Reads W (tMap (fun c : D.thing => (c.at_, c.slot, c.own, ())) (tPair ty35 (tPair tInt (tPair tBool tUnit)))))
theorem zbf {w : World} {cs : List Value} {c : D.thing} (h : zcd.ro w cs c) : cs = [.int .i64 c.at_.Machine, .int .i64 c.at_.Kind, .int .i64 c.at_.Index, .int .i64 c.slot, .bool c.own] := by
  obtain ⟨c0, d0, rfl, h0, c1, d1, rfl, h1, c2, d2, rfl, h2, hz⟩ := h
  subst hz
  have e0 := z1k h0
  subst e0
  subst h1
  subst h2
  rfl
theorem zag {w : World} {c : D.thing}  {G : List Nat} (h : (All []).A w G) : zcd.own w [.int .i64 c.at_.Machine, .int .i64 c.at_.Kind, .int .i64 c.at_.Index, .int .i64 c.slot, .bool c.own] c G := by
  have hz : G = [] := h
  subst hz
  exact cast (congrArg _ (by simp)) (show zcd.own w [.int .i64 c.at_.Machine, .int .i64 c.at_.Kind, .int .i64 c.at_.Index, .int .i64 c.slot, .bool c.own] c (_) from ⟨_, _, _, _, rfl, rfl, (z84 (c := c.at_) rfl), ⟨_, _, _, _, rfl, rfl, ⟨rfl, rfl⟩, ⟨_, _, _, _, rfl, rfl, ⟨rfl, rfl⟩, ⟨rfl, rfl⟩⟩⟩⟩)
def z9y : Ty D.statement := tMap (fun c => (c.a, c.b, ())) (tPair zcd (tPair zcd tUnit))
instance {W : World} : Reads W z9y := inferInstanceAs (Reads W (tMap (fun c : D.statement => (c.a, c.b, ())) (tPair zcd (tPair zcd tUnit))))
theorem zdk {w : World} {cs : List Value} {c : D.statement} (h : z9y.ro w cs c) : cs = [.int .i64 c.a.at_.Machine, .int .i64 c.a.at_.Kind, .int .i64 c.a.at_.Index, .int .i64 c.a.slot, .bool c.a.own, .int .i64 c.b.at_.Machine, .int .i64 c.b.at_.Kind, .int .i64 c.b.at_.Index, .int .i64 c.b.slot, .bool c.b.own] := by
  obtain ⟨c0, d0, rfl, h0, c1, d1, rfl, h1, hz⟩ := h
  subst hz
  have e0 := zbf h0
  subst e0
  have e1 := zbf h1
  subst e1
  rfl
theorem z53 {w : World} {c : D.statement}  {G : List Nat} (h : (All []).A w G) : z9y.own w [.int .i64 c.a.at_.Machine, .int .i64 c.a.at_.Kind, .int .i64 c.a.at_.Index, .int .i64 c.a.slot, .bool c.a.own, .int .i64 c.b.at_.Machine, .int .i64 c.b.at_.Kind, .int .i64 c.b.at_.Index, .int .i64 c.b.slot, .bool c.b.own] c G := by
  have hz : G = [] := h
  subst hz
  exact cast (congrArg _ (by simp)) (show z9y.own w [.int .i64 c.a.at_.Machine, .int .i64 c.a.at_.Kind, .int .i64 c.a.at_.Index, .int .i64 c.a.slot, .bool c.a.own, .int .i64 c.b.at_.Machine, .int .i64 c.b.at_.Kind, .int .i64 c.b.at_.Index, .int .i64 c.b.slot, .bool c.b.own] c (_) from ⟨_, _, _, _, rfl, rfl, (zag (c := c.a) rfl), ⟨_, _, _, _, rfl, rfl, (zag (c := c.b) rfl), ⟨rfl, rfl⟩⟩⟩)
def z78 : Ty (List D.statement) := tSl 171 z9y
instance {W : World} : Reads W z78 := inferInstanceAs (Reads W (tSl 171 z9y))
def zbJ : Ty D.Port := tMap (fun c => (c.Agent, c.Slot, ())) (tPair tInt (tPair tInt tUnit))
instance {W : World} : Reads W zbJ := inferInstanceAs (Reads W (tMap (fun c : D.Port => (c.Agent, c.Slot, ())) (tPair tInt (tPair tInt tUnit))))
theorem z7X {w : World} {c : D.Port}  {G : List Nat} (h : (All []).A w G) : zbJ.own w [.int .i64 c.Agent, .int .i64 c.Slot] c G := by
  have hz : G = [] := h
  subst hz
  exact cast (congrArg _ (by simp)) (show zbJ.own w [.int .i64 c.Agent, .int .i64 c.Slot] c (_) from ⟨_, _, _, _, rfl, rfl, ⟨rfl, rfl⟩, ⟨_, _, _, _, rfl, rfl, ⟨rfl, rfl⟩, ⟨rfl, rfl⟩⟩⟩)
def z2c : Ty (List D.Port) := tSl 264 zbJ
instance {W : World} : Reads W z2c := inferInstanceAs (Reads W (tSl 264 zbJ))
theorem zdi {w : World} {cs : List Value} {xs : (List D.Port)} (h : z2c.ro w cs xs) : ∃ A c, cs = [.slice A xs.length c] := slForm h

def zaq : Ty D.Agent := tMap (fun c => (c.Kind, c.Level, c.Value, c.Data, c.Ports, ())) (tPair tInt (tPair tInt (tPair tInt (tPair ty29 (tPair z2c tUnit)))))
instance {W : World} : Reads W zaq := inferInstanceAs (Reads W (tMap (fun c : D.Agent => (c.Kind, c.Level, c.Value, c.Data, c.Ports, ())) (tPair tInt (tPair tInt (tPair tInt (tPair ty29 (tPair z2c tUnit)))))))
theorem zad {w : World} {cs : List Value} {c : D.Agent} (h : zaq.ro w cs c) : ∃ A0 k0 A1 k1, cs = [.int .i64 c.Kind, .int .i64 c.Level, .int .i64 c.Value, .slice A0 c.Data.length k0, .slice A1 c.Ports.length k1] ∧ ty29.ro w [.slice A0 c.Data.length k0] c.Data ∧ z2c.ro w [.slice A1 c.Ports.length k1] c.Ports := by
  obtain ⟨c0, d0, rfl, h0, c1, d1, rfl, h1, c2, d2, rfl, h2, c3, d3, rfl, h3, c4, d4, rfl, h4, hz⟩ := h
  subst hz
  subst h0
  subst h1
  subst h2
  obtain ⟨A3_, k3_, e3⟩ := z1u h3
  subst e3
  obtain ⟨A4_, k4_, e4⟩ := zdi h4
  subst e4
  exact ⟨A3_, k3_, A4_, k4_, rfl, h3, h4⟩
theorem zde {w : World} (c : D.Agent) {A0 : Option Addr} {k0 : Nat} {A1 : Option Addr} {k1 : Nat} (h0 : ty29.ro w [.slice A0 c.Data.length k0] c.Data) (h1 : z2c.ro w [.slice A1 c.Ports.length k1] c.Ports) : zaq.ro w [.int .i64 c.Kind, .int .i64 c.Level, .int .i64 c.Value, .slice A0 c.Data.length k0, .slice A1 c.Ports.length k1] c :=
  ⟨_, _, rfl, rfl, ⟨_, _, rfl, rfl, ⟨_, _, rfl, rfl, ⟨_, _, rfl, h0, ⟨_, _, rfl, h1, rfl⟩⟩⟩⟩⟩
theorem zgA {w : World} {c : D.Agent} {A0 : Option Addr} {k0 : Nat} {A1 : Option Addr} {k1 : Nat} {G : List Nat} (h : (All [Own ty29 [.slice A0 c.Data.length k0] c.Data, Own z2c [.slice A1 c.Ports.length k1] c.Ports]).A w G) : zaq.own w [.int .i64 c.Kind, .int .i64 c.Level, .int .i64 c.Value, .slice A0 c.Data.length k0, .slice A1 c.Ports.length k1] c G := by
  obtain ⟨G0, R0, rfl, h0, G1, R1, rfl, h1, hz⟩ := h
  have hz' : R1 = [] := hz
  subst hz'
  exact cast (congrArg _ (by simp)) (show zaq.own w [.int .i64 c.Kind, .int .i64 c.Level, .int .i64 c.Value, .slice A0 c.Data.length k0, .slice A1 c.Ports.length k1] c (_) from ⟨_, _, _, _, rfl, rfl, ⟨rfl, rfl⟩, ⟨_, _, _, _, rfl, rfl, ⟨rfl, rfl⟩, ⟨_, _, _, _, rfl, rfl, ⟨rfl, rfl⟩, ⟨_, _, _, _, rfl, rfl, h0, ⟨_, _, _, _, rfl, rfl, h1, ⟨rfl, rfl⟩⟩⟩⟩⟩⟩)
theorem zcc {W w : World} {B : List Res} {c : D.Agent} {A0 : Option Addr} {k0 : Nat} {A1 : Option Addr} {k1 : Nat} (h : St W w ([Own ty29 [.slice A0 c.Data.length k0] c.Data, Own z2c [.slice A1 c.Ports.length k1] c.Ports] ++ B)) : St W w (Own zaq [.int .i64 c.Kind, .int .i64 c.Level, .int .i64 c.Value, .slice A0 c.Data.length k0, .slice A1 c.Ports.length k1] c :: B) := (St.fuseAll h).conv fun _ hG => zgA hG

def z2P : Ty (List D.Agent) := tSl 262 zaq
instance {W : World} : Reads W z2P := inferInstanceAs (Reads W (tSl 262 zaq))
theorem zgB {w : World} {cs : List Value} {xs : (List D.Agent)} (h : z2P.ro w cs xs) : ∃ A c, cs = [.slice A xs.length c] := slForm h

def zhf : Ty D.l27Links := tMap (fun c => (c.agents, c.ports, c.cells, c.vars, c.ends, c.pairs, ())) (tPair z2P (tPair z2c (tPair ty28 (tPair ty28 (tPair ty28 (tPair ty28 tUnit))))))
instance {W : World} : Reads W zhf := inferInstanceAs (Reads W (tMap (fun c : D.l27Links => (c.agents, c.ports, c.cells, c.vars, c.ends, c.pairs, ())) (tPair z2P (tPair z2c (tPair ty28 (tPair ty28 (tPair ty28 (tPair ty28 tUnit))))))))
theorem zdh {w : World} {cs : List Value} {c : D.l27Links} (h : zhf.ro w cs c) : ∃ A0 k0 A1 k1 A2 k2 A3 k3 A4 k4 A5 k5, cs = [.slice A0 c.agents.length k0, .slice A1 c.ports.length k1, .slice A2 c.cells.length k2, .slice A3 c.vars.length k3, .slice A4 c.ends.length k4, .slice A5 c.pairs.length k5] ∧ z2P.ro w [.slice A0 c.agents.length k0] c.agents ∧ z2c.ro w [.slice A1 c.ports.length k1] c.ports ∧ ty28.ro w [.slice A2 c.cells.length k2] c.cells ∧ ty28.ro w [.slice A3 c.vars.length k3] c.vars ∧ ty28.ro w [.slice A4 c.ends.length k4] c.ends ∧ ty28.ro w [.slice A5 c.pairs.length k5] c.pairs := by
  obtain ⟨c0, d0, rfl, h0, c1, d1, rfl, h1, c2, d2, rfl, h2, c3, d3, rfl, h3, c4, d4, rfl, h4, c5, d5, rfl, h5, hz⟩ := h
  subst hz
  obtain ⟨A0_, k0_, e0⟩ := zgB h0
  subst e0
  obtain ⟨A1_, k1_, e1⟩ := zdi h1
  subst e1
  obtain ⟨A2_, k2_, e2⟩ := z85 h2
  subst e2
  obtain ⟨A3_, k3_, e3⟩ := z85 h3
  subst e3
  obtain ⟨A4_, k4_, e4⟩ := z85 h4
  subst e4
  obtain ⟨A5_, k5_, e5⟩ := z85 h5
  subst e5
  exact ⟨A0_, k0_, A1_, k1_, A2_, k2_, A3_, k3_, A4_, k4_, A5_, k5_, rfl, h0, h1, h2, h3, h4, h5⟩
theorem z4d {w : World} (c : D.l27Links) {A0 : Option Addr} {k0 : Nat} {A1 : Option Addr} {k1 : Nat} {A2 : Option Addr} {k2 : Nat} {A3 : Option Addr} {k3 : Nat} {A4 : Option Addr} {k4 : Nat} {A5 : Option Addr} {k5 : Nat} (h0 : z2P.ro w [.slice A0 c.agents.length k0] c.agents) (h1 : z2c.ro w [.slice A1 c.ports.length k1] c.ports) (h2 : ty28.ro w [.slice A2 c.cells.length k2] c.cells) (h3 : ty28.ro w [.slice A3 c.vars.length k3] c.vars) (h4 : ty28.ro w [.slice A4 c.ends.length k4] c.ends) (h5 : ty28.ro w [.slice A5 c.pairs.length k5] c.pairs) : zhf.ro w [.slice A0 c.agents.length k0, .slice A1 c.ports.length k1, .slice A2 c.cells.length k2, .slice A3 c.vars.length k3, .slice A4 c.ends.length k4, .slice A5 c.pairs.length k5] c :=
  ⟨_, _, rfl, h0, ⟨_, _, rfl, h1, ⟨_, _, rfl, h2, ⟨_, _, rfl, h3, ⟨_, _, rfl, h4, ⟨_, _, rfl, h5, rfl⟩⟩⟩⟩⟩⟩
def zjb : D.Address → Value := fun c => .agg ⟨[.int .i64 c.Machine, .int .i64 c.Kind, .int .i64 c.Index]⟩
theorem zkO : KeyOk Tryz.prog 35 zjb := KeyOk.struct ttok (cells := fun c : D.Address => [.int .i64 c.Machine, .int .i64 c.Kind, .int .i64 c.Index]) (b := fun x y => (((x.Machine : Int) == y.Machine) && (((x.Kind : Int) == y.Kind) && (((x.Index : Int) == y.Index) && true)))) rfl rfl (fun _ _ => rfl) (fun x y => by cases x; cases y; simp [zjy]) (fun _ => rfl) (fun {x y} h => by cases x; cases y; simpa using h)
def zar : Ty (List (D.Address × Int)) := tMp zjb (Value.int .i64)
instance {W : World} : Reads W zar := inferInstanceAs (Reads W (tMp zjb (Value.int .i64)))
theorem zak : MapOk Tryz.prog 235 35 3 zjb (Value.int .i64) (0 : Int) := ⟨by kernel_rfl, by kernel_rfl, zkO⟩

def zhe : Ty (List D.thing) := tSl 169 zcd
instance {W : World} : Reads W zhe := inferInstanceAs (Reads W (tSl 169 zcd))
end Go.E

namespace Go.E
open Go.RowKit
set_option linter.unusedVariables false
set_option linter.unusedSimpArgs false

theorem Quiet.idxAddr {P : Program} {T : TT} (ht : TTok P T) {n : Nat} {F : Fr} {α : Type} {U : Ty α} {g k ln : Nat} {o : Oper} {t e' : Nat} {x ix : Operand} {i j : TI}
    {kd : IntKind} {m : Int} (ho : o.op = .indexAddr t x ix) (hi : T.get t = some i) (hd : i.d = .slice e') (hj : T.get e' = some j) (hs : U.size = j.size) (hx : F.ev x = some (.slice (some ⟨g, 0, none⟩) ln k)) (hm : F.ev ix = some (.int kd m))
    (h0 : 0 ≤ m) (hlt : m.toNat < ln) (w : World) : Quiet P n F w o (.pointer (some ⟨g, m.toNat * U.size, none⟩)) := fun a w' ha _ => by
  unfold execOp
  rw [ho]
  have hmm : m < ln := by omega
  simp [ha.ev hx, ha.ev hm, Instr.indexAt, asIntOf, Go.underlying, ht.slice hi hd, h0, hmm, ht.sizeOf hj, zfU, hs]

section
variable {P : Program} {n : Nat} {Q : Post} {F : Fr} {W w w0 w1 W9 : World} {ops : List Oper} {wm fuel kk mm : Nat} {sk : List (List Nat × Nat)} {o : Oper} {T : TT}

theorem DM.idxHole (ht : TTok P T) {α : Type} {U : Ty α} {A : Option Addr} {k ln : Nat} (hA : ∃ g, A = some ⟨g, 0, none⟩) (hsk : skOf ops = sk ∧ ops.length = kk) (ii m' : Nat) (hmm : mm ||| 2 ^ ii = m') (hwi : wm.testBit ii = false) (hni : nthv ops ii = some o) (hf : freeM sk (2 ^ kk - 1) mm ii = true) (hg : guardOf ops F o = some true) {t e' : Nat} {x ix : Operand} {i j : TI}
    {kd : IntKind} {m : Int} (ho : o.op = .indexAddr t x ix) (hi : T.get t = some i) (hd : i.d = .slice e') (hj : T.get e' = some j) (hs : U.size = j.size) (hx : F.ev x = some (.slice A ln k)) (hm : F.ev ix = some (.int kd m))
    (h0 : 0 ≤ m) (hlt : m.toNat < ln) {d : Nat} (hd' : o.dst = some d) (hn : Nat.blt d n = true)
    (h : ∀ q, ElAt U A m.toNat q → DM P n ops Q W9 w0 wm fuel kk m' ((d, .pointer (some q)) :: F) w) : DM P n ops Q W9 w0 wm (fuel + 1) kk mm F w := by
  obtain ⟨g, rfl⟩ := hA
  exact DM.quietP hsk ii m' hmm hwi hni hf hg (Quiet.idxAddr ht ho hi hd hj hs hx hm h0 hlt) hd' hn (h _ ⟨g, rfl, rfl⟩)

theorem DM.focus (ht : TTok P T) {α : Type} {U : Ty α} {B : List Res} {e : Nat} {A : Option Addr} {k ln : Nat} {xs : List α} {a : α} (hS : St W w1 (Own (tSl e U) [.slice A ln k] xs :: B)) (hsk : skOf ops = sk ∧ ops.length = kk) (ii m' : Nat) (hmm : mm ||| 2 ^ ii = m') (hwi : wm.testBit ii = false) (hni : nthv ops ii = some o) (hf : freeM sk (2 ^ kk - 1) mm ii = true) (hg : guardOf ops F o = some true) {t e' : Nat} {x ix : Operand} {i j : TI}
    {kd : IntKind} {m : Int} (ho : o.op = .indexAddr t x ix) (hi : T.get t = some i) (hd : i.d = .slice e') (hj : T.get e' = some j) (hs : U.size = j.size) (hx : F.ev x = some (.slice A ln k)) (hm : F.ev ix = some (.int kd m))
    (h0 : 0 ≤ m) (ha : xs[m.toNat]? = some a) {d : Nat} (hd' : o.dst = some d) (hn : Nat.blt d n = true)
    (h : ∀ q es, ElAt U A m.toNat q → St W w1 (Hole U e (.slice A ln k) xs m.toNat es :: Own U es a :: B) → DM P n ops Q W w0 wm fuel kk m' ((d, .pointer (some q)) :: F) w) : DM P n ops Q W w0 wm (fuel + 1) kk mm F w := by
  have hlt := (List.getElem?_eq_some_iff.1 ha).1
  obtain ⟨es, h1⟩ := hS.focusN ha
  have hl := hS.lenEq
  exact DM.idxHole ht (U := U) (hS.ownAddr hlt) hsk ii m' hmm hwi hni hf hg ho hi hd hj hs hx hm h0 (by omega) hd' hn fun q hq => h q es hq h1

theorem DM.idxAgain (ht : TTok P T) {α : Type} {U : Ty α} {B : List Res} {e : Nat} {A : Option Addr} {k ln : Nat} {xs : List α} {es : List Value} {m : Int} (hS : St W w1 (Hole U e (.slice A ln k) xs m.toNat es :: B)) (hsk : skOf ops = sk ∧ ops.length = kk) (ii m' : Nat) (hmm : mm ||| 2 ^ ii = m') (hwi : wm.testBit ii = false) (hni : nthv ops ii = some o) (hf : freeM sk (2 ^ kk - 1) mm ii = true) (hg : guardOf ops F o = some true) {t e' : Nat} {x ix : Operand} {i j : TI}
    {kd : IntKind} (ho : o.op = .indexAddr t x ix) (hi : T.get t = some i) (hd : i.d = .slice e') (hj : T.get e' = some j) (hs : U.size = j.size) (hx : F.ev x = some (.slice A ln k)) (hm : F.ev ix = some (.int kd m))
    (h0 : 0 ≤ m) {d : Nat} (hd' : o.dst = some d) (hn : Nat.blt d n = true)
    (h : ∀ q, ElAt U A m.toNat q → DM P n ops Q W w0 wm fuel kk m' ((d, .pointer (some q)) :: F) w) : DM P n ops Q W w0 wm (fuel + 1) kk mm F w := by
  obtain ⟨hl, hlt, hA⟩ := hS.hole_len
  exact DM.idxHole ht (U := U) hA hsk ii m' hmm hwi hni hf hg ho hi hd hj hs hx hm h0 (by omega) hd' hn h

theorem DM.idxOwnN (ht : TTok P T) {α : Type} {U : Ty α} {B : List Res} {e : Nat} {A : Option Addr} {k ln : Nat} {xs : List α} (hS : St W w1 (Own (tSl e U) [.slice A ln k] xs :: B)) (hsk : skOf ops = sk ∧ ops.length = kk) (ii m' : Nat) (hmm : mm ||| 2 ^ ii = m') (hwi : wm.testBit ii = false) (hni : nthv ops ii = some o) (hf : freeM sk (2 ^ kk - 1) mm ii = true) (hg : guardOf ops F o = some true) {t e' : Nat} {x ix : Operand} {i j : TI}
    {kd : IntKind} {m : Int} (ho : o.op = .indexAddr t x ix) (hi : T.get t = some i) (hd : i.d = .slice e') (hj : T.get e' = some j) (hs : U.size = j.size) (hx : F.ev x = some (.slice A ln k)) (hm : F.ev ix = some (.int kd m))
    (h0 : 0 ≤ m) (hlt : m.toNat < xs.length) {d : Nat} (hd' : o.dst = some d) (hn : Nat.blt d n = true)
    (h : ∀ q, (∃ g, A = some ⟨g, 0, none⟩ ∧ q = ⟨g, m.toNat * U.size, none⟩) → DM P n ops Q W w0 wm fuel kk m' ((d, .pointer (some q)) :: F) w) : DM P n ops Q W w0 wm (fuel + 1) kk mm F w := by
  have hl := hS.lenEq
  exact DM.idxHole ht (U := U) (hS.ownAddr hlt) hsk ii m' hmm hwi hni hf hg ho hi hd hj hs hx hm h0 (by omega) hd' hn h


theorem LM.idxHole (ht : TTok P T) {α : Type} {U : Ty α} {A : Option Addr} {k ln : Nat} (hA : ∃ g, A = some ⟨g, 0, none⟩) (hsk : skOf ops = sk ∧ ops.length = kk) {ii : Nat} (m' : Nat) (hm' : mm ||| 2 ^ ii = m') (hwi : wm.testBit ii = false) (hni : nthv ops ii = some o) (hg : guardOf ops F o = some true) {t e' : Nat} {x ix : Operand} {i j : TI}
    {kd : IntKind} {m : Int} (ho : o.op = .indexAddr t x ix) (hi : T.get t = some i) (hd : i.d = .slice e') (hj : T.get e' = some j) (hs : U.size = j.size) (hx : F.ev x = some (.slice A ln k)) (hm : F.ev ix = some (.int kd m))
    (h0 : 0 ≤ m) (hlt : m.toNat < ln) {d : Nat} (hd' : o.dst = some d) (hn : Nat.blt d n = true)
    (h : ∀ q, ElAt U A m.toNat q → DM P n ops Q W9 w0 wm fuel kk m' ((d, .pointer (some q)) :: F) w) : LM P n ops Q W9 w0 wm fuel kk mm ii F w := by
  obtain ⟨g, rfl⟩ := hA
  exact LM.quietL hsk m' hm' hwi hni hg (Quiet.idxAddr ht ho hi hd hj hs hx hm h0 hlt w) hd' hn (h _ ⟨g, rfl, rfl⟩)

theorem LM.focus (ht : TTok P T) {α : Type} {U : Ty α} {B : List Res} {e : Nat} {A : Option Addr} {k ln : Nat} {xs : List α} {a : α} (hS : St W w1 (Own (tSl e U) [.slice A ln k] xs :: B)) (hsk : skOf ops = sk ∧ ops.length = kk) {ii : Nat} (m' : Nat) (hm' : mm ||| 2 ^ ii = m') (hwi : wm.testBit ii = false) (hni : nthv ops ii = some o) (hg : guardOf ops F o = some true) {t e' : Nat} {x ix : Operand} {i j : TI}
    {kd : IntKind} {m : Int} (ho : o.op = .indexAddr t x ix) (hi : T.get t = some i) (hd : i.d = .slice e') (hj : T.get e' = some j) (hs : U.size = j.size) (hx : F.ev x = some (.slice A ln k)) (hm : F.ev ix = some (.int kd m))
    (h0 : 0 ≤ m) (ha : xs[m.toNat]? = some a) {d : Nat} (hd' : o.dst = some d) (hn : Nat.blt d n = true)
    (h : ∀ q es, ElAt U A m.toNat q → St W w1 (Hole U e (.slice A ln k) xs m.toNat es :: Own U es a :: B) → DM P n ops Q W w0 wm fuel kk m' ((d, .pointer (some q)) :: F) w) : LM P n ops Q W w0 wm fuel kk mm ii F w := by
  have hlt := (List.getElem?_eq_some_iff.1 ha).1
  obtain ⟨es, h1⟩ := hS.focusN ha
  have hl := hS.lenEq
  exact LM.idxHole ht (U := U) (hS.ownAddr hlt) hsk m' hm' hwi hni hg ho hi hd hj hs hx hm h0 (by omega) hd' hn fun q hq => h q es hq h1

theorem LM.idxAgain (ht : TTok P T) {α : Type} {U : Ty α} {B : List Res} {e : Nat} {A : Option Addr} {k ln : Nat} {xs : List α} {es : List Value} {m : Int} (hS : St W w1 (Hole U e (.slice A ln k) xs m.toNat es :: B)) (hsk : skOf ops = sk ∧ ops.length = kk) {ii : Nat} (m' : Nat) (hm' : mm ||| 2 ^ ii = m') (hwi : wm.testBit ii = false) (hni : nthv ops ii = some o) (hg : guardOf ops F o = some true) {t e' : Nat} {x ix : Operand} {i j : TI}
    {kd : IntKind} (ho : o.op = .indexAddr t x ix) (hi : T.get t = some i) (hd : i.d = .slice e') (hj : T.get e' = some j) (hs : U.size = j.size) (hx : F.ev x = some (.slice A ln k)) (hm : F.ev ix = some (.int kd m))
    (h0 : 0 ≤ m) {d : Nat} (hd' : o.dst = some d) (hn : Nat.blt d n = true)
    (h : ∀ q, ElAt U A m.toNat q → DM P n ops Q W w0 wm fuel kk m' ((d, .pointer (some q)) :: F) w) : LM P n ops Q W w0 wm fuel kk mm ii F w := by
  obtain ⟨hl, hlt, hA⟩ := hS.hole_len
  exact LM.idxHole ht (U := U) hA hsk m' hm' hwi hni hg ho hi hd hj hs hx hm h0 (by omega) hd' hn h

theorem LM.idxOwnN (ht : TTok P T) {α : Type} {U : Ty α} {B : List Res} {e : Nat} {A : Option Addr} {k ln : Nat} {xs : List α} (hS : St W w1 (Own (tSl e U) [.slice A ln k] xs :: B)) (hsk : skOf ops = sk ∧ ops.length = kk) {ii : Nat} (m' : Nat) (hm' : mm ||| 2 ^ ii = m') (hwi : wm.testBit ii = false) (hni : nthv ops ii = some o) (hg : guardOf ops F o = some true) {t e' : Nat} {x ix : Operand} {i j : TI}
    {kd : IntKind} {m : Int} (ho : o.op = .indexAddr t x ix) (hi : T.get t = some i) (hd : i.d = .slice e') (hj : T.get e' = some j) (hs : U.size = j.size) (hx : F.ev x = some (.slice A ln k)) (hm : F.ev ix = some (.int kd m))
    (h0 : 0 ≤ m) (hlt : m.toNat < xs.length) {d : Nat} (hd' : o.dst = some d) (hn : Nat.blt d n = true)
    (h : ∀ q, (∃ g, A = some ⟨g, 0, none⟩ ∧ q = ⟨g, m.toNat * U.size, none⟩) → DM P n ops Q W w0 wm fuel kk m' ((d, .pointer (some q)) :: F) w) : LM P n ops Q W w0 wm fuel kk mm ii F w := by
  have hl := hS.lenEq
  exact LM.idxHole ht (U := U) (hS.ownAddr hlt) hsk m' hm' hwi hni hg ho hi hd hj hs hx hm h0 (by omega) hd' hn h

theorem LM.storeElN (ht : TTok P T) {α : Type} {U : Ty α} {B : List Res} {e : Nat} {A : Option Addr} {k ln : Nat} {xs : List α} {y : α} {es' : List Value} (hS : St W w (Own (tSl e U) [.slice A ln k] xs :: Own U es' y :: B)) (hsk : skOf ops = sk ∧ ops.length = kk) {ii : Nat} (m' : Nat) (hm' : mm ||| 2 ^ ii = m') (hwi : wm.testBit ii = true) (hni : nthv ops ii = some o) (hg : guardOf ops F o = some true)
    {t : Nat} {x yv : Operand} (ho : o.op = .store t x yv) (hd : o.dst = none) {j : TI} (hj : T.get t = some j) (hs : U.size = j.size) {q : Addr} (hx : F.ev x = some (.pointer (some q))) {m : Nat} (hlt : m < xs.length)
    (hq : ∃ g, A = some ⟨g, 0, none⟩ ∧ q = ⟨g, m * U.size, none⟩) {v : Value} (hy : F.ev yv = some v) (hc : cellsV v = es')
    (h : ∀ w', St W w' (Own (tSl e U) [.slice A ln k] (xs.set m y) :: B) → DM P n ops Q W w0 wm fuel kk m' F w') : LM P n ops Q W w0 wm fuel kk mm ii F w := by
  have hl := hS.lenEq
  subst hl
  obtain ⟨w', h1, h2⟩ := zcq (P := P) ht hS hlt hq hj hs
  have h3 : St W w' (Own (tSl e U) [.slice A xs.length k] (xs.set m y) :: B) := by simpa using h2
  refine LM.unitW hsk m' hm' hwi hni hg (w' := w') (fun a ha => ?_) hd h3.ext (h w' h3)
  unfold execOp
  rw [ho]
  simp [ha.ev hx, ha.ev hy, Instr.storeAt, Instr.sureAddr, h1 v hc]

theorem zdT (ht : TTok P T) {α : Type} {U : Ty α} {e : Nat} {A : Option Addr} {k m : Nat} {xs : List α} {es es' : List Value} {B : List Res} (hS : St W w (Hole U e (.slice A xs.length k) xs m es :: B)) {q : Addr} (hq : ElAt U A m q)
    {t : Nat} {i : TI} (hi : T.get t = some i) {q' : Addr} (off : Nat) (hq' : q' = q.add off) {v : Value} (hl : Nat.beq (cellsV v).length i.size = true)
    (h1 : oneCells (cellsV v) = true) (hs : setAt es off (cellsV v) = some es') : ∃ w', (storeVar t q' v).run P w = .ok () w' ∧ St W w' (Hole U e (.slice A xs.length k) xs m es' :: B) := by
  obtain ⟨G, ⟨g, cap, c1, c2, rst, G1, G2, hv, hh, a1, a2, a3, a4, a5, a6, k1, k2, hG⟩, _, hlo⟩ := hS.sep.head
  obtain ⟨g', rfl, rfl⟩ := hq
  simp only [Value.slice.injEq, Option.some.injEq, Addr.mk.injEq, and_true, true_and] at hv
  obtain ⟨rfl, rfl⟩ := hv
  have hset := z9A (c1 := c1) (c2 := c2) (rest := rst) hs
  rw [a4] at hset
  obtain ⟨w', r1, r2, r3, r4, r5, r6, r7⟩ := z2Q (P := P) g' (m * U.size + off) e (cellsV v) 0 w _ ((c1 ++ (es' ++ c2)) ++ rst) h1 hh (by rw [Nat.add_zero]; exact hset)
  have hge : W.heap.size ≤ g' := hlo g' (by rw [hG]; simp)
  refine ⟨w', ?_, ⟨r5.trans hS.ext.os, r6.trans hS.ext.tape, r7.trans hS.ext.output, by rw [r4]; exact hS.le, fun b hb => ?_⟩, ?_⟩
  · have hsz : v.cells.size = i.size := by
      rw [← Array.length_toList, z60]; exact Nat.eq_of_beq_eq_true hl
    simp [storeVar, ht.sizeOf hi, hsz, z60, hq', zc5, r1]
  · rw [r3 b (by omega)]; exact hS.ext.block b hb
  · refine hS.sep.upd hS.le fun G' hG' hnd' _ => ?_
    obtain ⟨g1, cap1, d1, d2, rst1, H1, H2, hv1, hh1, b1, b2, b3, b4, b5, b6, l1, l2, rfl⟩ := hG'
    simp only [Value.slice.injEq, Option.some.injEq, Addr.mk.injEq, and_true, true_and] at hv1
    obtain ⟨rfl, rfl⟩ := hv1
    rw [hh1] at hh
    simp only [Option.some.injEq, Obj.cells.injEq, Array.mk.injEq, and_true] at hh
    have hset1 := z9A (c1 := d1) (c2 := d2) (rest := rst1) hs
    have e1 : d1.length = c1.length := by rw [b4, a4]
    rw [hh, e1] at hset1
    rw [← a4] at hset
    have e2 : (c1 ++ (es' ++ c2)) ++ rst = (d1 ++ (es' ++ d2)) ++ rst1 := Option.some.inj (hset.symm.trans hset1)
    have hle := z9T _ _ _ _ hs
    simp only [List.nodup_cons, List.mem_append, not_or] at hnd'
    refine ⟨g' :: (H1 ++ H2), ⟨g', k, d1, d2, rst1, H1, H2, rfl, by rw [r2, e2], b1, b2, ?_, b4, by rw [hle]; exact b5, b6, l1.loc fun b hb => r3 b (by rintro rfl; exact hnd'.1.1 hb), l2.loc fun b hb => r3 b (by rintro rfl; exact hnd'.1.2 hb), rfl⟩, by simpa using hnd', fun b hb => .inl hb, fun b hb hn => r3 b (by rintro rfl; exact hn (by simp))⟩
    rw [← b3]
    simp only [List.length_append, hle]

theorem LM.storeHoleN (ht : TTok P T) {α : Type} {U : Ty α} {e : Nat} {A : Option Addr} {k m ln : Nat} {xs : List α} {es es' : List Value} {B : List Res} (hS : St W w (Hole U e (.slice A ln k) xs m es :: B)) {q : Addr} (hq : ElAt U A m q)
    (hsk : skOf ops = sk ∧ ops.length = kk) {ii : Nat} (m' : Nat) (hm' : mm ||| 2 ^ ii = m') (hwi : wm.testBit ii = true) (hni : nthv ops ii = some o) (hg : guardOf ops F o = some true) {t : Nat} {x y : Operand} (ho : o.op = .store t x y) (hd : o.dst = none)
    {i : TI} (hi : T.get t = some i) {q' : Addr} (hx : F.ev x = some (.pointer (some q'))) (off : Nat) (hq' : q' = q.add off) {v : Value} (hy : F.ev y = some v) (hl : Nat.beq (cellsV v).length i.size = true)
    (h1 : oneCells (cellsV v) = true) (hs : setAt es off (cellsV v) = some es') (h : ∀ w', St W w' (Hole U e (.slice A ln k) xs m es' :: B) → DM P n ops Q W w0 wm fuel kk m' F w') : LM P n ops Q W w0 wm fuel kk mm ii F w := by
  obtain ⟨hn, _, _⟩ := hS.hole_len
  subst hn
  obtain ⟨w', r1, r2⟩ := zdT (P := P) ht hS hq hi off hq' hl h1 hs
  refine LM.unitW hsk m' hm' hwi hni hg (w' := w') (fun a ha => ?_) hd r2.ext (h w' r2)
  unfold execOp
  rw [ho]
  simp [ha.ev hx, ha.ev hy, Instr.storeAt, Instr.sureAddr, r1]


end
end Go.E

namespace Go.E
open Go.RowKit
set_option linter.unusedVariables false
set_option linter.unusedSimpArgs false


inductive Rd (σ τ ρ : Type) where
  | next (s : σ)
  | brk (t : τ)
  | ret (r : ρ)

def iter {σ τ ρ : Type} (body : σ → Option (Rd σ τ ρ)) : Nat → σ → Option (τ ⊕ ρ)
  | 0, _ => none
  | n + 1, s => match body s with
    | none => none
    | some (.next s') => iter body n s'
    | some (.brk t) => some (.inl t)
    | some (.ret r) => some (.inr r)

def idx {α : Type} (xs : List α) (i : Int) : Option α := if 0 ≤ i then xs[i.toNat]? else none

theorem z1q {α : Type} {xs : List α} {i : Int} {x : α} (h : idx xs i = some x) : 0 ≤ i ∧ xs[i.toNat]? = some x := by
  unfold idx at h
  split at h
  · exact ⟨by assumption, h⟩
  · cases h


def aft {τ A : Type} (o : τ ⊕ A) (k : τ → Option A) : Option A :=
  match o with
  | .inl t => k t
  | .inr a => some a

theorem z8 {τ A : Type} (t : τ) (k : τ → Option A) : aft (.inl t) k = k t := rfl

theorem zkY {c : Bool} (h : c = false) : ¬ c = true := by rw [h]; simp

theorem bind_some {α β : Type} {x : Option α} {f : α → Option β} {b : β} (h : x.bind f = some b) : ∃ a, x = some a ∧ f a = some b := by
  cases x with
  | none => cases h
  | some a => exact ⟨a, rfl, h⟩

section
variable {P : Program} {n : Nat} {Q : Post} {F : Fr} {w : World}


theorem WP.iter {c : Code} {σ τ ρ : Type} (J : σ → Fr → World → Prop) (body : σ → Option (Rd σ τ ρ)) {k : Nat} {s : σ} {out : τ ⊕ ρ} (hm : iter body k s = some out) (h0 : J s F w)
    (round : ∀ s F w k o, J s F w → body s = some o → (match o with | .next s' => Go.E.iter body k s' = some out | .brk t => out = .inl t | .ret r => out = .inr r) →
      WP P n c (Q.after (fun F' w' => ∃ s' F'', F'.Has F'' ∧ o = .next s' ∧ J s' F'' w')) F w) : WP P n (.loop c) Q F w := by
  refine WP.loop (σ := { p : Nat × σ // Go.E.iter body p.1 p.2 = some out }) (fun p F w => J p.1.2 F w) (fun p => p.1.1) ⟨(k, s), hm⟩ h0 ?_
  rintro ⟨⟨k, s⟩, hk⟩ F w hJ
  cases k with
  | zero => cases hk
  | succ k =>
    have hk' := hk
    simp only [Go.E.iter] at hk'
    cases hb : body s with
    | none => rw [hb] at hk'; cases hk'
    | some o =>
      rw [hb] at hk'
      refine (round s F w k o hJ hb ?_).mono ?_
      · cases o with
        | next s' => exact hk'
        | brk t => simp only [Option.some.injEq] at hk'; exact hk'.symm
        | ret r => simp only [Option.some.injEq] at hk'; exact hk'.symm
      · intro e F' w' q
        cases e with
        | normal =>
          obtain ⟨s', F2, hh, rfl, hJ'⟩ := q
          exact ⟨⟨(k, s'), hk'⟩, F2, hh, hJ', Nat.lt_succ_self k⟩
        | _ => exact q


theorem WP.cut {c : Code} {τ : Type} (J : τ → Fr → World → Prop) (hk : ∀ t F w, J t F w → Q .normal F w) (h : WP P n c (Q.after (fun F w => ∃ t F', F.Has F' ∧ J t F' w)) F w) : WP P n c Q F w :=
  fun a ha => wp_mono (h a ha) fun e a' w' ⟨F1, hf, q⟩ => by
    cases e with
    | normal => obtain ⟨t, F', hh, ht⟩ := q; exact ⟨F', hf.weak hh, hk t F' w' ht⟩
    | _ => exact ⟨F1, hf, q⟩

theorem RW.know {ops rest : List Oper} (i : Nat) {v u : Value} (hg : F.get i = some v) (e : v = u) (h : RW P n ops Q rest ((i, u) :: F) w) : RW P n ops Q rest F w := fun a ha =>
  h a ⟨ha.1, ha.2.1, fun j x hx => by
    rw [Fr.get_cons] at hx
    split at hx
    · rename_i hj; subst hj; simp only [Option.some.injEq] at hx; subst hx; rw [← e]; exact ha.2.2 _ _ hg
    · exact ha.2.2 _ _ hx⟩

theorem DW.know {ops : List Oper} {w0 W9 : World} {wr : Nat → Bool} {fuel : Nat} {listed : Array Bool} (i : Nat) {v u : Value} (hg : F.get i = some v) (e : v = u) (h : DW P n ops Q W9 w0 wr fuel listed ((i, u) :: F) w) : DW P n ops Q W9 w0 wr fuel listed F w := fun hs he hv a ha =>
  h hs he hv a ⟨ha.1, ha.2.1, fun j x hx => by
    rw [Fr.get_cons] at hx
    split at hx
    · rename_i hj; subst hj; simp only [Option.some.injEq] at hx; subst hx; rw [← e]; exact ha.2.2 _ _ hg
    · exact ha.2.2 _ _ hx⟩

theorem DM.know {ops : List Oper} {w0 W9 : World} {wm fuel k m : Nat} (i : Nat) {v u : Value} (hg : F.get i = some v) (e : v = u) (h : DM P n ops Q W9 w0 wm fuel k m ((i, u) :: F) w) : DM P n ops Q W9 w0 wm fuel k m F w := fun l hl => DW.know i hg e (h l hl)

theorem ResIs.agg {T : TT} (ht : TTok P T) {a : Tmp} {t : Nat} {q : Addr} (h : F.get a = some (.pointer (some q))) {i : TI} (hi : T.get t = some i) (hag : i.agg = true) {cs : List Value} (hat : At w q cs) (hl : Nat.beq cs.length i.size = true) :
    ResIs P F w (.cell a t) (.agg ⟨cs⟩) := .cell h (by
  have hr := run_loadCells_list (P := P) w q cs fun j u hu => hat j u hu
  rw [Nat.eq_of_beq_eq_true hl] at hr
  simp [loadVar, ht.isAgg hi, ht.sizeOf hi, hag, hr])

theorem ResIs.one {T : TT} (ht : TTok P T) {a : Tmp} {t : Nat} {q : Addr} (h : F.get a = some (.pointer (some q))) {i : TI} (hi : T.get t = some i) (hag : i.agg = false) {c : Value} (hat : At w q [c]) :
    ResIs P F w (.cell a t) c := .cell h (by
  have hc : w.cell? q = some c := by have := hat 0 c rfl; simpa [Addr.add] using this
  simp [loadVar, ht.isAgg hi, hag, run_load, hc])

theorem At.sub {p : Addr} {cs : List Value} (h : At w p cs) (off m : Nat) : At w (p.add off) ((cs.drop off).take m) := h.part fun j u hu => by
  rw [List.getElem?_take] at hu
  split at hu
  · simpa using hu
  · cases hu
end
end Go.E

