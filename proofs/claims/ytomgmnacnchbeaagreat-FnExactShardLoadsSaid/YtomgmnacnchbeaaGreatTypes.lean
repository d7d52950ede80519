/- The types of the data, as tables and as plain Lean types (written by program). Conditions: none. -/
import Derived.Test.YtomgmnacnchbeaaGreatMaps
import Derived.Test.YtomgmnacnchbeaaGreatProg
import Derived.KernelRfl
namespace Go.E
open Go.RowKit Go.Proofs
set_option linter.unusedVariables false
set_option linter.unusedSimpArgs false


def tt : TT := [
  ⟨2, .int .i64, 1, [.int .i64 0], 8⟩,
  ⟨3, .int .i64, 1, [.int .i64 0], 8⟩,
  ⟨4, .bool, 1, [.bool false], 1⟩,
  ⟨22, .slice 157, 1, [.slice none 0 0], 24⟩,
  ⟨24, .struct [(0, 1, false, 2), (1, 1, false, 2), (2, 1, false, 2)], 3, [.int .i64 0, .int .i64 0, .int .i64 0], 24⟩,
  ⟨26, .struct [(0, 1, false, 22), (1, 3, true, 24)], 4, [.slice none 0 0, .int .i64 0, .int .i64 0, .int .i64 0], 48⟩,
  ⟨30, .slice 86, 1, [.slice none 0 0], 24⟩,
  ⟨31, .struct [(0, 1, false, 2), (1, 1, false, 2), (2, 1, false, 2)], 3, [.int .i64 0, .int .i64 0, .int .i64 0], 24⟩,
  ⟨33, .struct [(0, 1, false, 30), (1, 3, true, 31)], 4, [.slice none 0 0, .int .i64 0, .int .i64 0, .int .i64 0], 48⟩,
  ⟨37, .slice 168, 1, [.slice none 0 0], 24⟩,
  ⟨39, .struct [(0, 1, false, 2), (1, 1, false, 2)], 2, [.int .i64 0, .int .i64 0], 16⟩,
  ⟨40, .slice 176, 1, [.slice none 0 0], 24⟩,
  ⟨42, .struct [(0, 1, false, 37), (1, 1, false, 2), (2, 2, true, 39), (4, 1, false, 40)], 5, [.slice none 0 0, .int .i64 0, .int .i64 0, .int .i64 0, .slice none 0 0], 72⟩,
  ⟨44, .slice 113, 1, [.slice none 0 0], 24⟩,
  ⟨45, .struct [(0, 1, false, 2), (1, 1, false, 2)], 2, [.int .i64 0, .int .i64 0], 16⟩,
  ⟨46, .slice 117, 1, [.slice none 0 0], 24⟩,
  ⟨48, .struct [(0, 1, false, 44), (1, 1, false, 2), (2, 2, true, 45), (4, 1, false, 46)], 5, [.slice none 0 0, .int .i64 0, .int .i64 0, .int .i64 0, .slice none 0 0], 72⟩,
  ⟨55, .slice 142, 1, [.slice none 0 0], 24⟩,
  ⟨57, .struct [(0, 1, false, 55)], 1, [.slice none 0 0], 24⟩,
  ⟨62, .slice 2, 1, [.slice none 0 0], 24⟩,
  ⟨68, .slice 202, 1, [.slice none 0 0], 24⟩,
  ⟨70, .struct [(0, 1, false, 68)], 1, [.slice none 0 0], 24⟩,
  ⟨79, .ptr 33, 1, [.pointer none], 8⟩,
  ⟨81, .ptr 86, 1, [.pointer none], 8⟩,
  ⟨82, .slice 89, 1, [.slice none 0 0], 24⟩,
  ⟨83, .slice 93, 1, [.slice none 0 0], 24⟩,
  ⟨84, .slice 91, 1, [.slice none 0 0], 24⟩,
  ⟨86, .struct [(0, 1, false, 82), (1, 1, false, 83), (2, 1, false, 84)], 3, [.slice none 0 0, .slice none 0 0, .slice none 0 0], 72⟩,
  ⟨87, .slice 31, 1, [.slice none 0 0], 24⟩,
  ⟨89, .struct [(0, 1, false, 2), (1, 1, false, 2), (2, 1, false, 2), (3, 1, false, 62), (4, 1, false, 87)], 5, [.int .i64 0, .int .i64 0, .int .i64 0, .slice none 0 0, .slice none 0 0], 72⟩,
  ⟨91, .struct [(0, 3, true, 31), (3, 3, true, 31)], 6, [.int .i64 0, .int .i64 0, .int .i64 0, .int .i64 0, .int .i64 0, .int .i64 0], 48⟩,
  ⟨93, .struct [(0, 1, false, 4), (1, 1, false, 4), (2, 3, true, 31)], 5, [.bool false, .bool false, .int .i64 0, .int .i64 0, .int .i64 0], 32⟩,
  ⟨102, .ptr 48, 1, [.pointer none], 8⟩,
  ⟨109, .other, 1, [.map none], 8⟩,
  ⟨111, .slice 45, 1, [.slice none 0 0], 24⟩,
  ⟨113, .struct [(0, 1, false, 2), (1, 1, false, 2), (2, 1, false, 2), (3, 1, false, 62), (4, 1, false, 111)], 5, [.int .i64 0, .int .i64 0, .int .i64 0, .slice none 0 0, .slice none 0 0], 72⟩,
  ⟨117, .struct [(0, 1, false, 2), (1, 1, false, 2)], 2, [.int .i64 0, .int .i64 0], 16⟩,
  ⟨131, .ptr 57, 1, [.pointer none], 8⟩,
  ⟨137, .ptr 139, 1, [.pointer none], 8⟩,
  ⟨139, .struct [(0, 1, false, 131), (1, 1, false, 62), (2, 4, true, 33), (6, 1, false, 87)], 7, [.pointer none, .slice none 0 0, .slice none 0 0, .int .i64 0, .int .i64 0, .int .i64 0, .slice none 0 0], 104⟩,
  ⟨140, .slice 146, 1, [.slice none 0 0], 24⟩,
  ⟨142, .struct [(0, 1, false, 2), (1, 1, false, 2), (2, 1, false, 2), (3, 1, false, 62), (4, 1, false, 140)], 5, [.int .i64 0, .int .i64 0, .int .i64 0, .slice none 0 0, .slice none 0 0], 72⟩,
  ⟨146, .struct [(0, 1, false, 2), (1, 1, false, 2)], 2, [.int .i64 0, .int .i64 0], 16⟩,
  ⟨153, .slice 273, 1, [.slice none 0 0], 24⟩,
  ⟨154, .slice 278, 1, [.slice none 0 0], 24⟩,
  ⟨155, .slice 281, 1, [.slice none 0 0], 24⟩,
  ⟨157, .struct [(0, 1, false, 153), (1, 1, false, 154), (2, 1, false, 155)], 3, [.slice none 0 0, .slice none 0 0, .slice none 0 0], 72⟩,
  ⟨158, .ptr 227, 1, [.pointer none], 8⟩,
  ⟨166, .slice 39, 1, [.slice none 0 0], 24⟩,
  ⟨168, .struct [(0, 1, false, 2), (1, 1, false, 2), (2, 1, false, 2), (3, 1, false, 62), (4, 1, false, 166)], 5, [.int .i64 0, .int .i64 0, .int .i64 0, .slice none 0 0, .slice none 0 0], 72⟩,
  ⟨171, .ptr 113, 1, [.pointer none], 8⟩,
  ⟨176, .struct [(0, 1, false, 2), (1, 1, false, 2)], 2, [.int .i64 0, .int .i64 0], 16⟩,
  ⟨189, .other, 1, [.map none], 8⟩,
  ⟨200, .slice 301, 1, [.slice none 0 0], 24⟩,
  ⟨202, .struct [(0, 1, false, 2), (1, 1, false, 2), (2, 1, false, 2), (3, 1, false, 62), (4, 1, false, 200)], 5, [.int .i64 0, .int .i64 0, .int .i64 0, .slice none 0 0, .slice none 0 0], 72⟩,
  ⟨204, .ptr 142, 1, [.pointer none], 8⟩,
  ⟨206, .slice 209, 1, [.slice none 0 0], 24⟩,
  ⟨209, .struct [(0, 2, true, 146), (2, 2, true, 146)], 4, [.int .i64 0, .int .i64 0, .int .i64 0, .int .i64 0], 32⟩,
  ⟨224, .ptr 89, 1, [.pointer none], 8⟩,
  ⟨225, .slice 62, 1, [.slice none 0 0], 24⟩,
  ⟨227, .struct [(0, 1, false, 55), (1, 1, false, 140), (2, 1, false, 225), (3, 1, false, 225), (4, 1, false, 225), (5, 1, false, 225)], 6, [.slice none 0 0, .slice none 0 0, .slice none 0 0, .slice none 0 0, .slice none 0 0, .slice none 0 0], 144⟩,
  ⟨237, .slice 285, 1, [.slice none 0 0], 24⟩,
  ⟨271, .slice 24, 1, [.slice none 0 0], 24⟩,
  ⟨273, .struct [(0, 1, false, 2), (1, 1, false, 2), (2, 1, false, 2), (3, 1, false, 62), (4, 1, false, 271)], 5, [.int .i64 0, .int .i64 0, .int .i64 0, .slice none 0 0, .slice none 0 0], 72⟩,
  ⟨278, .struct [(0, 1, false, 4), (1, 1, false, 4), (2, 3, true, 24)], 5, [.bool false, .bool false, .int .i64 0, .int .i64 0, .int .i64 0], 32⟩,
  ⟨281, .struct [(0, 3, true, 24), (3, 3, true, 24)], 6, [.int .i64 0, .int .i64 0, .int .i64 0, .int .i64 0, .int .i64 0, .int .i64 0], 48⟩,
  ⟨283, .struct [(0, 3, true, 31), (3, 1, false, 2), (4, 1, false, 4)], 5, [.int .i64 0, .int .i64 0, .int .i64 0, .int .i64 0, .bool false], 40⟩,
  ⟨285, .struct [(0, 5, true, 283), (5, 5, true, 283)], 10, [.int .i64 0, .int .i64 0, .int .i64 0, .int .i64 0, .bool false, .int .i64 0, .int .i64 0, .int .i64 0, .int .i64 0, .bool false], 80⟩,
  ⟨287, .other, 1, [.map none], 8⟩,
  ⟨297, .slice 3, 1, [.slice none 0 0], 24⟩,
  ⟨301, .struct [(0, 1, false, 2), (1, 1, false, 2)], 2, [.int .i64 0, .int .i64 0], 16⟩,
  ⟨307, .slice 283, 1, [.slice none 0 0], 24⟩]

def zerosOk (P : Program) : TT → Prop
  | [] => True
  | i :: r => (P.info? i.id).map (fun j => j.zero.map (fun v => v.cells.toList)) = some (some i.zero) ∧ zerosOk P r

theorem z8c {P : Program} : ∀ {T : TT}, zerosOk P T → ∀ i, i ∈ T → (P.info? i.id).map (fun j => j.zero.map (fun v => v.cells.toList)) = some (some i.zero)
  | [], _, i, h => by cases h
  | _ :: _, ⟨h1, h2⟩, i, h => by
    rcases List.mem_cons.1 h with rfl | h
    · exact h1
    · exact z8c h2 i h

theorem zeT : tt.all (infoOk Tryz.prog) = true := by kernel_rfl
theorem zdE : zerosOk Tryz.prog tt := ⟨by kernel_rfl, by kernel_rfl, by kernel_rfl, by kernel_rfl, by kernel_rfl, by kernel_rfl, by kernel_rfl, by kernel_rfl, by kernel_rfl, by kernel_rfl, by kernel_rfl, by kernel_rfl, by kernel_rfl, by kernel_rfl, by kernel_rfl, by kernel_rfl, by kernel_rfl, by kernel_rfl, by kernel_rfl, by kernel_rfl, by kernel_rfl, by kernel_rfl, by kernel_rfl, by kernel_rfl, by kernel_rfl, by kernel_rfl, by kernel_rfl, by kernel_rfl, by kernel_rfl, by kernel_rfl, by kernel_rfl, by kernel_rfl, by kernel_rfl, by kernel_rfl, by kernel_rfl, by kernel_rfl, by kernel_rfl, by kernel_rfl, by kernel_rfl, by kernel_rfl, by kernel_rfl, by kernel_rfl, by kernel_rfl, by kernel_rfl, by kernel_rfl, by kernel_rfl, by kernel_rfl, by kernel_rfl, by kernel_rfl, by kernel_rfl, by kernel_rfl, by kernel_rfl, by kernel_rfl, by kernel_rfl, by kernel_rfl, by kernel_rfl, by kernel_rfl, by kernel_rfl, by kernel_rfl, by kernel_rfl, by kernel_rfl, by kernel_rfl, by kernel_rfl, by kernel_rfl, by kernel_rfl, by kernel_rfl, by kernel_rfl, by kernel_rfl, by kernel_rfl, by kernel_rfl, by kernel_rfl, by kernel_rfl, trivial⟩
theorem ttok : TTok Tryz.prog tt := ⟨List.all_eq_true.1 zeT, z8c zdE⟩
theorem mixed : Tryz.prog.follows .mixedOrders = true := by kernel_rfl

structure D.Address where
  Machine : Int
  Kind : Int
  Index : Int
deriving Inhabited, DecidableEq

structure D.ShardCell where
  Kind : Int
  Level : Int
  Value : Int
  Data : (List Int)
  Aux : (List D.Address)
deriving Inhabited, DecidableEq

structure D.ShardVar where
  Used : Bool
  Full : Bool
  Held : D.Address
deriving Inhabited, DecidableEq

structure D.ShardRedex where
  A : D.Address
  B : D.Address
deriving Inhabited, DecidableEq

structure D.Shard where
  Cells : (List D.ShardCell)
  Vars : (List D.ShardVar)
  Redexes : (List D.ShardRedex)
deriving Inhabited, DecidableEq

structure D.Grid where
  Shards : (List D.Shard)
  Root : D.Address
deriving Inhabited, DecidableEq

structure D.Port where
  Agent : Int
  Slot : Int
deriving Inhabited, DecidableEq

structure D.Agent where
  Kind : Int
  Level : Int
  Value : Int
  Data : (List Int)
  Ports : (List D.Port)
deriving Inhabited, DecidableEq

structure D.l27Links where
  agents : (List D.Agent)
  ports : (List D.Port)
  cells : (List (List Int))
  vars : (List (List Int))
  ends : (List (List Int))
  pairs : (List (List Int))
deriving Inhabited, DecidableEq

structure D.thing where
  at_ : D.Address
  slot : Int
  own : Bool
deriving Inhabited, DecidableEq

structure D.statement where
  a : D.thing
  b : D.thing
deriving Inhabited, DecidableEq

def ty62 : Ty (List Int) := tSl 2 tInt
instance {W : World} : Reads W ty62 := inferInstanceAs (Reads W (tSl 2 tInt))
theorem z4J {w : World} {cs : List Value} {xs : (List Int)} (h : ty62.ro w cs xs) : ∃ A c, cs = [.slice A xs.length c] := slForm h

def ty24 : Ty D.Address := tMap (fun c => (c.Machine, c.Kind, c.Index, ())) (tPair tInt (tPair tInt (tPair tInt tUnit)))
instance {W : World} : Reads W ty24 := inferInstanceAs (Reads W (tMap (fun c : D.Address => (c.Machine, c.Kind, c.Index, ())) (tPair tInt (tPair tInt (tPair tInt tUnit)))))
theorem z60 {w : World} {cs : List Value} {c : D.Address} (h : ty24.ro w cs c) : cs = [.int .i64 c.Machine, .int .i64 c.Kind, .int .i64 c.Index] := by
  obtain ⟨c0, d0, rfl, h0, c1, d1, rfl, h1, c2, d2, rfl, h2, hz⟩ := h
  subst hz
  subst h0
  subst h1
  subst h2
  rfl
theorem z73 {w : World} (c : D.Address)   : ty24.ro w [.int .i64 c.Machine, .int .i64 c.Kind, .int .i64 c.Index] c :=
  ⟨_, _, rfl, rfl, ⟨_, _, rfl, rfl, ⟨_, _, rfl, rfl, rfl⟩⟩⟩
def z9U : Ty (List D.Address) := tSl 24 ty24
instance {W : World} : Reads W z9U := inferInstanceAs (Reads W (tSl 24 ty24))
theorem zbo {w : World} {cs : List Value} {xs : (List D.Address)} (h : z9U.ro w cs xs) : ∃ A c, cs = [.slice A xs.length c] := slForm h

def zaA : Ty D.ShardCell := tMap (fun c => (c.Kind, c.Level, c.Value, c.Data, c.Aux, ())) (tPair tInt (tPair tInt (tPair tInt (tPair ty62 (tPair z9U tUnit)))))
instance {W : World} : Reads W zaA := inferInstanceAs (Reads W (tMap (fun c : D.ShardCell => (c.Kind, c.Level, c.Value, c.Data, c.Aux, ())) (tPair tInt (tPair tInt (tPair tInt (tPair ty62 (tPair z9U tUnit)))))))
theorem z6D {w : World} {cs : List Value} {c : D.ShardCell} (h : zaA.ro w cs c) : ∃ A0 k0 A1 k1, cs = [.int .i64 c.Kind, .int .i64 c.Level, .int .i64 c.Value, .slice A0 c.Data.length k0, .slice A1 c.Aux.length k1] ∧ ty62.ro w [.slice A0 c.Data.length k0] c.Data ∧ z9U.ro w [.slice A1 c.Aux.length k1] c.Aux := by
  obtain ⟨c0, d0, rfl, h0, c1, d1, rfl, h1, c2, d2, rfl, h2, c3, d3, rfl, h3, c4, d4, rfl, h4, hz⟩ := h
  subst hz
  subst h0
  subst h1
  subst h2
  obtain ⟨A3_, k3_, e3⟩ := z4J h3
  subst e3
  obtain ⟨A4_, k4_, e4⟩ := zbo h4
  subst e4
  exact ⟨A3_, k3_, A4_, k4_, rfl, h3, h4⟩
def z9X : Ty (List D.ShardCell) := tSl 273 zaA
instance {W : World} : Reads W z9X := inferInstanceAs (Reads W (tSl 273 zaA))
theorem zbr {w : World} {cs : List Value} {xs : (List D.ShardCell)} (h : z9X.ro w cs xs) : ∃ A c, cs = [.slice A xs.length c] := slForm h

def zbn : Ty D.ShardVar := tMap (fun c => (c.Used, c.Full, c.Held, ())) (tPair tBool (tPair tBool (tPair ty24 tUnit)))
instance {W : World} : Reads W zbn := inferInstanceAs (Reads W (tMap (fun c : D.ShardVar => (c.Used, c.Full, c.Held, ())) (tPair tBool (tPair tBool (tPair ty24 tUnit)))))
theorem z9a {w : World} {cs : List Value} {c : D.ShardVar} (h : zbn.ro w cs c) : cs = [.bool c.Used, .bool c.Full, .int .i64 c.Held.Machine, .int .i64 c.Held.Kind, .int .i64 c.Held.Index] := by
  obtain ⟨c0, d0, rfl, h0, c1, d1, rfl, h1, c2, d2, rfl, h2, hz⟩ := h
  subst hz
  subst h0
  subst h1
  have e2 := z60 h2
  subst e2
  rfl
def z9W : Ty (List D.ShardVar) := tSl 278 zbn
instance {W : World} : Reads W z9W := inferInstanceAs (Reads W (tSl 278 zbn))
theorem zbq {w : World} {cs : List Value} {xs : (List D.ShardVar)} (h : z9W.ro w cs xs) : ∃ A c, cs = [.slice A xs.length c] := slForm h

def zbm : Ty D.ShardRedex := tMap (fun c => (c.A, c.B, ())) (tPair ty24 (tPair ty24 tUnit))
instance {W : World} : Reads W zbm := inferInstanceAs (Reads W (tMap (fun c : D.ShardRedex => (c.A, c.B, ())) (tPair ty24 (tPair ty24 tUnit))))
theorem z99 {w : World} {cs : List Value} {c : D.ShardRedex} (h : zbm.ro w cs c) : cs = [.int .i64 c.A.Machine, .int .i64 c.A.Kind, .int .i64 c.A.Index, .int .i64 c.B.Machine, .int .i64 c.B.Kind, .int .i64 c.B.Index] := by
  obtain ⟨c0, d0, rfl, h0, c1, d1, rfl, h1, hz⟩ := h
  subst hz
  have e0 := z60 h0
  subst e0
  have e1 := z60 h1
  subst e1
  rfl
def z9V : Ty (List D.ShardRedex) := tSl 281 zbm
instance {W : World} : Reads W z9V := inferInstanceAs (Reads W (tSl 281 zbm))
theorem zbp {w : World} {cs : List Value} {xs : (List D.ShardRedex)} (h : z9V.ro w cs xs) : ∃ A c, cs = [.slice A xs.length c] := slForm h

def zaB : Ty D.Shard := tMap (fun c => (c.Cells, c.Vars, c.Redexes, ())) (tPair z9X (tPair z9W (tPair z9V tUnit)))
instance {W : World} : Reads W zaB := inferInstanceAs (Reads W (tMap (fun c : D.Shard => (c.Cells, c.Vars, c.Redexes, ())) (tPair z9X (tPair z9W (tPair z9V tUnit)))))
theorem z6F {w : World} {cs : List Value} {c : D.Shard} (h : zaB.ro w cs c) : ∃ A0 k0 A1 k1 A2 k2, cs = [.slice A0 c.Cells.length k0, .slice A1 c.Vars.length k1, .slice A2 c.Redexes.length k2] ∧ z9X.ro w [.slice A0 c.Cells.length k0] c.Cells ∧ z9W.ro w [.slice A1 c.Vars.length k1] c.Vars ∧ z9V.ro w [.slice A2 c.Redexes.length k2] c.Redexes := by
  obtain ⟨c0, d0, rfl, h0, c1, d1, rfl, h1, c2, d2, rfl, h2, hz⟩ := h
  subst hz
  obtain ⟨A0_, k0_, e0⟩ := zbr h0
  subst e0
  obtain ⟨A1_, k1_, e1⟩ := zbq h1
  subst e1
  obtain ⟨A2_, k2_, e2⟩ := zbp h2
  subst e2
  exact ⟨A0_, k0_, A1_, k1_, A2_, k2_, rfl, h0, h1, h2⟩
def ty22 : Ty (List D.Shard) := tSl 157 zaB
instance {W : World} : Reads W ty22 := inferInstanceAs (Reads W (tSl 157 zaB))
theorem zc0 {w : World} {cs : List Value} {xs : (List D.Shard)} (h : ty22.ro w cs xs) : ∃ A c, cs = [.slice A xs.length c] := slForm h

def ty26 : Ty D.Grid := tMap (fun c => (c.Shards, c.Root, ())) (tPair ty22 (tPair ty24 tUnit))
instance {W : World} : Reads W ty26 := inferInstanceAs (Reads W (tMap (fun c : D.Grid => (c.Shards, c.Root, ())) (tPair ty22 (tPair ty24 tUnit))))
theorem z8e {w : World} {cs : List Value} {c : D.Grid} (h : ty26.ro w cs c) : ∃ A0 k0, cs = [.slice A0 c.Shards.length k0, .int .i64 c.Root.Machine, .int .i64 c.Root.Kind, .int .i64 c.Root.Index] ∧ ty22.ro w [.slice A0 c.Shards.length k0] c.Shards := by
  obtain ⟨c0, d0, rfl, h0, c1, d1, rfl, h1, hz⟩ := h
  subst hz
  obtain ⟨A0_, k0_, e0⟩ := zc0 h0
  subst e0
  have e1 := z60 h1
  subst e1
  exact ⟨A0_, k0_, rfl, h0⟩
def ty31 : Ty D.Address := tMap (fun c => (c.Machine, c.Kind, c.Index, ())) (tPair tInt (tPair tInt (tPair tInt tUnit)))
instance {W : World} : Reads W ty31 := inferInstanceAs (Reads W (tMap (fun c : D.Address => (c.Machine, c.Kind, c.Index, ())) (tPair tInt (tPair tInt (tPair tInt tUnit)))))
theorem zU {w : World} {cs : List Value} {c : D.Address} (h : ty31.ro w cs c) : cs = [.int .i64 c.Machine, .int .i64 c.Kind, .int .i64 c.Index] := by
  obtain ⟨c0, d0, rfl, h0, c1, d1, rfl, h1, c2, d2, rfl, h2, hz⟩ := h
  subst hz
  subst h0
  subst h1
  subst h2
  rfl
theorem zT {w : World} (c : D.Address)   : ty31.ro w [.int .i64 c.Machine, .int .i64 c.Kind, .int .i64 c.Index] c :=
  ⟨_, _, rfl, rfl, ⟨_, _, rfl, rfl, ⟨_, _, rfl, rfl, rfl⟩⟩⟩
theorem z72 {w : World} {cs : List Value} {c : D.Address} {G : List Nat} (h : ty31.own w cs c G) : cs = [.int .i64 c.Machine, .int .i64 c.Kind, .int .i64 c.Index] ∧ (All []).A w G := by
  obtain ⟨c0, d0, H0, K0, rfl, rfl, h0, c1, d1, H1, K1, rfl, rfl, h1, c2, d2, H2, K2, rfl, rfl, h2, hz, hk⟩ := h
  subst hz; subst hk
  obtain ⟨e0, k0⟩ := h0; subst e0; subst k0
  obtain ⟨e1, k1⟩ := h1; subst e1; subst k1
  obtain ⟨e2, k2⟩ := h2; subst e2; subst k2
  refine ⟨rfl, ?_⟩
  show (All _).A w _
  exact cast (congrArg _ (by simp)) (show (All _).A w ([]) from rfl)
theorem z5Z {w : World} {c : D.Address}  {G : List Nat} (h : (All []).A w G) : ty31.own w [.int .i64 c.Machine, .int .i64 c.Kind, .int .i64 c.Index] c G := by
  have hz : G = [] := h
  subst hz
  exact cast (congrArg _ (by simp)) (show ty31.own w [.int .i64 c.Machine, .int .i64 c.Kind, .int .i64 c.Index] c (_) from ⟨_, _, _, _, rfl, rfl, ⟨rfl, rfl⟩, ⟨_, _, _, _, rfl, rfl, ⟨rfl, rfl⟩, ⟨_, _, _, _, rfl, rfl, ⟨rfl, rfl⟩, ⟨rfl, rfl⟩⟩⟩⟩)
theorem zbk {W w : World} {B : List Res} {cs : List Value} {c : D.Address} (h : St W w (Own ty31 cs c :: B)) : cs = [.int .i64 c.Machine, .int .i64 c.Kind, .int .i64 c.Index] ∧ St W w ([] ++ B) := by
  obtain ⟨G, hA, _⟩ := h.sep.head
  obtain ⟨rfl, _⟩ := z72 hA
  refine ⟨rfl, St.splitAll (h.conv fun G hG => ?_)⟩
  exact (z72 hG).2
theorem z97 {W w : World} {B : List Res} {c : D.Address}  (h : St W w ([] ++ B)) : St W w (Own ty31 [.int .i64 c.Machine, .int .i64 c.Kind, .int .i64 c.Index] c :: B) := (St.fuseAll h).conv fun _ hG => z5Z hG

def ty87 : Ty (List D.Address) := tSl 31 ty31
instance {W : World} : Reads W ty87 := inferInstanceAs (Reads W (tSl 31 ty31))
theorem zbT {w : World} {cs : List Value} {xs : (List D.Address)} (h : ty87.ro w cs xs) : ∃ A c, cs = [.slice A xs.length c] := slForm h

def ty89 : Ty D.ShardCell := tMap (fun c => (c.Kind, c.Level, c.Value, c.Data, c.Aux, ())) (tPair tInt (tPair tInt (tPair tInt (tPair ty62 (tPair ty87 tUnit)))))
instance {W : World} : Reads W ty89 := inferInstanceAs (Reads W (tMap (fun c : D.ShardCell => (c.Kind, c.Level, c.Value, c.Data, c.Aux, ())) (tPair tInt (tPair tInt (tPair tInt (tPair ty62 (tPair ty87 tUnit)))))))
theorem zH {w : World} {cs : List Value} {c : D.ShardCell} (h : ty89.ro w cs c) : ∃ A0 k0 A1 k1, cs = [.int .i64 c.Kind, .int .i64 c.Level, .int .i64 c.Value, .slice A0 c.Data.length k0, .slice A1 c.Aux.length k1] ∧ ty62.ro w [.slice A0 c.Data.length k0] c.Data ∧ ty87.ro w [.slice A1 c.Aux.length k1] c.Aux := by
  obtain ⟨c0, d0, rfl, h0, c1, d1, rfl, h1, c2, d2, rfl, h2, c3, d3, rfl, h3, c4, d4, rfl, h4, hz⟩ := h
  subst hz
  subst h0
  subst h1
  subst h2
  obtain ⟨A3_, k3_, e3⟩ := z4J h3
  subst e3
  obtain ⟨A4_, k4_, e4⟩ := zbT h4
  subst e4
  exact ⟨A3_, k3_, A4_, k4_, rfl, h3, h4⟩
theorem zbS {w : World} (c : D.ShardCell) {A0 : Option Addr} {k0 : Nat} {A1 : Option Addr} {k1 : Nat} (h0 : ty62.ro w [.slice A0 c.Data.length k0] c.Data) (h1 : ty87.ro w [.slice A1 c.Aux.length k1] c.Aux) : ty89.ro w [.int .i64 c.Kind, .int .i64 c.Level, .int .i64 c.Value, .slice A0 c.Data.length k0, .slice A1 c.Aux.length k1] c :=
  ⟨_, _, rfl, rfl, ⟨_, _, rfl, rfl, ⟨_, _, rfl, rfl, ⟨_, _, rfl, h0, ⟨_, _, rfl, h1, rfl⟩⟩⟩⟩⟩
theorem zaY {w : World} {cs : List Value} {c : D.ShardCell} {G : List Nat} (h : ty89.own w cs c G) : ∃ A0 k0 A1 k1, cs = [.int .i64 c.Kind, .int .i64 c.Level, .int .i64 c.Value, .slice A0 c.Data.length k0, .slice A1 c.Aux.length k1] ∧ (All [Own ty62 [.slice A0 c.Data.length k0] c.Data, Own ty87 [.slice A1 c.Aux.length k1] c.Aux]).A w G := by
  obtain ⟨c0, d0, H0, K0, rfl, rfl, h0, c1, d1, H1, K1, rfl, rfl, h1, c2, d2, H2, K2, rfl, rfl, h2, c3, d3, H3, K3, rfl, rfl, h3, c4, d4, H4, K4, rfl, rfl, h4, hz, hk⟩ := h
  subst hz; subst hk
  obtain ⟨e0, k0⟩ := h0; subst e0; subst k0
  obtain ⟨e1, k1⟩ := h1; subst e1; subst k1
  obtain ⟨e2, k2⟩ := h2; subst e2; subst k2
  obtain ⟨A3_, k3_, e3⟩ := slFormO h3
  subst e3
  obtain ⟨A4_, k4_, e4⟩ := slFormO h4
  subst e4
  refine ⟨A3_, k3_, A4_, k4_, rfl, ?_⟩
  show (All _).A w _
  exact cast (congrArg _ (by simp)) (show (All _).A w (H3 ++ (H4 ++ ([]))) from ⟨_, _, rfl, h3, ⟨_, _, rfl, h4, rfl⟩⟩)
theorem z9S {w : World} {c : D.ShardCell} {A0 : Option Addr} {k0 : Nat} {A1 : Option Addr} {k1 : Nat} {G : List Nat} (h : (All [Own ty62 [.slice A0 c.Data.length k0] c.Data, Own ty87 [.slice A1 c.Aux.length k1] c.Aux]).A w G) : ty89.own w [.int .i64 c.Kind, .int .i64 c.Level, .int .i64 c.Value, .slice A0 c.Data.length k0, .slice A1 c.Aux.length k1] c G := by
  obtain ⟨G0, R0, rfl, h0, G1, R1, rfl, h1, hz⟩ := h
  have hz' : R1 = [] := hz
  subst hz'
  exact cast (congrArg _ (by simp)) (show ty89.own w [.int .i64 c.Kind, .int .i64 c.Level, .int .i64 c.Value, .slice A0 c.Data.length k0, .slice A1 c.Aux.length k1] c (_) from ⟨_, _, _, _, rfl, rfl, ⟨rfl, rfl⟩, ⟨_, _, _, _, rfl, rfl, ⟨rfl, rfl⟩, ⟨_, _, _, _, rfl, rfl, ⟨rfl, rfl⟩, ⟨_, _, _, _, rfl, rfl, h0, ⟨_, _, _, _, rfl, rfl, h1, ⟨rfl, rfl⟩⟩⟩⟩⟩⟩)
theorem zbi {W w : World} {B : List Res} {cs : List Value} {c : D.ShardCell} (h : St W w (Own ty89 cs c :: B)) : ∃ A0 k0 A1 k1, cs = [.int .i64 c.Kind, .int .i64 c.Level, .int .i64 c.Value, .slice A0 c.Data.length k0, .slice A1 c.Aux.length k1] ∧ St W w ([Own ty62 [.slice A0 c.Data.length k0] c.Data, Own ty87 [.slice A1 c.Aux.length k1] c.Aux] ++ B) := by
  obtain ⟨G, hA, _⟩ := h.sep.head
  obtain ⟨A0, k0, A1, k1, rfl, _⟩ := zaY hA
  refine ⟨A0, k0, A1, k1, rfl, St.splitAll (h.conv fun G hG => ?_)⟩
  obtain ⟨X0, Y0, X1, Y1, he, hh⟩ := zaY hG
  simp only [List.cons.injEq, Value.slice.injEq, and_true, true_and] at he
  obtain ⟨⟨rfl, rfl⟩, ⟨rfl, rfl⟩⟩ := he
  exact hh
theorem z95 {W w : World} {B : List Res} {c : D.ShardCell} {A0 : Option Addr} {k0 : Nat} {A1 : Option Addr} {k1 : Nat} (h : St W w ([Own ty62 [.slice A0 c.Data.length k0] c.Data, Own ty87 [.slice A1 c.Aux.length k1] c.Aux] ++ B)) : St W w (Own ty89 [.int .i64 c.Kind, .int .i64 c.Level, .int .i64 c.Value, .slice A0 c.Data.length k0, .slice A1 c.Aux.length k1] c :: B) := (St.fuseAll h).conv fun _ hG => z9S hG

def ty82 : Ty (List D.ShardCell) := tSl 89 ty89
instance {W : World} : Reads W ty82 := inferInstanceAs (Reads W (tSl 89 ty89))
theorem zbW {w : World} {cs : List Value} {xs : (List D.ShardCell)} (h : ty82.ro w cs xs) : ∃ A c, cs = [.slice A xs.length c] := slForm h

def ty93 : Ty D.ShardVar := tMap (fun c => (c.Used, c.Full, c.Held, ())) (tPair tBool (tPair tBool (tPair ty31 tUnit)))
instance {W : World} : Reads W ty93 := inferInstanceAs (Reads W (tMap (fun c : D.ShardVar => (c.Used, c.Full, c.Held, ())) (tPair tBool (tPair tBool (tPair ty31 tUnit)))))
theorem z1y {w : World} {cs : List Value} {c : D.ShardVar} (h : ty93.ro w cs c) : cs = [.bool c.Used, .bool c.Full, .int .i64 c.Held.Machine, .int .i64 c.Held.Kind, .int .i64 c.Held.Index] := by
  obtain ⟨c0, d0, rfl, h0, c1, d1, rfl, h1, c2, d2, rfl, h2, hz⟩ := h
  subst hz
  subst h0
  subst h1
  have e2 := zU h2
  subst e2
  rfl
theorem zaW {w : World} {cs : List Value} {c : D.ShardVar} {G : List Nat} (h : ty93.own w cs c G) : cs = [.bool c.Used, .bool c.Full, .int .i64 c.Held.Machine, .int .i64 c.Held.Kind, .int .i64 c.Held.Index] ∧ (All []).A w G := by
  obtain ⟨c0, d0, H0, K0, rfl, rfl, h0, c1, d1, H1, K1, rfl, rfl, h1, c2, d2, H2, K2, rfl, rfl, h2, hz, hk⟩ := h
  subst hz; subst hk
  obtain ⟨e0, k0⟩ := h0; subst e0; subst k0
  obtain ⟨e1, k1⟩ := h1; subst e1; subst k1
  obtain ⟨e2, g2⟩ := z72 h2
  subst e2
  refine ⟨rfl, ?_⟩
  exact cast (congrArg _ (by simp)) g2
theorem z9Q {w : World} {c : D.ShardVar}  {G : List Nat} (h : (All []).A w G) : ty93.own w [.bool c.Used, .bool c.Full, .int .i64 c.Held.Machine, .int .i64 c.Held.Kind, .int .i64 c.Held.Index] c G := by
  have hz : G = [] := h
  subst hz
  exact cast (congrArg _ (by simp)) (show ty93.own w [.bool c.Used, .bool c.Full, .int .i64 c.Held.Machine, .int .i64 c.Held.Kind, .int .i64 c.Held.Index] c (_) from ⟨_, _, _, _, rfl, rfl, ⟨rfl, rfl⟩, ⟨_, _, _, _, rfl, rfl, ⟨rfl, rfl⟩, ⟨_, _, _, _, rfl, rfl, (z5Z (c := c.Held) rfl), ⟨rfl, rfl⟩⟩⟩⟩)
theorem zbg {W w : World} {B : List Res} {cs : List Value} {c : D.ShardVar} (h : St W w (Own ty93 cs c :: B)) : cs = [.bool c.Used, .bool c.Full, .int .i64 c.Held.Machine, .int .i64 c.Held.Kind, .int .i64 c.Held.Index] ∧ St W w ([] ++ B) := by
  obtain ⟨G, hA, _⟩ := h.sep.head
  obtain ⟨rfl, _⟩ := zaW hA
  refine ⟨rfl, St.splitAll (h.conv fun G hG => ?_)⟩
  exact (zaW hG).2
theorem z93 {W w : World} {B : List Res} {c : D.ShardVar}  (h : St W w ([] ++ B)) : St W w (Own ty93 [.bool c.Used, .bool c.Full, .int .i64 c.Held.Machine, .int .i64 c.Held.Kind, .int .i64 c.Held.Index] c :: B) := (St.fuseAll h).conv fun _ hG => z9Q hG

def ty83 : Ty (List D.ShardVar) := tSl 93 ty93
instance {W : World} : Reads W ty83 := inferInstanceAs (Reads W (tSl 93 ty93))
theorem zbV {w : World} {cs : List Value} {xs : (List D.ShardVar)} (h : ty83.ro w cs xs) : ∃ A c, cs = [.slice A xs.length c] := slForm h

def ty91 : Ty D.ShardRedex := tMap (fun c => (c.A, c.B, ())) (tPair ty31 (tPair ty31 tUnit))
instance {W : World} : Reads W ty91 := inferInstanceAs (Reads W (tMap (fun c : D.ShardRedex => (c.A, c.B, ())) (tPair ty31 (tPair ty31 tUnit))))
theorem z5y {w : World} {cs : List Value} {c : D.ShardRedex} (h : ty91.ro w cs c) : cs = [.int .i64 c.A.Machine, .int .i64 c.A.Kind, .int .i64 c.A.Index, .int .i64 c.B.Machine, .int .i64 c.B.Kind, .int .i64 c.B.Index] := by
  obtain ⟨c0, d0, rfl, h0, c1, d1, rfl, h1, hz⟩ := h
  subst hz
  have e0 := zU h0
  subst e0
  have e1 := zU h1
  subst e1
  rfl
theorem zaX {w : World} {cs : List Value} {c : D.ShardRedex} {G : List Nat} (h : ty91.own w cs c G) : cs = [.int .i64 c.A.Machine, .int .i64 c.A.Kind, .int .i64 c.A.Index, .int .i64 c.B.Machine, .int .i64 c.B.Kind, .int .i64 c.B.Index] ∧ (All []).A w G := by
  obtain ⟨c0, d0, H0, K0, rfl, rfl, h0, c1, d1, H1, K1, rfl, rfl, h1, hz, hk⟩ := h
  subst hz; subst hk
  obtain ⟨e0, g0⟩ := z72 h0
  subst e0
  obtain ⟨e1, g1⟩ := z72 h1
  subst e1
  refine ⟨rfl, ?_⟩
  exact cast (congrArg _ (by simp)) (allApp g0 g1)
theorem z9R {w : World} {c : D.ShardRedex}  {G : List Nat} (h : (All []).A w G) : ty91.own w [.int .i64 c.A.Machine, .int .i64 c.A.Kind, .int .i64 c.A.Index, .int .i64 c.B.Machine, .int .i64 c.B.Kind, .int .i64 c.B.Index] c G := by
  have hz : G = [] := h
  subst hz
  exact cast (congrArg _ (by simp)) (show ty91.own w [.int .i64 c.A.Machine, .int .i64 c.A.Kind, .int .i64 c.A.Index, .int .i64 c.B.Machine, .int .i64 c.B.Kind, .int .i64 c.B.Index] c (_) from ⟨_, _, _, _, rfl, rfl, (z5Z (c := c.A) rfl), ⟨_, _, _, _, rfl, rfl, (z5Z (c := c.B) rfl), ⟨rfl, rfl⟩⟩⟩)
theorem zbh {W w : World} {B : List Res} {cs : List Value} {c : D.ShardRedex} (h : St W w (Own ty91 cs c :: B)) : cs = [.int .i64 c.A.Machine, .int .i64 c.A.Kind, .int .i64 c.A.Index, .int .i64 c.B.Machine, .int .i64 c.B.Kind, .int .i64 c.B.Index] ∧ St W w ([] ++ B) := by
  obtain ⟨G, hA, _⟩ := h.sep.head
  obtain ⟨rfl, _⟩ := zaX hA
  refine ⟨rfl, St.splitAll (h.conv fun G hG => ?_)⟩
  exact (zaX hG).2
theorem z94 {W w : World} {B : List Res} {c : D.ShardRedex}  (h : St W w ([] ++ B)) : St W w (Own ty91 [.int .i64 c.A.Machine, .int .i64 c.A.Kind, .int .i64 c.A.Index, .int .i64 c.B.Machine, .int .i64 c.B.Kind, .int .i64 c.B.Index] c :: B) := (St.fuseAll h).conv fun _ hG => z9R hG

def ty84 : Ty (List D.ShardRedex) := tSl 91 ty91
instance {W : World} : Reads W ty84 := inferInstanceAs (Reads W (tSl 91 ty91))
theorem zbU {w : World} {cs : List Value} {xs : (List D.ShardRedex)} (h : ty84.ro w cs xs) : ∃ A c, cs = [.slice A xs.length c] := slForm h

def ty86 : Ty D.Shard := tMap (fun c => (c.Cells, c.Vars, c.Redexes, ())) (tPair ty82 (tPair ty83 (tPair ty84 tUnit)))
instance {W : World} : Reads W ty86 := inferInstanceAs (Reads W (tMap (fun c : D.Shard => (c.Cells, c.Vars, c.Redexes, ())) (tPair ty82 (tPair ty83 (tPair ty84 tUnit)))))
theorem zS {w : World} {cs : List Value} {c : D.Shard} (h : ty86.ro w cs c) : ∃ A0 k0 A1 k1 A2 k2, cs = [.slice A0 c.Cells.length k0, .slice A1 c.Vars.length k1, .slice A2 c.Redexes.length k2] ∧ ty82.ro w [.slice A0 c.Cells.length k0] c.Cells ∧ ty83.ro w [.slice A1 c.Vars.length k1] c.Vars ∧ ty84.ro w [.slice A2 c.Redexes.length k2] c.Redexes := by
  obtain ⟨c0, d0, rfl, h0, c1, d1, rfl, h1, c2, d2, rfl, h2, hz⟩ := h
  subst hz
  obtain ⟨A0_, k0_, e0⟩ := zbW h0
  subst e0
  obtain ⟨A1_, k1_, e1⟩ := zbV h1
  subst e1
  obtain ⟨A2_, k2_, e2⟩ := zbU h2
  subst e2
  exact ⟨A0_, k0_, A1_, k1_, A2_, k2_, rfl, h0, h1, h2⟩
theorem zaZ {w : World} {cs : List Value} {c : D.Shard} {G : List Nat} (h : ty86.own w cs c G) : ∃ A0 k0 A1 k1 A2 k2, cs = [.slice A0 c.Cells.length k0, .slice A1 c.Vars.length k1, .slice A2 c.Redexes.length k2] ∧ (All [Own ty82 [.slice A0 c.Cells.length k0] c.Cells, Own ty83 [.slice A1 c.Vars.length k1] c.Vars, Own ty84 [.slice A2 c.Redexes.length k2] c.Redexes]).A w G := by
  obtain ⟨c0, d0, H0, K0, rfl, rfl, h0, c1, d1, H1, K1, rfl, rfl, h1, c2, d2, H2, K2, rfl, rfl, h2, hz, hk⟩ := h
  subst hz; subst hk
  obtain ⟨A0_, k0_, e0⟩ := slFormO h0
  subst e0
  obtain ⟨A1_, k1_, e1⟩ := slFormO h1
  subst e1
  obtain ⟨A2_, k2_, e2⟩ := slFormO h2
  subst e2
  refine ⟨A0_, k0_, A1_, k1_, A2_, k2_, rfl, ?_⟩
  show (All _).A w _
  exact cast (congrArg _ (by simp)) (show (All _).A w (H0 ++ (H1 ++ (H2 ++ ([])))) from ⟨_, _, rfl, h0, ⟨_, _, rfl, h1, ⟨_, _, rfl, h2, rfl⟩⟩⟩)
theorem z9T {w : World} {c : D.Shard} {A0 : Option Addr} {k0 : Nat} {A1 : Option Addr} {k1 : Nat} {A2 : Option Addr} {k2 : Nat} {G : List Nat} (h : (All [Own ty82 [.slice A0 c.Cells.length k0] c.Cells, Own ty83 [.slice A1 c.Vars.length k1] c.Vars, Own ty84 [.slice A2 c.Redexes.length k2] c.Redexes]).A w G) : ty86.own w [.slice A0 c.Cells.length k0, .slice A1 c.Vars.length k1, .slice A2 c.Redexes.length k2] c G := by
  obtain ⟨G0, R0, rfl, h0, G1, R1, rfl, h1, G2, R2, rfl, h2, hz⟩ := h
  have hz' : R2 = [] := hz
  subst hz'
  exact cast (congrArg _ (by simp)) (show ty86.own w [.slice A0 c.Cells.length k0, .slice A1 c.Vars.length k1, .slice A2 c.Redexes.length k2] c (_) from ⟨_, _, _, _, rfl, rfl, h0, ⟨_, _, _, _, rfl, rfl, h1, ⟨_, _, _, _, rfl, rfl, h2, ⟨rfl, rfl⟩⟩⟩⟩)
theorem zbj {W w : World} {B : List Res} {cs : List Value} {c : D.Shard} (h : St W w (Own ty86 cs c :: B)) : ∃ A0 k0 A1 k1 A2 k2, cs = [.slice A0 c.Cells.length k0, .slice A1 c.Vars.length k1, .slice A2 c.Redexes.length k2] ∧ St W w ([Own ty82 [.slice A0 c.Cells.length k0] c.Cells, Own ty83 [.slice A1 c.Vars.length k1] c.Vars, Own ty84 [.slice A2 c.Redexes.length k2] c.Redexes] ++ B) := by
  obtain ⟨G, hA, _⟩ := h.sep.head
  obtain ⟨A0, k0, A1, k1, A2, k2, rfl, _⟩ := zaZ hA
  refine ⟨A0, k0, A1, k1, A2, k2, rfl, St.splitAll (h.conv fun G hG => ?_)⟩
  obtain ⟨X0, Y0, X1, Y1, X2, Y2, he, hh⟩ := zaZ hG
  simp only [List.cons.injEq, Value.slice.injEq, and_true, true_and] at he
  obtain ⟨⟨rfl, rfl⟩, ⟨rfl, rfl⟩, ⟨rfl, rfl⟩⟩ := he
  exact hh
theorem z96 {W w : World} {B : List Res} {c : D.Shard} {A0 : Option Addr} {k0 : Nat} {A1 : Option Addr} {k1 : Nat} {A2 : Option Addr} {k2 : Nat} (h : St W w ([Own ty82 [.slice A0 c.Cells.length k0] c.Cells, Own ty83 [.slice A1 c.Vars.length k1] c.Vars, Own ty84 [.slice A2 c.Redexes.length k2] c.Redexes] ++ B)) : St W w (Own ty86 [.slice A0 c.Cells.length k0, .slice A1 c.Vars.length k1, .slice A2 c.Redexes.length k2] c :: B) := (St.fuseAll h).conv fun _ hG => z9T hG

def ty30 : Ty (List D.Shard) := tSl 86 ty86
instance {W : World} : Reads W ty30 := inferInstanceAs (Reads W (tSl 86 ty86))
theorem zbY {w : World} {cs : List Value} {xs : (List D.Shard)} (h : ty30.ro w cs xs) : ∃ A c, cs = [.slice A xs.length c] := slForm h

def ty33 : Ty D.Grid := tMap (fun c => (c.Shards, c.Root, ())) (tPair ty30 (tPair ty31 tUnit))
instance {W : World} : Reads W ty33 := inferInstanceAs (Reads W (tMap (fun c : D.Grid => (c.Shards, c.Root, ())) (tPair ty30 (tPair ty31 tUnit))))
theorem z1z {w : World} {cs : List Value} {c : D.Grid} (h : ty33.ro w cs c) : ∃ A0 k0, cs = [.slice A0 c.Shards.length k0, .int .i64 c.Root.Machine, .int .i64 c.Root.Kind, .int .i64 c.Root.Index] ∧ ty30.ro w [.slice A0 c.Shards.length k0] c.Shards := by
  obtain ⟨c0, d0, rfl, h0, c1, d1, rfl, h1, hz⟩ := h
  subst hz
  obtain ⟨A0_, k0_, e0⟩ := zbY h0
  subst e0
  have e1 := zU h1
  subst e1
  exact ⟨A0_, k0_, rfl, h0⟩
theorem z6h {w : World} (c : D.Grid) {A0 : Option Addr} {k0 : Nat} (h0 : ty30.ro w [.slice A0 c.Shards.length k0] c.Shards) : ty33.ro w [.slice A0 c.Shards.length k0, .int .i64 c.Root.Machine, .int .i64 c.Root.Kind, .int .i64 c.Root.Index] c :=
  ⟨_, _, rfl, h0, ⟨_, _, rfl, (zT c.Root ), rfl⟩⟩
def z7R : Ty D.Port := tMap (fun c => (c.Agent, c.Slot, ())) (tPair tInt (tPair tInt tUnit))
instance {W : World} : Reads W z7R := inferInstanceAs (Reads W (tMap (fun c : D.Port => (c.Agent, c.Slot, ())) (tPair tInt (tPair tInt tUnit))))
theorem z56 {w : World} {c : D.Port}  {G : List Nat} (h : (All []).A w G) : z7R.own w [.int .i64 c.Agent, .int .i64 c.Slot] c G := by
  have hz : G = [] := h
  subst hz
  exact cast (congrArg _ (by simp)) (show z7R.own w [.int .i64 c.Agent, .int .i64 c.Slot] c (_) from ⟨_, _, _, _, rfl, rfl, ⟨rfl, rfl⟩, ⟨_, _, _, _, rfl, rfl, ⟨rfl, rfl⟩, ⟨rfl, rfl⟩⟩⟩)
def z1U : Ty (List D.Port) := tSl 146 z7R
instance {W : World} : Reads W z1U := inferInstanceAs (Reads W (tSl 146 z7R))
theorem z9d {w : World} {cs : List Value} {xs : (List D.Port)} (h : z1U.ro w cs xs) : ∃ A c, cs = [.slice A xs.length c] := slForm h

def z6Q : Ty D.Agent := tMap (fun c => (c.Kind, c.Level, c.Value, c.Data, c.Ports, ())) (tPair tInt (tPair tInt (tPair tInt (tPair ty62 (tPair z1U tUnit)))))
instance {W : World} : Reads W z6Q := inferInstanceAs (Reads W (tMap (fun c : D.Agent => (c.Kind, c.Level, c.Value, c.Data, c.Ports, ())) (tPair tInt (tPair tInt (tPair tInt (tPair ty62 (tPair z1U tUnit)))))))
theorem z6G {w : World} {cs : List Value} {c : D.Agent} (h : z6Q.ro w cs c) : ∃ A0 k0 A1 k1, cs = [.int .i64 c.Kind, .int .i64 c.Level, .int .i64 c.Value, .slice A0 c.Data.length k0, .slice A1 c.Ports.length k1] ∧ ty62.ro w [.slice A0 c.Data.length k0] c.Data ∧ z1U.ro w [.slice A1 c.Ports.length k1] c.Ports := by
  obtain ⟨c0, d0, rfl, h0, c1, d1, rfl, h1, c2, d2, rfl, h2, c3, d3, rfl, h3, c4, d4, rfl, h4, hz⟩ := h
  subst hz
  subst h0
  subst h1
  subst h2
  obtain ⟨A3_, k3_, e3⟩ := z4J h3
  subst e3
  obtain ⟨A4_, k4_, e4⟩ := z9d h4
  subst e4
  exact ⟨A3_, k3_, A4_, k4_, rfl, h3, h4⟩
theorem z9c {w : World} (c : D.Agent) {A0 : Option Addr} {k0 : Nat} {A1 : Option Addr} {k1 : Nat} (h0 : ty62.ro w [.slice A0 c.Data.length k0] c.Data) (h1 : z1U.ro w [.slice A1 c.Ports.length k1] c.Ports) : z6Q.ro w [.int .i64 c.Kind, .int .i64 c.Level, .int .i64 c.Value, .slice A0 c.Data.length k0, .slice A1 c.Ports.length k1] c :=
  ⟨_, _, rfl, rfl, ⟨_, _, rfl, rfl, ⟨_, _, rfl, rfl, ⟨_, _, rfl, h0, ⟨_, _, rfl, h1, rfl⟩⟩⟩⟩⟩
theorem zbs {w : World} {c : D.Agent} {A0 : Option Addr} {k0 : Nat} {A1 : Option Addr} {k1 : Nat} {G : List Nat} (h : (All [Own ty62 [.slice A0 c.Data.length k0] c.Data, Own z1U [.slice A1 c.Ports.length k1] c.Ports]).A w G) : z6Q.own w [.int .i64 c.Kind, .int .i64 c.Level, .int .i64 c.Value, .slice A0 c.Data.length k0, .slice A1 c.Ports.length k1] c G := by
  obtain ⟨G0, R0, rfl, h0, G1, R1, rfl, h1, hz⟩ := h
  have hz' : R1 = [] := hz
  subst hz'
  exact cast (congrArg _ (by simp)) (show z6Q.own w [.int .i64 c.Kind, .int .i64 c.Level, .int .i64 c.Value, .slice A0 c.Data.length k0, .slice A1 c.Ports.length k1] c (_) from ⟨_, _, _, _, rfl, rfl, ⟨rfl, rfl⟩, ⟨_, _, _, _, rfl, rfl, ⟨rfl, rfl⟩, ⟨_, _, _, _, rfl, rfl, ⟨rfl, rfl⟩, ⟨_, _, _, _, rfl, rfl, h0, ⟨_, _, _, _, rfl, rfl, h1, ⟨rfl, rfl⟩⟩⟩⟩⟩⟩)
theorem z8f {W w : World} {B : List Res} {c : D.Agent} {A0 : Option Addr} {k0 : Nat} {A1 : Option Addr} {k1 : Nat} (h : St W w ([Own ty62 [.slice A0 c.Data.length k0] c.Data, Own z1U [.slice A1 c.Ports.length k1] c.Ports] ++ B)) : St W w (Own z6Q [.int .i64 c.Kind, .int .i64 c.Level, .int .i64 c.Value, .slice A0 c.Data.length k0, .slice A1 c.Ports.length k1] c :: B) := (St.fuseAll h).conv fun _ hG => zbs hG

def ty55 : Ty (List D.Agent) := tSl 142 z6Q
instance {W : World} : Reads W ty55 := inferInstanceAs (Reads W (tSl 142 z6Q))
theorem zbX {w : World} {cs : List Value} {xs : (List D.Agent)} (h : ty55.ro w cs xs) : ∃ A c, cs = [.slice A xs.length c] := slForm h

def z6 : Ty (List (List Int)) := tSl 62 ty62
instance {W : World} : Reads W z6 := inferInstanceAs (Reads W (tSl 62 ty62))
theorem z6E {w : World} {cs : List Value} {xs : (List (List Int))} (h : z6.ro w cs xs) : ∃ A c, cs = [.slice A xs.length c] := slForm h

def zc1 : Ty D.l27Links := tMap (fun c => (c.agents, c.ports, c.cells, c.vars, c.ends, c.pairs, ())) (tPair ty55 (tPair z1U (tPair z6 (tPair z6 (tPair z6 (tPair z6 tUnit))))))
instance {W : World} : Reads W zc1 := inferInstanceAs (Reads W (tMap (fun c : D.l27Links => (c.agents, c.ports, c.cells, c.vars, c.ends, c.pairs, ())) (tPair ty55 (tPair z1U (tPair z6 (tPair z6 (tPair z6 (tPair z6 tUnit))))))))
theorem z9b {w : World} {cs : List Value} {c : D.l27Links} (h : zc1.ro w cs c) : ∃ A0 k0 A1 k1 A2 k2 A3 k3 A4 k4 A5 k5, cs = [.slice A0 c.agents.length k0, .slice A1 c.ports.length k1, .slice A2 c.cells.length k2, .slice A3 c.vars.length k3, .slice A4 c.ends.length k4, .slice A5 c.pairs.length k5] ∧ ty55.ro w [.slice A0 c.agents.length k0] c.agents ∧ z1U.ro w [.slice A1 c.ports.length k1] c.ports ∧ z6.ro w [.slice A2 c.cells.length k2] c.cells ∧ z6.ro w [.slice A3 c.vars.length k3] c.vars ∧ z6.ro w [.slice A4 c.ends.length k4] c.ends ∧ z6.ro w [.slice A5 c.pairs.length k5] c.pairs := by
  obtain ⟨c0, d0, rfl, h0, c1, d1, rfl, h1, c2, d2, rfl, h2, c3, d3, rfl, h3, c4, d4, rfl, h4, c5, d5, rfl, h5, hz⟩ := h
  subst hz
  obtain ⟨A0_, k0_, e0⟩ := zbX h0
  subst e0
  obtain ⟨A1_, k1_, e1⟩ := z9d h1
  subst e1
  obtain ⟨A2_, k2_, e2⟩ := z6E h2
  subst e2
  obtain ⟨A3_, k3_, e3⟩ := z6E h3
  subst e3
  obtain ⟨A4_, k4_, e4⟩ := z6E h4
  subst e4
  obtain ⟨A5_, k5_, e5⟩ := z6E h5
  subst e5
  exact ⟨A0_, k0_, A1_, k1_, A2_, k2_, A3_, k3_, A4_, k4_, A5_, k5_, rfl, h0, h1, h2, h3, h4, h5⟩
theorem z4e {w : World} (c : D.l27Links) {A0 : Option Addr} {k0 : Nat} {A1 : Option Addr} {k1 : Nat} {A2 : Option Addr} {k2 : Nat} {A3 : Option Addr} {k3 : Nat} {A4 : Option Addr} {k4 : Nat} {A5 : Option Addr} {k5 : Nat} (h0 : ty55.ro w [.slice A0 c.agents.length k0] c.agents) (h1 : z1U.ro w [.slice A1 c.ports.length k1] c.ports) (h2 : z6.ro w [.slice A2 c.cells.length k2] c.cells) (h3 : z6.ro w [.slice A3 c.vars.length k3] c.vars) (h4 : z6.ro w [.slice A4 c.ends.length k4] c.ends) (h5 : z6.ro w [.slice A5 c.pairs.length k5] c.pairs) : zc1.ro w [.slice A0 c.agents.length k0, .slice A1 c.ports.length k1, .slice A2 c.cells.length k2, .slice A3 c.vars.length k3, .slice A4 c.ends.length k4, .slice A5 c.pairs.length k5] c :=
  ⟨_, _, rfl, h0, ⟨_, _, rfl, h1, ⟨_, _, rfl, h2, ⟨_, _, rfl, h3, ⟨_, _, rfl, h4, ⟨_, _, rfl, h5, rfl⟩⟩⟩⟩⟩⟩
def z8d : Ty D.thing := tMap (fun c => (c.at_, c.slot, c.own, ())) (tPair ty31 (tPair tInt (tPair tBool tUnit)))
instance {W : World} : Reads W z8d := inferInstanceAs (Reads W (tMap (fun c : D.thing => (c.at_, c.slot, c.own, ())) (tPair ty31 (tPair tInt (tPair tBool tUnit)))))
theorem z7u {w : World} {cs : List Value} {c : D.thing} (h : z8d.ro w cs c) : cs = [.int .i64 c.at_.Machine, .int .i64 c.at_.Kind, .int .i64 c.at_.Index, .int .i64 c.slot, .bool c.own] := by
  obtain ⟨c0, d0, rfl, h0, c1, d1, rfl, h1, c2, d2, rfl, h2, hz⟩ := h
  subst hz
  have e0 := zU h0
  subst e0
  subst h1
  subst h2
  rfl
theorem z6C {w : World} {c : D.thing}  {G : List Nat} (h : (All []).A w G) : z8d.own w [.int .i64 c.at_.Machine, .int .i64 c.at_.Kind, .int .i64 c.at_.Index, .int .i64 c.slot, .bool c.own] c G := by
  have hz : G = [] := h
  subst hz
  exact cast (congrArg _ (by simp)) (show z8d.own w [.int .i64 c.at_.Machine, .int .i64 c.at_.Kind, .int .i64 c.at_.Index, .int .i64 c.slot, .bool c.own] c (_) from ⟨_, _, _, _, rfl, rfl, (z5Z (c := c.at_) rfl), ⟨_, _, _, _, rfl, rfl, ⟨rfl, rfl⟩, ⟨_, _, _, _, rfl, rfl, ⟨rfl, rfl⟩, ⟨rfl, rfl⟩⟩⟩⟩)
def z6X : Ty D.statement := tMap (fun c => (c.a, c.b, ())) (tPair z8d (tPair z8d tUnit))
instance {W : World} : Reads W z6X := inferInstanceAs (Reads W (tMap (fun c : D.statement => (c.a, c.b, ())) (tPair z8d (tPair z8d tUnit))))
theorem z98 {w : World} {cs : List Value} {c : D.statement} (h : z6X.ro w cs c) : cs = [.int .i64 c.a.at_.Machine, .int .i64 c.a.at_.Kind, .int .i64 c.a.at_.Index, .int .i64 c.a.slot, .bool c.a.own, .int .i64 c.b.at_.Machine, .int .i64 c.b.at_.Kind, .int .i64 c.b.at_.Index, .int .i64 c.b.slot, .bool c.b.own] := by
  obtain ⟨c0, d0, rfl, h0, c1, d1, rfl, h1, hz⟩ := h
  subst hz
  have e0 := z7u h0
  subst e0
  have e1 := z7u h1
  subst e1
  rfl
theorem z55 {w : World} {c : D.statement}  {G : List Nat} (h : (All []).A w G) : z6X.own w [.int .i64 c.a.at_.Machine, .int .i64 c.a.at_.Kind, .int .i64 c.a.at_.Index, .int .i64 c.a.slot, .bool c.a.own, .int .i64 c.b.at_.Machine, .int .i64 c.b.at_.Kind, .int .i64 c.b.at_.Index, .int .i64 c.b.slot, .bool c.b.own] c G := by
  have hz : G = [] := h
  subst hz
  exact cast (congrArg _ (by simp)) (show z6X.own w [.int .i64 c.a.at_.Machine, .int .i64 c.a.at_.Kind, .int .i64 c.a.at_.Index, .int .i64 c.a.slot, .bool c.a.own, .int .i64 c.b.at_.Machine, .int .i64 c.b.at_.Kind, .int .i64 c.b.at_.Index, .int .i64 c.b.slot, .bool c.b.own] c (_) from ⟨_, _, _, _, rfl, rfl, (z6C (c := c.a) rfl), ⟨_, _, _, _, rfl, rfl, (z6C (c := c.b) rfl), ⟨rfl, rfl⟩⟩⟩)
def z5J : Ty (List D.statement) := tSl 285 z6X
instance {W : World} : Reads W z5J := inferInstanceAs (Reads W (tSl 285 z6X))
def zdn : D.Address → Value := fun c => .agg ⟨[.int .i64 c.Machine, .int .i64 c.Kind, .int .i64 c.Index]⟩
theorem zeL : KeyOk Tryz.prog 31 zdn := KeyOk.struct ttok (cells := fun c : D.Address => [.int .i64 c.Machine, .int .i64 c.Kind, .int .i64 c.Index]) (b := fun x y => (((x.Machine : Int) == y.Machine) && (((x.Kind : Int) == y.Kind) && (((x.Index : Int) == y.Index) && true)))) rfl rfl (fun _ _ => rfl) (fun x y => by cases x; cases y; simp [zdF]) (fun _ => rfl) (fun {x y} h => by cases x; cases y; simpa using h)
def z6P : Ty (List (D.Address × Int)) := tMp zdn (Value.int .i64)
instance {W : World} : Reads W z6P := inferInstanceAs (Reads W (tMp zdn (Value.int .i64)))
theorem z6J : MapOk Tryz.prog 287 31 3 zdn (Value.int .i64) (0 : Int) := ⟨by kernel_rfl, by kernel_rfl, zeL⟩

def zbZ : Ty (List D.thing) := tSl 283 z8d
instance {W : World} : Reads W zbZ := inferInstanceAs (Reads W (tSl 283 z8d))
end Go.E

