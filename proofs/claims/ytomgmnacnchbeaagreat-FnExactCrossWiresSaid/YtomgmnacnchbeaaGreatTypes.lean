/- The types of the data, as tables and as plain Lean types (written by program). Conditions: none. -/
import Derived.Test.YtomgmnacnchbeaaGreatMaps
import Derived.Test.YtomgmnacnchbeaaGreatProg
import Derived.KernelRfl
namespace Go.E
open Go.RowKit Go.Proofs
set_option linter.unusedVariables false
set_option linter.unusedSimpArgs false

/-- The types that the code names. -/
def tt : TT := [
  ⟨2, .int .i64, 1, [.int .i64 0], 8⟩,
  ⟨3, .int .i64, 1, [.int .i64 0], 8⟩,
  ⟨4, .bool, 1, [.bool false], 1⟩,
  ⟨22, .slice 157, 1, [.slice none 0 0], 24⟩,
  ⟨24, .struct [(0, 1, false, 2), (1, 1, false, 2), (2, 1, false, 2)], 3, [.int .i64 0, .int .i64 0, .int .i64 0], 24⟩,
  ⟨26, .struct [(0, 1, false, 22), (1, 3, true, 24)], 4, [.slice none 0 0, .int .i64 0, .int .i64 0, .int .i64 0], 48⟩,
  ⟨30, .slice 86, 1, [.slice none 0 0], 24⟩,
  ⟨31, .struct [(0, 1, false, 2), (1, 1, false, 2), (2, 1, false, 2)], 3, [.int .i64 0, .int .i64 0, .int .i64 0], 24⟩,
  ⟨33, .struct [(0, 1, false, 30), (1, 3, true, 31)], 4, [.slice none 0 0, .int .i64 0, .int .i64 0, .int .i64 0], 48⟩,
  ⟨37, .slice 168, 1, [.slice none 0 0], 24⟩,
  ⟨39, .struct [(0, 1, false, 2), (1, 1, false, 2)], 2, [.int .i64 0, .int .i64 0], 16⟩,
  ⟨40, .slice 176, 1, [.slice none 0 0], 24⟩,
  ⟨42, .struct [(0, 1, false, 37), (1, 1, false, 2), (2, 2, true, 39), (4, 1, false, 40)], 5, [.slice none 0 0, .int .i64 0, .int .i64 0, .int .i64 0, .slice none 0 0], 72⟩,
  ⟨44, .slice 113, 1, [.slice none 0 0], 24⟩,
  ⟨45, .struct [(0, 1, false, 2), (1, 1, false, 2)], 2, [.int .i64 0, .int .i64 0], 16⟩,
  ⟨46, .slice 117, 1, [.slice none 0 0], 24⟩,
  ⟨48, .struct [(0, 1, false, 44), (1, 1, false, 2), (2, 2, true, 45), (4, 1, false, 46)], 5, [.slice none 0 0, .int .i64 0, .int .i64 0, .int .i64 0, .slice none 0 0], 72⟩,
  ⟨55, .slice 142, 1, [.slice none 0 0], 24⟩,
  ⟨57, .struct [(0, 1, false, 55)], 1, [.slice none 0 0], 24⟩,
  ⟨62, .slice 2, 1, [.slice none 0 0], 24⟩,
  ⟨68, .slice 202, 1, [.slice none 0 0], 24⟩,
  ⟨70, .struct [(0, 1, false, 68)], 1, [.slice none 0 0], 24⟩,
  ⟨79, .ptr 33, 1, [.pointer none], 8⟩,
  ⟨81, .ptr 86, 1, [.pointer none], 8⟩,
  ⟨82, .slice 89, 1, [.slice none 0 0], 24⟩,
  ⟨83, .slice 93, 1, [.slice none 0 0], 24⟩,
  ⟨84, .slice 91, 1, [.slice none 0 0], 24⟩,
  ⟨86, .struct [(0, 1, false, 82), (1, 1, false, 83), (2, 1, false, 84)], 3, [.slice none 0 0, .slice none 0 0, .slice none 0 0], 72⟩,
  ⟨87, .slice 31, 1, [.slice none 0 0], 24⟩,
  ⟨89, .struct [(0, 1, false, 2), (1, 1, false, 2), (2, 1, false, 2), (3, 1, false, 62), (4, 1, false, 87)], 5, [.int .i64 0, .int .i64 0, .int .i64 0, .slice none 0 0, .slice none 0 0], 72⟩,
  ⟨91, .struct [(0, 3, true, 31), (3, 3, true, 31)], 6, [.int .i64 0, .int .i64 0, .int .i64 0, .int .i64 0, .int .i64 0, .int .i64 0], 48⟩,
  ⟨93, .struct [(0, 1, false, 4), (1, 1, false, 4), (2, 3, true, 31)], 5, [.bool false, .bool false, .int .i64 0, .int .i64 0, .int .i64 0], 32⟩,
  ⟨102, .ptr 48, 1, [.pointer none], 8⟩,
  ⟨109, .other, 1, [.map none], 8⟩,
  ⟨111, .slice 45, 1, [.slice none 0 0], 24⟩,
  ⟨113, .struct [(0, 1, false, 2), (1, 1, false, 2), (2, 1, false, 2), (3, 1, false, 62), (4, 1, false, 111)], 5, [.int .i64 0, .int .i64 0, .int .i64 0, .slice none 0 0, .slice none 0 0], 72⟩,
  ⟨117, .struct [(0, 1, false, 2), (1, 1, false, 2)], 2, [.int .i64 0, .int .i64 0], 16⟩,
  ⟨131, .ptr 57, 1, [.pointer none], 8⟩,
  ⟨137, .ptr 139, 1, [.pointer none], 8⟩,
  ⟨139, .struct [(0, 1, false, 131), (1, 1, false, 62), (2, 4, true, 33), (6, 1, false, 87)], 7, [.pointer none, .slice none 0 0, .slice none 0 0, .int .i64 0, .int .i64 0, .int .i64 0, .slice none 0 0], 104⟩,
  ⟨140, .slice 146, 1, [.slice none 0 0], 24⟩,
  ⟨142, .struct [(0, 1, false, 2), (1, 1, false, 2), (2, 1, false, 2), (3, 1, false, 62), (4, 1, false, 140)], 5, [.int .i64 0, .int .i64 0, .int .i64 0, .slice none 0 0, .slice none 0 0], 72⟩,
  ⟨146, .struct [(0, 1, false, 2), (1, 1, false, 2)], 2, [.int .i64 0, .int .i64 0], 16⟩,
  ⟨153, .slice 273, 1, [.slice none 0 0], 24⟩,
  ⟨154, .slice 278, 1, [.slice none 0 0], 24⟩,
  ⟨155, .slice 281, 1, [.slice none 0 0], 24⟩,
  ⟨157, .struct [(0, 1, false, 153), (1, 1, false, 154), (2, 1, false, 155)], 3, [.slice none 0 0, .slice none 0 0, .slice none 0 0], 72⟩,
  ⟨158, .ptr 227, 1, [.pointer none], 8⟩,
  ⟨166, .slice 39, 1, [.slice none 0 0], 24⟩,
  ⟨168, .struct [(0, 1, false, 2), (1, 1, false, 2), (2, 1, false, 2), (3, 1, false, 62), (4, 1, false, 166)], 5, [.int .i64 0, .int .i64 0, .int .i64 0, .slice none 0 0, .slice none 0 0], 72⟩,
  ⟨171, .ptr 113, 1, [.pointer none], 8⟩,
  ⟨176, .struct [(0, 1, false, 2), (1, 1, false, 2)], 2, [.int .i64 0, .int .i64 0], 16⟩,
  ⟨189, .other, 1, [.map none], 8⟩,
  ⟨200, .slice 301, 1, [.slice none 0 0], 24⟩,
  ⟨202, .struct [(0, 1, false, 2), (1, 1, false, 2), (2, 1, false, 2), (3, 1, false, 62), (4, 1, false, 200)], 5, [.int .i64 0, .int .i64 0, .int .i64 0, .slice none 0 0, .slice none 0 0], 72⟩,
  ⟨204, .ptr 142, 1, [.pointer none], 8⟩,
  ⟨206, .slice 209, 1, [.slice none 0 0], 24⟩,
  ⟨209, .struct [(0, 2, true, 146), (2, 2, true, 146)], 4, [.int .i64 0, .int .i64 0, .int .i64 0, .int .i64 0], 32⟩,
  ⟨224, .ptr 89, 1, [.pointer none], 8⟩,
  ⟨225, .slice 62, 1, [.slice none 0 0], 24⟩,
  ⟨227, .struct [(0, 1, false, 55), (1, 1, false, 140), (2, 1, false, 225), (3, 1, false, 225), (4, 1, false, 225), (5, 1, false, 225)], 6, [.slice none 0 0, .slice none 0 0, .slice none 0 0, .slice none 0 0, .slice none 0 0, .slice none 0 0], 144⟩,
  ⟨237, .slice 285, 1, [.slice none 0 0], 24⟩,
  ⟨271, .slice 24, 1, [.slice none 0 0], 24⟩,
  ⟨273, .struct [(0, 1, false, 2), (1, 1, false, 2), (2, 1, false, 2), (3, 1, false, 62), (4, 1, false, 271)], 5, [.int .i64 0, .int .i64 0, .int .i64 0, .slice none 0 0, .slice none 0 0], 72⟩,
  ⟨278, .struct [(0, 1, false, 4), (1, 1, false, 4), (2, 3, true, 24)], 5, [.bool false, .bool false, .int .i64 0, .int .i64 0, .int .i64 0], 32⟩,
  ⟨281, .struct [(0, 3, true, 24), (3, 3, true, 24)], 6, [.int .i64 0, .int .i64 0, .int .i64 0, .int .i64 0, .int .i64 0, .int .i64 0], 48⟩,
  ⟨283, .struct [(0, 3, true, 31), (3, 1, false, 2), (4, 1, false, 4)], 5, [.int .i64 0, .int .i64 0, .int .i64 0, .int .i64 0, .bool false], 40⟩,
  ⟨285, .struct [(0, 5, true, 283), (5, 5, true, 283)], 10, [.int .i64 0, .int .i64 0, .int .i64 0, .int .i64 0, .bool false, .int .i64 0, .int .i64 0, .int .i64 0, .int .i64 0, .bool false], 80⟩,
  ⟨287, .other, 1, [.map none], 8⟩,
  ⟨297, .slice 3, 1, [.slice none 0 0], 24⟩,
  ⟨301, .struct [(0, 1, false, 2), (1, 1, false, 2)], 2, [.int .i64 0, .int .i64 0], 16⟩,
  ⟨307, .slice 283, 1, [.slice none 0 0], 24⟩]

def zerosOk (P : Program) : TT → Prop
  | [] => True
  | i :: r => (P.info? i.id).map (fun j => j.zero.map (fun v => v.cells.toList)) = some (some i.zero) ∧ zerosOk P r

theorem zerosOk_mem {P : Program} : ∀ {T : TT}, zerosOk P T → ∀ i, i ∈ T → (P.info? i.id).map (fun j => j.zero.map (fun v => v.cells.toList)) = some (some i.zero)
  | [], _, i, h => by cases h
  | _ :: _, ⟨h1, h2⟩, i, h => by
    rcases List.mem_cons.1 h with rfl | h
    · exact h1
    · exact zerosOk_mem h2 i h

theorem tt_all : tt.all (infoOk Tryz.prog) = true := by kernel_rfl
theorem tt_zeros : zerosOk Tryz.prog tt := ⟨by kernel_rfl, by kernel_rfl, by kernel_rfl, by kernel_rfl, by kernel_rfl, by kernel_rfl, by kernel_rfl, by kernel_rfl, by kernel_rfl, by kernel_rfl, by kernel_rfl, by kernel_rfl, by kernel_rfl, by kernel_rfl, by kernel_rfl, by kernel_rfl, by kernel_rfl, by kernel_rfl, by kernel_rfl, by kernel_rfl, by kernel_rfl, by kernel_rfl, by kernel_rfl, by kernel_rfl, by kernel_rfl, by kernel_rfl, by kernel_rfl, by kernel_rfl, by kernel_rfl, by kernel_rfl, by kernel_rfl, by kernel_rfl, by kernel_rfl, by kernel_rfl, by kernel_rfl, by kernel_rfl, by kernel_rfl, by kernel_rfl, by kernel_rfl, by kernel_rfl, by kernel_rfl, by kernel_rfl, by kernel_rfl, by kernel_rfl, by kernel_rfl, by kernel_rfl, by kernel_rfl, by kernel_rfl, by kernel_rfl, by kernel_rfl, by kernel_rfl, by kernel_rfl, by kernel_rfl, by kernel_rfl, by kernel_rfl, by kernel_rfl, by kernel_rfl, by kernel_rfl, by kernel_rfl, by kernel_rfl, by kernel_rfl, by kernel_rfl, by kernel_rfl, by kernel_rfl, by kernel_rfl, by kernel_rfl, by kernel_rfl, by kernel_rfl, by kernel_rfl, by kernel_rfl, by kernel_rfl, by kernel_rfl, trivial⟩
theorem ttok : TTok Tryz.prog tt := ⟨List.all_eq_true.1 tt_all, zerosOk_mem tt_zeros⟩
theorem mixed : Tryz.prog.follows .mixedOrders = true := by kernel_rfl

structure D.Address where
  Machine : Int
  Kind : Int
  Index : Int
deriving Inhabited, DecidableEq

structure D.ShardCell where
  Kind : Int
  Level : Int
  Value : Int
  Data : (List Int)
  Aux : (List D.Address)
deriving Inhabited, DecidableEq

structure D.ShardVar where
  Used : Bool
  Full : Bool
  Held : D.Address
deriving Inhabited, DecidableEq

structure D.ShardRedex where
  A : D.Address
  B : D.Address
deriving Inhabited, DecidableEq

structure D.Shard where
  Cells : (List D.ShardCell)
  Vars : (List D.ShardVar)
  Redexes : (List D.ShardRedex)
deriving Inhabited, DecidableEq

structure D.Grid where
  Shards : (List D.Shard)
  Root : D.Address
deriving Inhabited, DecidableEq

structure D.Word where
  Tag : Int
  At : Int
deriving Inhabited, DecidableEq

structure D.Cell where
  Kind : Int
  Level : Int
  Value : Int
  Data : (List Int)
  Words : (List D.Word)
deriving Inhabited, DecidableEq

structure D.Pair where
  A : Int
  B : Int
deriving Inhabited, DecidableEq

structure D.Memory where
  Cells : (List D.Cell)
  Free : Int
  Root : D.Word
  Redexes : (List D.Pair)
deriving Inhabited, DecidableEq

structure D.Port where
  Agent : Int
  Slot : Int
deriving Inhabited, DecidableEq

structure D.Agent where
  Kind : Int
  Level : Int
  Value : Int
  Data : (List Int)
  Ports : (List D.Port)
deriving Inhabited, DecidableEq

structure D.Net where
  Agents : (List D.Agent)
deriving Inhabited, DecidableEq

structure D.splitter where
  n : D.Net
  owners : (List Int)
  grid : D.Grid
  at_ : (List D.Address)
deriving Inhabited, DecidableEq

structure D.Wire where
  A : D.Port
  B : D.Port
deriving Inhabited, DecidableEq

structure D.l27Links where
  agents : (List D.Agent)
  ports : (List D.Port)
  cells : (List (List Int))
  vars : (List (List Int))
  ends : (List (List Int))
  pairs : (List (List Int))
deriving Inhabited, DecidableEq

structure D.thing where
  at_ : D.Address
  slot : Int
  own : Bool
deriving Inhabited, DecidableEq

structure D.statement where
  a : D.thing
  b : D.thing
deriving Inhabited, DecidableEq

def ty62 : Ty (List Int) := tSl 2 tInt
instance {W : World} : Reads W ty62 := inferInstanceAs (Reads W (tSl 2 tInt))
theorem ty62_form {w : World} {cs : List Value} {xs : (List Int)} (h : ty62.ro w cs xs) : ∃ A c, cs = [.slice A xs.length c] := slForm h

def ty24 : Ty D.Address := tMap (fun c => (c.Machine, c.Kind, c.Index, ())) (tPair tInt (tPair tInt (tPair tInt tUnit)))
instance {W : World} : Reads W ty24 := inferInstanceAs (Reads W (tMap (fun c : D.Address => (c.Machine, c.Kind, c.Index, ())) (tPair tInt (tPair tInt (tPair tInt tUnit)))))
theorem ty24_open {w : World} {cs : List Value} {c : D.Address} (h : ty24.ro w cs c) : cs = [.int .i64 c.Machine, .int .i64 c.Kind, .int .i64 c.Index] := by
  obtain ⟨c0, d0, rfl, h0, c1, d1, rfl, h1, c2, d2, rfl, h2, hz⟩ := h
  subst hz
  subst h0
  subst h1
  subst h2
  rfl
theorem ty24_shut {w : World} (c : D.Address)   : ty24.ro w [.int .i64 c.Machine, .int .i64 c.Kind, .int .i64 c.Index] c :=
  ⟨_, _, rfl, rfl, ⟨_, _, rfl, rfl, ⟨_, _, rfl, rfl, rfl⟩⟩⟩
theorem ty24_own {w : World} {cs : List Value} {c : D.Address} {G : List Nat} (h : ty24.own w cs c G) : cs = [.int .i64 c.Machine, .int .i64 c.Kind, .int .i64 c.Index] ∧ (All []).A w G := by
  obtain ⟨c0, d0, H0, K0, rfl, rfl, h0, c1, d1, H1, K1, rfl, rfl, h1, c2, d2, H2, K2, rfl, rfl, h2, hz, hk⟩ := h
  subst hz; subst hk
  obtain ⟨e0, k0⟩ := h0; subst e0; subst k0
  obtain ⟨e1, k1⟩ := h1; subst e1; subst k1
  obtain ⟨e2, k2⟩ := h2; subst e2; subst k2
  refine ⟨rfl, ?_⟩
  show (All _).A w _
  exact cast (congrArg _ (by simp)) (show (All _).A w ([]) from rfl)
theorem ty24_ownI {w : World} {c : D.Address}  {G : List Nat} (h : (All []).A w G) : ty24.own w [.int .i64 c.Machine, .int .i64 c.Kind, .int .i64 c.Index] c G := by
  have hz : G = [] := h
  subst hz
  exact cast (congrArg _ (by simp)) (show ty24.own w [.int .i64 c.Machine, .int .i64 c.Kind, .int .i64 c.Index] c (_) from ⟨_, _, _, _, rfl, rfl, ⟨rfl, rfl⟩, ⟨_, _, _, _, rfl, rfl, ⟨rfl, rfl⟩, ⟨_, _, _, _, rfl, rfl, ⟨rfl, rfl⟩, ⟨rfl, rfl⟩⟩⟩⟩)
theorem ty24_openS {W w : World} {B : List Res} {cs : List Value} {c : D.Address} (h : St W w (Own ty24 cs c :: B)) : cs = [.int .i64 c.Machine, .int .i64 c.Kind, .int .i64 c.Index] ∧ St W w ([] ++ B) := by
  obtain ⟨G, hA, _⟩ := h.sep.head
  obtain ⟨rfl, _⟩ := ty24_own hA
  refine ⟨rfl, St.splitAll (h.conv fun G hG => ?_)⟩
  exact (ty24_own hG).2
theorem ty24_shutS {W w : World} {B : List Res} {c : D.Address}  (h : St W w ([] ++ B)) : St W w (Own ty24 [.int .i64 c.Machine, .int .i64 c.Kind, .int .i64 c.Index] c :: B) := (St.fuseAll h).conv fun _ hG => ty24_ownI hG

def ty271 : Ty (List D.Address) := tSl 24 ty24
instance {W : World} : Reads W ty271 := inferInstanceAs (Reads W (tSl 24 ty24))
theorem ty271_form {w : World} {cs : List Value} {xs : (List D.Address)} (h : ty271.ro w cs xs) : ∃ A c, cs = [.slice A xs.length c] := slForm h

def ty273 : Ty D.ShardCell := tMap (fun c => (c.Kind, c.Level, c.Value, c.Data, c.Aux, ())) (tPair tInt (tPair tInt (tPair tInt (tPair ty62 (tPair ty271 tUnit)))))
instance {W : World} : Reads W ty273 := inferInstanceAs (Reads W (tMap (fun c : D.ShardCell => (c.Kind, c.Level, c.Value, c.Data, c.Aux, ())) (tPair tInt (tPair tInt (tPair tInt (tPair ty62 (tPair ty271 tUnit)))))))
theorem ty273_open {w : World} {cs : List Value} {c : D.ShardCell} (h : ty273.ro w cs c) : ∃ A0 k0 A1 k1, cs = [.int .i64 c.Kind, .int .i64 c.Level, .int .i64 c.Value, .slice A0 c.Data.length k0, .slice A1 c.Aux.length k1] ∧ ty62.ro w [.slice A0 c.Data.length k0] c.Data ∧ ty271.ro w [.slice A1 c.Aux.length k1] c.Aux := by
  obtain ⟨c0, d0, rfl, h0, c1, d1, rfl, h1, c2, d2, rfl, h2, c3, d3, rfl, h3, c4, d4, rfl, h4, hz⟩ := h
  subst hz
  subst h0
  subst h1
  subst h2
  obtain ⟨A3_, k3_, e3⟩ := ty62_form h3
  subst e3
  obtain ⟨A4_, k4_, e4⟩ := ty271_form h4
  subst e4
  exact ⟨A3_, k3_, A4_, k4_, rfl, h3, h4⟩
theorem ty273_shut {w : World} (c : D.ShardCell) {A0 : Option Addr} {k0 : Nat} {A1 : Option Addr} {k1 : Nat} (h0 : ty62.ro w [.slice A0 c.Data.length k0] c.Data) (h1 : ty271.ro w [.slice A1 c.Aux.length k1] c.Aux) : ty273.ro w [.int .i64 c.Kind, .int .i64 c.Level, .int .i64 c.Value, .slice A0 c.Data.length k0, .slice A1 c.Aux.length k1] c :=
  ⟨_, _, rfl, rfl, ⟨_, _, rfl, rfl, ⟨_, _, rfl, rfl, ⟨_, _, rfl, h0, ⟨_, _, rfl, h1, rfl⟩⟩⟩⟩⟩
theorem ty273_own {w : World} {cs : List Value} {c : D.ShardCell} {G : List Nat} (h : ty273.own w cs c G) : ∃ A0 k0 A1 k1, cs = [.int .i64 c.Kind, .int .i64 c.Level, .int .i64 c.Value, .slice A0 c.Data.length k0, .slice A1 c.Aux.length k1] ∧ (All [Own ty62 [.slice A0 c.Data.length k0] c.Data, Own ty271 [.slice A1 c.Aux.length k1] c.Aux]).A w G := by
  obtain ⟨c0, d0, H0, K0, rfl, rfl, h0, c1, d1, H1, K1, rfl, rfl, h1, c2, d2, H2, K2, rfl, rfl, h2, c3, d3, H3, K3, rfl, rfl, h3, c4, d4, H4, K4, rfl, rfl, h4, hz, hk⟩ := h
  subst hz; subst hk
  obtain ⟨e0, k0⟩ := h0; subst e0; subst k0
  obtain ⟨e1, k1⟩ := h1; subst e1; subst k1
  obtain ⟨e2, k2⟩ := h2; subst e2; subst k2
  obtain ⟨A3_, k3_, e3⟩ := slFormO h3
  subst e3
  obtain ⟨A4_, k4_, e4⟩ := slFormO h4
  subst e4
  refine ⟨A3_, k3_, A4_, k4_, rfl, ?_⟩
  show (All _).A w _
  exact cast (congrArg _ (by simp)) (show (All _).A w (H3 ++ (H4 ++ ([]))) from ⟨_, _, rfl, h3, ⟨_, _, rfl, h4, rfl⟩⟩)
theorem ty273_ownI {w : World} {c : D.ShardCell} {A0 : Option Addr} {k0 : Nat} {A1 : Option Addr} {k1 : Nat} {G : List Nat} (h : (All [Own ty62 [.slice A0 c.Data.length k0] c.Data, Own ty271 [.slice A1 c.Aux.length k1] c.Aux]).A w G) : ty273.own w [.int .i64 c.Kind, .int .i64 c.Level, .int .i64 c.Value, .slice A0 c.Data.length k0, .slice A1 c.Aux.length k1] c G := by
  obtain ⟨G0, R0, rfl, h0, G1, R1, rfl, h1, hz⟩ := h
  have hz' : R1 = [] := hz
  subst hz'
  exact cast (congrArg _ (by simp)) (show ty273.own w [.int .i64 c.Kind, .int .i64 c.Level, .int .i64 c.Value, .slice A0 c.Data.length k0, .slice A1 c.Aux.length k1] c (_) from ⟨_, _, _, _, rfl, rfl, ⟨rfl, rfl⟩, ⟨_, _, _, _, rfl, rfl, ⟨rfl, rfl⟩, ⟨_, _, _, _, rfl, rfl, ⟨rfl, rfl⟩, ⟨_, _, _, _, rfl, rfl, h0, ⟨_, _, _, _, rfl, rfl, h1, ⟨rfl, rfl⟩⟩⟩⟩⟩⟩)
theorem ty273_openS {W w : World} {B : List Res} {cs : List Value} {c : D.ShardCell} (h : St W w (Own ty273 cs c :: B)) : ∃ A0 k0 A1 k1, cs = [.int .i64 c.Kind, .int .i64 c.Level, .int .i64 c.Value, .slice A0 c.Data.length k0, .slice A1 c.Aux.length k1] ∧ St W w ([Own ty62 [.slice A0 c.Data.length k0] c.Data, Own ty271 [.slice A1 c.Aux.length k1] c.Aux] ++ B) := by
  obtain ⟨G, hA, _⟩ := h.sep.head
  obtain ⟨A0, k0, A1, k1, rfl, _⟩ := ty273_own hA
  refine ⟨A0, k0, A1, k1, rfl, St.splitAll (h.conv fun G hG => ?_)⟩
  obtain ⟨X0, Y0, X1, Y1, he, hh⟩ := ty273_own hG
  simp only [List.cons.injEq, Value.slice.injEq, and_true, true_and] at he
  obtain ⟨⟨rfl, rfl⟩, ⟨rfl, rfl⟩⟩ := he
  exact hh
theorem ty273_shutS {W w : World} {B : List Res} {c : D.ShardCell} {A0 : Option Addr} {k0 : Nat} {A1 : Option Addr} {k1 : Nat} (h : St W w ([Own ty62 [.slice A0 c.Data.length k0] c.Data, Own ty271 [.slice A1 c.Aux.length k1] c.Aux] ++ B)) : St W w (Own ty273 [.int .i64 c.Kind, .int .i64 c.Level, .int .i64 c.Value, .slice A0 c.Data.length k0, .slice A1 c.Aux.length k1] c :: B) := (St.fuseAll h).conv fun _ hG => ty273_ownI hG

def ty153 : Ty (List D.ShardCell) := tSl 273 ty273
instance {W : World} : Reads W ty153 := inferInstanceAs (Reads W (tSl 273 ty273))
theorem ty153_form {w : World} {cs : List Value} {xs : (List D.ShardCell)} (h : ty153.ro w cs xs) : ∃ A c, cs = [.slice A xs.length c] := slForm h

def ty278 : Ty D.ShardVar := tMap (fun c => (c.Used, c.Full, c.Held, ())) (tPair tBool (tPair tBool (tPair ty24 tUnit)))
instance {W : World} : Reads W ty278 := inferInstanceAs (Reads W (tMap (fun c : D.ShardVar => (c.Used, c.Full, c.Held, ())) (tPair tBool (tPair tBool (tPair ty24 tUnit)))))
theorem ty278_open {w : World} {cs : List Value} {c : D.ShardVar} (h : ty278.ro w cs c) : cs = [.bool c.Used, .bool c.Full, .int .i64 c.Held.Machine, .int .i64 c.Held.Kind, .int .i64 c.Held.Index] := by
  obtain ⟨c0, d0, rfl, h0, c1, d1, rfl, h1, c2, d2, rfl, h2, hz⟩ := h
  subst hz
  subst h0
  subst h1
  have e2 := ty24_open h2
  subst e2
  rfl
theorem ty278_shut {w : World} (c : D.ShardVar)   : ty278.ro w [.bool c.Used, .bool c.Full, .int .i64 c.Held.Machine, .int .i64 c.Held.Kind, .int .i64 c.Held.Index] c :=
  ⟨_, _, rfl, rfl, ⟨_, _, rfl, rfl, ⟨_, _, rfl, (ty24_shut c.Held ), rfl⟩⟩⟩
theorem ty278_own {w : World} {cs : List Value} {c : D.ShardVar} {G : List Nat} (h : ty278.own w cs c G) : cs = [.bool c.Used, .bool c.Full, .int .i64 c.Held.Machine, .int .i64 c.Held.Kind, .int .i64 c.Held.Index] ∧ (All []).A w G := by
  obtain ⟨c0, d0, H0, K0, rfl, rfl, h0, c1, d1, H1, K1, rfl, rfl, h1, c2, d2, H2, K2, rfl, rfl, h2, hz, hk⟩ := h
  subst hz; subst hk
  obtain ⟨e0, k0⟩ := h0; subst e0; subst k0
  obtain ⟨e1, k1⟩ := h1; subst e1; subst k1
  obtain ⟨e2, g2⟩ := ty24_own h2
  subst e2
  refine ⟨rfl, ?_⟩
  exact cast (congrArg _ (by simp)) g2
theorem ty278_ownI {w : World} {c : D.ShardVar}  {G : List Nat} (h : (All []).A w G) : ty278.own w [.bool c.Used, .bool c.Full, .int .i64 c.Held.Machine, .int .i64 c.Held.Kind, .int .i64 c.Held.Index] c G := by
  have hz : G = [] := h
  subst hz
  exact cast (congrArg _ (by simp)) (show ty278.own w [.bool c.Used, .bool c.Full, .int .i64 c.Held.Machine, .int .i64 c.Held.Kind, .int .i64 c.Held.Index] c (_) from ⟨_, _, _, _, rfl, rfl, ⟨rfl, rfl⟩, ⟨_, _, _, _, rfl, rfl, ⟨rfl, rfl⟩, ⟨_, _, _, _, rfl, rfl, (ty24_ownI (c := c.Held) rfl), ⟨rfl, rfl⟩⟩⟩⟩)
theorem ty278_openS {W w : World} {B : List Res} {cs : List Value} {c : D.ShardVar} (h : St W w (Own ty278 cs c :: B)) : cs = [.bool c.Used, .bool c.Full, .int .i64 c.Held.Machine, .int .i64 c.Held.Kind, .int .i64 c.Held.Index] ∧ St W w ([] ++ B) := by
  obtain ⟨G, hA, _⟩ := h.sep.head
  obtain ⟨rfl, _⟩ := ty278_own hA
  refine ⟨rfl, St.splitAll (h.conv fun G hG => ?_)⟩
  exact (ty278_own hG).2
theorem ty278_shutS {W w : World} {B : List Res} {c : D.ShardVar}  (h : St W w ([] ++ B)) : St W w (Own ty278 [.bool c.Used, .bool c.Full, .int .i64 c.Held.Machine, .int .i64 c.Held.Kind, .int .i64 c.Held.Index] c :: B) := (St.fuseAll h).conv fun _ hG => ty278_ownI hG

def ty154 : Ty (List D.ShardVar) := tSl 278 ty278
instance {W : World} : Reads W ty154 := inferInstanceAs (Reads W (tSl 278 ty278))
theorem ty154_form {w : World} {cs : List Value} {xs : (List D.ShardVar)} (h : ty154.ro w cs xs) : ∃ A c, cs = [.slice A xs.length c] := slForm h

def ty281 : Ty D.ShardRedex := tMap (fun c => (c.A, c.B, ())) (tPair ty24 (tPair ty24 tUnit))
instance {W : World} : Reads W ty281 := inferInstanceAs (Reads W (tMap (fun c : D.ShardRedex => (c.A, c.B, ())) (tPair ty24 (tPair ty24 tUnit))))
theorem ty281_open {w : World} {cs : List Value} {c : D.ShardRedex} (h : ty281.ro w cs c) : cs = [.int .i64 c.A.Machine, .int .i64 c.A.Kind, .int .i64 c.A.Index, .int .i64 c.B.Machine, .int .i64 c.B.Kind, .int .i64 c.B.Index] := by
  obtain ⟨c0, d0, rfl, h0, c1, d1, rfl, h1, hz⟩ := h
  subst hz
  have e0 := ty24_open h0
  subst e0
  have e1 := ty24_open h1
  subst e1
  rfl
theorem ty281_shut {w : World} (c : D.ShardRedex)   : ty281.ro w [.int .i64 c.A.Machine, .int .i64 c.A.Kind, .int .i64 c.A.Index, .int .i64 c.B.Machine, .int .i64 c.B.Kind, .int .i64 c.B.Index] c :=
  ⟨_, _, rfl, (ty24_shut c.A ), ⟨_, _, rfl, (ty24_shut c.B ), rfl⟩⟩
theorem ty281_own {w : World} {cs : List Value} {c : D.ShardRedex} {G : List Nat} (h : ty281.own w cs c G) : cs = [.int .i64 c.A.Machine, .int .i64 c.A.Kind, .int .i64 c.A.Index, .int .i64 c.B.Machine, .int .i64 c.B.Kind, .int .i64 c.B.Index] ∧ (All []).A w G := by
  obtain ⟨c0, d0, H0, K0, rfl, rfl, h0, c1, d1, H1, K1, rfl, rfl, h1, hz, hk⟩ := h
  subst hz; subst hk
  obtain ⟨e0, g0⟩ := ty24_own h0
  subst e0
  obtain ⟨e1, g1⟩ := ty24_own h1
  subst e1
  refine ⟨rfl, ?_⟩
  exact cast (congrArg _ (by simp)) (allApp g0 g1)
theorem ty281_ownI {w : World} {c : D.ShardRedex}  {G : List Nat} (h : (All []).A w G) : ty281.own w [.int .i64 c.A.Machine, .int .i64 c.A.Kind, .int .i64 c.A.Index, .int .i64 c.B.Machine, .int .i64 c.B.Kind, .int .i64 c.B.Index] c G := by
  have hz : G = [] := h
  subst hz
  exact cast (congrArg _ (by simp)) (show ty281.own w [.int .i64 c.A.Machine, .int .i64 c.A.Kind, .int .i64 c.A.Index, .int .i64 c.B.Machine, .int .i64 c.B.Kind, .int .i64 c.B.Index] c (_) from ⟨_, _, _, _, rfl, rfl, (ty24_ownI (c := c.A) rfl), ⟨_, _, _, _, rfl, rfl, (ty24_ownI (c := c.B) rfl), ⟨rfl, rfl⟩⟩⟩)
theorem ty281_openS {W w : World} {B : List Res} {cs : List Value} {c : D.ShardRedex} (h : St W w (Own ty281 cs c :: B)) : cs = [.int .i64 c.A.Machine, .int .i64 c.A.Kind, .int .i64 c.A.Index, .int .i64 c.B.Machine, .int .i64 c.B.Kind, .int .i64 c.B.Index] ∧ St W w ([] ++ B) := by
  obtain ⟨G, hA, _⟩ := h.sep.head
  obtain ⟨rfl, _⟩ := ty281_own hA
  refine ⟨rfl, St.splitAll (h.conv fun G hG => ?_)⟩
  exact (ty281_own hG).2
theorem ty281_shutS {W w : World} {B : List Res} {c : D.ShardRedex}  (h : St W w ([] ++ B)) : St W w (Own ty281 [.int .i64 c.A.Machine, .int .i64 c.A.Kind, .int .i64 c.A.Index, .int .i64 c.B.Machine, .int .i64 c.B.Kind, .int .i64 c.B.Index] c :: B) := (St.fuseAll h).conv fun _ hG => ty281_ownI hG

def ty155 : Ty (List D.ShardRedex) := tSl 281 ty281
instance {W : World} : Reads W ty155 := inferInstanceAs (Reads W (tSl 281 ty281))
theorem ty155_form {w : World} {cs : List Value} {xs : (List D.ShardRedex)} (h : ty155.ro w cs xs) : ∃ A c, cs = [.slice A xs.length c] := slForm h

def ty157 : Ty D.Shard := tMap (fun c => (c.Cells, c.Vars, c.Redexes, ())) (tPair ty153 (tPair ty154 (tPair ty155 tUnit)))
instance {W : World} : Reads W ty157 := inferInstanceAs (Reads W (tMap (fun c : D.Shard => (c.Cells, c.Vars, c.Redexes, ())) (tPair ty153 (tPair ty154 (tPair ty155 tUnit)))))
theorem ty157_open {w : World} {cs : List Value} {c : D.Shard} (h : ty157.ro w cs c) : ∃ A0 k0 A1 k1 A2 k2, cs = [.slice A0 c.Cells.length k0, .slice A1 c.Vars.length k1, .slice A2 c.Redexes.length k2] ∧ ty153.ro w [.slice A0 c.Cells.length k0] c.Cells ∧ ty154.ro w [.slice A1 c.Vars.length k1] c.Vars ∧ ty155.ro w [.slice A2 c.Redexes.length k2] c.Redexes := by
  obtain ⟨c0, d0, rfl, h0, c1, d1, rfl, h1, c2, d2, rfl, h2, hz⟩ := h
  subst hz
  obtain ⟨A0_, k0_, e0⟩ := ty153_form h0
  subst e0
  obtain ⟨A1_, k1_, e1⟩ := ty154_form h1
  subst e1
  obtain ⟨A2_, k2_, e2⟩ := ty155_form h2
  subst e2
  exact ⟨A0_, k0_, A1_, k1_, A2_, k2_, rfl, h0, h1, h2⟩
theorem ty157_shut {w : World} (c : D.Shard) {A0 : Option Addr} {k0 : Nat} {A1 : Option Addr} {k1 : Nat} {A2 : Option Addr} {k2 : Nat} (h0 : ty153.ro w [.slice A0 c.Cells.length k0] c.Cells) (h1 : ty154.ro w [.slice A1 c.Vars.length k1] c.Vars) (h2 : ty155.ro w [.slice A2 c.Redexes.length k2] c.Redexes) : ty157.ro w [.slice A0 c.Cells.length k0, .slice A1 c.Vars.length k1, .slice A2 c.Redexes.length k2] c :=
  ⟨_, _, rfl, h0, ⟨_, _, rfl, h1, ⟨_, _, rfl, h2, rfl⟩⟩⟩
theorem ty157_own {w : World} {cs : List Value} {c : D.Shard} {G : List Nat} (h : ty157.own w cs c G) : ∃ A0 k0 A1 k1 A2 k2, cs = [.slice A0 c.Cells.length k0, .slice A1 c.Vars.length k1, .slice A2 c.Redexes.length k2] ∧ (All [Own ty153 [.slice A0 c.Cells.length k0] c.Cells, Own ty154 [.slice A1 c.Vars.length k1] c.Vars, Own ty155 [.slice A2 c.Redexes.length k2] c.Redexes]).A w G := by
  obtain ⟨c0, d0, H0, K0, rfl, rfl, h0, c1, d1, H1, K1, rfl, rfl, h1, c2, d2, H2, K2, rfl, rfl, h2, hz, hk⟩ := h
  subst hz; subst hk
  obtain ⟨A0_, k0_, e0⟩ := slFormO h0
  subst e0
  obtain ⟨A1_, k1_, e1⟩ := slFormO h1
  subst e1
  obtain ⟨A2_, k2_, e2⟩ := slFormO h2
  subst e2
  refine ⟨A0_, k0_, A1_, k1_, A2_, k2_, rfl, ?_⟩
  show (All _).A w _
  exact cast (congrArg _ (by simp)) (show (All _).A w (H0 ++ (H1 ++ (H2 ++ ([])))) from ⟨_, _, rfl, h0, ⟨_, _, rfl, h1, ⟨_, _, rfl, h2, rfl⟩⟩⟩)
theorem ty157_ownI {w : World} {c : D.Shard} {A0 : Option Addr} {k0 : Nat} {A1 : Option Addr} {k1 : Nat} {A2 : Option Addr} {k2 : Nat} {G : List Nat} (h : (All [Own ty153 [.slice A0 c.Cells.length k0] c.Cells, Own ty154 [.slice A1 c.Vars.length k1] c.Vars, Own ty155 [.slice A2 c.Redexes.length k2] c.Redexes]).A w G) : ty157.own w [.slice A0 c.Cells.length k0, .slice A1 c.Vars.length k1, .slice A2 c.Redexes.length k2] c G := by
  obtain ⟨G0, R0, rfl, h0, G1, R1, rfl, h1, G2, R2, rfl, h2, hz⟩ := h
  have hz' : R2 = [] := hz
  subst hz'
  exact cast (congrArg _ (by simp)) (show ty157.own w [.slice A0 c.Cells.length k0, .slice A1 c.Vars.length k1, .slice A2 c.Redexes.length k2] c (_) from ⟨_, _, _, _, rfl, rfl, h0, ⟨_, _, _, _, rfl, rfl, h1, ⟨_, _, _, _, rfl, rfl, h2, ⟨rfl, rfl⟩⟩⟩⟩)
theorem ty157_openS {W w : World} {B : List Res} {cs : List Value} {c : D.Shard} (h : St W w (Own ty157 cs c :: B)) : ∃ A0 k0 A1 k1 A2 k2, cs = [.slice A0 c.Cells.length k0, .slice A1 c.Vars.length k1, .slice A2 c.Redexes.length k2] ∧ St W w ([Own ty153 [.slice A0 c.Cells.length k0] c.Cells, Own ty154 [.slice A1 c.Vars.length k1] c.Vars, Own ty155 [.slice A2 c.Redexes.length k2] c.Redexes] ++ B) := by
  obtain ⟨G, hA, _⟩ := h.sep.head
  obtain ⟨A0, k0, A1, k1, A2, k2, rfl, _⟩ := ty157_own hA
  refine ⟨A0, k0, A1, k1, A2, k2, rfl, St.splitAll (h.conv fun G hG => ?_)⟩
  obtain ⟨X0, Y0, X1, Y1, X2, Y2, he, hh⟩ := ty157_own hG
  simp only [List.cons.injEq, Value.slice.injEq, and_true, true_and] at he
  obtain ⟨⟨rfl, rfl⟩, ⟨rfl, rfl⟩, ⟨rfl, rfl⟩⟩ := he
  exact hh
theorem ty157_shutS {W w : World} {B : List Res} {c : D.Shard} {A0 : Option Addr} {k0 : Nat} {A1 : Option Addr} {k1 : Nat} {A2 : Option Addr} {k2 : Nat} (h : St W w ([Own ty153 [.slice A0 c.Cells.length k0] c.Cells, Own ty154 [.slice A1 c.Vars.length k1] c.Vars, Own ty155 [.slice A2 c.Redexes.length k2] c.Redexes] ++ B)) : St W w (Own ty157 [.slice A0 c.Cells.length k0, .slice A1 c.Vars.length k1, .slice A2 c.Redexes.length k2] c :: B) := (St.fuseAll h).conv fun _ hG => ty157_ownI hG

def ty22 : Ty (List D.Shard) := tSl 157 ty157
instance {W : World} : Reads W ty22 := inferInstanceAs (Reads W (tSl 157 ty157))
theorem ty22_form {w : World} {cs : List Value} {xs : (List D.Shard)} (h : ty22.ro w cs xs) : ∃ A c, cs = [.slice A xs.length c] := slForm h

def ty26 : Ty D.Grid := tMap (fun c => (c.Shards, c.Root, ())) (tPair ty22 (tPair ty24 tUnit))
instance {W : World} : Reads W ty26 := inferInstanceAs (Reads W (tMap (fun c : D.Grid => (c.Shards, c.Root, ())) (tPair ty22 (tPair ty24 tUnit))))
theorem ty26_open {w : World} {cs : List Value} {c : D.Grid} (h : ty26.ro w cs c) : ∃ A0 k0, cs = [.slice A0 c.Shards.length k0, .int .i64 c.Root.Machine, .int .i64 c.Root.Kind, .int .i64 c.Root.Index] ∧ ty22.ro w [.slice A0 c.Shards.length k0] c.Shards := by
  obtain ⟨c0, d0, rfl, h0, c1, d1, rfl, h1, hz⟩ := h
  subst hz
  obtain ⟨A0_, k0_, e0⟩ := ty22_form h0
  subst e0
  have e1 := ty24_open h1
  subst e1
  exact ⟨A0_, k0_, rfl, h0⟩
theorem ty26_shut {w : World} (c : D.Grid) {A0 : Option Addr} {k0 : Nat} (h0 : ty22.ro w [.slice A0 c.Shards.length k0] c.Shards) : ty26.ro w [.slice A0 c.Shards.length k0, .int .i64 c.Root.Machine, .int .i64 c.Root.Kind, .int .i64 c.Root.Index] c :=
  ⟨_, _, rfl, h0, ⟨_, _, rfl, (ty24_shut c.Root ), rfl⟩⟩
theorem ty26_own {w : World} {cs : List Value} {c : D.Grid} {G : List Nat} (h : ty26.own w cs c G) : ∃ A0 k0, cs = [.slice A0 c.Shards.length k0, .int .i64 c.Root.Machine, .int .i64 c.Root.Kind, .int .i64 c.Root.Index] ∧ (All [Own ty22 [.slice A0 c.Shards.length k0] c.Shards]).A w G := by
  obtain ⟨c0, d0, H0, K0, rfl, rfl, h0, c1, d1, H1, K1, rfl, rfl, h1, hz, hk⟩ := h
  subst hz; subst hk
  obtain ⟨A0_, k0_, e0⟩ := slFormO h0
  subst e0
  obtain ⟨e1, g1⟩ := ty24_own h1
  subst e1
  refine ⟨A0_, k0_, rfl, ?_⟩
  exact cast (congrArg _ (by simp)) (allApp (allOne h0) g1)
theorem ty26_ownI {w : World} {c : D.Grid} {A0 : Option Addr} {k0 : Nat} {G : List Nat} (h : (All [Own ty22 [.slice A0 c.Shards.length k0] c.Shards]).A w G) : ty26.own w [.slice A0 c.Shards.length k0, .int .i64 c.Root.Machine, .int .i64 c.Root.Kind, .int .i64 c.Root.Index] c G := by
  obtain ⟨G0, R0, rfl, h0, hz⟩ := h
  have hz' : R0 = [] := hz
  subst hz'
  exact cast (congrArg _ (by simp)) (show ty26.own w [.slice A0 c.Shards.length k0, .int .i64 c.Root.Machine, .int .i64 c.Root.Kind, .int .i64 c.Root.Index] c (_) from ⟨_, _, _, _, rfl, rfl, h0, ⟨_, _, _, _, rfl, rfl, (ty24_ownI (c := c.Root) rfl), ⟨rfl, rfl⟩⟩⟩)
theorem ty26_openS {W w : World} {B : List Res} {cs : List Value} {c : D.Grid} (h : St W w (Own ty26 cs c :: B)) : ∃ A0 k0, cs = [.slice A0 c.Shards.length k0, .int .i64 c.Root.Machine, .int .i64 c.Root.Kind, .int .i64 c.Root.Index] ∧ St W w ([Own ty22 [.slice A0 c.Shards.length k0] c.Shards] ++ B) := by
  obtain ⟨G, hA, _⟩ := h.sep.head
  obtain ⟨A0, k0, rfl, _⟩ := ty26_own hA
  refine ⟨A0, k0, rfl, St.splitAll (h.conv fun G hG => ?_)⟩
  obtain ⟨X0, Y0, he, hh⟩ := ty26_own hG
  simp only [List.cons.injEq, Value.slice.injEq, and_true, true_and] at he
  obtain ⟨rfl, rfl⟩ := he
  exact hh
theorem ty26_shutS {W w : World} {B : List Res} {c : D.Grid} {A0 : Option Addr} {k0 : Nat} (h : St W w ([Own ty22 [.slice A0 c.Shards.length k0] c.Shards] ++ B)) : St W w (Own ty26 [.slice A0 c.Shards.length k0, .int .i64 c.Root.Machine, .int .i64 c.Root.Kind, .int .i64 c.Root.Index] c :: B) := (St.fuseAll h).conv fun _ hG => ty26_ownI hG

def ty31 : Ty D.Address := tMap (fun c => (c.Machine, c.Kind, c.Index, ())) (tPair tInt (tPair tInt (tPair tInt tUnit)))
instance {W : World} : Reads W ty31 := inferInstanceAs (Reads W (tMap (fun c : D.Address => (c.Machine, c.Kind, c.Index, ())) (tPair tInt (tPair tInt (tPair tInt tUnit)))))
theorem ty31_open {w : World} {cs : List Value} {c : D.Address} (h : ty31.ro w cs c) : cs = [.int .i64 c.Machine, .int .i64 c.Kind, .int .i64 c.Index] := by
  obtain ⟨c0, d0, rfl, h0, c1, d1, rfl, h1, c2, d2, rfl, h2, hz⟩ := h
  subst hz
  subst h0
  subst h1
  subst h2
  rfl
theorem ty31_shut {w : World} (c : D.Address)   : ty31.ro w [.int .i64 c.Machine, .int .i64 c.Kind, .int .i64 c.Index] c :=
  ⟨_, _, rfl, rfl, ⟨_, _, rfl, rfl, ⟨_, _, rfl, rfl, rfl⟩⟩⟩
theorem ty31_own {w : World} {cs : List Value} {c : D.Address} {G : List Nat} (h : ty31.own w cs c G) : cs = [.int .i64 c.Machine, .int .i64 c.Kind, .int .i64 c.Index] ∧ (All []).A w G := by
  obtain ⟨c0, d0, H0, K0, rfl, rfl, h0, c1, d1, H1, K1, rfl, rfl, h1, c2, d2, H2, K2, rfl, rfl, h2, hz, hk⟩ := h
  subst hz; subst hk
  obtain ⟨e0, k0⟩ := h0; subst e0; subst k0
  obtain ⟨e1, k1⟩ := h1; subst e1; subst k1
  obtain ⟨e2, k2⟩ := h2; subst e2; subst k2
  refine ⟨rfl, ?_⟩
  show (All _).A w _
  exact cast (congrArg _ (by simp)) (show (All _).A w ([]) from rfl)
theorem ty31_ownI {w : World} {c : D.Address}  {G : List Nat} (h : (All []).A w G) : ty31.own w [.int .i64 c.Machine, .int .i64 c.Kind, .int .i64 c.Index] c G := by
  have hz : G = [] := h
  subst hz
  exact cast (congrArg _ (by simp)) (show ty31.own w [.int .i64 c.Machine, .int .i64 c.Kind, .int .i64 c.Index] c (_) from ⟨_, _, _, _, rfl, rfl, ⟨rfl, rfl⟩, ⟨_, _, _, _, rfl, rfl, ⟨rfl, rfl⟩, ⟨_, _, _, _, rfl, rfl, ⟨rfl, rfl⟩, ⟨rfl, rfl⟩⟩⟩⟩)
theorem ty31_openS {W w : World} {B : List Res} {cs : List Value} {c : D.Address} (h : St W w (Own ty31 cs c :: B)) : cs = [.int .i64 c.Machine, .int .i64 c.Kind, .int .i64 c.Index] ∧ St W w ([] ++ B) := by
  obtain ⟨G, hA, _⟩ := h.sep.head
  obtain ⟨rfl, _⟩ := ty31_own hA
  refine ⟨rfl, St.splitAll (h.conv fun G hG => ?_)⟩
  exact (ty31_own hG).2
theorem ty31_shutS {W w : World} {B : List Res} {c : D.Address}  (h : St W w ([] ++ B)) : St W w (Own ty31 [.int .i64 c.Machine, .int .i64 c.Kind, .int .i64 c.Index] c :: B) := (St.fuseAll h).conv fun _ hG => ty31_ownI hG

def ty87 : Ty (List D.Address) := tSl 31 ty31
instance {W : World} : Reads W ty87 := inferInstanceAs (Reads W (tSl 31 ty31))
theorem ty87_form {w : World} {cs : List Value} {xs : (List D.Address)} (h : ty87.ro w cs xs) : ∃ A c, cs = [.slice A xs.length c] := slForm h

def ty89 : Ty D.ShardCell := tMap (fun c => (c.Kind, c.Level, c.Value, c.Data, c.Aux, ())) (tPair tInt (tPair tInt (tPair tInt (tPair ty62 (tPair ty87 tUnit)))))
instance {W : World} : Reads W ty89 := inferInstanceAs (Reads W (tMap (fun c : D.ShardCell => (c.Kind, c.Level, c.Value, c.Data, c.Aux, ())) (tPair tInt (tPair tInt (tPair tInt (tPair ty62 (tPair ty87 tUnit)))))))
theorem ty89_open {w : World} {cs : List Value} {c : D.ShardCell} (h : ty89.ro w cs c) : ∃ A0 k0 A1 k1, cs = [.int .i64 c.Kind, .int .i64 c.Level, .int .i64 c.Value, .slice A0 c.Data.length k0, .slice A1 c.Aux.length k1] ∧ ty62.ro w [.slice A0 c.Data.length k0] c.Data ∧ ty87.ro w [.slice A1 c.Aux.length k1] c.Aux := by
  obtain ⟨c0, d0, rfl, h0, c1, d1, rfl, h1, c2, d2, rfl, h2, c3, d3, rfl, h3, c4, d4, rfl, h4, hz⟩ := h
  subst hz
  subst h0
  subst h1
  subst h2
  obtain ⟨A3_, k3_, e3⟩ := ty62_form h3
  subst e3
  obtain ⟨A4_, k4_, e4⟩ := ty87_form h4
  subst e4
  exact ⟨A3_, k3_, A4_, k4_, rfl, h3, h4⟩
theorem ty89_shut {w : World} (c : D.ShardCell) {A0 : Option Addr} {k0 : Nat} {A1 : Option Addr} {k1 : Nat} (h0 : ty62.ro w [.slice A0 c.Data.length k0] c.Data) (h1 : ty87.ro w [.slice A1 c.Aux.length k1] c.Aux) : ty89.ro w [.int .i64 c.Kind, .int .i64 c.Level, .int .i64 c.Value, .slice A0 c.Data.length k0, .slice A1 c.Aux.length k1] c :=
  ⟨_, _, rfl, rfl, ⟨_, _, rfl, rfl, ⟨_, _, rfl, rfl, ⟨_, _, rfl, h0, ⟨_, _, rfl, h1, rfl⟩⟩⟩⟩⟩
theorem ty89_own {w : World} {cs : List Value} {c : D.ShardCell} {G : List Nat} (h : ty89.own w cs c G) : ∃ A0 k0 A1 k1, cs = [.int .i64 c.Kind, .int .i64 c.Level, .int .i64 c.Value, .slice A0 c.Data.length k0, .slice A1 c.Aux.length k1] ∧ (All [Own ty62 [.slice A0 c.Data.length k0] c.Data, Own ty87 [.slice A1 c.Aux.length k1] c.Aux]).A w G := by
  obtain ⟨c0, d0, H0, K0, rfl, rfl, h0, c1, d1, H1, K1, rfl, rfl, h1, c2, d2, H2, K2, rfl, rfl, h2, c3, d3, H3, K3, rfl, rfl, h3, c4, d4, H4, K4, rfl, rfl, h4, hz, hk⟩ := h
  subst hz; subst hk
  obtain ⟨e0, k0⟩ := h0; subst e0; subst k0
  obtain ⟨e1, k1⟩ := h1; subst e1; subst k1
  obtain ⟨e2, k2⟩ := h2; subst e2; subst k2
  obtain ⟨A3_, k3_, e3⟩ := slFormO h3
  subst e3
  obtain ⟨A4_, k4_, e4⟩ := slFormO h4
  subst e4
  refine ⟨A3_, k3_, A4_, k4_, rfl, ?_⟩
  show (All _).A w _
  exact cast (congrArg _ (by simp)) (show (All _).A w (H3 ++ (H4 ++ ([]))) from ⟨_, _, rfl, h3, ⟨_, _, rfl, h4, rfl⟩⟩)
theorem ty89_ownI {w : World} {c : D.ShardCell} {A0 : Option Addr} {k0 : Nat} {A1 : Option Addr} {k1 : Nat} {G : List Nat} (h : (All [Own ty62 [.slice A0 c.Data.length k0] c.Data, Own ty87 [.slice A1 c.Aux.length k1] c.Aux]).A w G) : ty89.own w [.int .i64 c.Kind, .int .i64 c.Level, .int .i64 c.Value, .slice A0 c.Data.length k0, .slice A1 c.Aux.length k1] c G := by
  obtain ⟨G0, R0, rfl, h0, G1, R1, rfl, h1, hz⟩ := h
  have hz' : R1 = [] := hz
  subst hz'
  exact cast (congrArg _ (by simp)) (show ty89.own w [.int .i64 c.Kind, .int .i64 c.Level, .int .i64 c.Value, .slice A0 c.Data.length k0, .slice A1 c.Aux.length k1] c (_) from ⟨_, _, _, _, rfl, rfl, ⟨rfl, rfl⟩, ⟨_, _, _, _, rfl, rfl, ⟨rfl, rfl⟩, ⟨_, _, _, _, rfl, rfl, ⟨rfl, rfl⟩, ⟨_, _, _, _, rfl, rfl, h0, ⟨_, _, _, _, rfl, rfl, h1, ⟨rfl, rfl⟩⟩⟩⟩⟩⟩)
theorem ty89_openS {W w : World} {B : List Res} {cs : List Value} {c : D.ShardCell} (h : St W w (Own ty89 cs c :: B)) : ∃ A0 k0 A1 k1, cs = [.int .i64 c.Kind, .int .i64 c.Level, .int .i64 c.Value, .slice A0 c.Data.length k0, .slice A1 c.Aux.length k1] ∧ St W w ([Own ty62 [.slice A0 c.Data.length k0] c.Data, Own ty87 [.slice A1 c.Aux.length k1] c.Aux] ++ B) := by
  obtain ⟨G, hA, _⟩ := h.sep.head
  obtain ⟨A0, k0, A1, k1, rfl, _⟩ := ty89_own hA
  refine ⟨A0, k0, A1, k1, rfl, St.splitAll (h.conv fun G hG => ?_)⟩
  obtain ⟨X0, Y0, X1, Y1, he, hh⟩ := ty89_own hG
  simp only [List.cons.injEq, Value.slice.injEq, and_true, true_and] at he
  obtain ⟨⟨rfl, rfl⟩, ⟨rfl, rfl⟩⟩ := he
  exact hh
theorem ty89_shutS {W w : World} {B : List Res} {c : D.ShardCell} {A0 : Option Addr} {k0 : Nat} {A1 : Option Addr} {k1 : Nat} (h : St W w ([Own ty62 [.slice A0 c.Data.length k0] c.Data, Own ty87 [.slice A1 c.Aux.length k1] c.Aux] ++ B)) : St W w (Own ty89 [.int .i64 c.Kind, .int .i64 c.Level, .int .i64 c.Value, .slice A0 c.Data.length k0, .slice A1 c.Aux.length k1] c :: B) := (St.fuseAll h).conv fun _ hG => ty89_ownI hG

def ty82 : Ty (List D.ShardCell) := tSl 89 ty89
instance {W : World} : Reads W ty82 := inferInstanceAs (Reads W (tSl 89 ty89))
theorem ty82_form {w : World} {cs : List Value} {xs : (List D.ShardCell)} (h : ty82.ro w cs xs) : ∃ A c, cs = [.slice A xs.length c] := slForm h

def ty93 : Ty D.ShardVar := tMap (fun c => (c.Used, c.Full, c.Held, ())) (tPair tBool (tPair tBool (tPair ty31 tUnit)))
instance {W : World} : Reads W ty93 := inferInstanceAs (Reads W (tMap (fun c : D.ShardVar => (c.Used, c.Full, c.Held, ())) (tPair tBool (tPair tBool (tPair ty31 tUnit)))))
theorem ty93_open {w : World} {cs : List Value} {c : D.ShardVar} (h : ty93.ro w cs c) : cs = [.bool c.Used, .bool c.Full, .int .i64 c.Held.Machine, .int .i64 c.Held.Kind, .int .i64 c.Held.Index] := by
  obtain ⟨c0, d0, rfl, h0, c1, d1, rfl, h1, c2, d2, rfl, h2, hz⟩ := h
  subst hz
  subst h0
  subst h1
  have e2 := ty31_open h2
  subst e2
  rfl
theorem ty93_shut {w : World} (c : D.ShardVar)   : ty93.ro w [.bool c.Used, .bool c.Full, .int .i64 c.Held.Machine, .int .i64 c.Held.Kind, .int .i64 c.Held.Index] c :=
  ⟨_, _, rfl, rfl, ⟨_, _, rfl, rfl, ⟨_, _, rfl, (ty31_shut c.Held ), rfl⟩⟩⟩
theorem ty93_own {w : World} {cs : List Value} {c : D.ShardVar} {G : List Nat} (h : ty93.own w cs c G) : cs = [.bool c.Used, .bool c.Full, .int .i64 c.Held.Machine, .int .i64 c.Held.Kind, .int .i64 c.Held.Index] ∧ (All []).A w G := by
  obtain ⟨c0, d0, H0, K0, rfl, rfl, h0, c1, d1, H1, K1, rfl, rfl, h1, c2, d2, H2, K2, rfl, rfl, h2, hz, hk⟩ := h
  subst hz; subst hk
  obtain ⟨e0, k0⟩ := h0; subst e0; subst k0
  obtain ⟨e1, k1⟩ := h1; subst e1; subst k1
  obtain ⟨e2, g2⟩ := ty31_own h2
  subst e2
  refine ⟨rfl, ?_⟩
  exact cast (congrArg _ (by simp)) g2
theorem ty93_ownI {w : World} {c : D.ShardVar}  {G : List Nat} (h : (All []).A w G) : ty93.own w [.bool c.Used, .bool c.Full, .int .i64 c.Held.Machine, .int .i64 c.Held.Kind, .int .i64 c.Held.Index] c G := by
  have hz : G = [] := h
  subst hz
  exact cast (congrArg _ (by simp)) (show ty93.own w [.bool c.Used, .bool c.Full, .int .i64 c.Held.Machine, .int .i64 c.Held.Kind, .int .i64 c.Held.Index] c (_) from ⟨_, _, _, _, rfl, rfl, ⟨rfl, rfl⟩, ⟨_, _, _, _, rfl, rfl, ⟨rfl, rfl⟩, ⟨_, _, _, _, rfl, rfl, (ty31_ownI (c := c.Held) rfl), ⟨rfl, rfl⟩⟩⟩⟩)
theorem ty93_openS {W w : World} {B : List Res} {cs : List Value} {c : D.ShardVar} (h : St W w (Own ty93 cs c :: B)) : cs = [.bool c.Used, .bool c.Full, .int .i64 c.Held.Machine, .int .i64 c.Held.Kind, .int .i64 c.Held.Index] ∧ St W w ([] ++ B) := by
  obtain ⟨G, hA, _⟩ := h.sep.head
  obtain ⟨rfl, _⟩ := ty93_own hA
  refine ⟨rfl, St.splitAll (h.conv fun G hG => ?_)⟩
  exact (ty93_own hG).2
theorem ty93_shutS {W w : World} {B : List Res} {c : D.ShardVar}  (h : St W w ([] ++ B)) : St W w (Own ty93 [.bool c.Used, .bool c.Full, .int .i64 c.Held.Machine, .int .i64 c.Held.Kind, .int .i64 c.Held.Index] c :: B) := (St.fuseAll h).conv fun _ hG => ty93_ownI hG

def ty83 : Ty (List D.ShardVar) := tSl 93 ty93
instance {W : World} : Reads W ty83 := inferInstanceAs (Reads W (tSl 93 ty93))
theorem ty83_form {w : World} {cs : List Value} {xs : (List D.ShardVar)} (h : ty83.ro w cs xs) : ∃ A c, cs = [.slice A xs.length c] := slForm h

def ty91 : Ty D.ShardRedex := tMap (fun c => (c.A, c.B, ())) (tPair ty31 (tPair ty31 tUnit))
instance {W : World} : Reads W ty91 := inferInstanceAs (Reads W (tMap (fun c : D.ShardRedex => (c.A, c.B, ())) (tPair ty31 (tPair ty31 tUnit))))
theorem ty91_open {w : World} {cs : List Value} {c : D.ShardRedex} (h : ty91.ro w cs c) : cs = [.int .i64 c.A.Machine, .int .i64 c.A.Kind, .int .i64 c.A.Index, .int .i64 c.B.Machine, .int .i64 c.B.Kind, .int .i64 c.B.Index] := by
  obtain ⟨c0, d0, rfl, h0, c1, d1, rfl, h1, hz⟩ := h
  subst hz
  have e0 := ty31_open h0
  subst e0
  have e1 := ty31_open h1
  subst e1
  rfl
theorem ty91_shut {w : World} (c : D.ShardRedex)   : ty91.ro w [.int .i64 c.A.Machine, .int .i64 c.A.Kind, .int .i64 c.A.Index, .int .i64 c.B.Machine, .int .i64 c.B.Kind, .int .i64 c.B.Index] c :=
  ⟨_, _, rfl, (ty31_shut c.A ), ⟨_, _, rfl, (ty31_shut c.B ), rfl⟩⟩
theorem ty91_own {w : World} {cs : List Value} {c : D.ShardRedex} {G : List Nat} (h : ty91.own w cs c G) : cs = [.int .i64 c.A.Machine, .int .i64 c.A.Kind, .int .i64 c.A.Index, .int .i64 c.B.Machine, .int .i64 c.B.Kind, .int .i64 c.B.Index] ∧ (All []).A w G := by
  obtain ⟨c0, d0, H0, K0, rfl, rfl, h0, c1, d1, H1, K1, rfl, rfl, h1, hz, hk⟩ := h
  subst hz; subst hk
  obtain ⟨e0, g0⟩ := ty31_own h0
  subst e0
  obtain ⟨e1, g1⟩ := ty31_own h1
  subst e1
  refine ⟨rfl, ?_⟩
  exact cast (congrArg _ (by simp)) (allApp g0 g1)
theorem ty91_ownI {w : World} {c : D.ShardRedex}  {G : List Nat} (h : (All []).A w G) : ty91.own w [.int .i64 c.A.Machine, .int .i64 c.A.Kind, .int .i64 c.A.Index, .int .i64 c.B.Machine, .int .i64 c.B.Kind, .int .i64 c.B.Index] c G := by
  have hz : G = [] := h
  subst hz
  exact cast (congrArg _ (by simp)) (show ty91.own w [.int .i64 c.A.Machine, .int .i64 c.A.Kind, .int .i64 c.A.Index, .int .i64 c.B.Machine, .int .i64 c.B.Kind, .int .i64 c.B.Index] c (_) from ⟨_, _, _, _, rfl, rfl, (ty31_ownI (c := c.A) rfl), ⟨_, _, _, _, rfl, rfl, (ty31_ownI (c := c.B) rfl), ⟨rfl, rfl⟩⟩⟩)
theorem ty91_openS {W w : World} {B : List Res} {cs : List Value} {c : D.ShardRedex} (h : St W w (Own ty91 cs c :: B)) : cs = [.int .i64 c.A.Machine, .int .i64 c.A.Kind, .int .i64 c.A.Index, .int .i64 c.B.Machine, .int .i64 c.B.Kind, .int .i64 c.B.Index] ∧ St W w ([] ++ B) := by
  obtain ⟨G, hA, _⟩ := h.sep.head
  obtain ⟨rfl, _⟩ := ty91_own hA
  refine ⟨rfl, St.splitAll (h.conv fun G hG => ?_)⟩
  exact (ty91_own hG).2
theorem ty91_shutS {W w : World} {B : List Res} {c : D.ShardRedex}  (h : St W w ([] ++ B)) : St W w (Own ty91 [.int .i64 c.A.Machine, .int .i64 c.A.Kind, .int .i64 c.A.Index, .int .i64 c.B.Machine, .int .i64 c.B.Kind, .int .i64 c.B.Index] c :: B) := (St.fuseAll h).conv fun _ hG => ty91_ownI hG

def ty84 : Ty (List D.ShardRedex) := tSl 91 ty91
instance {W : World} : Reads W ty84 := inferInstanceAs (Reads W (tSl 91 ty91))
theorem ty84_form {w : World} {cs : List Value} {xs : (List D.ShardRedex)} (h : ty84.ro w cs xs) : ∃ A c, cs = [.slice A xs.length c] := slForm h

def ty86 : Ty D.Shard := tMap (fun c => (c.Cells, c.Vars, c.Redexes, ())) (tPair ty82 (tPair ty83 (tPair ty84 tUnit)))
instance {W : World} : Reads W ty86 := inferInstanceAs (Reads W (tMap (fun c : D.Shard => (c.Cells, c.Vars, c.Redexes, ())) (tPair ty82 (tPair ty83 (tPair ty84 tUnit)))))
theorem ty86_open {w : World} {cs : List Value} {c : D.Shard} (h : ty86.ro w cs c) : ∃ A0 k0 A1 k1 A2 k2, cs = [.slice A0 c.Cells.length k0, .slice A1 c.Vars.length k1, .slice A2 c.Redexes.length k2] ∧ ty82.ro w [.slice A0 c.Cells.length k0] c.Cells ∧ ty83.ro w [.slice A1 c.Vars.length k1] c.Vars ∧ ty84.ro w [.slice A2 c.Redexes.length k2] c.Redexes := by
  obtain ⟨c0, d0, rfl, h0, c1, d1, rfl, h1, c2, d2, rfl, h2, hz⟩ := h
  subst hz
  obtain ⟨A0_, k0_, e0⟩ := ty82_form h0
  subst e0
  obtain ⟨A1_, k1_, e1⟩ := ty83_form h1
  subst e1
  obtain ⟨A2_, k2_, e2⟩ := ty84_form h2
  subst e2
  exact ⟨A0_, k0_, A1_, k1_, A2_, k2_, rfl, h0, h1, h2⟩
theorem ty86_shut {w : World} (c : D.Shard) {A0 : Option Addr} {k0 : Nat} {A1 : Option Addr} {k1 : Nat} {A2 : Option Addr} {k2 : Nat} (h0 : ty82.ro w [.slice A0 c.Cells.length k0] c.Cells) (h1 : ty83.ro w [.slice A1 c.Vars.length k1] c.Vars) (h2 : ty84.ro w [.slice A2 c.Redexes.length k2] c.Redexes) : ty86.ro w [.slice A0 c.Cells.length k0, .slice A1 c.Vars.length k1, .slice A2 c.Redexes.length k2] c :=
  ⟨_, _, rfl, h0, ⟨_, _, rfl, h1, ⟨_, _, rfl, h2, rfl⟩⟩⟩
theorem ty86_own {w : World} {cs : List Value} {c : D.Shard} {G : List Nat} (h : ty86.own w cs c G) : ∃ A0 k0 A1 k1 A2 k2, cs = [.slice A0 c.Cells.length k0, .slice A1 c.Vars.length k1, .slice A2 c.Redexes.length k2] ∧ (All [Own ty82 [.slice A0 c.Cells.length k0] c.Cells, Own ty83 [.slice A1 c.Vars.length k1] c.Vars, Own ty84 [.slice A2 c.Redexes.length k2] c.Redexes]).A w G := by
  obtain ⟨c0, d0, H0, K0, rfl, rfl, h0, c1, d1, H1, K1, rfl, rfl, h1, c2, d2, H2, K2, rfl, rfl, h2, hz, hk⟩ := h
  subst hz; subst hk
  obtain ⟨A0_, k0_, e0⟩ := slFormO h0
  subst e0
  obtain ⟨A1_, k1_, e1⟩ := slFormO h1
  subst e1
  obtain ⟨A2_, k2_, e2⟩ := slFormO h2
  subst e2
  refine ⟨A0_, k0_, A1_, k1_, A2_, k2_, rfl, ?_⟩
  show (All _).A w _
  exact cast (congrArg _ (by simp)) (show (All _).A w (H0 ++ (H1 ++ (H2 ++ ([])))) from ⟨_, _, rfl, h0, ⟨_, _, rfl, h1, ⟨_, _, rfl, h2, rfl⟩⟩⟩)
theorem ty86_ownI {w : World} {c : D.Shard} {A0 : Option Addr} {k0 : Nat} {A1 : Option Addr} {k1 : Nat} {A2 : Option Addr} {k2 : Nat} {G : List Nat} (h : (All [Own ty82 [.slice A0 c.Cells.length k0] c.Cells, Own ty83 [.slice A1 c.Vars.length k1] c.Vars, Own ty84 [.slice A2 c.Redexes.length k2] c.Redexes]).A w G) : ty86.own w [.slice A0 c.Cells.length k0, .slice A1 c.Vars.length k1, .slice A2 c.Redexes.length k2] c G := by
  obtain ⟨G0, R0, rfl, h0, G1, R1, rfl, h1, G2, R2, rfl, h2, hz⟩ := h
  have hz' : R2 = [] := hz
  subst hz'
  exact cast (congrArg _ (by simp)) (show ty86.own w [.slice A0 c.Cells.length k0, .slice A1 c.Vars.length k1, .slice A2 c.Redexes.length k2] c (_) from ⟨_, _, _, _, rfl, rfl, h0, ⟨_, _, _, _, rfl, rfl, h1, ⟨_, _, _, _, rfl, rfl, h2, ⟨rfl, rfl⟩⟩⟩⟩)
theorem ty86_openS {W w : World} {B : List Res} {cs : List Value} {c : D.Shard} (h : St W w (Own ty86 cs c :: B)) : ∃ A0 k0 A1 k1 A2 k2, cs = [.slice A0 c.Cells.length k0, .slice A1 c.Vars.length k1, .slice A2 c.Redexes.length k2] ∧ St W w ([Own ty82 [.slice A0 c.Cells.length k0] c.Cells, Own ty83 [.slice A1 c.Vars.length k1] c.Vars, Own ty84 [.slice A2 c.Redexes.length k2] c.Redexes] ++ B) := by
  obtain ⟨G, hA, _⟩ := h.sep.head
  obtain ⟨A0, k0, A1, k1, A2, k2, rfl, _⟩ := ty86_own hA
  refine ⟨A0, k0, A1, k1, A2, k2, rfl, St.splitAll (h.conv fun G hG => ?_)⟩
  obtain ⟨X0, Y0, X1, Y1, X2, Y2, he, hh⟩ := ty86_own hG
  simp only [List.cons.injEq, Value.slice.injEq, and_true, true_and] at he
  obtain ⟨⟨rfl, rfl⟩, ⟨rfl, rfl⟩, ⟨rfl, rfl⟩⟩ := he
  exact hh
theorem ty86_shutS {W w : World} {B : List Res} {c : D.Shard} {A0 : Option Addr} {k0 : Nat} {A1 : Option Addr} {k1 : Nat} {A2 : Option Addr} {k2 : Nat} (h : St W w ([Own ty82 [.slice A0 c.Cells.length k0] c.Cells, Own ty83 [.slice A1 c.Vars.length k1] c.Vars, Own ty84 [.slice A2 c.Redexes.length k2] c.Redexes] ++ B)) : St W w (Own ty86 [.slice A0 c.Cells.length k0, .slice A1 c.Vars.length k1, .slice A2 c.Redexes.length k2] c :: B) := (St.fuseAll h).conv fun _ hG => ty86_ownI hG

def ty30 : Ty (List D.Shard) := tSl 86 ty86
instance {W : World} : Reads W ty30 := inferInstanceAs (Reads W (tSl 86 ty86))
theorem ty30_form {w : World} {cs : List Value} {xs : (List D.Shard)} (h : ty30.ro w cs xs) : ∃ A c, cs = [.slice A xs.length c] := slForm h

def ty33 : Ty D.Grid := tMap (fun c => (c.Shards, c.Root, ())) (tPair ty30 (tPair ty31 tUnit))
instance {W : World} : Reads W ty33 := inferInstanceAs (Reads W (tMap (fun c : D.Grid => (c.Shards, c.Root, ())) (tPair ty30 (tPair ty31 tUnit))))
theorem ty33_open {w : World} {cs : List Value} {c : D.Grid} (h : ty33.ro w cs c) : ∃ A0 k0, cs = [.slice A0 c.Shards.length k0, .int .i64 c.Root.Machine, .int .i64 c.Root.Kind, .int .i64 c.Root.Index] ∧ ty30.ro w [.slice A0 c.Shards.length k0] c.Shards := by
  obtain ⟨c0, d0, rfl, h0, c1, d1, rfl, h1, hz⟩ := h
  subst hz
  obtain ⟨A0_, k0_, e0⟩ := ty30_form h0
  subst e0
  have e1 := ty31_open h1
  subst e1
  exact ⟨A0_, k0_, rfl, h0⟩
theorem ty33_shut {w : World} (c : D.Grid) {A0 : Option Addr} {k0 : Nat} (h0 : ty30.ro w [.slice A0 c.Shards.length k0] c.Shards) : ty33.ro w [.slice A0 c.Shards.length k0, .int .i64 c.Root.Machine, .int .i64 c.Root.Kind, .int .i64 c.Root.Index] c :=
  ⟨_, _, rfl, h0, ⟨_, _, rfl, (ty31_shut c.Root ), rfl⟩⟩
theorem ty33_own {w : World} {cs : List Value} {c : D.Grid} {G : List Nat} (h : ty33.own w cs c G) : ∃ A0 k0, cs = [.slice A0 c.Shards.length k0, .int .i64 c.Root.Machine, .int .i64 c.Root.Kind, .int .i64 c.Root.Index] ∧ (All [Own ty30 [.slice A0 c.Shards.length k0] c.Shards]).A w G := by
  obtain ⟨c0, d0, H0, K0, rfl, rfl, h0, c1, d1, H1, K1, rfl, rfl, h1, hz, hk⟩ := h
  subst hz; subst hk
  obtain ⟨A0_, k0_, e0⟩ := slFormO h0
  subst e0
  obtain ⟨e1, g1⟩ := ty31_own h1
  subst e1
  refine ⟨A0_, k0_, rfl, ?_⟩
  exact cast (congrArg _ (by simp)) (allApp (allOne h0) g1)
theorem ty33_ownI {w : World} {c : D.Grid} {A0 : Option Addr} {k0 : Nat} {G : List Nat} (h : (All [Own ty30 [.slice A0 c.Shards.length k0] c.Shards]).A w G) : ty33.own w [.slice A0 c.Shards.length k0, .int .i64 c.Root.Machine, .int .i64 c.Root.Kind, .int .i64 c.Root.Index] c G := by
  obtain ⟨G0, R0, rfl, h0, hz⟩ := h
  have hz' : R0 = [] := hz
  subst hz'
  exact cast (congrArg _ (by simp)) (show ty33.own w [.slice A0 c.Shards.length k0, .int .i64 c.Root.Machine, .int .i64 c.Root.Kind, .int .i64 c.Root.Index] c (_) from ⟨_, _, _, _, rfl, rfl, h0, ⟨_, _, _, _, rfl, rfl, (ty31_ownI (c := c.Root) rfl), ⟨rfl, rfl⟩⟩⟩)
theorem ty33_openS {W w : World} {B : List Res} {cs : List Value} {c : D.Grid} (h : St W w (Own ty33 cs c :: B)) : ∃ A0 k0, cs = [.slice A0 c.Shards.length k0, .int .i64 c.Root.Machine, .int .i64 c.Root.Kind, .int .i64 c.Root.Index] ∧ St W w ([Own ty30 [.slice A0 c.Shards.length k0] c.Shards] ++ B) := by
  obtain ⟨G, hA, _⟩ := h.sep.head
  obtain ⟨A0, k0, rfl, _⟩ := ty33_own hA
  refine ⟨A0, k0, rfl, St.splitAll (h.conv fun G hG => ?_)⟩
  obtain ⟨X0, Y0, he, hh⟩ := ty33_own hG
  simp only [List.cons.injEq, Value.slice.injEq, and_true, true_and] at he
  obtain ⟨rfl, rfl⟩ := he
  exact hh
theorem ty33_shutS {W w : World} {B : List Res} {c : D.Grid} {A0 : Option Addr} {k0 : Nat} (h : St W w ([Own ty30 [.slice A0 c.Shards.length k0] c.Shards] ++ B)) : St W w (Own ty33 [.slice A0 c.Shards.length k0, .int .i64 c.Root.Machine, .int .i64 c.Root.Kind, .int .i64 c.Root.Index] c :: B) := (St.fuseAll h).conv fun _ hG => ty33_ownI hG

def ty39 : Ty D.Word := tMap (fun c => (c.Tag, c.At, ())) (tPair tInt (tPair tInt tUnit))
instance {W : World} : Reads W ty39 := inferInstanceAs (Reads W (tMap (fun c : D.Word => (c.Tag, c.At, ())) (tPair tInt (tPair tInt tUnit))))
theorem ty39_open {w : World} {cs : List Value} {c : D.Word} (h : ty39.ro w cs c) : cs = [.int .i64 c.Tag, .int .i64 c.At] := by
  obtain ⟨c0, d0, rfl, h0, c1, d1, rfl, h1, hz⟩ := h
  subst hz
  subst h0
  subst h1
  rfl
theorem ty39_shut {w : World} (c : D.Word)   : ty39.ro w [.int .i64 c.Tag, .int .i64 c.At] c :=
  ⟨_, _, rfl, rfl, ⟨_, _, rfl, rfl, rfl⟩⟩
theorem ty39_own {w : World} {cs : List Value} {c : D.Word} {G : List Nat} (h : ty39.own w cs c G) : cs = [.int .i64 c.Tag, .int .i64 c.At] ∧ (All []).A w G := by
  obtain ⟨c0, d0, H0, K0, rfl, rfl, h0, c1, d1, H1, K1, rfl, rfl, h1, hz, hk⟩ := h
  subst hz; subst hk
  obtain ⟨e0, k0⟩ := h0; subst e0; subst k0
  obtain ⟨e1, k1⟩ := h1; subst e1; subst k1
  refine ⟨rfl, ?_⟩
  show (All _).A w _
  exact cast (congrArg _ (by simp)) (show (All _).A w ([]) from rfl)
theorem ty39_ownI {w : World} {c : D.Word}  {G : List Nat} (h : (All []).A w G) : ty39.own w [.int .i64 c.Tag, .int .i64 c.At] c G := by
  have hz : G = [] := h
  subst hz
  exact cast (congrArg _ (by simp)) (show ty39.own w [.int .i64 c.Tag, .int .i64 c.At] c (_) from ⟨_, _, _, _, rfl, rfl, ⟨rfl, rfl⟩, ⟨_, _, _, _, rfl, rfl, ⟨rfl, rfl⟩, ⟨rfl, rfl⟩⟩⟩)
theorem ty39_openS {W w : World} {B : List Res} {cs : List Value} {c : D.Word} (h : St W w (Own ty39 cs c :: B)) : cs = [.int .i64 c.Tag, .int .i64 c.At] ∧ St W w ([] ++ B) := by
  obtain ⟨G, hA, _⟩ := h.sep.head
  obtain ⟨rfl, _⟩ := ty39_own hA
  refine ⟨rfl, St.splitAll (h.conv fun G hG => ?_)⟩
  exact (ty39_own hG).2
theorem ty39_shutS {W w : World} {B : List Res} {c : D.Word}  (h : St W w ([] ++ B)) : St W w (Own ty39 [.int .i64 c.Tag, .int .i64 c.At] c :: B) := (St.fuseAll h).conv fun _ hG => ty39_ownI hG

def ty166 : Ty (List D.Word) := tSl 39 ty39
instance {W : World} : Reads W ty166 := inferInstanceAs (Reads W (tSl 39 ty39))
theorem ty166_form {w : World} {cs : List Value} {xs : (List D.Word)} (h : ty166.ro w cs xs) : ∃ A c, cs = [.slice A xs.length c] := slForm h

def ty168 : Ty D.Cell := tMap (fun c => (c.Kind, c.Level, c.Value, c.Data, c.Words, ())) (tPair tInt (tPair tInt (tPair tInt (tPair ty62 (tPair ty166 tUnit)))))
instance {W : World} : Reads W ty168 := inferInstanceAs (Reads W (tMap (fun c : D.Cell => (c.Kind, c.Level, c.Value, c.Data, c.Words, ())) (tPair tInt (tPair tInt (tPair tInt (tPair ty62 (tPair ty166 tUnit)))))))
theorem ty168_open {w : World} {cs : List Value} {c : D.Cell} (h : ty168.ro w cs c) : ∃ A0 k0 A1 k1, cs = [.int .i64 c.Kind, .int .i64 c.Level, .int .i64 c.Value, .slice A0 c.Data.length k0, .slice A1 c.Words.length k1] ∧ ty62.ro w [.slice A0 c.Data.length k0] c.Data ∧ ty166.ro w [.slice A1 c.Words.length k1] c.Words := by
  obtain ⟨c0, d0, rfl, h0, c1, d1, rfl, h1, c2, d2, rfl, h2, c3, d3, rfl, h3, c4, d4, rfl, h4, hz⟩ := h
  subst hz
  subst h0
  subst h1
  subst h2
  obtain ⟨A3_, k3_, e3⟩ := ty62_form h3
  subst e3
  obtain ⟨A4_, k4_, e4⟩ := ty166_form h4
  subst e4
  exact ⟨A3_, k3_, A4_, k4_, rfl, h3, h4⟩
theorem ty168_shut {w : World} (c : D.Cell) {A0 : Option Addr} {k0 : Nat} {A1 : Option Addr} {k1 : Nat} (h0 : ty62.ro w [.slice A0 c.Data.length k0] c.Data) (h1 : ty166.ro w [.slice A1 c.Words.length k1] c.Words) : ty168.ro w [.int .i64 c.Kind, .int .i64 c.Level, .int .i64 c.Value, .slice A0 c.Data.length k0, .slice A1 c.Words.length k1] c :=
  ⟨_, _, rfl, rfl, ⟨_, _, rfl, rfl, ⟨_, _, rfl, rfl, ⟨_, _, rfl, h0, ⟨_, _, rfl, h1, rfl⟩⟩⟩⟩⟩
theorem ty168_own {w : World} {cs : List Value} {c : D.Cell} {G : List Nat} (h : ty168.own w cs c G) : ∃ A0 k0 A1 k1, cs = [.int .i64 c.Kind, .int .i64 c.Level, .int .i64 c.Value, .slice A0 c.Data.length k0, .slice A1 c.Words.length k1] ∧ (All [Own ty62 [.slice A0 c.Data.length k0] c.Data, Own ty166 [.slice A1 c.Words.length k1] c.Words]).A w G := by
  obtain ⟨c0, d0, H0, K0, rfl, rfl, h0, c1, d1, H1, K1, rfl, rfl, h1, c2, d2, H2, K2, rfl, rfl, h2, c3, d3, H3, K3, rfl, rfl, h3, c4, d4, H4, K4, rfl, rfl, h4, hz, hk⟩ := h
  subst hz; subst hk
  obtain ⟨e0, k0⟩ := h0; subst e0; subst k0
  obtain ⟨e1, k1⟩ := h1; subst e1; subst k1
  obtain ⟨e2, k2⟩ := h2; subst e2; subst k2
  obtain ⟨A3_, k3_, e3⟩ := slFormO h3
  subst e3
  obtain ⟨A4_, k4_, e4⟩ := slFormO h4
  subst e4
  refine ⟨A3_, k3_, A4_, k4_, rfl, ?_⟩
  show (All _).A w _
  exact cast (congrArg _ (by simp)) (show (All _).A w (H3 ++ (H4 ++ ([]))) from ⟨_, _, rfl, h3, ⟨_, _, rfl, h4, rfl⟩⟩)
theorem ty168_ownI {w : World} {c : D.Cell} {A0 : Option Addr} {k0 : Nat} {A1 : Option Addr} {k1 : Nat} {G : List Nat} (h : (All [Own ty62 [.slice A0 c.Data.length k0] c.Data, Own ty166 [.slice A1 c.Words.length k1] c.Words]).A w G) : ty168.own w [.int .i64 c.Kind, .int .i64 c.Level, .int .i64 c.Value, .slice A0 c.Data.length k0, .slice A1 c.Words.length k1] c G := by
  obtain ⟨G0, R0, rfl, h0, G1, R1, rfl, h1, hz⟩ := h
  have hz' : R1 = [] := hz
  subst hz'
  exact cast (congrArg _ (by simp)) (show ty168.own w [.int .i64 c.Kind, .int .i64 c.Level, .int .i64 c.Value, .slice A0 c.Data.length k0, .slice A1 c.Words.length k1] c (_) from ⟨_, _, _, _, rfl, rfl, ⟨rfl, rfl⟩, ⟨_, _, _, _, rfl, rfl, ⟨rfl, rfl⟩, ⟨_, _, _, _, rfl, rfl, ⟨rfl, rfl⟩, ⟨_, _, _, _, rfl, rfl, h0, ⟨_, _, _, _, rfl, rfl, h1, ⟨rfl, rfl⟩⟩⟩⟩⟩⟩)
theorem ty168_openS {W w : World} {B : List Res} {cs : List Value} {c : D.Cell} (h : St W w (Own ty168 cs c :: B)) : ∃ A0 k0 A1 k1, cs = [.int .i64 c.Kind, .int .i64 c.Level, .int .i64 c.Value, .slice A0 c.Data.length k0, .slice A1 c.Words.length k1] ∧ St W w ([Own ty62 [.slice A0 c.Data.length k0] c.Data, Own ty166 [.slice A1 c.Words.length k1] c.Words] ++ B) := by
  obtain ⟨G, hA, _⟩ := h.sep.head
  obtain ⟨A0, k0, A1, k1, rfl, _⟩ := ty168_own hA
  refine ⟨A0, k0, A1, k1, rfl, St.splitAll (h.conv fun G hG => ?_)⟩
  obtain ⟨X0, Y0, X1, Y1, he, hh⟩ := ty168_own hG
  simp only [List.cons.injEq, Value.slice.injEq, and_true, true_and] at he
  obtain ⟨⟨rfl, rfl⟩, ⟨rfl, rfl⟩⟩ := he
  exact hh
theorem ty168_shutS {W w : World} {B : List Res} {c : D.Cell} {A0 : Option Addr} {k0 : Nat} {A1 : Option Addr} {k1 : Nat} (h : St W w ([Own ty62 [.slice A0 c.Data.length k0] c.Data, Own ty166 [.slice A1 c.Words.length k1] c.Words] ++ B)) : St W w (Own ty168 [.int .i64 c.Kind, .int .i64 c.Level, .int .i64 c.Value, .slice A0 c.Data.length k0, .slice A1 c.Words.length k1] c :: B) := (St.fuseAll h).conv fun _ hG => ty168_ownI hG

def ty37 : Ty (List D.Cell) := tSl 168 ty168
instance {W : World} : Reads W ty37 := inferInstanceAs (Reads W (tSl 168 ty168))
theorem ty37_form {w : World} {cs : List Value} {xs : (List D.Cell)} (h : ty37.ro w cs xs) : ∃ A c, cs = [.slice A xs.length c] := slForm h

def ty176 : Ty D.Pair := tMap (fun c => (c.A, c.B, ())) (tPair tInt (tPair tInt tUnit))
instance {W : World} : Reads W ty176 := inferInstanceAs (Reads W (tMap (fun c : D.Pair => (c.A, c.B, ())) (tPair tInt (tPair tInt tUnit))))
theorem ty176_open {w : World} {cs : List Value} {c : D.Pair} (h : ty176.ro w cs c) : cs = [.int .i64 c.A, .int .i64 c.B] := by
  obtain ⟨c0, d0, rfl, h0, c1, d1, rfl, h1, hz⟩ := h
  subst hz
  subst h0
  subst h1
  rfl
theorem ty176_shut {w : World} (c : D.Pair)   : ty176.ro w [.int .i64 c.A, .int .i64 c.B] c :=
  ⟨_, _, rfl, rfl, ⟨_, _, rfl, rfl, rfl⟩⟩
theorem ty176_own {w : World} {cs : List Value} {c : D.Pair} {G : List Nat} (h : ty176.own w cs c G) : cs = [.int .i64 c.A, .int .i64 c.B] ∧ (All []).A w G := by
  obtain ⟨c0, d0, H0, K0, rfl, rfl, h0, c1, d1, H1, K1, rfl, rfl, h1, hz, hk⟩ := h
  subst hz; subst hk
  obtain ⟨e0, k0⟩ := h0; subst e0; subst k0
  obtain ⟨e1, k1⟩ := h1; subst e1; subst k1
  refine ⟨rfl, ?_⟩
  show (All _).A w _
  exact cast (congrArg _ (by simp)) (show (All _).A w ([]) from rfl)
theorem ty176_ownI {w : World} {c : D.Pair}  {G : List Nat} (h : (All []).A w G) : ty176.own w [.int .i64 c.A, .int .i64 c.B] c G := by
  have hz : G = [] := h
  subst hz
  exact cast (congrArg _ (by simp)) (show ty176.own w [.int .i64 c.A, .int .i64 c.B] c (_) from ⟨_, _, _, _, rfl, rfl, ⟨rfl, rfl⟩, ⟨_, _, _, _, rfl, rfl, ⟨rfl, rfl⟩, ⟨rfl, rfl⟩⟩⟩)
theorem ty176_openS {W w : World} {B : List Res} {cs : List Value} {c : D.Pair} (h : St W w (Own ty176 cs c :: B)) : cs = [.int .i64 c.A, .int .i64 c.B] ∧ St W w ([] ++ B) := by
  obtain ⟨G, hA, _⟩ := h.sep.head
  obtain ⟨rfl, _⟩ := ty176_own hA
  refine ⟨rfl, St.splitAll (h.conv fun G hG => ?_)⟩
  exact (ty176_own hG).2
theorem ty176_shutS {W w : World} {B : List Res} {c : D.Pair}  (h : St W w ([] ++ B)) : St W w (Own ty176 [.int .i64 c.A, .int .i64 c.B] c :: B) := (St.fuseAll h).conv fun _ hG => ty176_ownI hG

def ty40 : Ty (List D.Pair) := tSl 176 ty176
instance {W : World} : Reads W ty40 := inferInstanceAs (Reads W (tSl 176 ty176))
theorem ty40_form {w : World} {cs : List Value} {xs : (List D.Pair)} (h : ty40.ro w cs xs) : ∃ A c, cs = [.slice A xs.length c] := slForm h

def ty42 : Ty D.Memory := tMap (fun c => (c.Cells, c.Free, c.Root, c.Redexes, ())) (tPair ty37 (tPair tInt (tPair ty39 (tPair ty40 tUnit))))
instance {W : World} : Reads W ty42 := inferInstanceAs (Reads W (tMap (fun c : D.Memory => (c.Cells, c.Free, c.Root, c.Redexes, ())) (tPair ty37 (tPair tInt (tPair ty39 (tPair ty40 tUnit))))))
theorem ty42_open {w : World} {cs : List Value} {c : D.Memory} (h : ty42.ro w cs c) : ∃ A0 k0 A1 k1, cs = [.slice A0 c.Cells.length k0, .int .i64 c.Free, .int .i64 c.Root.Tag, .int .i64 c.Root.At, .slice A1 c.Redexes.length k1] ∧ ty37.ro w [.slice A0 c.Cells.length k0] c.Cells ∧ ty40.ro w [.slice A1 c.Redexes.length k1] c.Redexes := by
  obtain ⟨c0, d0, rfl, h0, c1, d1, rfl, h1, c2, d2, rfl, h2, c3, d3, rfl, h3, hz⟩ := h
  subst hz
  obtain ⟨A0_, k0_, e0⟩ := ty37_form h0
  subst e0
  subst h1
  have e2 := ty39_open h2
  subst e2
  obtain ⟨A3_, k3_, e3⟩ := ty40_form h3
  subst e3
  exact ⟨A0_, k0_, A3_, k3_, rfl, h0, h3⟩
theorem ty42_shut {w : World} (c : D.Memory) {A0 : Option Addr} {k0 : Nat} {A1 : Option Addr} {k1 : Nat} (h0 : ty37.ro w [.slice A0 c.Cells.length k0] c.Cells) (h1 : ty40.ro w [.slice A1 c.Redexes.length k1] c.Redexes) : ty42.ro w [.slice A0 c.Cells.length k0, .int .i64 c.Free, .int .i64 c.Root.Tag, .int .i64 c.Root.At, .slice A1 c.Redexes.length k1] c :=
  ⟨_, _, rfl, h0, ⟨_, _, rfl, rfl, ⟨_, _, rfl, (ty39_shut c.Root ), ⟨_, _, rfl, h1, rfl⟩⟩⟩⟩
theorem ty42_own {w : World} {cs : List Value} {c : D.Memory} {G : List Nat} (h : ty42.own w cs c G) : ∃ A0 k0 A1 k1, cs = [.slice A0 c.Cells.length k0, .int .i64 c.Free, .int .i64 c.Root.Tag, .int .i64 c.Root.At, .slice A1 c.Redexes.length k1] ∧ (All [Own ty37 [.slice A0 c.Cells.length k0] c.Cells, Own ty40 [.slice A1 c.Redexes.length k1] c.Redexes]).A w G := by
  obtain ⟨c0, d0, H0, K0, rfl, rfl, h0, c1, d1, H1, K1, rfl, rfl, h1, c2, d2, H2, K2, rfl, rfl, h2, c3, d3, H3, K3, rfl, rfl, h3, hz, hk⟩ := h
  subst hz; subst hk
  obtain ⟨A0_, k0_, e0⟩ := slFormO h0
  subst e0
  obtain ⟨e1, k1⟩ := h1; subst e1; subst k1
  obtain ⟨e2, g2⟩ := ty39_own h2
  subst e2
  obtain ⟨A3_, k3_, e3⟩ := slFormO h3
  subst e3
  refine ⟨A0_, k0_, A3_, k3_, rfl, ?_⟩
  exact cast (congrArg _ (by simp)) (allApp (allOne h0) (allApp g2 (allOne h3)))
theorem ty42_ownI {w : World} {c : D.Memory} {A0 : Option Addr} {k0 : Nat} {A1 : Option Addr} {k1 : Nat} {G : List Nat} (h : (All [Own ty37 [.slice A0 c.Cells.length k0] c.Cells, Own ty40 [.slice A1 c.Redexes.length k1] c.Redexes]).A w G) : ty42.own w [.slice A0 c.Cells.length k0, .int .i64 c.Free, .int .i64 c.Root.Tag, .int .i64 c.Root.At, .slice A1 c.Redexes.length k1] c G := by
  obtain ⟨G0, R0, rfl, h0, G1, R1, rfl, h1, hz⟩ := h
  have hz' : R1 = [] := hz
  subst hz'
  exact cast (congrArg _ (by simp)) (show ty42.own w [.slice A0 c.Cells.length k0, .int .i64 c.Free, .int .i64 c.Root.Tag, .int .i64 c.Root.At, .slice A1 c.Redexes.length k1] c (_) from ⟨_, _, _, _, rfl, rfl, h0, ⟨_, _, _, _, rfl, rfl, ⟨rfl, rfl⟩, ⟨_, _, _, _, rfl, rfl, (ty39_ownI (c := c.Root) rfl), ⟨_, _, _, _, rfl, rfl, h1, ⟨rfl, rfl⟩⟩⟩⟩⟩)
theorem ty42_openS {W w : World} {B : List Res} {cs : List Value} {c : D.Memory} (h : St W w (Own ty42 cs c :: B)) : ∃ A0 k0 A1 k1, cs = [.slice A0 c.Cells.length k0, .int .i64 c.Free, .int .i64 c.Root.Tag, .int .i64 c.Root.At, .slice A1 c.Redexes.length k1] ∧ St W w ([Own ty37 [.slice A0 c.Cells.length k0] c.Cells, Own ty40 [.slice A1 c.Redexes.length k1] c.Redexes] ++ B) := by
  obtain ⟨G, hA, _⟩ := h.sep.head
  obtain ⟨A0, k0, A1, k1, rfl, _⟩ := ty42_own hA
  refine ⟨A0, k0, A1, k1, rfl, St.splitAll (h.conv fun G hG => ?_)⟩
  obtain ⟨X0, Y0, X1, Y1, he, hh⟩ := ty42_own hG
  simp only [List.cons.injEq, Value.slice.injEq, and_true, true_and] at he
  obtain ⟨⟨rfl, rfl⟩, ⟨rfl, rfl⟩⟩ := he
  exact hh
theorem ty42_shutS {W w : World} {B : List Res} {c : D.Memory} {A0 : Option Addr} {k0 : Nat} {A1 : Option Addr} {k1 : Nat} (h : St W w ([Own ty37 [.slice A0 c.Cells.length k0] c.Cells, Own ty40 [.slice A1 c.Redexes.length k1] c.Redexes] ++ B)) : St W w (Own ty42 [.slice A0 c.Cells.length k0, .int .i64 c.Free, .int .i64 c.Root.Tag, .int .i64 c.Root.At, .slice A1 c.Redexes.length k1] c :: B) := (St.fuseAll h).conv fun _ hG => ty42_ownI hG

def ty45 : Ty D.Word := tMap (fun c => (c.Tag, c.At, ())) (tPair tInt (tPair tInt tUnit))
instance {W : World} : Reads W ty45 := inferInstanceAs (Reads W (tMap (fun c : D.Word => (c.Tag, c.At, ())) (tPair tInt (tPair tInt tUnit))))
theorem ty45_open {w : World} {cs : List Value} {c : D.Word} (h : ty45.ro w cs c) : cs = [.int .i64 c.Tag, .int .i64 c.At] := by
  obtain ⟨c0, d0, rfl, h0, c1, d1, rfl, h1, hz⟩ := h
  subst hz
  subst h0
  subst h1
  rfl
theorem ty45_shut {w : World} (c : D.Word)   : ty45.ro w [.int .i64 c.Tag, .int .i64 c.At] c :=
  ⟨_, _, rfl, rfl, ⟨_, _, rfl, rfl, rfl⟩⟩
theorem ty45_own {w : World} {cs : List Value} {c : D.Word} {G : List Nat} (h : ty45.own w cs c G) : cs = [.int .i64 c.Tag, .int .i64 c.At] ∧ (All []).A w G := by
  obtain ⟨c0, d0, H0, K0, rfl, rfl, h0, c1, d1, H1, K1, rfl, rfl, h1, hz, hk⟩ := h
  subst hz; subst hk
  obtain ⟨e0, k0⟩ := h0; subst e0; subst k0
  obtain ⟨e1, k1⟩ := h1; subst e1; subst k1
  refine ⟨rfl, ?_⟩
  show (All _).A w _
  exact cast (congrArg _ (by simp)) (show (All _).A w ([]) from rfl)
theorem ty45_ownI {w : World} {c : D.Word}  {G : List Nat} (h : (All []).A w G) : ty45.own w [.int .i64 c.Tag, .int .i64 c.At] c G := by
  have hz : G = [] := h
  subst hz
  exact cast (congrArg _ (by simp)) (show ty45.own w [.int .i64 c.Tag, .int .i64 c.At] c (_) from ⟨_, _, _, _, rfl, rfl, ⟨rfl, rfl⟩, ⟨_, _, _, _, rfl, rfl, ⟨rfl, rfl⟩, ⟨rfl, rfl⟩⟩⟩)
theorem ty45_openS {W w : World} {B : List Res} {cs : List Value} {c : D.Word} (h : St W w (Own ty45 cs c :: B)) : cs = [.int .i64 c.Tag, .int .i64 c.At] ∧ St W w ([] ++ B) := by
  obtain ⟨G, hA, _⟩ := h.sep.head
  obtain ⟨rfl, _⟩ := ty45_own hA
  refine ⟨rfl, St.splitAll (h.conv fun G hG => ?_)⟩
  exact (ty45_own hG).2
theorem ty45_shutS {W w : World} {B : List Res} {c : D.Word}  (h : St W w ([] ++ B)) : St W w (Own ty45 [.int .i64 c.Tag, .int .i64 c.At] c :: B) := (St.fuseAll h).conv fun _ hG => ty45_ownI hG

def ty111 : Ty (List D.Word) := tSl 45 ty45
instance {W : World} : Reads W ty111 := inferInstanceAs (Reads W (tSl 45 ty45))
theorem ty111_form {w : World} {cs : List Value} {xs : (List D.Word)} (h : ty111.ro w cs xs) : ∃ A c, cs = [.slice A xs.length c] := slForm h

def ty113 : Ty D.Cell := tMap (fun c => (c.Kind, c.Level, c.Value, c.Data, c.Words, ())) (tPair tInt (tPair tInt (tPair tInt (tPair ty62 (tPair ty111 tUnit)))))
instance {W : World} : Reads W ty113 := inferInstanceAs (Reads W (tMap (fun c : D.Cell => (c.Kind, c.Level, c.Value, c.Data, c.Words, ())) (tPair tInt (tPair tInt (tPair tInt (tPair ty62 (tPair ty111 tUnit)))))))
theorem ty113_open {w : World} {cs : List Value} {c : D.Cell} (h : ty113.ro w cs c) : ∃ A0 k0 A1 k1, cs = [.int .i64 c.Kind, .int .i64 c.Level, .int .i64 c.Value, .slice A0 c.Data.length k0, .slice A1 c.Words.length k1] ∧ ty62.ro w [.slice A0 c.Data.length k0] c.Data ∧ ty111.ro w [.slice A1 c.Words.length k1] c.Words := by
  obtain ⟨c0, d0, rfl, h0, c1, d1, rfl, h1, c2, d2, rfl, h2, c3, d3, rfl, h3, c4, d4, rfl, h4, hz⟩ := h
  subst hz
  subst h0
  subst h1
  subst h2
  obtain ⟨A3_, k3_, e3⟩ := ty62_form h3
  subst e3
  obtain ⟨A4_, k4_, e4⟩ := ty111_form h4
  subst e4
  exact ⟨A3_, k3_, A4_, k4_, rfl, h3, h4⟩
theorem ty113_shut {w : World} (c : D.Cell) {A0 : Option Addr} {k0 : Nat} {A1 : Option Addr} {k1 : Nat} (h0 : ty62.ro w [.slice A0 c.Data.length k0] c.Data) (h1 : ty111.ro w [.slice A1 c.Words.length k1] c.Words) : ty113.ro w [.int .i64 c.Kind, .int .i64 c.Level, .int .i64 c.Value, .slice A0 c.Data.length k0, .slice A1 c.Words.length k1] c :=
  ⟨_, _, rfl, rfl, ⟨_, _, rfl, rfl, ⟨_, _, rfl, rfl, ⟨_, _, rfl, h0, ⟨_, _, rfl, h1, rfl⟩⟩⟩⟩⟩
theorem ty113_own {w : World} {cs : List Value} {c : D.Cell} {G : List Nat} (h : ty113.own w cs c G) : ∃ A0 k0 A1 k1, cs = [.int .i64 c.Kind, .int .i64 c.Level, .int .i64 c.Value, .slice A0 c.Data.length k0, .slice A1 c.Words.length k1] ∧ (All [Own ty62 [.slice A0 c.Data.length k0] c.Data, Own ty111 [.slice A1 c.Words.length k1] c.Words]).A w G := by
  obtain ⟨c0, d0, H0, K0, rfl, rfl, h0, c1, d1, H1, K1, rfl, rfl, h1, c2, d2, H2, K2, rfl, rfl, h2, c3, d3, H3, K3, rfl, rfl, h3, c4, d4, H4, K4, rfl, rfl, h4, hz, hk⟩ := h
  subst hz; subst hk
  obtain ⟨e0, k0⟩ := h0; subst e0; subst k0
  obtain ⟨e1, k1⟩ := h1; subst e1; subst k1
  obtain ⟨e2, k2⟩ := h2; subst e2; subst k2
  obtain ⟨A3_, k3_, e3⟩ := slFormO h3
  subst e3
  obtain ⟨A4_, k4_, e4⟩ := slFormO h4
  subst e4
  refine ⟨A3_, k3_, A4_, k4_, rfl, ?_⟩
  show (All _).A w _
  exact cast (congrArg _ (by simp)) (show (All _).A w (H3 ++ (H4 ++ ([]))) from ⟨_, _, rfl, h3, ⟨_, _, rfl, h4, rfl⟩⟩)
theorem ty113_ownI {w : World} {c : D.Cell} {A0 : Option Addr} {k0 : Nat} {A1 : Option Addr} {k1 : Nat} {G : List Nat} (h : (All [Own ty62 [.slice A0 c.Data.length k0] c.Data, Own ty111 [.slice A1 c.Words.length k1] c.Words]).A w G) : ty113.own w [.int .i64 c.Kind, .int .i64 c.Level, .int .i64 c.Value, .slice A0 c.Data.length k0, .slice A1 c.Words.length k1] c G := by
  obtain ⟨G0, R0, rfl, h0, G1, R1, rfl, h1, hz⟩ := h
  have hz' : R1 = [] := hz
  subst hz'
  exact cast (congrArg _ (by simp)) (show ty113.own w [.int .i64 c.Kind, .int .i64 c.Level, .int .i64 c.Value, .slice A0 c.Data.length k0, .slice A1 c.Words.length k1] c (_) from ⟨_, _, _, _, rfl, rfl, ⟨rfl, rfl⟩, ⟨_, _, _, _, rfl, rfl, ⟨rfl, rfl⟩, ⟨_, _, _, _, rfl, rfl, ⟨rfl, rfl⟩, ⟨_, _, _, _, rfl, rfl, h0, ⟨_, _, _, _, rfl, rfl, h1, ⟨rfl, rfl⟩⟩⟩⟩⟩⟩)
theorem ty113_openS {W w : World} {B : List Res} {cs : List Value} {c : D.Cell} (h : St W w (Own ty113 cs c :: B)) : ∃ A0 k0 A1 k1, cs = [.int .i64 c.Kind, .int .i64 c.Level, .int .i64 c.Value, .slice A0 c.Data.length k0, .slice A1 c.Words.length k1] ∧ St W w ([Own ty62 [.slice A0 c.Data.length k0] c.Data, Own ty111 [.slice A1 c.Words.length k1] c.Words] ++ B) := by
  obtain ⟨G, hA, _⟩ := h.sep.head
  obtain ⟨A0, k0, A1, k1, rfl, _⟩ := ty113_own hA
  refine ⟨A0, k0, A1, k1, rfl, St.splitAll (h.conv fun G hG => ?_)⟩
  obtain ⟨X0, Y0, X1, Y1, he, hh⟩ := ty113_own hG
  simp only [List.cons.injEq, Value.slice.injEq, and_true, true_and] at he
  obtain ⟨⟨rfl, rfl⟩, ⟨rfl, rfl⟩⟩ := he
  exact hh
theorem ty113_shutS {W w : World} {B : List Res} {c : D.Cell} {A0 : Option Addr} {k0 : Nat} {A1 : Option Addr} {k1 : Nat} (h : St W w ([Own ty62 [.slice A0 c.Data.length k0] c.Data, Own ty111 [.slice A1 c.Words.length k1] c.Words] ++ B)) : St W w (Own ty113 [.int .i64 c.Kind, .int .i64 c.Level, .int .i64 c.Value, .slice A0 c.Data.length k0, .slice A1 c.Words.length k1] c :: B) := (St.fuseAll h).conv fun _ hG => ty113_ownI hG

def ty44 : Ty (List D.Cell) := tSl 113 ty113
instance {W : World} : Reads W ty44 := inferInstanceAs (Reads W (tSl 113 ty113))
theorem ty44_form {w : World} {cs : List Value} {xs : (List D.Cell)} (h : ty44.ro w cs xs) : ∃ A c, cs = [.slice A xs.length c] := slForm h

def ty117 : Ty D.Pair := tMap (fun c => (c.A, c.B, ())) (tPair tInt (tPair tInt tUnit))
instance {W : World} : Reads W ty117 := inferInstanceAs (Reads W (tMap (fun c : D.Pair => (c.A, c.B, ())) (tPair tInt (tPair tInt tUnit))))
theorem ty117_open {w : World} {cs : List Value} {c : D.Pair} (h : ty117.ro w cs c) : cs = [.int .i64 c.A, .int .i64 c.B] := by
  obtain ⟨c0, d0, rfl, h0, c1, d1, rfl, h1, hz⟩ := h
  subst hz
  subst h0
  subst h1
  rfl
theorem ty117_shut {w : World} (c : D.Pair)   : ty117.ro w [.int .i64 c.A, .int .i64 c.B] c :=
  ⟨_, _, rfl, rfl, ⟨_, _, rfl, rfl, rfl⟩⟩
theorem ty117_own {w : World} {cs : List Value} {c : D.Pair} {G : List Nat} (h : ty117.own w cs c G) : cs = [.int .i64 c.A, .int .i64 c.B] ∧ (All []).A w G := by
  obtain ⟨c0, d0, H0, K0, rfl, rfl, h0, c1, d1, H1, K1, rfl, rfl, h1, hz, hk⟩ := h
  subst hz; subst hk
  obtain ⟨e0, k0⟩ := h0; subst e0; subst k0
  obtain ⟨e1, k1⟩ := h1; subst e1; subst k1
  refine ⟨rfl, ?_⟩
  show (All _).A w _
  exact cast (congrArg _ (by simp)) (show (All _).A w ([]) from rfl)
theorem ty117_ownI {w : World} {c : D.Pair}  {G : List Nat} (h : (All []).A w G) : ty117.own w [.int .i64 c.A, .int .i64 c.B] c G := by
  have hz : G = [] := h
  subst hz
  exact cast (congrArg _ (by simp)) (show ty117.own w [.int .i64 c.A, .int .i64 c.B] c (_) from ⟨_, _, _, _, rfl, rfl, ⟨rfl, rfl⟩, ⟨_, _, _, _, rfl, rfl, ⟨rfl, rfl⟩, ⟨rfl, rfl⟩⟩⟩)
theorem ty117_openS {W w : World} {B : List Res} {cs : List Value} {c : D.Pair} (h : St W w (Own ty117 cs c :: B)) : cs = [.int .i64 c.A, .int .i64 c.B] ∧ St W w ([] ++ B) := by
  obtain ⟨G, hA, _⟩ := h.sep.head
  obtain ⟨rfl, _⟩ := ty117_own hA
  refine ⟨rfl, St.splitAll (h.conv fun G hG => ?_)⟩
  exact (ty117_own hG).2
theorem ty117_shutS {W w : World} {B : List Res} {c : D.Pair}  (h : St W w ([] ++ B)) : St W w (Own ty117 [.int .i64 c.A, .int .i64 c.B] c :: B) := (St.fuseAll h).conv fun _ hG => ty117_ownI hG

def ty46 : Ty (List D.Pair) := tSl 117 ty117
instance {W : World} : Reads W ty46 := inferInstanceAs (Reads W (tSl 117 ty117))
theorem ty46_form {w : World} {cs : List Value} {xs : (List D.Pair)} (h : ty46.ro w cs xs) : ∃ A c, cs = [.slice A xs.length c] := slForm h

def ty48 : Ty D.Memory := tMap (fun c => (c.Cells, c.Free, c.Root, c.Redexes, ())) (tPair ty44 (tPair tInt (tPair ty45 (tPair ty46 tUnit))))
instance {W : World} : Reads W ty48 := inferInstanceAs (Reads W (tMap (fun c : D.Memory => (c.Cells, c.Free, c.Root, c.Redexes, ())) (tPair ty44 (tPair tInt (tPair ty45 (tPair ty46 tUnit))))))
theorem ty48_open {w : World} {cs : List Value} {c : D.Memory} (h : ty48.ro w cs c) : ∃ A0 k0 A1 k1, cs = [.slice A0 c.Cells.length k0, .int .i64 c.Free, .int .i64 c.Root.Tag, .int .i64 c.Root.At, .slice A1 c.Redexes.length k1] ∧ ty44.ro w [.slice A0 c.Cells.length k0] c.Cells ∧ ty46.ro w [.slice A1 c.Redexes.length k1] c.Redexes := by
  obtain ⟨c0, d0, rfl, h0, c1, d1, rfl, h1, c2, d2, rfl, h2, c3, d3, rfl, h3, hz⟩ := h
  subst hz
  obtain ⟨A0_, k0_, e0⟩ := ty44_form h0
  subst e0
  subst h1
  have e2 := ty45_open h2
  subst e2
  obtain ⟨A3_, k3_, e3⟩ := ty46_form h3
  subst e3
  exact ⟨A0_, k0_, A3_, k3_, rfl, h0, h3⟩
theorem ty48_shut {w : World} (c : D.Memory) {A0 : Option Addr} {k0 : Nat} {A1 : Option Addr} {k1 : Nat} (h0 : ty44.ro w [.slice A0 c.Cells.length k0] c.Cells) (h1 : ty46.ro w [.slice A1 c.Redexes.length k1] c.Redexes) : ty48.ro w [.slice A0 c.Cells.length k0, .int .i64 c.Free, .int .i64 c.Root.Tag, .int .i64 c.Root.At, .slice A1 c.Redexes.length k1] c :=
  ⟨_, _, rfl, h0, ⟨_, _, rfl, rfl, ⟨_, _, rfl, (ty45_shut c.Root ), ⟨_, _, rfl, h1, rfl⟩⟩⟩⟩
theorem ty48_own {w : World} {cs : List Value} {c : D.Memory} {G : List Nat} (h : ty48.own w cs c G) : ∃ A0 k0 A1 k1, cs = [.slice A0 c.Cells.length k0, .int .i64 c.Free, .int .i64 c.Root.Tag, .int .i64 c.Root.At, .slice A1 c.Redexes.length k1] ∧ (All [Own ty44 [.slice A0 c.Cells.length k0] c.Cells, Own ty46 [.slice A1 c.Redexes.length k1] c.Redexes]).A w G := by
  obtain ⟨c0, d0, H0, K0, rfl, rfl, h0, c1, d1, H1, K1, rfl, rfl, h1, c2, d2, H2, K2, rfl, rfl, h2, c3, d3, H3, K3, rfl, rfl, h3, hz, hk⟩ := h
  subst hz; subst hk
  obtain ⟨A0_, k0_, e0⟩ := slFormO h0
  subst e0
  obtain ⟨e1, k1⟩ := h1; subst e1; subst k1
  obtain ⟨e2, g2⟩ := ty45_own h2
  subst e2
  obtain ⟨A3_, k3_, e3⟩ := slFormO h3
  subst e3
  refine ⟨A0_, k0_, A3_, k3_, rfl, ?_⟩
  exact cast (congrArg _ (by simp)) (allApp (allOne h0) (allApp g2 (allOne h3)))
theorem ty48_ownI {w : World} {c : D.Memory} {A0 : Option Addr} {k0 : Nat} {A1 : Option Addr} {k1 : Nat} {G : List Nat} (h : (All [Own ty44 [.slice A0 c.Cells.length k0] c.Cells, Own ty46 [.slice A1 c.Redexes.length k1] c.Redexes]).A w G) : ty48.own w [.slice A0 c.Cells.length k0, .int .i64 c.Free, .int .i64 c.Root.Tag, .int .i64 c.Root.At, .slice A1 c.Redexes.length k1] c G := by
  obtain ⟨G0, R0, rfl, h0, G1, R1, rfl, h1, hz⟩ := h
  have hz' : R1 = [] := hz
  subst hz'
  exact cast (congrArg _ (by simp)) (show ty48.own w [.slice A0 c.Cells.length k0, .int .i64 c.Free, .int .i64 c.Root.Tag, .int .i64 c.Root.At, .slice A1 c.Redexes.length k1] c (_) from ⟨_, _, _, _, rfl, rfl, h0, ⟨_, _, _, _, rfl, rfl, ⟨rfl, rfl⟩, ⟨_, _, _, _, rfl, rfl, (ty45_ownI (c := c.Root) rfl), ⟨_, _, _, _, rfl, rfl, h1, ⟨rfl, rfl⟩⟩⟩⟩⟩)
theorem ty48_openS {W w : World} {B : List Res} {cs : List Value} {c : D.Memory} (h : St W w (Own ty48 cs c :: B)) : ∃ A0 k0 A1 k1, cs = [.slice A0 c.Cells.length k0, .int .i64 c.Free, .int .i64 c.Root.Tag, .int .i64 c.Root.At, .slice A1 c.Redexes.length k1] ∧ St W w ([Own ty44 [.slice A0 c.Cells.length k0] c.Cells, Own ty46 [.slice A1 c.Redexes.length k1] c.Redexes] ++ B) := by
  obtain ⟨G, hA, _⟩ := h.sep.head
  obtain ⟨A0, k0, A1, k1, rfl, _⟩ := ty48_own hA
  refine ⟨A0, k0, A1, k1, rfl, St.splitAll (h.conv fun G hG => ?_)⟩
  obtain ⟨X0, Y0, X1, Y1, he, hh⟩ := ty48_own hG
  simp only [List.cons.injEq, Value.slice.injEq, and_true, true_and] at he
  obtain ⟨⟨rfl, rfl⟩, ⟨rfl, rfl⟩⟩ := he
  exact hh
theorem ty48_shutS {W w : World} {B : List Res} {c : D.Memory} {A0 : Option Addr} {k0 : Nat} {A1 : Option Addr} {k1 : Nat} (h : St W w ([Own ty44 [.slice A0 c.Cells.length k0] c.Cells, Own ty46 [.slice A1 c.Redexes.length k1] c.Redexes] ++ B)) : St W w (Own ty48 [.slice A0 c.Cells.length k0, .int .i64 c.Free, .int .i64 c.Root.Tag, .int .i64 c.Root.At, .slice A1 c.Redexes.length k1] c :: B) := (St.fuseAll h).conv fun _ hG => ty48_ownI hG

def ty146 : Ty D.Port := tMap (fun c => (c.Agent, c.Slot, ())) (tPair tInt (tPair tInt tUnit))
instance {W : World} : Reads W ty146 := inferInstanceAs (Reads W (tMap (fun c : D.Port => (c.Agent, c.Slot, ())) (tPair tInt (tPair tInt tUnit))))
theorem ty146_open {w : World} {cs : List Value} {c : D.Port} (h : ty146.ro w cs c) : cs = [.int .i64 c.Agent, .int .i64 c.Slot] := by
  obtain ⟨c0, d0, rfl, h0, c1, d1, rfl, h1, hz⟩ := h
  subst hz
  subst h0
  subst h1
  rfl
theorem ty146_shut {w : World} (c : D.Port)   : ty146.ro w [.int .i64 c.Agent, .int .i64 c.Slot] c :=
  ⟨_, _, rfl, rfl, ⟨_, _, rfl, rfl, rfl⟩⟩
theorem ty146_own {w : World} {cs : List Value} {c : D.Port} {G : List Nat} (h : ty146.own w cs c G) : cs = [.int .i64 c.Agent, .int .i64 c.Slot] ∧ (All []).A w G := by
  obtain ⟨c0, d0, H0, K0, rfl, rfl, h0, c1, d1, H1, K1, rfl, rfl, h1, hz, hk⟩ := h
  subst hz; subst hk
  obtain ⟨e0, k0⟩ := h0; subst e0; subst k0
  obtain ⟨e1, k1⟩ := h1; subst e1; subst k1
  refine ⟨rfl, ?_⟩
  show (All _).A w _
  exact cast (congrArg _ (by simp)) (show (All _).A w ([]) from rfl)
theorem ty146_ownI {w : World} {c : D.Port}  {G : List Nat} (h : (All []).A w G) : ty146.own w [.int .i64 c.Agent, .int .i64 c.Slot] c G := by
  have hz : G = [] := h
  subst hz
  exact cast (congrArg _ (by simp)) (show ty146.own w [.int .i64 c.Agent, .int .i64 c.Slot] c (_) from ⟨_, _, _, _, rfl, rfl, ⟨rfl, rfl⟩, ⟨_, _, _, _, rfl, rfl, ⟨rfl, rfl⟩, ⟨rfl, rfl⟩⟩⟩)
theorem ty146_openS {W w : World} {B : List Res} {cs : List Value} {c : D.Port} (h : St W w (Own ty146 cs c :: B)) : cs = [.int .i64 c.Agent, .int .i64 c.Slot] ∧ St W w ([] ++ B) := by
  obtain ⟨G, hA, _⟩ := h.sep.head
  obtain ⟨rfl, _⟩ := ty146_own hA
  refine ⟨rfl, St.splitAll (h.conv fun G hG => ?_)⟩
  exact (ty146_own hG).2
theorem ty146_shutS {W w : World} {B : List Res} {c : D.Port}  (h : St W w ([] ++ B)) : St W w (Own ty146 [.int .i64 c.Agent, .int .i64 c.Slot] c :: B) := (St.fuseAll h).conv fun _ hG => ty146_ownI hG

def ty140 : Ty (List D.Port) := tSl 146 ty146
instance {W : World} : Reads W ty140 := inferInstanceAs (Reads W (tSl 146 ty146))
theorem ty140_form {w : World} {cs : List Value} {xs : (List D.Port)} (h : ty140.ro w cs xs) : ∃ A c, cs = [.slice A xs.length c] := slForm h

def ty142 : Ty D.Agent := tMap (fun c => (c.Kind, c.Level, c.Value, c.Data, c.Ports, ())) (tPair tInt (tPair tInt (tPair tInt (tPair ty62 (tPair ty140 tUnit)))))
instance {W : World} : Reads W ty142 := inferInstanceAs (Reads W (tMap (fun c : D.Agent => (c.Kind, c.Level, c.Value, c.Data, c.Ports, ())) (tPair tInt (tPair tInt (tPair tInt (tPair ty62 (tPair ty140 tUnit)))))))
theorem ty142_open {w : World} {cs : List Value} {c : D.Agent} (h : ty142.ro w cs c) : ∃ A0 k0 A1 k1, cs = [.int .i64 c.Kind, .int .i64 c.Level, .int .i64 c.Value, .slice A0 c.Data.length k0, .slice A1 c.Ports.length k1] ∧ ty62.ro w [.slice A0 c.Data.length k0] c.Data ∧ ty140.ro w [.slice A1 c.Ports.length k1] c.Ports := by
  obtain ⟨c0, d0, rfl, h0, c1, d1, rfl, h1, c2, d2, rfl, h2, c3, d3, rfl, h3, c4, d4, rfl, h4, hz⟩ := h
  subst hz
  subst h0
  subst h1
  subst h2
  obtain ⟨A3_, k3_, e3⟩ := ty62_form h3
  subst e3
  obtain ⟨A4_, k4_, e4⟩ := ty140_form h4
  subst e4
  exact ⟨A3_, k3_, A4_, k4_, rfl, h3, h4⟩
theorem ty142_shut {w : World} (c : D.Agent) {A0 : Option Addr} {k0 : Nat} {A1 : Option Addr} {k1 : Nat} (h0 : ty62.ro w [.slice A0 c.Data.length k0] c.Data) (h1 : ty140.ro w [.slice A1 c.Ports.length k1] c.Ports) : ty142.ro w [.int .i64 c.Kind, .int .i64 c.Level, .int .i64 c.Value, .slice A0 c.Data.length k0, .slice A1 c.Ports.length k1] c :=
  ⟨_, _, rfl, rfl, ⟨_, _, rfl, rfl, ⟨_, _, rfl, rfl, ⟨_, _, rfl, h0, ⟨_, _, rfl, h1, rfl⟩⟩⟩⟩⟩
theorem ty142_own {w : World} {cs : List Value} {c : D.Agent} {G : List Nat} (h : ty142.own w cs c G) : ∃ A0 k0 A1 k1, cs = [.int .i64 c.Kind, .int .i64 c.Level, .int .i64 c.Value, .slice A0 c.Data.length k0, .slice A1 c.Ports.length k1] ∧ (All [Own ty62 [.slice A0 c.Data.length k0] c.Data, Own ty140 [.slice A1 c.Ports.length k1] c.Ports]).A w G := by
  obtain ⟨c0, d0, H0, K0, rfl, rfl, h0, c1, d1, H1, K1, rfl, rfl, h1, c2, d2, H2, K2, rfl, rfl, h2, c3, d3, H3, K3, rfl, rfl, h3, c4, d4, H4, K4, rfl, rfl, h4, hz, hk⟩ := h
  subst hz; subst hk
  obtain ⟨e0, k0⟩ := h0; subst e0; subst k0
  obtain ⟨e1, k1⟩ := h1; subst e1; subst k1
  obtain ⟨e2, k2⟩ := h2; subst e2; subst k2
  obtain ⟨A3_, k3_, e3⟩ := slFormO h3
  subst e3
  obtain ⟨A4_, k4_, e4⟩ := slFormO h4
  subst e4
  refine ⟨A3_, k3_, A4_, k4_, rfl, ?_⟩
  show (All _).A w _
  exact cast (congrArg _ (by simp)) (show (All _).A w (H3 ++ (H4 ++ ([]))) from ⟨_, _, rfl, h3, ⟨_, _, rfl, h4, rfl⟩⟩)
theorem ty142_ownI {w : World} {c : D.Agent} {A0 : Option Addr} {k0 : Nat} {A1 : Option Addr} {k1 : Nat} {G : List Nat} (h : (All [Own ty62 [.slice A0 c.Data.length k0] c.Data, Own ty140 [.slice A1 c.Ports.length k1] c.Ports]).A w G) : ty142.own w [.int .i64 c.Kind, .int .i64 c.Level, .int .i64 c.Value, .slice A0 c.Data.length k0, .slice A1 c.Ports.length k1] c G := by
  obtain ⟨G0, R0, rfl, h0, G1, R1, rfl, h1, hz⟩ := h
  have hz' : R1 = [] := hz
  subst hz'
  exact cast (congrArg _ (by simp)) (show ty142.own w [.int .i64 c.Kind, .int .i64 c.Level, .int .i64 c.Value, .slice A0 c.Data.length k0, .slice A1 c.Ports.length k1] c (_) from ⟨_, _, _, _, rfl, rfl, ⟨rfl, rfl⟩, ⟨_, _, _, _, rfl, rfl, ⟨rfl, rfl⟩, ⟨_, _, _, _, rfl, rfl, ⟨rfl, rfl⟩, ⟨_, _, _, _, rfl, rfl, h0, ⟨_, _, _, _, rfl, rfl, h1, ⟨rfl, rfl⟩⟩⟩⟩⟩⟩)
theorem ty142_openS {W w : World} {B : List Res} {cs : List Value} {c : D.Agent} (h : St W w (Own ty142 cs c :: B)) : ∃ A0 k0 A1 k1, cs = [.int .i64 c.Kind, .int .i64 c.Level, .int .i64 c.Value, .slice A0 c.Data.length k0, .slice A1 c.Ports.length k1] ∧ St W w ([Own ty62 [.slice A0 c.Data.length k0] c.Data, Own ty140 [.slice A1 c.Ports.length k1] c.Ports] ++ B) := by
  obtain ⟨G, hA, _⟩ := h.sep.head
  obtain ⟨A0, k0, A1, k1, rfl, _⟩ := ty142_own hA
  refine ⟨A0, k0, A1, k1, rfl, St.splitAll (h.conv fun G hG => ?_)⟩
  obtain ⟨X0, Y0, X1, Y1, he, hh⟩ := ty142_own hG
  simp only [List.cons.injEq, Value.slice.injEq, and_true, true_and] at he
  obtain ⟨⟨rfl, rfl⟩, ⟨rfl, rfl⟩⟩ := he
  exact hh
theorem ty142_shutS {W w : World} {B : List Res} {c : D.Agent} {A0 : Option Addr} {k0 : Nat} {A1 : Option Addr} {k1 : Nat} (h : St W w ([Own ty62 [.slice A0 c.Data.length k0] c.Data, Own ty140 [.slice A1 c.Ports.length k1] c.Ports] ++ B)) : St W w (Own ty142 [.int .i64 c.Kind, .int .i64 c.Level, .int .i64 c.Value, .slice A0 c.Data.length k0, .slice A1 c.Ports.length k1] c :: B) := (St.fuseAll h).conv fun _ hG => ty142_ownI hG

def ty55 : Ty (List D.Agent) := tSl 142 ty142
instance {W : World} : Reads W ty55 := inferInstanceAs (Reads W (tSl 142 ty142))
theorem ty55_form {w : World} {cs : List Value} {xs : (List D.Agent)} (h : ty55.ro w cs xs) : ∃ A c, cs = [.slice A xs.length c] := slForm h

def ty57 : Ty D.Net := tMap (fun c => (c.Agents, ())) (tPair ty55 tUnit)
instance {W : World} : Reads W ty57 := inferInstanceAs (Reads W (tMap (fun c : D.Net => (c.Agents, ())) (tPair ty55 tUnit)))
theorem ty57_open {w : World} {cs : List Value} {c : D.Net} (h : ty57.ro w cs c) : ∃ A0 k0, cs = [.slice A0 c.Agents.length k0] ∧ ty55.ro w [.slice A0 c.Agents.length k0] c.Agents := by
  obtain ⟨c0, d0, rfl, h0, hz⟩ := h
  subst hz
  obtain ⟨A0_, k0_, e0⟩ := ty55_form h0
  subst e0
  exact ⟨A0_, k0_, rfl, h0⟩
theorem ty57_shut {w : World} (c : D.Net) {A0 : Option Addr} {k0 : Nat} (h0 : ty55.ro w [.slice A0 c.Agents.length k0] c.Agents) : ty57.ro w [.slice A0 c.Agents.length k0] c :=
  ⟨_, _, rfl, h0, rfl⟩
theorem ty57_own {w : World} {cs : List Value} {c : D.Net} {G : List Nat} (h : ty57.own w cs c G) : ∃ A0 k0, cs = [.slice A0 c.Agents.length k0] ∧ (All [Own ty55 [.slice A0 c.Agents.length k0] c.Agents]).A w G := by
  obtain ⟨c0, d0, H0, K0, rfl, rfl, h0, hz, hk⟩ := h
  subst hz; subst hk
  obtain ⟨A0_, k0_, e0⟩ := slFormO h0
  subst e0
  refine ⟨A0_, k0_, rfl, ?_⟩
  show (All _).A w _
  exact cast (congrArg _ (by simp)) (show (All _).A w (H0 ++ ([])) from ⟨_, _, rfl, h0, rfl⟩)
theorem ty57_ownI {w : World} {c : D.Net} {A0 : Option Addr} {k0 : Nat} {G : List Nat} (h : (All [Own ty55 [.slice A0 c.Agents.length k0] c.Agents]).A w G) : ty57.own w [.slice A0 c.Agents.length k0] c G := by
  obtain ⟨G0, R0, rfl, h0, hz⟩ := h
  have hz' : R0 = [] := hz
  subst hz'
  exact cast (congrArg _ (by simp)) (show ty57.own w [.slice A0 c.Agents.length k0] c (_) from ⟨_, _, _, _, rfl, rfl, h0, ⟨rfl, rfl⟩⟩)
theorem ty57_openS {W w : World} {B : List Res} {cs : List Value} {c : D.Net} (h : St W w (Own ty57 cs c :: B)) : ∃ A0 k0, cs = [.slice A0 c.Agents.length k0] ∧ St W w ([Own ty55 [.slice A0 c.Agents.length k0] c.Agents] ++ B) := by
  obtain ⟨G, hA, _⟩ := h.sep.head
  obtain ⟨A0, k0, rfl, _⟩ := ty57_own hA
  refine ⟨A0, k0, rfl, St.splitAll (h.conv fun G hG => ?_)⟩
  obtain ⟨X0, Y0, he, hh⟩ := ty57_own hG
  simp only [List.cons.injEq, Value.slice.injEq, and_true, true_and] at he
  obtain ⟨rfl, rfl⟩ := he
  exact hh
theorem ty57_shutS {W w : World} {B : List Res} {c : D.Net} {A0 : Option Addr} {k0 : Nat} (h : St W w ([Own ty55 [.slice A0 c.Agents.length k0] c.Agents] ++ B)) : St W w (Own ty57 [.slice A0 c.Agents.length k0] c :: B) := (St.fuseAll h).conv fun _ hG => ty57_ownI hG

def ty301 : Ty D.Port := tMap (fun c => (c.Agent, c.Slot, ())) (tPair tInt (tPair tInt tUnit))
instance {W : World} : Reads W ty301 := inferInstanceAs (Reads W (tMap (fun c : D.Port => (c.Agent, c.Slot, ())) (tPair tInt (tPair tInt tUnit))))
theorem ty301_open {w : World} {cs : List Value} {c : D.Port} (h : ty301.ro w cs c) : cs = [.int .i64 c.Agent, .int .i64 c.Slot] := by
  obtain ⟨c0, d0, rfl, h0, c1, d1, rfl, h1, hz⟩ := h
  subst hz
  subst h0
  subst h1
  rfl
theorem ty301_shut {w : World} (c : D.Port)   : ty301.ro w [.int .i64 c.Agent, .int .i64 c.Slot] c :=
  ⟨_, _, rfl, rfl, ⟨_, _, rfl, rfl, rfl⟩⟩
theorem ty301_own {w : World} {cs : List Value} {c : D.Port} {G : List Nat} (h : ty301.own w cs c G) : cs = [.int .i64 c.Agent, .int .i64 c.Slot] ∧ (All []).A w G := by
  obtain ⟨c0, d0, H0, K0, rfl, rfl, h0, c1, d1, H1, K1, rfl, rfl, h1, hz, hk⟩ := h
  subst hz; subst hk
  obtain ⟨e0, k0⟩ := h0; subst e0; subst k0
  obtain ⟨e1, k1⟩ := h1; subst e1; subst k1
  refine ⟨rfl, ?_⟩
  show (All _).A w _
  exact cast (congrArg _ (by simp)) (show (All _).A w ([]) from rfl)
theorem ty301_ownI {w : World} {c : D.Port}  {G : List Nat} (h : (All []).A w G) : ty301.own w [.int .i64 c.Agent, .int .i64 c.Slot] c G := by
  have hz : G = [] := h
  subst hz
  exact cast (congrArg _ (by simp)) (show ty301.own w [.int .i64 c.Agent, .int .i64 c.Slot] c (_) from ⟨_, _, _, _, rfl, rfl, ⟨rfl, rfl⟩, ⟨_, _, _, _, rfl, rfl, ⟨rfl, rfl⟩, ⟨rfl, rfl⟩⟩⟩)
theorem ty301_openS {W w : World} {B : List Res} {cs : List Value} {c : D.Port} (h : St W w (Own ty301 cs c :: B)) : cs = [.int .i64 c.Agent, .int .i64 c.Slot] ∧ St W w ([] ++ B) := by
  obtain ⟨G, hA, _⟩ := h.sep.head
  obtain ⟨rfl, _⟩ := ty301_own hA
  refine ⟨rfl, St.splitAll (h.conv fun G hG => ?_)⟩
  exact (ty301_own hG).2
theorem ty301_shutS {W w : World} {B : List Res} {c : D.Port}  (h : St W w ([] ++ B)) : St W w (Own ty301 [.int .i64 c.Agent, .int .i64 c.Slot] c :: B) := (St.fuseAll h).conv fun _ hG => ty301_ownI hG

def ty200 : Ty (List D.Port) := tSl 301 ty301
instance {W : World} : Reads W ty200 := inferInstanceAs (Reads W (tSl 301 ty301))
theorem ty200_form {w : World} {cs : List Value} {xs : (List D.Port)} (h : ty200.ro w cs xs) : ∃ A c, cs = [.slice A xs.length c] := slForm h

def ty202 : Ty D.Agent := tMap (fun c => (c.Kind, c.Level, c.Value, c.Data, c.Ports, ())) (tPair tInt (tPair tInt (tPair tInt (tPair ty62 (tPair ty200 tUnit)))))
instance {W : World} : Reads W ty202 := inferInstanceAs (Reads W (tMap (fun c : D.Agent => (c.Kind, c.Level, c.Value, c.Data, c.Ports, ())) (tPair tInt (tPair tInt (tPair tInt (tPair ty62 (tPair ty200 tUnit)))))))
theorem ty202_open {w : World} {cs : List Value} {c : D.Agent} (h : ty202.ro w cs c) : ∃ A0 k0 A1 k1, cs = [.int .i64 c.Kind, .int .i64 c.Level, .int .i64 c.Value, .slice A0 c.Data.length k0, .slice A1 c.Ports.length k1] ∧ ty62.ro w [.slice A0 c.Data.length k0] c.Data ∧ ty200.ro w [.slice A1 c.Ports.length k1] c.Ports := by
  obtain ⟨c0, d0, rfl, h0, c1, d1, rfl, h1, c2, d2, rfl, h2, c3, d3, rfl, h3, c4, d4, rfl, h4, hz⟩ := h
  subst hz
  subst h0
  subst h1
  subst h2
  obtain ⟨A3_, k3_, e3⟩ := ty62_form h3
  subst e3
  obtain ⟨A4_, k4_, e4⟩ := ty200_form h4
  subst e4
  exact ⟨A3_, k3_, A4_, k4_, rfl, h3, h4⟩
theorem ty202_shut {w : World} (c : D.Agent) {A0 : Option Addr} {k0 : Nat} {A1 : Option Addr} {k1 : Nat} (h0 : ty62.ro w [.slice A0 c.Data.length k0] c.Data) (h1 : ty200.ro w [.slice A1 c.Ports.length k1] c.Ports) : ty202.ro w [.int .i64 c.Kind, .int .i64 c.Level, .int .i64 c.Value, .slice A0 c.Data.length k0, .slice A1 c.Ports.length k1] c :=
  ⟨_, _, rfl, rfl, ⟨_, _, rfl, rfl, ⟨_, _, rfl, rfl, ⟨_, _, rfl, h0, ⟨_, _, rfl, h1, rfl⟩⟩⟩⟩⟩
theorem ty202_own {w : World} {cs : List Value} {c : D.Agent} {G : List Nat} (h : ty202.own w cs c G) : ∃ A0 k0 A1 k1, cs = [.int .i64 c.Kind, .int .i64 c.Level, .int .i64 c.Value, .slice A0 c.Data.length k0, .slice A1 c.Ports.length k1] ∧ (All [Own ty62 [.slice A0 c.Data.length k0] c.Data, Own ty200 [.slice A1 c.Ports.length k1] c.Ports]).A w G := by
  obtain ⟨c0, d0, H0, K0, rfl, rfl, h0, c1, d1, H1, K1, rfl, rfl, h1, c2, d2, H2, K2, rfl, rfl, h2, c3, d3, H3, K3, rfl, rfl, h3, c4, d4, H4, K4, rfl, rfl, h4, hz, hk⟩ := h
  subst hz; subst hk
  obtain ⟨e0, k0⟩ := h0; subst e0; subst k0
  obtain ⟨e1, k1⟩ := h1; subst e1; subst k1
  obtain ⟨e2, k2⟩ := h2; subst e2; subst k2
  obtain ⟨A3_, k3_, e3⟩ := slFormO h3
  subst e3
  obtain ⟨A4_, k4_, e4⟩ := slFormO h4
  subst e4
  refine ⟨A3_, k3_, A4_, k4_, rfl, ?_⟩
  show (All _).A w _
  exact cast (congrArg _ (by simp)) (show (All _).A w (H3 ++ (H4 ++ ([]))) from ⟨_, _, rfl, h3, ⟨_, _, rfl, h4, rfl⟩⟩)
theorem ty202_ownI {w : World} {c : D.Agent} {A0 : Option Addr} {k0 : Nat} {A1 : Option Addr} {k1 : Nat} {G : List Nat} (h : (All [Own ty62 [.slice A0 c.Data.length k0] c.Data, Own ty200 [.slice A1 c.Ports.length k1] c.Ports]).A w G) : ty202.own w [.int .i64 c.Kind, .int .i64 c.Level, .int .i64 c.Value, .slice A0 c.Data.length k0, .slice A1 c.Ports.length k1] c G := by
  obtain ⟨G0, R0, rfl, h0, G1, R1, rfl, h1, hz⟩ := h
  have hz' : R1 = [] := hz
  subst hz'
  exact cast (congrArg _ (by simp)) (show ty202.own w [.int .i64 c.Kind, .int .i64 c.Level, .int .i64 c.Value, .slice A0 c.Data.length k0, .slice A1 c.Ports.length k1] c (_) from ⟨_, _, _, _, rfl, rfl, ⟨rfl, rfl⟩, ⟨_, _, _, _, rfl, rfl, ⟨rfl, rfl⟩, ⟨_, _, _, _, rfl, rfl, ⟨rfl, rfl⟩, ⟨_, _, _, _, rfl, rfl, h0, ⟨_, _, _, _, rfl, rfl, h1, ⟨rfl, rfl⟩⟩⟩⟩⟩⟩)
theorem ty202_openS {W w : World} {B : List Res} {cs : List Value} {c : D.Agent} (h : St W w (Own ty202 cs c :: B)) : ∃ A0 k0 A1 k1, cs = [.int .i64 c.Kind, .int .i64 c.Level, .int .i64 c.Value, .slice A0 c.Data.length k0, .slice A1 c.Ports.length k1] ∧ St W w ([Own ty62 [.slice A0 c.Data.length k0] c.Data, Own ty200 [.slice A1 c.Ports.length k1] c.Ports] ++ B) := by
  obtain ⟨G, hA, _⟩ := h.sep.head
  obtain ⟨A0, k0, A1, k1, rfl, _⟩ := ty202_own hA
  refine ⟨A0, k0, A1, k1, rfl, St.splitAll (h.conv fun G hG => ?_)⟩
  obtain ⟨X0, Y0, X1, Y1, he, hh⟩ := ty202_own hG
  simp only [List.cons.injEq, Value.slice.injEq, and_true, true_and] at he
  obtain ⟨⟨rfl, rfl⟩, ⟨rfl, rfl⟩⟩ := he
  exact hh
theorem ty202_shutS {W w : World} {B : List Res} {c : D.Agent} {A0 : Option Addr} {k0 : Nat} {A1 : Option Addr} {k1 : Nat} (h : St W w ([Own ty62 [.slice A0 c.Data.length k0] c.Data, Own ty200 [.slice A1 c.Ports.length k1] c.Ports] ++ B)) : St W w (Own ty202 [.int .i64 c.Kind, .int .i64 c.Level, .int .i64 c.Value, .slice A0 c.Data.length k0, .slice A1 c.Ports.length k1] c :: B) := (St.fuseAll h).conv fun _ hG => ty202_ownI hG

def ty68 : Ty (List D.Agent) := tSl 202 ty202
instance {W : World} : Reads W ty68 := inferInstanceAs (Reads W (tSl 202 ty202))
theorem ty68_form {w : World} {cs : List Value} {xs : (List D.Agent)} (h : ty68.ro w cs xs) : ∃ A c, cs = [.slice A xs.length c] := slForm h

def ty70 : Ty D.Net := tMap (fun c => (c.Agents, ())) (tPair ty68 tUnit)
instance {W : World} : Reads W ty70 := inferInstanceAs (Reads W (tMap (fun c : D.Net => (c.Agents, ())) (tPair ty68 tUnit)))
theorem ty70_open {w : World} {cs : List Value} {c : D.Net} (h : ty70.ro w cs c) : ∃ A0 k0, cs = [.slice A0 c.Agents.length k0] ∧ ty68.ro w [.slice A0 c.Agents.length k0] c.Agents := by
  obtain ⟨c0, d0, rfl, h0, hz⟩ := h
  subst hz
  obtain ⟨A0_, k0_, e0⟩ := ty68_form h0
  subst e0
  exact ⟨A0_, k0_, rfl, h0⟩
theorem ty70_shut {w : World} (c : D.Net) {A0 : Option Addr} {k0 : Nat} (h0 : ty68.ro w [.slice A0 c.Agents.length k0] c.Agents) : ty70.ro w [.slice A0 c.Agents.length k0] c :=
  ⟨_, _, rfl, h0, rfl⟩
theorem ty70_own {w : World} {cs : List Value} {c : D.Net} {G : List Nat} (h : ty70.own w cs c G) : ∃ A0 k0, cs = [.slice A0 c.Agents.length k0] ∧ (All [Own ty68 [.slice A0 c.Agents.length k0] c.Agents]).A w G := by
  obtain ⟨c0, d0, H0, K0, rfl, rfl, h0, hz, hk⟩ := h
  subst hz; subst hk
  obtain ⟨A0_, k0_, e0⟩ := slFormO h0
  subst e0
  refine ⟨A0_, k0_, rfl, ?_⟩
  show (All _).A w _
  exact cast (congrArg _ (by simp)) (show (All _).A w (H0 ++ ([])) from ⟨_, _, rfl, h0, rfl⟩)
theorem ty70_ownI {w : World} {c : D.Net} {A0 : Option Addr} {k0 : Nat} {G : List Nat} (h : (All [Own ty68 [.slice A0 c.Agents.length k0] c.Agents]).A w G) : ty70.own w [.slice A0 c.Agents.length k0] c G := by
  obtain ⟨G0, R0, rfl, h0, hz⟩ := h
  have hz' : R0 = [] := hz
  subst hz'
  exact cast (congrArg _ (by simp)) (show ty70.own w [.slice A0 c.Agents.length k0] c (_) from ⟨_, _, _, _, rfl, rfl, h0, ⟨rfl, rfl⟩⟩)
theorem ty70_openS {W w : World} {B : List Res} {cs : List Value} {c : D.Net} (h : St W w (Own ty70 cs c :: B)) : ∃ A0 k0, cs = [.slice A0 c.Agents.length k0] ∧ St W w ([Own ty68 [.slice A0 c.Agents.length k0] c.Agents] ++ B) := by
  obtain ⟨G, hA, _⟩ := h.sep.head
  obtain ⟨A0, k0, rfl, _⟩ := ty70_own hA
  refine ⟨A0, k0, rfl, St.splitAll (h.conv fun G hG => ?_)⟩
  obtain ⟨X0, Y0, he, hh⟩ := ty70_own hG
  simp only [List.cons.injEq, Value.slice.injEq, and_true, true_and] at he
  obtain ⟨rfl, rfl⟩ := he
  exact hh
theorem ty70_shutS {W w : World} {B : List Res} {c : D.Net} {A0 : Option Addr} {k0 : Nat} (h : St W w ([Own ty68 [.slice A0 c.Agents.length k0] c.Agents] ++ B)) : St W w (Own ty70 [.slice A0 c.Agents.length k0] c :: B) := (St.fuseAll h).conv fun _ hG => ty70_ownI hG

def ty109 : Ty (List (Int × Int)) := tMp (Value.int .i64) (Value.int .i64)
instance {W : World} : Reads W ty109 := inferInstanceAs (Reads W (tMp (Value.int .i64) (Value.int .i64)))
theorem ty109_form {w : World} {cs : List Value} {xs : (List (Int × Int))} (h : ty109.ro w cs xs) : ∃ g, cs = [.map (some g)] := mpForm h
theorem mapOk109 : MapOk Tryz.prog 109 2 2 (Value.int .i64) (Value.int .i64) (0 : Int) := ⟨by kernel_rfl, by kernel_rfl, (KeyOk.int (by kernel_rfl))⟩

def enc146 : D.Port → Value := fun c => .agg ⟨[.int .i64 c.Agent, .int .i64 c.Slot]⟩
def ty189 : Ty (List (Int × D.Port)) := tMp (Value.int .i64) enc146
instance {W : World} : Reads W ty189 := inferInstanceAs (Reads W (tMp (Value.int .i64) enc146))
theorem ty189_form {w : World} {cs : List Value} {xs : (List (Int × D.Port))} (h : ty189.ro w cs xs) : ∃ g, cs = [.map (some g)] := mpForm h
theorem mapOk189 : MapOk Tryz.prog 189 2 146 (Value.int .i64) enc146 (⟨(0 : Int), (0 : Int)⟩ : D.Port) := ⟨by kernel_rfl, by kernel_rfl, (KeyOk.int (by kernel_rfl))⟩

def ty209 : Ty D.Wire := tMap (fun c => (c.A, c.B, ())) (tPair ty146 (tPair ty146 tUnit))
instance {W : World} : Reads W ty209 := inferInstanceAs (Reads W (tMap (fun c : D.Wire => (c.A, c.B, ())) (tPair ty146 (tPair ty146 tUnit))))
theorem ty209_open {w : World} {cs : List Value} {c : D.Wire} (h : ty209.ro w cs c) : cs = [.int .i64 c.A.Agent, .int .i64 c.A.Slot, .int .i64 c.B.Agent, .int .i64 c.B.Slot] := by
  obtain ⟨c0, d0, rfl, h0, c1, d1, rfl, h1, hz⟩ := h
  subst hz
  have e0 := ty146_open h0
  subst e0
  have e1 := ty146_open h1
  subst e1
  rfl
theorem ty209_shut {w : World} (c : D.Wire)   : ty209.ro w [.int .i64 c.A.Agent, .int .i64 c.A.Slot, .int .i64 c.B.Agent, .int .i64 c.B.Slot] c :=
  ⟨_, _, rfl, (ty146_shut c.A ), ⟨_, _, rfl, (ty146_shut c.B ), rfl⟩⟩
theorem ty209_own {w : World} {cs : List Value} {c : D.Wire} {G : List Nat} (h : ty209.own w cs c G) : cs = [.int .i64 c.A.Agent, .int .i64 c.A.Slot, .int .i64 c.B.Agent, .int .i64 c.B.Slot] ∧ (All []).A w G := by
  obtain ⟨c0, d0, H0, K0, rfl, rfl, h0, c1, d1, H1, K1, rfl, rfl, h1, hz, hk⟩ := h
  subst hz; subst hk
  obtain ⟨e0, g0⟩ := ty146_own h0
  subst e0
  obtain ⟨e1, g1⟩ := ty146_own h1
  subst e1
  refine ⟨rfl, ?_⟩
  exact cast (congrArg _ (by simp)) (allApp g0 g1)
theorem ty209_ownI {w : World} {c : D.Wire}  {G : List Nat} (h : (All []).A w G) : ty209.own w [.int .i64 c.A.Agent, .int .i64 c.A.Slot, .int .i64 c.B.Agent, .int .i64 c.B.Slot] c G := by
  have hz : G = [] := h
  subst hz
  exact cast (congrArg _ (by simp)) (show ty209.own w [.int .i64 c.A.Agent, .int .i64 c.A.Slot, .int .i64 c.B.Agent, .int .i64 c.B.Slot] c (_) from ⟨_, _, _, _, rfl, rfl, (ty146_ownI (c := c.A) rfl), ⟨_, _, _, _, rfl, rfl, (ty146_ownI (c := c.B) rfl), ⟨rfl, rfl⟩⟩⟩)
theorem ty209_openS {W w : World} {B : List Res} {cs : List Value} {c : D.Wire} (h : St W w (Own ty209 cs c :: B)) : cs = [.int .i64 c.A.Agent, .int .i64 c.A.Slot, .int .i64 c.B.Agent, .int .i64 c.B.Slot] ∧ St W w ([] ++ B) := by
  obtain ⟨G, hA, _⟩ := h.sep.head
  obtain ⟨rfl, _⟩ := ty209_own hA
  refine ⟨rfl, St.splitAll (h.conv fun G hG => ?_)⟩
  exact (ty209_own hG).2
theorem ty209_shutS {W w : World} {B : List Res} {c : D.Wire}  (h : St W w ([] ++ B)) : St W w (Own ty209 [.int .i64 c.A.Agent, .int .i64 c.A.Slot, .int .i64 c.B.Agent, .int .i64 c.B.Slot] c :: B) := (St.fuseAll h).conv fun _ hG => ty209_ownI hG

def ty206 : Ty (List D.Wire) := tSl 209 ty209
instance {W : World} : Reads W ty206 := inferInstanceAs (Reads W (tSl 209 ty209))
theorem ty206_form {w : World} {cs : List Value} {xs : (List D.Wire)} (h : ty206.ro w cs xs) : ∃ A c, cs = [.slice A xs.length c] := slForm h

def ty225 : Ty (List (List Int)) := tSl 62 ty62
instance {W : World} : Reads W ty225 := inferInstanceAs (Reads W (tSl 62 ty62))
theorem ty225_form {w : World} {cs : List Value} {xs : (List (List Int))} (h : ty225.ro w cs xs) : ∃ A c, cs = [.slice A xs.length c] := slForm h

def ty227 : Ty D.l27Links := tMap (fun c => (c.agents, c.ports, c.cells, c.vars, c.ends, c.pairs, ())) (tPair ty55 (tPair ty140 (tPair ty225 (tPair ty225 (tPair ty225 (tPair ty225 tUnit))))))
instance {W : World} : Reads W ty227 := inferInstanceAs (Reads W (tMap (fun c : D.l27Links => (c.agents, c.ports, c.cells, c.vars, c.ends, c.pairs, ())) (tPair ty55 (tPair ty140 (tPair ty225 (tPair ty225 (tPair ty225 (tPair ty225 tUnit))))))))
theorem ty227_open {w : World} {cs : List Value} {c : D.l27Links} (h : ty227.ro w cs c) : ∃ A0 k0 A1 k1 A2 k2 A3 k3 A4 k4 A5 k5, cs = [.slice A0 c.agents.length k0, .slice A1 c.ports.length k1, .slice A2 c.cells.length k2, .slice A3 c.vars.length k3, .slice A4 c.ends.length k4, .slice A5 c.pairs.length k5] ∧ ty55.ro w [.slice A0 c.agents.length k0] c.agents ∧ ty140.ro w [.slice A1 c.ports.length k1] c.ports ∧ ty225.ro w [.slice A2 c.cells.length k2] c.cells ∧ ty225.ro w [.slice A3 c.vars.length k3] c.vars ∧ ty225.ro w [.slice A4 c.ends.length k4] c.ends ∧ ty225.ro w [.slice A5 c.pairs.length k5] c.pairs := by
  obtain ⟨c0, d0, rfl, h0, c1, d1, rfl, h1, c2, d2, rfl, h2, c3, d3, rfl, h3, c4, d4, rfl, h4, c5, d5, rfl, h5, hz⟩ := h
  subst hz
  obtain ⟨A0_, k0_, e0⟩ := ty55_form h0
  subst e0
  obtain ⟨A1_, k1_, e1⟩ := ty140_form h1
  subst e1
  obtain ⟨A2_, k2_, e2⟩ := ty225_form h2
  subst e2
  obtain ⟨A3_, k3_, e3⟩ := ty225_form h3
  subst e3
  obtain ⟨A4_, k4_, e4⟩ := ty225_form h4
  subst e4
  obtain ⟨A5_, k5_, e5⟩ := ty225_form h5
  subst e5
  exact ⟨A0_, k0_, A1_, k1_, A2_, k2_, A3_, k3_, A4_, k4_, A5_, k5_, rfl, h0, h1, h2, h3, h4, h5⟩
theorem ty227_shut {w : World} (c : D.l27Links) {A0 : Option Addr} {k0 : Nat} {A1 : Option Addr} {k1 : Nat} {A2 : Option Addr} {k2 : Nat} {A3 : Option Addr} {k3 : Nat} {A4 : Option Addr} {k4 : Nat} {A5 : Option Addr} {k5 : Nat} (h0 : ty55.ro w [.slice A0 c.agents.length k0] c.agents) (h1 : ty140.ro w [.slice A1 c.ports.length k1] c.ports) (h2 : ty225.ro w [.slice A2 c.cells.length k2] c.cells) (h3 : ty225.ro w [.slice A3 c.vars.length k3] c.vars) (h4 : ty225.ro w [.slice A4 c.ends.length k4] c.ends) (h5 : ty225.ro w [.slice A5 c.pairs.length k5] c.pairs) : ty227.ro w [.slice A0 c.agents.length k0, .slice A1 c.ports.length k1, .slice A2 c.cells.length k2, .slice A3 c.vars.length k3, .slice A4 c.ends.length k4, .slice A5 c.pairs.length k5] c :=
  ⟨_, _, rfl, h0, ⟨_, _, rfl, h1, ⟨_, _, rfl, h2, ⟨_, _, rfl, h3, ⟨_, _, rfl, h4, ⟨_, _, rfl, h5, rfl⟩⟩⟩⟩⟩⟩
theorem ty227_own {w : World} {cs : List Value} {c : D.l27Links} {G : List Nat} (h : ty227.own w cs c G) : ∃ A0 k0 A1 k1 A2 k2 A3 k3 A4 k4 A5 k5, cs = [.slice A0 c.agents.length k0, .slice A1 c.ports.length k1, .slice A2 c.cells.length k2, .slice A3 c.vars.length k3, .slice A4 c.ends.length k4, .slice A5 c.pairs.length k5] ∧ (All [Own ty55 [.slice A0 c.agents.length k0] c.agents, Own ty140 [.slice A1 c.ports.length k1] c.ports, Own ty225 [.slice A2 c.cells.length k2] c.cells, Own ty225 [.slice A3 c.vars.length k3] c.vars, Own ty225 [.slice A4 c.ends.length k4] c.ends, Own ty225 [.slice A5 c.pairs.length k5] c.pairs]).A w G := by
  obtain ⟨c0, d0, H0, K0, rfl, rfl, h0, c1, d1, H1, K1, rfl, rfl, h1, c2, d2, H2, K2, rfl, rfl, h2, c3, d3, H3, K3, rfl, rfl, h3, c4, d4, H4, K4, rfl, rfl, h4, c5, d5, H5, K5, rfl, rfl, h5, hz, hk⟩ := h
  subst hz; subst hk
  obtain ⟨A0_, k0_, e0⟩ := slFormO h0
  subst e0
  obtain ⟨A1_, k1_, e1⟩ := slFormO h1
  subst e1
  obtain ⟨A2_, k2_, e2⟩ := slFormO h2
  subst e2
  obtain ⟨A3_, k3_, e3⟩ := slFormO h3
  subst e3
  obtain ⟨A4_, k4_, e4⟩ := slFormO h4
  subst e4
  obtain ⟨A5_, k5_, e5⟩ := slFormO h5
  subst e5
  refine ⟨A0_, k0_, A1_, k1_, A2_, k2_, A3_, k3_, A4_, k4_, A5_, k5_, rfl, ?_⟩
  show (All _).A w _
  exact cast (congrArg _ (by simp)) (show (All _).A w (H0 ++ (H1 ++ (H2 ++ (H3 ++ (H4 ++ (H5 ++ ([]))))))) from ⟨_, _, rfl, h0, ⟨_, _, rfl, h1, ⟨_, _, rfl, h2, ⟨_, _, rfl, h3, ⟨_, _, rfl, h4, ⟨_, _, rfl, h5, rfl⟩⟩⟩⟩⟩⟩)
theorem ty227_ownI {w : World} {c : D.l27Links} {A0 : Option Addr} {k0 : Nat} {A1 : Option Addr} {k1 : Nat} {A2 : Option Addr} {k2 : Nat} {A3 : Option Addr} {k3 : Nat} {A4 : Option Addr} {k4 : Nat} {A5 : Option Addr} {k5 : Nat} {G : List Nat} (h : (All [Own ty55 [.slice A0 c.agents.length k0] c.agents, Own ty140 [.slice A1 c.ports.length k1] c.ports, Own ty225 [.slice A2 c.cells.length k2] c.cells, Own ty225 [.slice A3 c.vars.length k3] c.vars, Own ty225 [.slice A4 c.ends.length k4] c.ends, Own ty225 [.slice A5 c.pairs.length k5] c.pairs]).A w G) : ty227.own w [.slice A0 c.agents.length k0, .slice A1 c.ports.length k1, .slice A2 c.cells.length k2, .slice A3 c.vars.length k3, .slice A4 c.ends.length k4, .slice A5 c.pairs.length k5] c G := by
  obtain ⟨G0, R0, rfl, h0, G1, R1, rfl, h1, G2, R2, rfl, h2, G3, R3, rfl, h3, G4, R4, rfl, h4, G5, R5, rfl, h5, hz⟩ := h
  have hz' : R5 = [] := hz
  subst hz'
  exact cast (congrArg _ (by simp)) (show ty227.own w [.slice A0 c.agents.length k0, .slice A1 c.ports.length k1, .slice A2 c.cells.length k2, .slice A3 c.vars.length k3, .slice A4 c.ends.length k4, .slice A5 c.pairs.length k5] c (_) from ⟨_, _, _, _, rfl, rfl, h0, ⟨_, _, _, _, rfl, rfl, h1, ⟨_, _, _, _, rfl, rfl, h2, ⟨_, _, _, _, rfl, rfl, h3, ⟨_, _, _, _, rfl, rfl, h4, ⟨_, _, _, _, rfl, rfl, h5, ⟨rfl, rfl⟩⟩⟩⟩⟩⟩⟩)
theorem ty227_openS {W w : World} {B : List Res} {cs : List Value} {c : D.l27Links} (h : St W w (Own ty227 cs c :: B)) : ∃ A0 k0 A1 k1 A2 k2 A3 k3 A4 k4 A5 k5, cs = [.slice A0 c.agents.length k0, .slice A1 c.ports.length k1, .slice A2 c.cells.length k2, .slice A3 c.vars.length k3, .slice A4 c.ends.length k4, .slice A5 c.pairs.length k5] ∧ St W w ([Own ty55 [.slice A0 c.agents.length k0] c.agents, Own ty140 [.slice A1 c.ports.length k1] c.ports, Own ty225 [.slice A2 c.cells.length k2] c.cells, Own ty225 [.slice A3 c.vars.length k3] c.vars, Own ty225 [.slice A4 c.ends.length k4] c.ends, Own ty225 [.slice A5 c.pairs.length k5] c.pairs] ++ B) := by
  obtain ⟨G, hA, _⟩ := h.sep.head
  obtain ⟨A0, k0, A1, k1, A2, k2, A3, k3, A4, k4, A5, k5, rfl, _⟩ := ty227_own hA
  refine ⟨A0, k0, A1, k1, A2, k2, A3, k3, A4, k4, A5, k5, rfl, St.splitAll (h.conv fun G hG => ?_)⟩
  obtain ⟨X0, Y0, X1, Y1, X2, Y2, X3, Y3, X4, Y4, X5, Y5, he, hh⟩ := ty227_own hG
  simp only [List.cons.injEq, Value.slice.injEq, and_true, true_and] at he
  obtain ⟨⟨rfl, rfl⟩, ⟨rfl, rfl⟩, ⟨rfl, rfl⟩, ⟨rfl, rfl⟩, ⟨rfl, rfl⟩, ⟨rfl, rfl⟩⟩ := he
  exact hh
theorem ty227_shutS {W w : World} {B : List Res} {c : D.l27Links} {A0 : Option Addr} {k0 : Nat} {A1 : Option Addr} {k1 : Nat} {A2 : Option Addr} {k2 : Nat} {A3 : Option Addr} {k3 : Nat} {A4 : Option Addr} {k4 : Nat} {A5 : Option Addr} {k5 : Nat} (h : St W w ([Own ty55 [.slice A0 c.agents.length k0] c.agents, Own ty140 [.slice A1 c.ports.length k1] c.ports, Own ty225 [.slice A2 c.cells.length k2] c.cells, Own ty225 [.slice A3 c.vars.length k3] c.vars, Own ty225 [.slice A4 c.ends.length k4] c.ends, Own ty225 [.slice A5 c.pairs.length k5] c.pairs] ++ B)) : St W w (Own ty227 [.slice A0 c.agents.length k0, .slice A1 c.ports.length k1, .slice A2 c.cells.length k2, .slice A3 c.vars.length k3, .slice A4 c.ends.length k4, .slice A5 c.pairs.length k5] c :: B) := (St.fuseAll h).conv fun _ hG => ty227_ownI hG

def ty283 : Ty D.thing := tMap (fun c => (c.at_, c.slot, c.own, ())) (tPair ty31 (tPair tInt (tPair tBool tUnit)))
instance {W : World} : Reads W ty283 := inferInstanceAs (Reads W (tMap (fun c : D.thing => (c.at_, c.slot, c.own, ())) (tPair ty31 (tPair tInt (tPair tBool tUnit)))))
theorem ty283_open {w : World} {cs : List Value} {c : D.thing} (h : ty283.ro w cs c) : cs = [.int .i64 c.at_.Machine, .int .i64 c.at_.Kind, .int .i64 c.at_.Index, .int .i64 c.slot, .bool c.own] := by
  obtain ⟨c0, d0, rfl, h0, c1, d1, rfl, h1, c2, d2, rfl, h2, hz⟩ := h
  subst hz
  have e0 := ty31_open h0
  subst e0
  subst h1
  subst h2
  rfl
theorem ty283_shut {w : World} (c : D.thing)   : ty283.ro w [.int .i64 c.at_.Machine, .int .i64 c.at_.Kind, .int .i64 c.at_.Index, .int .i64 c.slot, .bool c.own] c :=
  ⟨_, _, rfl, (ty31_shut c.at_ ), ⟨_, _, rfl, rfl, ⟨_, _, rfl, rfl, rfl⟩⟩⟩
theorem ty283_own {w : World} {cs : List Value} {c : D.thing} {G : List Nat} (h : ty283.own w cs c G) : cs = [.int .i64 c.at_.Machine, .int .i64 c.at_.Kind, .int .i64 c.at_.Index, .int .i64 c.slot, .bool c.own] ∧ (All []).A w G := by
  obtain ⟨c0, d0, H0, K0, rfl, rfl, h0, c1, d1, H1, K1, rfl, rfl, h1, c2, d2, H2, K2, rfl, rfl, h2, hz, hk⟩ := h
  subst hz; subst hk
  obtain ⟨e0, g0⟩ := ty31_own h0
  subst e0
  obtain ⟨e1, k1⟩ := h1; subst e1; subst k1
  obtain ⟨e2, k2⟩ := h2; subst e2; subst k2
  refine ⟨rfl, ?_⟩
  exact cast (congrArg _ (by simp)) g0
theorem ty283_ownI {w : World} {c : D.thing}  {G : List Nat} (h : (All []).A w G) : ty283.own w [.int .i64 c.at_.Machine, .int .i64 c.at_.Kind, .int .i64 c.at_.Index, .int .i64 c.slot, .bool c.own] c G := by
  have hz : G = [] := h
  subst hz
  exact cast (congrArg _ (by simp)) (show ty283.own w [.int .i64 c.at_.Machine, .int .i64 c.at_.Kind, .int .i64 c.at_.Index, .int .i64 c.slot, .bool c.own] c (_) from ⟨_, _, _, _, rfl, rfl, (ty31_ownI (c := c.at_) rfl), ⟨_, _, _, _, rfl, rfl, ⟨rfl, rfl⟩, ⟨_, _, _, _, rfl, rfl, ⟨rfl, rfl⟩, ⟨rfl, rfl⟩⟩⟩⟩)
theorem ty283_openS {W w : World} {B : List Res} {cs : List Value} {c : D.thing} (h : St W w (Own ty283 cs c :: B)) : cs = [.int .i64 c.at_.Machine, .int .i64 c.at_.Kind, .int .i64 c.at_.Index, .int .i64 c.slot, .bool c.own] ∧ St W w ([] ++ B) := by
  obtain ⟨G, hA, _⟩ := h.sep.head
  obtain ⟨rfl, _⟩ := ty283_own hA
  refine ⟨rfl, St.splitAll (h.conv fun G hG => ?_)⟩
  exact (ty283_own hG).2
theorem ty283_shutS {W w : World} {B : List Res} {c : D.thing}  (h : St W w ([] ++ B)) : St W w (Own ty283 [.int .i64 c.at_.Machine, .int .i64 c.at_.Kind, .int .i64 c.at_.Index, .int .i64 c.slot, .bool c.own] c :: B) := (St.fuseAll h).conv fun _ hG => ty283_ownI hG

def ty285 : Ty D.statement := tMap (fun c => (c.a, c.b, ())) (tPair ty283 (tPair ty283 tUnit))
instance {W : World} : Reads W ty285 := inferInstanceAs (Reads W (tMap (fun c : D.statement => (c.a, c.b, ())) (tPair ty283 (tPair ty283 tUnit))))
theorem ty285_open {w : World} {cs : List Value} {c : D.statement} (h : ty285.ro w cs c) : cs = [.int .i64 c.a.at_.Machine, .int .i64 c.a.at_.Kind, .int .i64 c.a.at_.Index, .int .i64 c.a.slot, .bool c.a.own, .int .i64 c.b.at_.Machine, .int .i64 c.b.at_.Kind, .int .i64 c.b.at_.Index, .int .i64 c.b.slot, .bool c.b.own] := by
  obtain ⟨c0, d0, rfl, h0, c1, d1, rfl, h1, hz⟩ := h
  subst hz
  have e0 := ty283_open h0
  subst e0
  have e1 := ty283_open h1
  subst e1
  rfl
theorem ty285_shut {w : World} (c : D.statement)   : ty285.ro w [.int .i64 c.a.at_.Machine, .int .i64 c.a.at_.Kind, .int .i64 c.a.at_.Index, .int .i64 c.a.slot, .bool c.a.own, .int .i64 c.b.at_.Machine, .int .i64 c.b.at_.Kind, .int .i64 c.b.at_.Index, .int .i64 c.b.slot, .bool c.b.own] c :=
  ⟨_, _, rfl, (ty283_shut c.a ), ⟨_, _, rfl, (ty283_shut c.b ), rfl⟩⟩
theorem ty285_own {w : World} {cs : List Value} {c : D.statement} {G : List Nat} (h : ty285.own w cs c G) : cs = [.int .i64 c.a.at_.Machine, .int .i64 c.a.at_.Kind, .int .i64 c.a.at_.Index, .int .i64 c.a.slot, .bool c.a.own, .int .i64 c.b.at_.Machine, .int .i64 c.b.at_.Kind, .int .i64 c.b.at_.Index, .int .i64 c.b.slot, .bool c.b.own] ∧ (All []).A w G := by
  obtain ⟨c0, d0, H0, K0, rfl, rfl, h0, c1, d1, H1, K1, rfl, rfl, h1, hz, hk⟩ := h
  subst hz; subst hk
  obtain ⟨e0, g0⟩ := ty283_own h0
  subst e0
  obtain ⟨e1, g1⟩ := ty283_own h1
  subst e1
  refine ⟨rfl, ?_⟩
  exact cast (congrArg _ (by simp)) (allApp g0 g1)
theorem ty285_ownI {w : World} {c : D.statement}  {G : List Nat} (h : (All []).A w G) : ty285.own w [.int .i64 c.a.at_.Machine, .int .i64 c.a.at_.Kind, .int .i64 c.a.at_.Index, .int .i64 c.a.slot, .bool c.a.own, .int .i64 c.b.at_.Machine, .int .i64 c.b.at_.Kind, .int .i64 c.b.at_.Index, .int .i64 c.b.slot, .bool c.b.own] c G := by
  have hz : G = [] := h
  subst hz
  exact cast (congrArg _ (by simp)) (show ty285.own w [.int .i64 c.a.at_.Machine, .int .i64 c.a.at_.Kind, .int .i64 c.a.at_.Index, .int .i64 c.a.slot, .bool c.a.own, .int .i64 c.b.at_.Machine, .int .i64 c.b.at_.Kind, .int .i64 c.b.at_.Index, .int .i64 c.b.slot, .bool c.b.own] c (_) from ⟨_, _, _, _, rfl, rfl, (ty283_ownI (c := c.a) rfl), ⟨_, _, _, _, rfl, rfl, (ty283_ownI (c := c.b) rfl), ⟨rfl, rfl⟩⟩⟩)
theorem ty285_openS {W w : World} {B : List Res} {cs : List Value} {c : D.statement} (h : St W w (Own ty285 cs c :: B)) : cs = [.int .i64 c.a.at_.Machine, .int .i64 c.a.at_.Kind, .int .i64 c.a.at_.Index, .int .i64 c.a.slot, .bool c.a.own, .int .i64 c.b.at_.Machine, .int .i64 c.b.at_.Kind, .int .i64 c.b.at_.Index, .int .i64 c.b.slot, .bool c.b.own] ∧ St W w ([] ++ B) := by
  obtain ⟨G, hA, _⟩ := h.sep.head
  obtain ⟨rfl, _⟩ := ty285_own hA
  refine ⟨rfl, St.splitAll (h.conv fun G hG => ?_)⟩
  exact (ty285_own hG).2
theorem ty285_shutS {W w : World} {B : List Res} {c : D.statement}  (h : St W w ([] ++ B)) : St W w (Own ty285 [.int .i64 c.a.at_.Machine, .int .i64 c.a.at_.Kind, .int .i64 c.a.at_.Index, .int .i64 c.a.slot, .bool c.a.own, .int .i64 c.b.at_.Machine, .int .i64 c.b.at_.Kind, .int .i64 c.b.at_.Index, .int .i64 c.b.slot, .bool c.b.own] c :: B) := (St.fuseAll h).conv fun _ hG => ty285_ownI hG

def ty237 : Ty (List D.statement) := tSl 285 ty285
instance {W : World} : Reads W ty237 := inferInstanceAs (Reads W (tSl 285 ty285))
theorem ty237_form {w : World} {cs : List Value} {xs : (List D.statement)} (h : ty237.ro w cs xs) : ∃ A c, cs = [.slice A xs.length c] := slForm h

def enc31 : D.Address → Value := fun c => .agg ⟨[.int .i64 c.Machine, .int .i64 c.Kind, .int .i64 c.Index]⟩
theorem keyOk31 : KeyOk Tryz.prog 31 enc31 := KeyOk.struct ttok (cells := fun c : D.Address => [.int .i64 c.Machine, .int .i64 c.Kind, .int .i64 c.Index]) (b := fun x y => (((x.Machine : Int) == y.Machine) && (((x.Kind : Int) == y.Kind) && (((x.Index : Int) == y.Index) && true)))) rfl rfl (fun _ _ => rfl) (fun x y => by cases x; cases y; simp [seqb_iff]) (fun _ => rfl) (fun {x y} h => by cases x; cases y; simpa using h)
def ty287 : Ty (List (D.Address × Int)) := tMp enc31 (Value.int .i64)
instance {W : World} : Reads W ty287 := inferInstanceAs (Reads W (tMp enc31 (Value.int .i64)))
theorem ty287_form {w : World} {cs : List Value} {xs : (List (D.Address × Int))} (h : ty287.ro w cs xs) : ∃ g, cs = [.map (some g)] := mpForm h
theorem mapOk287 : MapOk Tryz.prog 287 31 3 enc31 (Value.int .i64) (0 : Int) := ⟨by kernel_rfl, by kernel_rfl, keyOk31⟩

def ty297 : Ty (List Int) := tSl 3 tInt
instance {W : World} : Reads W ty297 := inferInstanceAs (Reads W (tSl 3 tInt))
theorem ty297_form {w : World} {cs : List Value} {xs : (List Int)} (h : ty297.ro w cs xs) : ∃ A c, cs = [.slice A xs.length c] := slForm h

def ty307 : Ty (List D.thing) := tSl 283 ty283
instance {W : World} : Reads W ty307 := inferInstanceAs (Reads W (tSl 283 ty283))
theorem ty307_form {w : World} {cs : List Value} {xs : (List D.thing)} (h : ty307.ro w cs xs) : ∃ A c, cs = [.slice A xs.length c] := slForm h

end Go.E
