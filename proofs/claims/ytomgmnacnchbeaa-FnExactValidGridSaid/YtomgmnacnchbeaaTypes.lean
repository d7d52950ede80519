/- The types of the data, as tables and as plain Lean types (written by program). Conditions: none. -/
import Derived.Test.YtomgmnacnchbeaaMaps
import Derived.Test.YtomgmnacnchbeaaProg
import Derived.KernelRfl
namespace Go.E
open Go.RowKit Go.Proofs
set_option linter.unusedVariables false
set_option linter.unusedSimpArgs false

/-- The types that the code names. -/
def tt : TT := [
  ⟨2, .int .i64, 1, [.int .i64 0], 8⟩,
  ⟨3, .int .i64, 1, [.int .i64 0], 8⟩,
  ⟨4, .bool, 1, [.bool false], 1⟩,
  ⟨22, .slice 106, 1, [.slice none 0 0], 24⟩,
  ⟨24, .struct [(0, 1, false, 22)], 1, [.slice none 0 0], 24⟩,
  ⟨28, .slice 112, 1, [.slice none 0 0], 24⟩,
  ⟨30, .struct [(0, 1, false, 28)], 1, [.slice none 0 0], 24⟩,
  ⟨35, .struct [(0, 1, false, 2), (1, 1, false, 2)], 2, [.int .i64 0, .int .i64 0], 16⟩,
  ⟨38, .struct [(0, 1, false, 2), (1, 1, false, 2)], 2, [.int .i64 0, .int .i64 0], 16⟩,
  ⟨42, .slice 116, 1, [.slice none 0 0], 24⟩,
  ⟨47, .slice 109, 1, [.slice none 0 0], 24⟩,
  ⟨54, .slice 191, 1, [.slice none 0 0], 24⟩,
  ⟨56, .struct [(0, 1, false, 2), (1, 1, false, 2), (2, 1, false, 2)], 3, [.int .i64 0, .int .i64 0, .int .i64 0], 24⟩,
  ⟨58, .struct [(0, 1, false, 54), (1, 3, true, 56)], 4, [.slice none 0 0, .int .i64 0, .int .i64 0, .int .i64 0], 48⟩,
  ⟨61, .slice 200, 1, [.slice none 0 0], 24⟩,
  ⟨62, .struct [(0, 1, false, 2), (1, 1, false, 2), (2, 1, false, 2)], 3, [.int .i64 0, .int .i64 0, .int .i64 0], 24⟩,
  ⟨64, .struct [(0, 1, false, 61), (1, 3, true, 62)], 4, [.slice none 0 0, .int .i64 0, .int .i64 0, .int .i64 0], 48⟩,
  ⟨68, .slice 210, 1, [.slice none 0 0], 24⟩,
  ⟨70, .struct [(0, 1, false, 2), (1, 1, false, 2)], 2, [.int .i64 0, .int .i64 0], 16⟩,
  ⟨71, .slice 216, 1, [.slice none 0 0], 24⟩,
  ⟨73, .struct [(0, 1, false, 68), (1, 1, false, 2), (2, 2, true, 70), (4, 1, false, 71)], 5, [.slice none 0 0, .int .i64 0, .int .i64 0, .int .i64 0, .slice none 0 0], 72⟩,
  ⟨76, .slice 157, 1, [.slice none 0 0], 24⟩,
  ⟨77, .struct [(0, 1, false, 2), (1, 1, false, 2)], 2, [.int .i64 0, .int .i64 0], 16⟩,
  ⟨78, .slice 139, 1, [.slice none 0 0], 24⟩,
  ⟨80, .struct [(0, 1, false, 76), (1, 1, false, 2), (2, 2, true, 77), (4, 1, false, 78)], 5, [.slice none 0 0, .int .i64 0, .int .i64 0, .int .i64 0, .slice none 0 0], 72⟩,
  ⟨91, .ptr 30, 1, [.pointer none], 8⟩,
  ⟨103, .slice 2, 1, [.slice none 0 0], 24⟩,
  ⟨104, .slice 35, 1, [.slice none 0 0], 24⟩,
  ⟨106, .struct [(0, 1, false, 2), (1, 1, false, 2), (2, 1, false, 2), (3, 1, false, 103), (4, 1, false, 104)], 5, [.int .i64 0, .int .i64 0, .int .i64 0, .slice none 0 0, .slice none 0 0], 72⟩,
  ⟨109, .struct [(0, 2, true, 38), (2, 2, true, 38)], 4, [.int .i64 0, .int .i64 0, .int .i64 0, .int .i64 0], 32⟩,
  ⟨110, .slice 38, 1, [.slice none 0 0], 24⟩,
  ⟨112, .struct [(0, 1, false, 2), (1, 1, false, 2), (2, 1, false, 2), (3, 1, false, 103), (4, 1, false, 110)], 5, [.int .i64 0, .int .i64 0, .int .i64 0, .slice none 0 0, .slice none 0 0], 72⟩,
  ⟨116, .struct [(0, 2, true, 35), (2, 2, true, 35)], 4, [.int .i64 0, .int .i64 0, .int .i64 0, .int .i64 0], 32⟩,
  ⟨119, .other, 1, [.map none], 8⟩,
  ⟨127, .ptr 64, 1, [.pointer none], 8⟩,
  ⟨136, .ptr 80, 1, [.pointer none], 8⟩,
  ⟨139, .struct [(0, 1, false, 2), (1, 1, false, 2)], 2, [.int .i64 0, .int .i64 0], 16⟩,
  ⟨155, .slice 77, 1, [.slice none 0 0], 24⟩,
  ⟨157, .struct [(0, 1, false, 2), (1, 1, false, 2), (2, 1, false, 2), (3, 1, false, 103), (4, 1, false, 155)], 5, [.int .i64 0, .int .i64 0, .int .i64 0, .slice none 0 0, .slice none 0 0], 72⟩,
  ⟨171, .ptr 112, 1, [.pointer none], 8⟩,
  ⟨187, .slice 306, 1, [.slice none 0 0], 24⟩,
  ⟨188, .slice 311, 1, [.slice none 0 0], 24⟩,
  ⟨189, .slice 314, 1, [.slice none 0 0], 24⟩,
  ⟨191, .struct [(0, 1, false, 187), (1, 1, false, 188), (2, 1, false, 189)], 3, [.slice none 0 0, .slice none 0 0, .slice none 0 0], 72⟩,
  ⟨192, .ptr 253, 1, [.pointer none], 8⟩,
  ⟨196, .slice 248, 1, [.slice none 0 0], 24⟩,
  ⟨197, .slice 250, 1, [.slice none 0 0], 24⟩,
  ⟨198, .slice 261, 1, [.slice none 0 0], 24⟩,
  ⟨200, .struct [(0, 1, false, 196), (1, 1, false, 197), (2, 1, false, 198)], 3, [.slice none 0 0, .slice none 0 0, .slice none 0 0], 72⟩,
  ⟨202, .slice 273, 1, [.slice none 0 0], 24⟩,
  ⟨208, .slice 70, 1, [.slice none 0 0], 24⟩,
  ⟨210, .struct [(0, 1, false, 2), (1, 1, false, 2), (2, 1, false, 2), (3, 1, false, 103), (4, 1, false, 208)], 5, [.int .i64 0, .int .i64 0, .int .i64 0, .slice none 0 0, .slice none 0 0], 72⟩,
  ⟨212, .ptr 157, 1, [.pointer none], 8⟩,
  ⟨216, .struct [(0, 1, false, 2), (1, 1, false, 2)], 2, [.int .i64 0, .int .i64 0], 16⟩,
  ⟨243, .ptr 200, 1, [.pointer none], 8⟩,
  ⟨245, .ptr 248, 1, [.pointer none], 8⟩,
  ⟨246, .slice 62, 1, [.slice none 0 0], 24⟩,
  ⟨248, .struct [(0, 1, false, 2), (1, 1, false, 2), (2, 1, false, 2), (3, 1, false, 103), (4, 1, false, 246)], 5, [.int .i64 0, .int .i64 0, .int .i64 0, .slice none 0 0, .slice none 0 0], 72⟩,
  ⟨250, .struct [(0, 1, false, 4), (1, 1, false, 4), (2, 3, true, 62)], 5, [.bool false, .bool false, .int .i64 0, .int .i64 0, .int .i64 0], 32⟩,
  ⟨251, .slice 103, 1, [.slice none 0 0], 24⟩,
  ⟨253, .struct [(0, 1, false, 28), (1, 1, false, 110), (2, 1, false, 251), (3, 1, false, 251), (4, 1, false, 251), (5, 1, false, 251)], 6, [.slice none 0 0, .slice none 0 0, .slice none 0 0, .slice none 0 0, .slice none 0 0, .slice none 0 0], 144⟩,
  ⟨261, .struct [(0, 3, true, 62), (3, 3, true, 62)], 6, [.int .i64 0, .int .i64 0, .int .i64 0, .int .i64 0, .int .i64 0, .int .i64 0], 48⟩,
  ⟨271, .struct [(0, 3, true, 62), (3, 1, false, 2), (4, 1, false, 4)], 5, [.int .i64 0, .int .i64 0, .int .i64 0, .int .i64 0, .bool false], 40⟩,
  ⟨273, .struct [(0, 5, true, 271), (5, 5, true, 271)], 10, [.int .i64 0, .int .i64 0, .int .i64 0, .int .i64 0, .bool false, .int .i64 0, .int .i64 0, .int .i64 0, .int .i64 0, .bool false], 80⟩,
  ⟨275, .other, 1, [.map none], 8⟩,
  ⟨304, .slice 56, 1, [.slice none 0 0], 24⟩,
  ⟨306, .struct [(0, 1, false, 2), (1, 1, false, 2), (2, 1, false, 2), (3, 1, false, 103), (4, 1, false, 304)], 5, [.int .i64 0, .int .i64 0, .int .i64 0, .slice none 0 0, .slice none 0 0], 72⟩,
  ⟨311, .struct [(0, 1, false, 4), (1, 1, false, 4), (2, 3, true, 56)], 5, [.bool false, .bool false, .int .i64 0, .int .i64 0, .int .i64 0], 32⟩,
  ⟨314, .struct [(0, 3, true, 56), (3, 3, true, 56)], 6, [.int .i64 0, .int .i64 0, .int .i64 0, .int .i64 0, .int .i64 0, .int .i64 0], 48⟩,
  ⟨319, .slice 271, 1, [.slice none 0 0], 24⟩,
  ⟨326, .slice 3, 1, [.slice none 0 0], 24⟩]

def zerosOk (P : Program) : TT → Prop
  | [] => True
  | i :: r => (P.info? i.id).map (fun j => j.zero.map (fun v => v.cells.toList)) = some (some i.zero) ∧ zerosOk P r

theorem zerosOk_mem {P : Program} : ∀ {T : TT}, zerosOk P T → ∀ i, i ∈ T → (P.info? i.id).map (fun j => j.zero.map (fun v => v.cells.toList)) = some (some i.zero)
  | [], _, i, h => by cases h
  | _ :: _, ⟨h1, h2⟩, i, h => by
    rcases List.mem_cons.1 h with rfl | h
    · exact h1
    · exact zerosOk_mem h2 i h

theorem tt_all : tt.all (infoOk Try.prog) = true := by kernel_rfl
theorem tt_zeros : zerosOk Try.prog tt := ⟨by kernel_rfl, by kernel_rfl, by kernel_rfl, by kernel_rfl, by kernel_rfl, by kernel_rfl, by kernel_rfl, by kernel_rfl, by kernel_rfl, by kernel_rfl, by kernel_rfl, by kernel_rfl, by kernel_rfl, by kernel_rfl, by kernel_rfl, by kernel_rfl, by kernel_rfl, by kernel_rfl, by kernel_rfl, by kernel_rfl, by kernel_rfl, by kernel_rfl, by kernel_rfl, by kernel_rfl, by kernel_rfl, by kernel_rfl, by kernel_rfl, by kernel_rfl, by kernel_rfl, by kernel_rfl, by kernel_rfl, by kernel_rfl, by kernel_rfl, by kernel_rfl, by kernel_rfl, by kernel_rfl, by kernel_rfl, by kernel_rfl, by kernel_rfl, by kernel_rfl, by kernel_rfl, by kernel_rfl, by kernel_rfl, by kernel_rfl, by kernel_rfl, by kernel_rfl, by kernel_rfl, by kernel_rfl, by kernel_rfl, by kernel_rfl, by kernel_rfl, by kernel_rfl, by kernel_rfl, by kernel_rfl, by kernel_rfl, by kernel_rfl, by kernel_rfl, by kernel_rfl, by kernel_rfl, by kernel_rfl, by kernel_rfl, by kernel_rfl, by kernel_rfl, by kernel_rfl, by kernel_rfl, by kernel_rfl, by kernel_rfl, by kernel_rfl, by kernel_rfl, by kernel_rfl, by kernel_rfl, trivial⟩
theorem ttok : TTok Try.prog tt := ⟨List.all_eq_true.1 tt_all, zerosOk_mem tt_zeros⟩
theorem mixed : Try.prog.follows .mixedOrders = true := by kernel_rfl

structure D.Port where
  Agent : Int
  Slot : Int
deriving Inhabited, DecidableEq

structure D.Agent where
  Kind : Int
  Level : Int
  Value : Int
  Data : (List Int)
  Ports : (List D.Port)
deriving Inhabited, DecidableEq

structure D.Net where
  Agents : (List D.Agent)
deriving Inhabited, DecidableEq

structure D.Wire where
  A : D.Port
  B : D.Port
deriving Inhabited, DecidableEq

structure D.Address where
  Machine : Int
  Kind : Int
  Index : Int
deriving Inhabited, DecidableEq

structure D.ShardCell where
  Kind : Int
  Level : Int
  Value : Int
  Data : (List Int)
  Aux : (List D.Address)
deriving Inhabited, DecidableEq

structure D.ShardVar where
  Used : Bool
  Full : Bool
  Held : D.Address
deriving Inhabited, DecidableEq

structure D.ShardRedex where
  A : D.Address
  B : D.Address
deriving Inhabited, DecidableEq

structure D.Shard where
  Cells : (List D.ShardCell)
  Vars : (List D.ShardVar)
  Redexes : (List D.ShardRedex)
deriving Inhabited, DecidableEq

structure D.Grid where
  Shards : (List D.Shard)
  Root : D.Address
deriving Inhabited, DecidableEq

structure D.Word where
  Tag : Int
  At : Int
deriving Inhabited, DecidableEq

structure D.Cell where
  Kind : Int
  Level : Int
  Value : Int
  Data : (List Int)
  Words : (List D.Word)
deriving Inhabited, DecidableEq

structure D.Pair where
  A : Int
  B : Int
deriving Inhabited, DecidableEq

structure D.Memory where
  Cells : (List D.Cell)
  Free : Int
  Root : D.Word
  Redexes : (List D.Pair)
deriving Inhabited, DecidableEq

structure D.thing where
  at_ : D.Address
  slot : Int
  own : Bool
deriving Inhabited, DecidableEq

structure D.statement where
  a : D.thing
  b : D.thing
deriving Inhabited, DecidableEq

structure D.l27Links where
  agents : (List D.Agent)
  ports : (List D.Port)
  cells : (List (List Int))
  vars : (List (List Int))
  ends : (List (List Int))
  pairs : (List (List Int))
deriving Inhabited, DecidableEq

def ty103 : Ty (List Int) := tSl 2 tInt
instance {W : World} : Reads W ty103 := inferInstanceAs (Reads W (tSl 2 tInt))
theorem ty103_form {w : World} {cs : List Value} {xs : (List Int)} (h : ty103.ro w cs xs) : ∃ A c, cs = [.slice A xs.length c] := slForm h

def ty35 : Ty D.Port := tMap (fun c => (c.Agent, c.Slot, ())) (tPair tInt (tPair tInt tUnit))
instance {W : World} : Reads W ty35 := inferInstanceAs (Reads W (tMap (fun c : D.Port => (c.Agent, c.Slot, ())) (tPair tInt (tPair tInt tUnit))))
theorem ty35_open {w : World} {cs : List Value} {c : D.Port} (h : ty35.ro w cs c) : cs = [.int .i64 c.Agent, .int .i64 c.Slot] := by
  obtain ⟨c0, d0, rfl, h0, c1, d1, rfl, h1, hz⟩ := h
  subst hz
  subst h0
  subst h1
  rfl
theorem ty35_shut {w : World} (c : D.Port)   : ty35.ro w [.int .i64 c.Agent, .int .i64 c.Slot] c :=
  ⟨_, _, rfl, rfl, ⟨_, _, rfl, rfl, rfl⟩⟩
theorem ty35_own {w : World} {cs : List Value} {c : D.Port} {G : List Nat} (h : ty35.own w cs c G) : cs = [.int .i64 c.Agent, .int .i64 c.Slot] ∧ (All []).A w G := by
  obtain ⟨c0, d0, H0, K0, rfl, rfl, h0, c1, d1, H1, K1, rfl, rfl, h1, hz, hk⟩ := h
  subst hz; subst hk
  obtain ⟨e0, k0⟩ := h0; subst e0; subst k0
  obtain ⟨e1, k1⟩ := h1; subst e1; subst k1
  refine ⟨rfl, ?_⟩
  show (All _).A w _
  exact cast (congrArg _ (by simp)) (show (All _).A w ([]) from rfl)
theorem ty35_ownI {w : World} {c : D.Port}  {G : List Nat} (h : (All []).A w G) : ty35.own w [.int .i64 c.Agent, .int .i64 c.Slot] c G := by
  have hz : G = [] := h
  subst hz
  exact cast (congrArg _ (by simp)) (show ty35.own w [.int .i64 c.Agent, .int .i64 c.Slot] c (_) from ⟨_, _, _, _, rfl, rfl, ⟨rfl, rfl⟩, ⟨_, _, _, _, rfl, rfl, ⟨rfl, rfl⟩, ⟨rfl, rfl⟩⟩⟩)
theorem ty35_openS {W w : World} {B : List Res} {cs : List Value} {c : D.Port} (h : St W w (Own ty35 cs c :: B)) : cs = [.int .i64 c.Agent, .int .i64 c.Slot] ∧ St W w ([] ++ B) := by
  obtain ⟨G, hA, _⟩ := h.sep.head
  obtain ⟨rfl, _⟩ := ty35_own hA
  refine ⟨rfl, St.splitAll (h.conv fun G hG => ?_)⟩
  exact (ty35_own hG).2
theorem ty35_shutS {W w : World} {B : List Res} {c : D.Port}  (h : St W w ([] ++ B)) : St W w (Own ty35 [.int .i64 c.Agent, .int .i64 c.Slot] c :: B) := (St.fuseAll h).conv fun _ hG => ty35_ownI hG

def ty104 : Ty (List D.Port) := tSl 35 ty35
instance {W : World} : Reads W ty104 := inferInstanceAs (Reads W (tSl 35 ty35))
theorem ty104_form {w : World} {cs : List Value} {xs : (List D.Port)} (h : ty104.ro w cs xs) : ∃ A c, cs = [.slice A xs.length c] := slForm h

def ty106 : Ty D.Agent := tMap (fun c => (c.Kind, c.Level, c.Value, c.Data, c.Ports, ())) (tPair tInt (tPair tInt (tPair tInt (tPair ty103 (tPair ty104 tUnit)))))
instance {W : World} : Reads W ty106 := inferInstanceAs (Reads W (tMap (fun c : D.Agent => (c.Kind, c.Level, c.Value, c.Data, c.Ports, ())) (tPair tInt (tPair tInt (tPair tInt (tPair ty103 (tPair ty104 tUnit)))))))
theorem ty106_open {w : World} {cs : List Value} {c : D.Agent} (h : ty106.ro w cs c) : ∃ A0 k0 A1 k1, cs = [.int .i64 c.Kind, .int .i64 c.Level, .int .i64 c.Value, .slice A0 c.Data.length k0, .slice A1 c.Ports.length k1] ∧ ty103.ro w [.slice A0 c.Data.length k0] c.Data ∧ ty104.ro w [.slice A1 c.Ports.length k1] c.Ports := by
  obtain ⟨c0, d0, rfl, h0, c1, d1, rfl, h1, c2, d2, rfl, h2, c3, d3, rfl, h3, c4, d4, rfl, h4, hz⟩ := h
  subst hz
  subst h0
  subst h1
  subst h2
  obtain ⟨A3_, k3_, e3⟩ := ty103_form h3
  subst e3
  obtain ⟨A4_, k4_, e4⟩ := ty104_form h4
  subst e4
  exact ⟨A3_, k3_, A4_, k4_, rfl, h3, h4⟩
theorem ty106_shut {w : World} (c : D.Agent) {A0 : Option Addr} {k0 : Nat} {A1 : Option Addr} {k1 : Nat} (h0 : ty103.ro w [.slice A0 c.Data.length k0] c.Data) (h1 : ty104.ro w [.slice A1 c.Ports.length k1] c.Ports) : ty106.ro w [.int .i64 c.Kind, .int .i64 c.Level, .int .i64 c.Value, .slice A0 c.Data.length k0, .slice A1 c.Ports.length k1] c :=
  ⟨_, _, rfl, rfl, ⟨_, _, rfl, rfl, ⟨_, _, rfl, rfl, ⟨_, _, rfl, h0, ⟨_, _, rfl, h1, rfl⟩⟩⟩⟩⟩
theorem ty106_own {w : World} {cs : List Value} {c : D.Agent} {G : List Nat} (h : ty106.own w cs c G) : ∃ A0 k0 A1 k1, cs = [.int .i64 c.Kind, .int .i64 c.Level, .int .i64 c.Value, .slice A0 c.Data.length k0, .slice A1 c.Ports.length k1] ∧ (All [Own ty103 [.slice A0 c.Data.length k0] c.Data, Own ty104 [.slice A1 c.Ports.length k1] c.Ports]).A w G := by
  obtain ⟨c0, d0, H0, K0, rfl, rfl, h0, c1, d1, H1, K1, rfl, rfl, h1, c2, d2, H2, K2, rfl, rfl, h2, c3, d3, H3, K3, rfl, rfl, h3, c4, d4, H4, K4, rfl, rfl, h4, hz, hk⟩ := h
  subst hz; subst hk
  obtain ⟨e0, k0⟩ := h0; subst e0; subst k0
  obtain ⟨e1, k1⟩ := h1; subst e1; subst k1
  obtain ⟨e2, k2⟩ := h2; subst e2; subst k2
  obtain ⟨A3_, k3_, e3⟩ := slFormO h3
  subst e3
  obtain ⟨A4_, k4_, e4⟩ := slFormO h4
  subst e4
  refine ⟨A3_, k3_, A4_, k4_, rfl, ?_⟩
  show (All _).A w _
  exact cast (congrArg _ (by simp)) (show (All _).A w (H3 ++ (H4 ++ ([]))) from ⟨_, _, rfl, h3, ⟨_, _, rfl, h4, rfl⟩⟩)
theorem ty106_ownI {w : World} {c : D.Agent} {A0 : Option Addr} {k0 : Nat} {A1 : Option Addr} {k1 : Nat} {G : List Nat} (h : (All [Own ty103 [.slice A0 c.Data.length k0] c.Data, Own ty104 [.slice A1 c.Ports.length k1] c.Ports]).A w G) : ty106.own w [.int .i64 c.Kind, .int .i64 c.Level, .int .i64 c.Value, .slice A0 c.Data.length k0, .slice A1 c.Ports.length k1] c G := by
  obtain ⟨G0, R0, rfl, h0, G1, R1, rfl, h1, hz⟩ := h
  have hz' : R1 = [] := hz
  subst hz'
  exact cast (congrArg _ (by simp)) (show ty106.own w [.int .i64 c.Kind, .int .i64 c.Level, .int .i64 c.Value, .slice A0 c.Data.length k0, .slice A1 c.Ports.length k1] c (_) from ⟨_, _, _, _, rfl, rfl, ⟨rfl, rfl⟩, ⟨_, _, _, _, rfl, rfl, ⟨rfl, rfl⟩, ⟨_, _, _, _, rfl, rfl, ⟨rfl, rfl⟩, ⟨_, _, _, _, rfl, rfl, h0, ⟨_, _, _, _, rfl, rfl, h1, ⟨rfl, rfl⟩⟩⟩⟩⟩⟩)
theorem ty106_openS {W w : World} {B : List Res} {cs : List Value} {c : D.Agent} (h : St W w (Own ty106 cs c :: B)) : ∃ A0 k0 A1 k1, cs = [.int .i64 c.Kind, .int .i64 c.Level, .int .i64 c.Value, .slice A0 c.Data.length k0, .slice A1 c.Ports.length k1] ∧ St W w ([Own ty103 [.slice A0 c.Data.length k0] c.Data, Own ty104 [.slice A1 c.Ports.length k1] c.Ports] ++ B) := by
  obtain ⟨G, hA, _⟩ := h.sep.head
  obtain ⟨A0, k0, A1, k1, rfl, _⟩ := ty106_own hA
  refine ⟨A0, k0, A1, k1, rfl, St.splitAll (h.conv fun G hG => ?_)⟩
  obtain ⟨X0, Y0, X1, Y1, he, hh⟩ := ty106_own hG
  simp only [List.cons.injEq, Value.slice.injEq, and_true, true_and] at he
  obtain ⟨⟨rfl, rfl⟩, ⟨rfl, rfl⟩⟩ := he
  exact hh
theorem ty106_shutS {W w : World} {B : List Res} {c : D.Agent} {A0 : Option Addr} {k0 : Nat} {A1 : Option Addr} {k1 : Nat} (h : St W w ([Own ty103 [.slice A0 c.Data.length k0] c.Data, Own ty104 [.slice A1 c.Ports.length k1] c.Ports] ++ B)) : St W w (Own ty106 [.int .i64 c.Kind, .int .i64 c.Level, .int .i64 c.Value, .slice A0 c.Data.length k0, .slice A1 c.Ports.length k1] c :: B) := (St.fuseAll h).conv fun _ hG => ty106_ownI hG

def ty22 : Ty (List D.Agent) := tSl 106 ty106
instance {W : World} : Reads W ty22 := inferInstanceAs (Reads W (tSl 106 ty106))
theorem ty22_form {w : World} {cs : List Value} {xs : (List D.Agent)} (h : ty22.ro w cs xs) : ∃ A c, cs = [.slice A xs.length c] := slForm h

def ty24 : Ty D.Net := tMap (fun c => (c.Agents, ())) (tPair ty22 tUnit)
instance {W : World} : Reads W ty24 := inferInstanceAs (Reads W (tMap (fun c : D.Net => (c.Agents, ())) (tPair ty22 tUnit)))
theorem ty24_open {w : World} {cs : List Value} {c : D.Net} (h : ty24.ro w cs c) : ∃ A0 k0, cs = [.slice A0 c.Agents.length k0] ∧ ty22.ro w [.slice A0 c.Agents.length k0] c.Agents := by
  obtain ⟨c0, d0, rfl, h0, hz⟩ := h
  subst hz
  obtain ⟨A0_, k0_, e0⟩ := ty22_form h0
  subst e0
  exact ⟨A0_, k0_, rfl, h0⟩
theorem ty24_shut {w : World} (c : D.Net) {A0 : Option Addr} {k0 : Nat} (h0 : ty22.ro w [.slice A0 c.Agents.length k0] c.Agents) : ty24.ro w [.slice A0 c.Agents.length k0] c :=
  ⟨_, _, rfl, h0, rfl⟩
theorem ty24_own {w : World} {cs : List Value} {c : D.Net} {G : List Nat} (h : ty24.own w cs c G) : ∃ A0 k0, cs = [.slice A0 c.Agents.length k0] ∧ (All [Own ty22 [.slice A0 c.Agents.length k0] c.Agents]).A w G := by
  obtain ⟨c0, d0, H0, K0, rfl, rfl, h0, hz, hk⟩ := h
  subst hz; subst hk
  obtain ⟨A0_, k0_, e0⟩ := slFormO h0
  subst e0
  refine ⟨A0_, k0_, rfl, ?_⟩
  show (All _).A w _
  exact cast (congrArg _ (by simp)) (show (All _).A w (H0 ++ ([])) from ⟨_, _, rfl, h0, rfl⟩)
theorem ty24_ownI {w : World} {c : D.Net} {A0 : Option Addr} {k0 : Nat} {G : List Nat} (h : (All [Own ty22 [.slice A0 c.Agents.length k0] c.Agents]).A w G) : ty24.own w [.slice A0 c.Agents.length k0] c G := by
  obtain ⟨G0, R0, rfl, h0, hz⟩ := h
  have hz' : R0 = [] := hz
  subst hz'
  exact cast (congrArg _ (by simp)) (show ty24.own w [.slice A0 c.Agents.length k0] c (_) from ⟨_, _, _, _, rfl, rfl, h0, ⟨rfl, rfl⟩⟩)
theorem ty24_openS {W w : World} {B : List Res} {cs : List Value} {c : D.Net} (h : St W w (Own ty24 cs c :: B)) : ∃ A0 k0, cs = [.slice A0 c.Agents.length k0] ∧ St W w ([Own ty22 [.slice A0 c.Agents.length k0] c.Agents] ++ B) := by
  obtain ⟨G, hA, _⟩ := h.sep.head
  obtain ⟨A0, k0, rfl, _⟩ := ty24_own hA
  refine ⟨A0, k0, rfl, St.splitAll (h.conv fun G hG => ?_)⟩
  obtain ⟨X0, Y0, he, hh⟩ := ty24_own hG
  simp only [List.cons.injEq, Value.slice.injEq, and_true, true_and] at he
  obtain ⟨rfl, rfl⟩ := he
  exact hh
theorem ty24_shutS {W w : World} {B : List Res} {c : D.Net} {A0 : Option Addr} {k0 : Nat} (h : St W w ([Own ty22 [.slice A0 c.Agents.length k0] c.Agents] ++ B)) : St W w (Own ty24 [.slice A0 c.Agents.length k0] c :: B) := (St.fuseAll h).conv fun _ hG => ty24_ownI hG

def ty38 : Ty D.Port := tMap (fun c => (c.Agent, c.Slot, ())) (tPair tInt (tPair tInt tUnit))
instance {W : World} : Reads W ty38 := inferInstanceAs (Reads W (tMap (fun c : D.Port => (c.Agent, c.Slot, ())) (tPair tInt (tPair tInt tUnit))))
theorem ty38_open {w : World} {cs : List Value} {c : D.Port} (h : ty38.ro w cs c) : cs = [.int .i64 c.Agent, .int .i64 c.Slot] := by
  obtain ⟨c0, d0, rfl, h0, c1, d1, rfl, h1, hz⟩ := h
  subst hz
  subst h0
  subst h1
  rfl
theorem ty38_shut {w : World} (c : D.Port)   : ty38.ro w [.int .i64 c.Agent, .int .i64 c.Slot] c :=
  ⟨_, _, rfl, rfl, ⟨_, _, rfl, rfl, rfl⟩⟩
theorem ty38_own {w : World} {cs : List Value} {c : D.Port} {G : List Nat} (h : ty38.own w cs c G) : cs = [.int .i64 c.Agent, .int .i64 c.Slot] ∧ (All []).A w G := by
  obtain ⟨c0, d0, H0, K0, rfl, rfl, h0, c1, d1, H1, K1, rfl, rfl, h1, hz, hk⟩ := h
  subst hz; subst hk
  obtain ⟨e0, k0⟩ := h0; subst e0; subst k0
  obtain ⟨e1, k1⟩ := h1; subst e1; subst k1
  refine ⟨rfl, ?_⟩
  show (All _).A w _
  exact cast (congrArg _ (by simp)) (show (All _).A w ([]) from rfl)
theorem ty38_ownI {w : World} {c : D.Port}  {G : List Nat} (h : (All []).A w G) : ty38.own w [.int .i64 c.Agent, .int .i64 c.Slot] c G := by
  have hz : G = [] := h
  subst hz
  exact cast (congrArg _ (by simp)) (show ty38.own w [.int .i64 c.Agent, .int .i64 c.Slot] c (_) from ⟨_, _, _, _, rfl, rfl, ⟨rfl, rfl⟩, ⟨_, _, _, _, rfl, rfl, ⟨rfl, rfl⟩, ⟨rfl, rfl⟩⟩⟩)
theorem ty38_openS {W w : World} {B : List Res} {cs : List Value} {c : D.Port} (h : St W w (Own ty38 cs c :: B)) : cs = [.int .i64 c.Agent, .int .i64 c.Slot] ∧ St W w ([] ++ B) := by
  obtain ⟨G, hA, _⟩ := h.sep.head
  obtain ⟨rfl, _⟩ := ty38_own hA
  refine ⟨rfl, St.splitAll (h.conv fun G hG => ?_)⟩
  exact (ty38_own hG).2
theorem ty38_shutS {W w : World} {B : List Res} {c : D.Port}  (h : St W w ([] ++ B)) : St W w (Own ty38 [.int .i64 c.Agent, .int .i64 c.Slot] c :: B) := (St.fuseAll h).conv fun _ hG => ty38_ownI hG

def ty110 : Ty (List D.Port) := tSl 38 ty38
instance {W : World} : Reads W ty110 := inferInstanceAs (Reads W (tSl 38 ty38))
theorem ty110_form {w : World} {cs : List Value} {xs : (List D.Port)} (h : ty110.ro w cs xs) : ∃ A c, cs = [.slice A xs.length c] := slForm h

def ty112 : Ty D.Agent := tMap (fun c => (c.Kind, c.Level, c.Value, c.Data, c.Ports, ())) (tPair tInt (tPair tInt (tPair tInt (tPair ty103 (tPair ty110 tUnit)))))
instance {W : World} : Reads W ty112 := inferInstanceAs (Reads W (tMap (fun c : D.Agent => (c.Kind, c.Level, c.Value, c.Data, c.Ports, ())) (tPair tInt (tPair tInt (tPair tInt (tPair ty103 (tPair ty110 tUnit)))))))
theorem ty112_open {w : World} {cs : List Value} {c : D.Agent} (h : ty112.ro w cs c) : ∃ A0 k0 A1 k1, cs = [.int .i64 c.Kind, .int .i64 c.Level, .int .i64 c.Value, .slice A0 c.Data.length k0, .slice A1 c.Ports.length k1] ∧ ty103.ro w [.slice A0 c.Data.length k0] c.Data ∧ ty110.ro w [.slice A1 c.Ports.length k1] c.Ports := by
  obtain ⟨c0, d0, rfl, h0, c1, d1, rfl, h1, c2, d2, rfl, h2, c3, d3, rfl, h3, c4, d4, rfl, h4, hz⟩ := h
  subst hz
  subst h0
  subst h1
  subst h2
  obtain ⟨A3_, k3_, e3⟩ := ty103_form h3
  subst e3
  obtain ⟨A4_, k4_, e4⟩ := ty110_form h4
  subst e4
  exact ⟨A3_, k3_, A4_, k4_, rfl, h3, h4⟩
theorem ty112_shut {w : World} (c : D.Agent) {A0 : Option Addr} {k0 : Nat} {A1 : Option Addr} {k1 : Nat} (h0 : ty103.ro w [.slice A0 c.Data.length k0] c.Data) (h1 : ty110.ro w [.slice A1 c.Ports.length k1] c.Ports) : ty112.ro w [.int .i64 c.Kind, .int .i64 c.Level, .int .i64 c.Value, .slice A0 c.Data.length k0, .slice A1 c.Ports.length k1] c :=
  ⟨_, _, rfl, rfl, ⟨_, _, rfl, rfl, ⟨_, _, rfl, rfl, ⟨_, _, rfl, h0, ⟨_, _, rfl, h1, rfl⟩⟩⟩⟩⟩
theorem ty112_own {w : World} {cs : List Value} {c : D.Agent} {G : List Nat} (h : ty112.own w cs c G) : ∃ A0 k0 A1 k1, cs = [.int .i64 c.Kind, .int .i64 c.Level, .int .i64 c.Value, .slice A0 c.Data.length k0, .slice A1 c.Ports.length k1] ∧ (All [Own ty103 [.slice A0 c.Data.length k0] c.Data, Own ty110 [.slice A1 c.Ports.length k1] c.Ports]).A w G := by
  obtain ⟨c0, d0, H0, K0, rfl, rfl, h0, c1, d1, H1, K1, rfl, rfl, h1, c2, d2, H2, K2, rfl, rfl, h2, c3, d3, H3, K3, rfl, rfl, h3, c4, d4, H4, K4, rfl, rfl, h4, hz, hk⟩ := h
  subst hz; subst hk
  obtain ⟨e0, k0⟩ := h0; subst e0; subst k0
  obtain ⟨e1, k1⟩ := h1; subst e1; subst k1
  obtain ⟨e2, k2⟩ := h2; subst e2; subst k2
  obtain ⟨A3_, k3_, e3⟩ := slFormO h3
  subst e3
  obtain ⟨A4_, k4_, e4⟩ := slFormO h4
  subst e4
  refine ⟨A3_, k3_, A4_, k4_, rfl, ?_⟩
  show (All _).A w _
  exact cast (congrArg _ (by simp)) (show (All _).A w (H3 ++ (H4 ++ ([]))) from ⟨_, _, rfl, h3, ⟨_, _, rfl, h4, rfl⟩⟩)
theorem ty112_ownI {w : World} {c : D.Agent} {A0 : Option Addr} {k0 : Nat} {A1 : Option Addr} {k1 : Nat} {G : List Nat} (h : (All [Own ty103 [.slice A0 c.Data.length k0] c.Data, Own ty110 [.slice A1 c.Ports.length k1] c.Ports]).A w G) : ty112.own w [.int .i64 c.Kind, .int .i64 c.Level, .int .i64 c.Value, .slice A0 c.Data.length k0, .slice A1 c.Ports.length k1] c G := by
  obtain ⟨G0, R0, rfl, h0, G1, R1, rfl, h1, hz⟩ := h
  have hz' : R1 = [] := hz
  subst hz'
  exact cast (congrArg _ (by simp)) (show ty112.own w [.int .i64 c.Kind, .int .i64 c.Level, .int .i64 c.Value, .slice A0 c.Data.length k0, .slice A1 c.Ports.length k1] c (_) from ⟨_, _, _, _, rfl, rfl, ⟨rfl, rfl⟩, ⟨_, _, _, _, rfl, rfl, ⟨rfl, rfl⟩, ⟨_, _, _, _, rfl, rfl, ⟨rfl, rfl⟩, ⟨_, _, _, _, rfl, rfl, h0, ⟨_, _, _, _, rfl, rfl, h1, ⟨rfl, rfl⟩⟩⟩⟩⟩⟩)
theorem ty112_openS {W w : World} {B : List Res} {cs : List Value} {c : D.Agent} (h : St W w (Own ty112 cs c :: B)) : ∃ A0 k0 A1 k1, cs = [.int .i64 c.Kind, .int .i64 c.Level, .int .i64 c.Value, .slice A0 c.Data.length k0, .slice A1 c.Ports.length k1] ∧ St W w ([Own ty103 [.slice A0 c.Data.length k0] c.Data, Own ty110 [.slice A1 c.Ports.length k1] c.Ports] ++ B) := by
  obtain ⟨G, hA, _⟩ := h.sep.head
  obtain ⟨A0, k0, A1, k1, rfl, _⟩ := ty112_own hA
  refine ⟨A0, k0, A1, k1, rfl, St.splitAll (h.conv fun G hG => ?_)⟩
  obtain ⟨X0, Y0, X1, Y1, he, hh⟩ := ty112_own hG
  simp only [List.cons.injEq, Value.slice.injEq, and_true, true_and] at he
  obtain ⟨⟨rfl, rfl⟩, ⟨rfl, rfl⟩⟩ := he
  exact hh
theorem ty112_shutS {W w : World} {B : List Res} {c : D.Agent} {A0 : Option Addr} {k0 : Nat} {A1 : Option Addr} {k1 : Nat} (h : St W w ([Own ty103 [.slice A0 c.Data.length k0] c.Data, Own ty110 [.slice A1 c.Ports.length k1] c.Ports] ++ B)) : St W w (Own ty112 [.int .i64 c.Kind, .int .i64 c.Level, .int .i64 c.Value, .slice A0 c.Data.length k0, .slice A1 c.Ports.length k1] c :: B) := (St.fuseAll h).conv fun _ hG => ty112_ownI hG

def ty28 : Ty (List D.Agent) := tSl 112 ty112
instance {W : World} : Reads W ty28 := inferInstanceAs (Reads W (tSl 112 ty112))
theorem ty28_form {w : World} {cs : List Value} {xs : (List D.Agent)} (h : ty28.ro w cs xs) : ∃ A c, cs = [.slice A xs.length c] := slForm h

def ty30 : Ty D.Net := tMap (fun c => (c.Agents, ())) (tPair ty28 tUnit)
instance {W : World} : Reads W ty30 := inferInstanceAs (Reads W (tMap (fun c : D.Net => (c.Agents, ())) (tPair ty28 tUnit)))
theorem ty30_open {w : World} {cs : List Value} {c : D.Net} (h : ty30.ro w cs c) : ∃ A0 k0, cs = [.slice A0 c.Agents.length k0] ∧ ty28.ro w [.slice A0 c.Agents.length k0] c.Agents := by
  obtain ⟨c0, d0, rfl, h0, hz⟩ := h
  subst hz
  obtain ⟨A0_, k0_, e0⟩ := ty28_form h0
  subst e0
  exact ⟨A0_, k0_, rfl, h0⟩
theorem ty30_shut {w : World} (c : D.Net) {A0 : Option Addr} {k0 : Nat} (h0 : ty28.ro w [.slice A0 c.Agents.length k0] c.Agents) : ty30.ro w [.slice A0 c.Agents.length k0] c :=
  ⟨_, _, rfl, h0, rfl⟩
theorem ty30_own {w : World} {cs : List Value} {c : D.Net} {G : List Nat} (h : ty30.own w cs c G) : ∃ A0 k0, cs = [.slice A0 c.Agents.length k0] ∧ (All [Own ty28 [.slice A0 c.Agents.length k0] c.Agents]).A w G := by
  obtain ⟨c0, d0, H0, K0, rfl, rfl, h0, hz, hk⟩ := h
  subst hz; subst hk
  obtain ⟨A0_, k0_, e0⟩ := slFormO h0
  subst e0
  refine ⟨A0_, k0_, rfl, ?_⟩
  show (All _).A w _
  exact cast (congrArg _ (by simp)) (show (All _).A w (H0 ++ ([])) from ⟨_, _, rfl, h0, rfl⟩)
theorem ty30_ownI {w : World} {c : D.Net} {A0 : Option Addr} {k0 : Nat} {G : List Nat} (h : (All [Own ty28 [.slice A0 c.Agents.length k0] c.Agents]).A w G) : ty30.own w [.slice A0 c.Agents.length k0] c G := by
  obtain ⟨G0, R0, rfl, h0, hz⟩ := h
  have hz' : R0 = [] := hz
  subst hz'
  exact cast (congrArg _ (by simp)) (show ty30.own w [.slice A0 c.Agents.length k0] c (_) from ⟨_, _, _, _, rfl, rfl, h0, ⟨rfl, rfl⟩⟩)
theorem ty30_openS {W w : World} {B : List Res} {cs : List Value} {c : D.Net} (h : St W w (Own ty30 cs c :: B)) : ∃ A0 k0, cs = [.slice A0 c.Agents.length k0] ∧ St W w ([Own ty28 [.slice A0 c.Agents.length k0] c.Agents] ++ B) := by
  obtain ⟨G, hA, _⟩ := h.sep.head
  obtain ⟨A0, k0, rfl, _⟩ := ty30_own hA
  refine ⟨A0, k0, rfl, St.splitAll (h.conv fun G hG => ?_)⟩
  obtain ⟨X0, Y0, he, hh⟩ := ty30_own hG
  simp only [List.cons.injEq, Value.slice.injEq, and_true, true_and] at he
  obtain ⟨rfl, rfl⟩ := he
  exact hh
theorem ty30_shutS {W w : World} {B : List Res} {c : D.Net} {A0 : Option Addr} {k0 : Nat} (h : St W w ([Own ty28 [.slice A0 c.Agents.length k0] c.Agents] ++ B)) : St W w (Own ty30 [.slice A0 c.Agents.length k0] c :: B) := (St.fuseAll h).conv fun _ hG => ty30_ownI hG

def ty116 : Ty D.Wire := tMap (fun c => (c.A, c.B, ())) (tPair ty35 (tPair ty35 tUnit))
instance {W : World} : Reads W ty116 := inferInstanceAs (Reads W (tMap (fun c : D.Wire => (c.A, c.B, ())) (tPair ty35 (tPair ty35 tUnit))))
theorem ty116_open {w : World} {cs : List Value} {c : D.Wire} (h : ty116.ro w cs c) : cs = [.int .i64 c.A.Agent, .int .i64 c.A.Slot, .int .i64 c.B.Agent, .int .i64 c.B.Slot] := by
  obtain ⟨c0, d0, rfl, h0, c1, d1, rfl, h1, hz⟩ := h
  subst hz
  have e0 := ty35_open h0
  subst e0
  have e1 := ty35_open h1
  subst e1
  rfl
theorem ty116_shut {w : World} (c : D.Wire)   : ty116.ro w [.int .i64 c.A.Agent, .int .i64 c.A.Slot, .int .i64 c.B.Agent, .int .i64 c.B.Slot] c :=
  ⟨_, _, rfl, (ty35_shut c.A ), ⟨_, _, rfl, (ty35_shut c.B ), rfl⟩⟩
theorem ty116_own {w : World} {cs : List Value} {c : D.Wire} {G : List Nat} (h : ty116.own w cs c G) : cs = [.int .i64 c.A.Agent, .int .i64 c.A.Slot, .int .i64 c.B.Agent, .int .i64 c.B.Slot] ∧ (All []).A w G := by
  obtain ⟨c0, d0, H0, K0, rfl, rfl, h0, c1, d1, H1, K1, rfl, rfl, h1, hz, hk⟩ := h
  subst hz; subst hk
  obtain ⟨e0, g0⟩ := ty35_own h0
  subst e0
  obtain ⟨e1, g1⟩ := ty35_own h1
  subst e1
  refine ⟨rfl, ?_⟩
  exact cast (congrArg _ (by simp)) (allApp g0 g1)
theorem ty116_ownI {w : World} {c : D.Wire}  {G : List Nat} (h : (All []).A w G) : ty116.own w [.int .i64 c.A.Agent, .int .i64 c.A.Slot, .int .i64 c.B.Agent, .int .i64 c.B.Slot] c G := by
  have hz : G = [] := h
  subst hz
  exact cast (congrArg _ (by simp)) (show ty116.own w [.int .i64 c.A.Agent, .int .i64 c.A.Slot, .int .i64 c.B.Agent, .int .i64 c.B.Slot] c (_) from ⟨_, _, _, _, rfl, rfl, (ty35_ownI (c := c.A) rfl), ⟨_, _, _, _, rfl, rfl, (ty35_ownI (c := c.B) rfl), ⟨rfl, rfl⟩⟩⟩)
theorem ty116_openS {W w : World} {B : List Res} {cs : List Value} {c : D.Wire} (h : St W w (Own ty116 cs c :: B)) : cs = [.int .i64 c.A.Agent, .int .i64 c.A.Slot, .int .i64 c.B.Agent, .int .i64 c.B.Slot] ∧ St W w ([] ++ B) := by
  obtain ⟨G, hA, _⟩ := h.sep.head
  obtain ⟨rfl, _⟩ := ty116_own hA
  refine ⟨rfl, St.splitAll (h.conv fun G hG => ?_)⟩
  exact (ty116_own hG).2
theorem ty116_shutS {W w : World} {B : List Res} {c : D.Wire}  (h : St W w ([] ++ B)) : St W w (Own ty116 [.int .i64 c.A.Agent, .int .i64 c.A.Slot, .int .i64 c.B.Agent, .int .i64 c.B.Slot] c :: B) := (St.fuseAll h).conv fun _ hG => ty116_ownI hG

def ty42 : Ty (List D.Wire) := tSl 116 ty116
instance {W : World} : Reads W ty42 := inferInstanceAs (Reads W (tSl 116 ty116))
theorem ty42_form {w : World} {cs : List Value} {xs : (List D.Wire)} (h : ty42.ro w cs xs) : ∃ A c, cs = [.slice A xs.length c] := slForm h

def ty109 : Ty D.Wire := tMap (fun c => (c.A, c.B, ())) (tPair ty38 (tPair ty38 tUnit))
instance {W : World} : Reads W ty109 := inferInstanceAs (Reads W (tMap (fun c : D.Wire => (c.A, c.B, ())) (tPair ty38 (tPair ty38 tUnit))))
theorem ty109_open {w : World} {cs : List Value} {c : D.Wire} (h : ty109.ro w cs c) : cs = [.int .i64 c.A.Agent, .int .i64 c.A.Slot, .int .i64 c.B.Agent, .int .i64 c.B.Slot] := by
  obtain ⟨c0, d0, rfl, h0, c1, d1, rfl, h1, hz⟩ := h
  subst hz
  have e0 := ty38_open h0
  subst e0
  have e1 := ty38_open h1
  subst e1
  rfl
theorem ty109_shut {w : World} (c : D.Wire)   : ty109.ro w [.int .i64 c.A.Agent, .int .i64 c.A.Slot, .int .i64 c.B.Agent, .int .i64 c.B.Slot] c :=
  ⟨_, _, rfl, (ty38_shut c.A ), ⟨_, _, rfl, (ty38_shut c.B ), rfl⟩⟩
theorem ty109_own {w : World} {cs : List Value} {c : D.Wire} {G : List Nat} (h : ty109.own w cs c G) : cs = [.int .i64 c.A.Agent, .int .i64 c.A.Slot, .int .i64 c.B.Agent, .int .i64 c.B.Slot] ∧ (All []).A w G := by
  obtain ⟨c0, d0, H0, K0, rfl, rfl, h0, c1, d1, H1, K1, rfl, rfl, h1, hz, hk⟩ := h
  subst hz; subst hk
  obtain ⟨e0, g0⟩ := ty38_own h0
  subst e0
  obtain ⟨e1, g1⟩ := ty38_own h1
  subst e1
  refine ⟨rfl, ?_⟩
  exact cast (congrArg _ (by simp)) (allApp g0 g1)
theorem ty109_ownI {w : World} {c : D.Wire}  {G : List Nat} (h : (All []).A w G) : ty109.own w [.int .i64 c.A.Agent, .int .i64 c.A.Slot, .int .i64 c.B.Agent, .int .i64 c.B.Slot] c G := by
  have hz : G = [] := h
  subst hz
  exact cast (congrArg _ (by simp)) (show ty109.own w [.int .i64 c.A.Agent, .int .i64 c.A.Slot, .int .i64 c.B.Agent, .int .i64 c.B.Slot] c (_) from ⟨_, _, _, _, rfl, rfl, (ty38_ownI (c := c.A) rfl), ⟨_, _, _, _, rfl, rfl, (ty38_ownI (c := c.B) rfl), ⟨rfl, rfl⟩⟩⟩)
theorem ty109_openS {W w : World} {B : List Res} {cs : List Value} {c : D.Wire} (h : St W w (Own ty109 cs c :: B)) : cs = [.int .i64 c.A.Agent, .int .i64 c.A.Slot, .int .i64 c.B.Agent, .int .i64 c.B.Slot] ∧ St W w ([] ++ B) := by
  obtain ⟨G, hA, _⟩ := h.sep.head
  obtain ⟨rfl, _⟩ := ty109_own hA
  refine ⟨rfl, St.splitAll (h.conv fun G hG => ?_)⟩
  exact (ty109_own hG).2
theorem ty109_shutS {W w : World} {B : List Res} {c : D.Wire}  (h : St W w ([] ++ B)) : St W w (Own ty109 [.int .i64 c.A.Agent, .int .i64 c.A.Slot, .int .i64 c.B.Agent, .int .i64 c.B.Slot] c :: B) := (St.fuseAll h).conv fun _ hG => ty109_ownI hG

def ty47 : Ty (List D.Wire) := tSl 109 ty109
instance {W : World} : Reads W ty47 := inferInstanceAs (Reads W (tSl 109 ty109))
theorem ty47_form {w : World} {cs : List Value} {xs : (List D.Wire)} (h : ty47.ro w cs xs) : ∃ A c, cs = [.slice A xs.length c] := slForm h

def ty56 : Ty D.Address := tMap (fun c => (c.Machine, c.Kind, c.Index, ())) (tPair tInt (tPair tInt (tPair tInt tUnit)))
instance {W : World} : Reads W ty56 := inferInstanceAs (Reads W (tMap (fun c : D.Address => (c.Machine, c.Kind, c.Index, ())) (tPair tInt (tPair tInt (tPair tInt tUnit)))))
theorem ty56_open {w : World} {cs : List Value} {c : D.Address} (h : ty56.ro w cs c) : cs = [.int .i64 c.Machine, .int .i64 c.Kind, .int .i64 c.Index] := by
  obtain ⟨c0, d0, rfl, h0, c1, d1, rfl, h1, c2, d2, rfl, h2, hz⟩ := h
  subst hz
  subst h0
  subst h1
  subst h2
  rfl
theorem ty56_shut {w : World} (c : D.Address)   : ty56.ro w [.int .i64 c.Machine, .int .i64 c.Kind, .int .i64 c.Index] c :=
  ⟨_, _, rfl, rfl, ⟨_, _, rfl, rfl, ⟨_, _, rfl, rfl, rfl⟩⟩⟩
theorem ty56_own {w : World} {cs : List Value} {c : D.Address} {G : List Nat} (h : ty56.own w cs c G) : cs = [.int .i64 c.Machine, .int .i64 c.Kind, .int .i64 c.Index] ∧ (All []).A w G := by
  obtain ⟨c0, d0, H0, K0, rfl, rfl, h0, c1, d1, H1, K1, rfl, rfl, h1, c2, d2, H2, K2, rfl, rfl, h2, hz, hk⟩ := h
  subst hz; subst hk
  obtain ⟨e0, k0⟩ := h0; subst e0; subst k0
  obtain ⟨e1, k1⟩ := h1; subst e1; subst k1
  obtain ⟨e2, k2⟩ := h2; subst e2; subst k2
  refine ⟨rfl, ?_⟩
  show (All _).A w _
  exact cast (congrArg _ (by simp)) (show (All _).A w ([]) from rfl)
theorem ty56_ownI {w : World} {c : D.Address}  {G : List Nat} (h : (All []).A w G) : ty56.own w [.int .i64 c.Machine, .int .i64 c.Kind, .int .i64 c.Index] c G := by
  have hz : G = [] := h
  subst hz
  exact cast (congrArg _ (by simp)) (show ty56.own w [.int .i64 c.Machine, .int .i64 c.Kind, .int .i64 c.Index] c (_) from ⟨_, _, _, _, rfl, rfl, ⟨rfl, rfl⟩, ⟨_, _, _, _, rfl, rfl, ⟨rfl, rfl⟩, ⟨_, _, _, _, rfl, rfl, ⟨rfl, rfl⟩, ⟨rfl, rfl⟩⟩⟩⟩)
theorem ty56_openS {W w : World} {B : List Res} {cs : List Value} {c : D.Address} (h : St W w (Own ty56 cs c :: B)) : cs = [.int .i64 c.Machine, .int .i64 c.Kind, .int .i64 c.Index] ∧ St W w ([] ++ B) := by
  obtain ⟨G, hA, _⟩ := h.sep.head
  obtain ⟨rfl, _⟩ := ty56_own hA
  refine ⟨rfl, St.splitAll (h.conv fun G hG => ?_)⟩
  exact (ty56_own hG).2
theorem ty56_shutS {W w : World} {B : List Res} {c : D.Address}  (h : St W w ([] ++ B)) : St W w (Own ty56 [.int .i64 c.Machine, .int .i64 c.Kind, .int .i64 c.Index] c :: B) := (St.fuseAll h).conv fun _ hG => ty56_ownI hG

def ty304 : Ty (List D.Address) := tSl 56 ty56
instance {W : World} : Reads W ty304 := inferInstanceAs (Reads W (tSl 56 ty56))
theorem ty304_form {w : World} {cs : List Value} {xs : (List D.Address)} (h : ty304.ro w cs xs) : ∃ A c, cs = [.slice A xs.length c] := slForm h

def ty306 : Ty D.ShardCell := tMap (fun c => (c.Kind, c.Level, c.Value, c.Data, c.Aux, ())) (tPair tInt (tPair tInt (tPair tInt (tPair ty103 (tPair ty304 tUnit)))))
instance {W : World} : Reads W ty306 := inferInstanceAs (Reads W (tMap (fun c : D.ShardCell => (c.Kind, c.Level, c.Value, c.Data, c.Aux, ())) (tPair tInt (tPair tInt (tPair tInt (tPair ty103 (tPair ty304 tUnit)))))))
theorem ty306_open {w : World} {cs : List Value} {c : D.ShardCell} (h : ty306.ro w cs c) : ∃ A0 k0 A1 k1, cs = [.int .i64 c.Kind, .int .i64 c.Level, .int .i64 c.Value, .slice A0 c.Data.length k0, .slice A1 c.Aux.length k1] ∧ ty103.ro w [.slice A0 c.Data.length k0] c.Data ∧ ty304.ro w [.slice A1 c.Aux.length k1] c.Aux := by
  obtain ⟨c0, d0, rfl, h0, c1, d1, rfl, h1, c2, d2, rfl, h2, c3, d3, rfl, h3, c4, d4, rfl, h4, hz⟩ := h
  subst hz
  subst h0
  subst h1
  subst h2
  obtain ⟨A3_, k3_, e3⟩ := ty103_form h3
  subst e3
  obtain ⟨A4_, k4_, e4⟩ := ty304_form h4
  subst e4
  exact ⟨A3_, k3_, A4_, k4_, rfl, h3, h4⟩
theorem ty306_shut {w : World} (c : D.ShardCell) {A0 : Option Addr} {k0 : Nat} {A1 : Option Addr} {k1 : Nat} (h0 : ty103.ro w [.slice A0 c.Data.length k0] c.Data) (h1 : ty304.ro w [.slice A1 c.Aux.length k1] c.Aux) : ty306.ro w [.int .i64 c.Kind, .int .i64 c.Level, .int .i64 c.Value, .slice A0 c.Data.length k0, .slice A1 c.Aux.length k1] c :=
  ⟨_, _, rfl, rfl, ⟨_, _, rfl, rfl, ⟨_, _, rfl, rfl, ⟨_, _, rfl, h0, ⟨_, _, rfl, h1, rfl⟩⟩⟩⟩⟩
theorem ty306_own {w : World} {cs : List Value} {c : D.ShardCell} {G : List Nat} (h : ty306.own w cs c G) : ∃ A0 k0 A1 k1, cs = [.int .i64 c.Kind, .int .i64 c.Level, .int .i64 c.Value, .slice A0 c.Data.length k0, .slice A1 c.Aux.length k1] ∧ (All [Own ty103 [.slice A0 c.Data.length k0] c.Data, Own ty304 [.slice A1 c.Aux.length k1] c.Aux]).A w G := by
  obtain ⟨c0, d0, H0, K0, rfl, rfl, h0, c1, d1, H1, K1, rfl, rfl, h1, c2, d2, H2, K2, rfl, rfl, h2, c3, d3, H3, K3, rfl, rfl, h3, c4, d4, H4, K4, rfl, rfl, h4, hz, hk⟩ := h
  subst hz; subst hk
  obtain ⟨e0, k0⟩ := h0; subst e0; subst k0
  obtain ⟨e1, k1⟩ := h1; subst e1; subst k1
  obtain ⟨e2, k2⟩ := h2; subst e2; subst k2
  obtain ⟨A3_, k3_, e3⟩ := slFormO h3
  subst e3
  obtain ⟨A4_, k4_, e4⟩ := slFormO h4
  subst e4
  refine ⟨A3_, k3_, A4_, k4_, rfl, ?_⟩
  show (All _).A w _
  exact cast (congrArg _ (by simp)) (show (All _).A w (H3 ++ (H4 ++ ([]))) from ⟨_, _, rfl, h3, ⟨_, _, rfl, h4, rfl⟩⟩)
theorem ty306_ownI {w : World} {c : D.ShardCell} {A0 : Option Addr} {k0 : Nat} {A1 : Option Addr} {k1 : Nat} {G : List Nat} (h : (All [Own ty103 [.slice A0 c.Data.length k0] c.Data, Own ty304 [.slice A1 c.Aux.length k1] c.Aux]).A w G) : ty306.own w [.int .i64 c.Kind, .int .i64 c.Level, .int .i64 c.Value, .slice A0 c.Data.length k0, .slice A1 c.Aux.length k1] c G := by
  obtain ⟨G0, R0, rfl, h0, G1, R1, rfl, h1, hz⟩ := h
  have hz' : R1 = [] := hz
  subst hz'
  exact cast (congrArg _ (by simp)) (show ty306.own w [.int .i64 c.Kind, .int .i64 c.Level, .int .i64 c.Value, .slice A0 c.Data.length k0, .slice A1 c.Aux.length k1] c (_) from ⟨_, _, _, _, rfl, rfl, ⟨rfl, rfl⟩, ⟨_, _, _, _, rfl, rfl, ⟨rfl, rfl⟩, ⟨_, _, _, _, rfl, rfl, ⟨rfl, rfl⟩, ⟨_, _, _, _, rfl, rfl, h0, ⟨_, _, _, _, rfl, rfl, h1, ⟨rfl, rfl⟩⟩⟩⟩⟩⟩)
theorem ty306_openS {W w : World} {B : List Res} {cs : List Value} {c : D.ShardCell} (h : St W w (Own ty306 cs c :: B)) : ∃ A0 k0 A1 k1, cs = [.int .i64 c.Kind, .int .i64 c.Level, .int .i64 c.Value, .slice A0 c.Data.length k0, .slice A1 c.Aux.length k1] ∧ St W w ([Own ty103 [.slice A0 c.Data.length k0] c.Data, Own ty304 [.slice A1 c.Aux.length k1] c.Aux] ++ B) := by
  obtain ⟨G, hA, _⟩ := h.sep.head
  obtain ⟨A0, k0, A1, k1, rfl, _⟩ := ty306_own hA
  refine ⟨A0, k0, A1, k1, rfl, St.splitAll (h.conv fun G hG => ?_)⟩
  obtain ⟨X0, Y0, X1, Y1, he, hh⟩ := ty306_own hG
  simp only [List.cons.injEq, Value.slice.injEq, and_true, true_and] at he
  obtain ⟨⟨rfl, rfl⟩, ⟨rfl, rfl⟩⟩ := he
  exact hh
theorem ty306_shutS {W w : World} {B : List Res} {c : D.ShardCell} {A0 : Option Addr} {k0 : Nat} {A1 : Option Addr} {k1 : Nat} (h : St W w ([Own ty103 [.slice A0 c.Data.length k0] c.Data, Own ty304 [.slice A1 c.Aux.length k1] c.Aux] ++ B)) : St W w (Own ty306 [.int .i64 c.Kind, .int .i64 c.Level, .int .i64 c.Value, .slice A0 c.Data.length k0, .slice A1 c.Aux.length k1] c :: B) := (St.fuseAll h).conv fun _ hG => ty306_ownI hG

def ty187 : Ty (List D.ShardCell) := tSl 306 ty306
instance {W : World} : Reads W ty187 := inferInstanceAs (Reads W (tSl 306 ty306))
theorem ty187_form {w : World} {cs : List Value} {xs : (List D.ShardCell)} (h : ty187.ro w cs xs) : ∃ A c, cs = [.slice A xs.length c] := slForm h

def ty311 : Ty D.ShardVar := tMap (fun c => (c.Used, c.Full, c.Held, ())) (tPair tBool (tPair tBool (tPair ty56 tUnit)))
instance {W : World} : Reads W ty311 := inferInstanceAs (Reads W (tMap (fun c : D.ShardVar => (c.Used, c.Full, c.Held, ())) (tPair tBool (tPair tBool (tPair ty56 tUnit)))))
theorem ty311_open {w : World} {cs : List Value} {c : D.ShardVar} (h : ty311.ro w cs c) : cs = [.bool c.Used, .bool c.Full, .int .i64 c.Held.Machine, .int .i64 c.Held.Kind, .int .i64 c.Held.Index] := by
  obtain ⟨c0, d0, rfl, h0, c1, d1, rfl, h1, c2, d2, rfl, h2, hz⟩ := h
  subst hz
  subst h0
  subst h1
  have e2 := ty56_open h2
  subst e2
  rfl
theorem ty311_shut {w : World} (c : D.ShardVar)   : ty311.ro w [.bool c.Used, .bool c.Full, .int .i64 c.Held.Machine, .int .i64 c.Held.Kind, .int .i64 c.Held.Index] c :=
  ⟨_, _, rfl, rfl, ⟨_, _, rfl, rfl, ⟨_, _, rfl, (ty56_shut c.Held ), rfl⟩⟩⟩
theorem ty311_own {w : World} {cs : List Value} {c : D.ShardVar} {G : List Nat} (h : ty311.own w cs c G) : cs = [.bool c.Used, .bool c.Full, .int .i64 c.Held.Machine, .int .i64 c.Held.Kind, .int .i64 c.Held.Index] ∧ (All []).A w G := by
  obtain ⟨c0, d0, H0, K0, rfl, rfl, h0, c1, d1, H1, K1, rfl, rfl, h1, c2, d2, H2, K2, rfl, rfl, h2, hz, hk⟩ := h
  subst hz; subst hk
  obtain ⟨e0, k0⟩ := h0; subst e0; subst k0
  obtain ⟨e1, k1⟩ := h1; subst e1; subst k1
  obtain ⟨e2, g2⟩ := ty56_own h2
  subst e2
  refine ⟨rfl, ?_⟩
  exact cast (congrArg _ (by simp)) g2
theorem ty311_ownI {w : World} {c : D.ShardVar}  {G : List Nat} (h : (All []).A w G) : ty311.own w [.bool c.Used, .bool c.Full, .int .i64 c.Held.Machine, .int .i64 c.Held.Kind, .int .i64 c.Held.Index] c G := by
  have hz : G = [] := h
  subst hz
  exact cast (congrArg _ (by simp)) (show ty311.own w [.bool c.Used, .bool c.Full, .int .i64 c.Held.Machine, .int .i64 c.Held.Kind, .int .i64 c.Held.Index] c (_) from ⟨_, _, _, _, rfl, rfl, ⟨rfl, rfl⟩, ⟨_, _, _, _, rfl, rfl, ⟨rfl, rfl⟩, ⟨_, _, _, _, rfl, rfl, (ty56_ownI (c := c.Held) rfl), ⟨rfl, rfl⟩⟩⟩⟩)
theorem ty311_openS {W w : World} {B : List Res} {cs : List Value} {c : D.ShardVar} (h : St W w (Own ty311 cs c :: B)) : cs = [.bool c.Used, .bool c.Full, .int .i64 c.Held.Machine, .int .i64 c.Held.Kind, .int .i64 c.Held.Index] ∧ St W w ([] ++ B) := by
  obtain ⟨G, hA, _⟩ := h.sep.head
  obtain ⟨rfl, _⟩ := ty311_own hA
  refine ⟨rfl, St.splitAll (h.conv fun G hG => ?_)⟩
  exact (ty311_own hG).2
theorem ty311_shutS {W w : World} {B : List Res} {c : D.ShardVar}  (h : St W w ([] ++ B)) : St W w (Own ty311 [.bool c.Used, .bool c.Full, .int .i64 c.Held.Machine, .int .i64 c.Held.Kind, .int .i64 c.Held.Index] c :: B) := (St.fuseAll h).conv fun _ hG => ty311_ownI hG

def ty188 : Ty (List D.ShardVar) := tSl 311 ty311
instance {W : World} : Reads W ty188 := inferInstanceAs (Reads W (tSl 311 ty311))
theorem ty188_form {w : World} {cs : List Value} {xs : (List D.ShardVar)} (h : ty188.ro w cs xs) : ∃ A c, cs = [.slice A xs.length c] := slForm h

def ty314 : Ty D.ShardRedex := tMap (fun c => (c.A, c.B, ())) (tPair ty56 (tPair ty56 tUnit))
instance {W : World} : Reads W ty314 := inferInstanceAs (Reads W (tMap (fun c : D.ShardRedex => (c.A, c.B, ())) (tPair ty56 (tPair ty56 tUnit))))
theorem ty314_open {w : World} {cs : List Value} {c : D.ShardRedex} (h : ty314.ro w cs c) : cs = [.int .i64 c.A.Machine, .int .i64 c.A.Kind, .int .i64 c.A.Index, .int .i64 c.B.Machine, .int .i64 c.B.Kind, .int .i64 c.B.Index] := by
  obtain ⟨c0, d0, rfl, h0, c1, d1, rfl, h1, hz⟩ := h
  subst hz
  have e0 := ty56_open h0
  subst e0
  have e1 := ty56_open h1
  subst e1
  rfl
theorem ty314_shut {w : World} (c : D.ShardRedex)   : ty314.ro w [.int .i64 c.A.Machine, .int .i64 c.A.Kind, .int .i64 c.A.Index, .int .i64 c.B.Machine, .int .i64 c.B.Kind, .int .i64 c.B.Index] c :=
  ⟨_, _, rfl, (ty56_shut c.A ), ⟨_, _, rfl, (ty56_shut c.B ), rfl⟩⟩
theorem ty314_own {w : World} {cs : List Value} {c : D.ShardRedex} {G : List Nat} (h : ty314.own w cs c G) : cs = [.int .i64 c.A.Machine, .int .i64 c.A.Kind, .int .i64 c.A.Index, .int .i64 c.B.Machine, .int .i64 c.B.Kind, .int .i64 c.B.Index] ∧ (All []).A w G := by
  obtain ⟨c0, d0, H0, K0, rfl, rfl, h0, c1, d1, H1, K1, rfl, rfl, h1, hz, hk⟩ := h
  subst hz; subst hk
  obtain ⟨e0, g0⟩ := ty56_own h0
  subst e0
  obtain ⟨e1, g1⟩ := ty56_own h1
  subst e1
  refine ⟨rfl, ?_⟩
  exact cast (congrArg _ (by simp)) (allApp g0 g1)
theorem ty314_ownI {w : World} {c : D.ShardRedex}  {G : List Nat} (h : (All []).A w G) : ty314.own w [.int .i64 c.A.Machine, .int .i64 c.A.Kind, .int .i64 c.A.Index, .int .i64 c.B.Machine, .int .i64 c.B.Kind, .int .i64 c.B.Index] c G := by
  have hz : G = [] := h
  subst hz
  exact cast (congrArg _ (by simp)) (show ty314.own w [.int .i64 c.A.Machine, .int .i64 c.A.Kind, .int .i64 c.A.Index, .int .i64 c.B.Machine, .int .i64 c.B.Kind, .int .i64 c.B.Index] c (_) from ⟨_, _, _, _, rfl, rfl, (ty56_ownI (c := c.A) rfl), ⟨_, _, _, _, rfl, rfl, (ty56_ownI (c := c.B) rfl), ⟨rfl, rfl⟩⟩⟩)
theorem ty314_openS {W w : World} {B : List Res} {cs : List Value} {c : D.ShardRedex} (h : St W w (Own ty314 cs c :: B)) : cs = [.int .i64 c.A.Machine, .int .i64 c.A.Kind, .int .i64 c.A.Index, .int .i64 c.B.Machine, .int .i64 c.B.Kind, .int .i64 c.B.Index] ∧ St W w ([] ++ B) := by
  obtain ⟨G, hA, _⟩ := h.sep.head
  obtain ⟨rfl, _⟩ := ty314_own hA
  refine ⟨rfl, St.splitAll (h.conv fun G hG => ?_)⟩
  exact (ty314_own hG).2
theorem ty314_shutS {W w : World} {B : List Res} {c : D.ShardRedex}  (h : St W w ([] ++ B)) : St W w (Own ty314 [.int .i64 c.A.Machine, .int .i64 c.A.Kind, .int .i64 c.A.Index, .int .i64 c.B.Machine, .int .i64 c.B.Kind, .int .i64 c.B.Index] c :: B) := (St.fuseAll h).conv fun _ hG => ty314_ownI hG

def ty189 : Ty (List D.ShardRedex) := tSl 314 ty314
instance {W : World} : Reads W ty189 := inferInstanceAs (Reads W (tSl 314 ty314))
theorem ty189_form {w : World} {cs : List Value} {xs : (List D.ShardRedex)} (h : ty189.ro w cs xs) : ∃ A c, cs = [.slice A xs.length c] := slForm h

def ty191 : Ty D.Shard := tMap (fun c => (c.Cells, c.Vars, c.Redexes, ())) (tPair ty187 (tPair ty188 (tPair ty189 tUnit)))
instance {W : World} : Reads W ty191 := inferInstanceAs (Reads W (tMap (fun c : D.Shard => (c.Cells, c.Vars, c.Redexes, ())) (tPair ty187 (tPair ty188 (tPair ty189 tUnit)))))
theorem ty191_open {w : World} {cs : List Value} {c : D.Shard} (h : ty191.ro w cs c) : ∃ A0 k0 A1 k1 A2 k2, cs = [.slice A0 c.Cells.length k0, .slice A1 c.Vars.length k1, .slice A2 c.Redexes.length k2] ∧ ty187.ro w [.slice A0 c.Cells.length k0] c.Cells ∧ ty188.ro w [.slice A1 c.Vars.length k1] c.Vars ∧ ty189.ro w [.slice A2 c.Redexes.length k2] c.Redexes := by
  obtain ⟨c0, d0, rfl, h0, c1, d1, rfl, h1, c2, d2, rfl, h2, hz⟩ := h
  subst hz
  obtain ⟨A0_, k0_, e0⟩ := ty187_form h0
  subst e0
  obtain ⟨A1_, k1_, e1⟩ := ty188_form h1
  subst e1
  obtain ⟨A2_, k2_, e2⟩ := ty189_form h2
  subst e2
  exact ⟨A0_, k0_, A1_, k1_, A2_, k2_, rfl, h0, h1, h2⟩
theorem ty191_shut {w : World} (c : D.Shard) {A0 : Option Addr} {k0 : Nat} {A1 : Option Addr} {k1 : Nat} {A2 : Option Addr} {k2 : Nat} (h0 : ty187.ro w [.slice A0 c.Cells.length k0] c.Cells) (h1 : ty188.ro w [.slice A1 c.Vars.length k1] c.Vars) (h2 : ty189.ro w [.slice A2 c.Redexes.length k2] c.Redexes) : ty191.ro w [.slice A0 c.Cells.length k0, .slice A1 c.Vars.length k1, .slice A2 c.Redexes.length k2] c :=
  ⟨_, _, rfl, h0, ⟨_, _, rfl, h1, ⟨_, _, rfl, h2, rfl⟩⟩⟩
theorem ty191_own {w : World} {cs : List Value} {c : D.Shard} {G : List Nat} (h : ty191.own w cs c G) : ∃ A0 k0 A1 k1 A2 k2, cs = [.slice A0 c.Cells.length k0, .slice A1 c.Vars.length k1, .slice A2 c.Redexes.length k2] ∧ (All [Own ty187 [.slice A0 c.Cells.length k0] c.Cells, Own ty188 [.slice A1 c.Vars.length k1] c.Vars, Own ty189 [.slice A2 c.Redexes.length k2] c.Redexes]).A w G := by
  obtain ⟨c0, d0, H0, K0, rfl, rfl, h0, c1, d1, H1, K1, rfl, rfl, h1, c2, d2, H2, K2, rfl, rfl, h2, hz, hk⟩ := h
  subst hz; subst hk
  obtain ⟨A0_, k0_, e0⟩ := slFormO h0
  subst e0
  obtain ⟨A1_, k1_, e1⟩ := slFormO h1
  subst e1
  obtain ⟨A2_, k2_, e2⟩ := slFormO h2
  subst e2
  refine ⟨A0_, k0_, A1_, k1_, A2_, k2_, rfl, ?_⟩
  show (All _).A w _
  exact cast (congrArg _ (by simp)) (show (All _).A w (H0 ++ (H1 ++ (H2 ++ ([])))) from ⟨_, _, rfl, h0, ⟨_, _, rfl, h1, ⟨_, _, rfl, h2, rfl⟩⟩⟩)
theorem ty191_ownI {w : World} {c : D.Shard} {A0 : Option Addr} {k0 : Nat} {A1 : Option Addr} {k1 : Nat} {A2 : Option Addr} {k2 : Nat} {G : List Nat} (h : (All [Own ty187 [.slice A0 c.Cells.length k0] c.Cells, Own ty188 [.slice A1 c.Vars.length k1] c.Vars, Own ty189 [.slice A2 c.Redexes.length k2] c.Redexes]).A w G) : ty191.own w [.slice A0 c.Cells.length k0, .slice A1 c.Vars.length k1, .slice A2 c.Redexes.length k2] c G := by
  obtain ⟨G0, R0, rfl, h0, G1, R1, rfl, h1, G2, R2, rfl, h2, hz⟩ := h
  have hz' : R2 = [] := hz
  subst hz'
  exact cast (congrArg _ (by simp)) (show ty191.own w [.slice A0 c.Cells.length k0, .slice A1 c.Vars.length k1, .slice A2 c.Redexes.length k2] c (_) from ⟨_, _, _, _, rfl, rfl, h0, ⟨_, _, _, _, rfl, rfl, h1, ⟨_, _, _, _, rfl, rfl, h2, ⟨rfl, rfl⟩⟩⟩⟩)
theorem ty191_openS {W w : World} {B : List Res} {cs : List Value} {c : D.Shard} (h : St W w (Own ty191 cs c :: B)) : ∃ A0 k0 A1 k1 A2 k2, cs = [.slice A0 c.Cells.length k0, .slice A1 c.Vars.length k1, .slice A2 c.Redexes.length k2] ∧ St W w ([Own ty187 [.slice A0 c.Cells.length k0] c.Cells, Own ty188 [.slice A1 c.Vars.length k1] c.Vars, Own ty189 [.slice A2 c.Redexes.length k2] c.Redexes] ++ B) := by
  obtain ⟨G, hA, _⟩ := h.sep.head
  obtain ⟨A0, k0, A1, k1, A2, k2, rfl, _⟩ := ty191_own hA
  refine ⟨A0, k0, A1, k1, A2, k2, rfl, St.splitAll (h.conv fun G hG => ?_)⟩
  obtain ⟨X0, Y0, X1, Y1, X2, Y2, he, hh⟩ := ty191_own hG
  simp only [List.cons.injEq, Value.slice.injEq, and_true, true_and] at he
  obtain ⟨⟨rfl, rfl⟩, ⟨rfl, rfl⟩, ⟨rfl, rfl⟩⟩ := he
  exact hh
theorem ty191_shutS {W w : World} {B : List Res} {c : D.Shard} {A0 : Option Addr} {k0 : Nat} {A1 : Option Addr} {k1 : Nat} {A2 : Option Addr} {k2 : Nat} (h : St W w ([Own ty187 [.slice A0 c.Cells.length k0] c.Cells, Own ty188 [.slice A1 c.Vars.length k1] c.Vars, Own ty189 [.slice A2 c.Redexes.length k2] c.Redexes] ++ B)) : St W w (Own ty191 [.slice A0 c.Cells.length k0, .slice A1 c.Vars.length k1, .slice A2 c.Redexes.length k2] c :: B) := (St.fuseAll h).conv fun _ hG => ty191_ownI hG

def ty54 : Ty (List D.Shard) := tSl 191 ty191
instance {W : World} : Reads W ty54 := inferInstanceAs (Reads W (tSl 191 ty191))
theorem ty54_form {w : World} {cs : List Value} {xs : (List D.Shard)} (h : ty54.ro w cs xs) : ∃ A c, cs = [.slice A xs.length c] := slForm h

def ty58 : Ty D.Grid := tMap (fun c => (c.Shards, c.Root, ())) (tPair ty54 (tPair ty56 tUnit))
instance {W : World} : Reads W ty58 := inferInstanceAs (Reads W (tMap (fun c : D.Grid => (c.Shards, c.Root, ())) (tPair ty54 (tPair ty56 tUnit))))
theorem ty58_open {w : World} {cs : List Value} {c : D.Grid} (h : ty58.ro w cs c) : ∃ A0 k0, cs = [.slice A0 c.Shards.length k0, .int .i64 c.Root.Machine, .int .i64 c.Root.Kind, .int .i64 c.Root.Index] ∧ ty54.ro w [.slice A0 c.Shards.length k0] c.Shards := by
  obtain ⟨c0, d0, rfl, h0, c1, d1, rfl, h1, hz⟩ := h
  subst hz
  obtain ⟨A0_, k0_, e0⟩ := ty54_form h0
  subst e0
  have e1 := ty56_open h1
  subst e1
  exact ⟨A0_, k0_, rfl, h0⟩
theorem ty58_shut {w : World} (c : D.Grid) {A0 : Option Addr} {k0 : Nat} (h0 : ty54.ro w [.slice A0 c.Shards.length k0] c.Shards) : ty58.ro w [.slice A0 c.Shards.length k0, .int .i64 c.Root.Machine, .int .i64 c.Root.Kind, .int .i64 c.Root.Index] c :=
  ⟨_, _, rfl, h0, ⟨_, _, rfl, (ty56_shut c.Root ), rfl⟩⟩
theorem ty58_own {w : World} {cs : List Value} {c : D.Grid} {G : List Nat} (h : ty58.own w cs c G) : ∃ A0 k0, cs = [.slice A0 c.Shards.length k0, .int .i64 c.Root.Machine, .int .i64 c.Root.Kind, .int .i64 c.Root.Index] ∧ (All [Own ty54 [.slice A0 c.Shards.length k0] c.Shards]).A w G := by
  obtain ⟨c0, d0, H0, K0, rfl, rfl, h0, c1, d1, H1, K1, rfl, rfl, h1, hz, hk⟩ := h
  subst hz; subst hk
  obtain ⟨A0_, k0_, e0⟩ := slFormO h0
  subst e0
  obtain ⟨e1, g1⟩ := ty56_own h1
  subst e1
  refine ⟨A0_, k0_, rfl, ?_⟩
  exact cast (congrArg _ (by simp)) (allApp (allOne h0) g1)
theorem ty58_ownI {w : World} {c : D.Grid} {A0 : Option Addr} {k0 : Nat} {G : List Nat} (h : (All [Own ty54 [.slice A0 c.Shards.length k0] c.Shards]).A w G) : ty58.own w [.slice A0 c.Shards.length k0, .int .i64 c.Root.Machine, .int .i64 c.Root.Kind, .int .i64 c.Root.Index] c G := by
  obtain ⟨G0, R0, rfl, h0, hz⟩ := h
  have hz' : R0 = [] := hz
  subst hz'
  exact cast (congrArg _ (by simp)) (show ty58.own w [.slice A0 c.Shards.length k0, .int .i64 c.Root.Machine, .int .i64 c.Root.Kind, .int .i64 c.Root.Index] c (_) from ⟨_, _, _, _, rfl, rfl, h0, ⟨_, _, _, _, rfl, rfl, (ty56_ownI (c := c.Root) rfl), ⟨rfl, rfl⟩⟩⟩)
theorem ty58_openS {W w : World} {B : List Res} {cs : List Value} {c : D.Grid} (h : St W w (Own ty58 cs c :: B)) : ∃ A0 k0, cs = [.slice A0 c.Shards.length k0, .int .i64 c.Root.Machine, .int .i64 c.Root.Kind, .int .i64 c.Root.Index] ∧ St W w ([Own ty54 [.slice A0 c.Shards.length k0] c.Shards] ++ B) := by
  obtain ⟨G, hA, _⟩ := h.sep.head
  obtain ⟨A0, k0, rfl, _⟩ := ty58_own hA
  refine ⟨A0, k0, rfl, St.splitAll (h.conv fun G hG => ?_)⟩
  obtain ⟨X0, Y0, he, hh⟩ := ty58_own hG
  simp only [List.cons.injEq, Value.slice.injEq, and_true, true_and] at he
  obtain ⟨rfl, rfl⟩ := he
  exact hh
theorem ty58_shutS {W w : World} {B : List Res} {c : D.Grid} {A0 : Option Addr} {k0 : Nat} (h : St W w ([Own ty54 [.slice A0 c.Shards.length k0] c.Shards] ++ B)) : St W w (Own ty58 [.slice A0 c.Shards.length k0, .int .i64 c.Root.Machine, .int .i64 c.Root.Kind, .int .i64 c.Root.Index] c :: B) := (St.fuseAll h).conv fun _ hG => ty58_ownI hG

def ty62 : Ty D.Address := tMap (fun c => (c.Machine, c.Kind, c.Index, ())) (tPair tInt (tPair tInt (tPair tInt tUnit)))
instance {W : World} : Reads W ty62 := inferInstanceAs (Reads W (tMap (fun c : D.Address => (c.Machine, c.Kind, c.Index, ())) (tPair tInt (tPair tInt (tPair tInt tUnit)))))
theorem ty62_open {w : World} {cs : List Value} {c : D.Address} (h : ty62.ro w cs c) : cs = [.int .i64 c.Machine, .int .i64 c.Kind, .int .i64 c.Index] := by
  obtain ⟨c0, d0, rfl, h0, c1, d1, rfl, h1, c2, d2, rfl, h2, hz⟩ := h
  subst hz
  subst h0
  subst h1
  subst h2
  rfl
theorem ty62_shut {w : World} (c : D.Address)   : ty62.ro w [.int .i64 c.Machine, .int .i64 c.Kind, .int .i64 c.Index] c :=
  ⟨_, _, rfl, rfl, ⟨_, _, rfl, rfl, ⟨_, _, rfl, rfl, rfl⟩⟩⟩
theorem ty62_own {w : World} {cs : List Value} {c : D.Address} {G : List Nat} (h : ty62.own w cs c G) : cs = [.int .i64 c.Machine, .int .i64 c.Kind, .int .i64 c.Index] ∧ (All []).A w G := by
  obtain ⟨c0, d0, H0, K0, rfl, rfl, h0, c1, d1, H1, K1, rfl, rfl, h1, c2, d2, H2, K2, rfl, rfl, h2, hz, hk⟩ := h
  subst hz; subst hk
  obtain ⟨e0, k0⟩ := h0; subst e0; subst k0
  obtain ⟨e1, k1⟩ := h1; subst e1; subst k1
  obtain ⟨e2, k2⟩ := h2; subst e2; subst k2
  refine ⟨rfl, ?_⟩
  show (All _).A w _
  exact cast (congrArg _ (by simp)) (show (All _).A w ([]) from rfl)
theorem ty62_ownI {w : World} {c : D.Address}  {G : List Nat} (h : (All []).A w G) : ty62.own w [.int .i64 c.Machine, .int .i64 c.Kind, .int .i64 c.Index] c G := by
  have hz : G = [] := h
  subst hz
  exact cast (congrArg _ (by simp)) (show ty62.own w [.int .i64 c.Machine, .int .i64 c.Kind, .int .i64 c.Index] c (_) from ⟨_, _, _, _, rfl, rfl, ⟨rfl, rfl⟩, ⟨_, _, _, _, rfl, rfl, ⟨rfl, rfl⟩, ⟨_, _, _, _, rfl, rfl, ⟨rfl, rfl⟩, ⟨rfl, rfl⟩⟩⟩⟩)
theorem ty62_openS {W w : World} {B : List Res} {cs : List Value} {c : D.Address} (h : St W w (Own ty62 cs c :: B)) : cs = [.int .i64 c.Machine, .int .i64 c.Kind, .int .i64 c.Index] ∧ St W w ([] ++ B) := by
  obtain ⟨G, hA, _⟩ := h.sep.head
  obtain ⟨rfl, _⟩ := ty62_own hA
  refine ⟨rfl, St.splitAll (h.conv fun G hG => ?_)⟩
  exact (ty62_own hG).2
theorem ty62_shutS {W w : World} {B : List Res} {c : D.Address}  (h : St W w ([] ++ B)) : St W w (Own ty62 [.int .i64 c.Machine, .int .i64 c.Kind, .int .i64 c.Index] c :: B) := (St.fuseAll h).conv fun _ hG => ty62_ownI hG

def ty246 : Ty (List D.Address) := tSl 62 ty62
instance {W : World} : Reads W ty246 := inferInstanceAs (Reads W (tSl 62 ty62))
theorem ty246_form {w : World} {cs : List Value} {xs : (List D.Address)} (h : ty246.ro w cs xs) : ∃ A c, cs = [.slice A xs.length c] := slForm h

def ty248 : Ty D.ShardCell := tMap (fun c => (c.Kind, c.Level, c.Value, c.Data, c.Aux, ())) (tPair tInt (tPair tInt (tPair tInt (tPair ty103 (tPair ty246 tUnit)))))
instance {W : World} : Reads W ty248 := inferInstanceAs (Reads W (tMap (fun c : D.ShardCell => (c.Kind, c.Level, c.Value, c.Data, c.Aux, ())) (tPair tInt (tPair tInt (tPair tInt (tPair ty103 (tPair ty246 tUnit)))))))
theorem ty248_open {w : World} {cs : List Value} {c : D.ShardCell} (h : ty248.ro w cs c) : ∃ A0 k0 A1 k1, cs = [.int .i64 c.Kind, .int .i64 c.Level, .int .i64 c.Value, .slice A0 c.Data.length k0, .slice A1 c.Aux.length k1] ∧ ty103.ro w [.slice A0 c.Data.length k0] c.Data ∧ ty246.ro w [.slice A1 c.Aux.length k1] c.Aux := by
  obtain ⟨c0, d0, rfl, h0, c1, d1, rfl, h1, c2, d2, rfl, h2, c3, d3, rfl, h3, c4, d4, rfl, h4, hz⟩ := h
  subst hz
  subst h0
  subst h1
  subst h2
  obtain ⟨A3_, k3_, e3⟩ := ty103_form h3
  subst e3
  obtain ⟨A4_, k4_, e4⟩ := ty246_form h4
  subst e4
  exact ⟨A3_, k3_, A4_, k4_, rfl, h3, h4⟩
theorem ty248_shut {w : World} (c : D.ShardCell) {A0 : Option Addr} {k0 : Nat} {A1 : Option Addr} {k1 : Nat} (h0 : ty103.ro w [.slice A0 c.Data.length k0] c.Data) (h1 : ty246.ro w [.slice A1 c.Aux.length k1] c.Aux) : ty248.ro w [.int .i64 c.Kind, .int .i64 c.Level, .int .i64 c.Value, .slice A0 c.Data.length k0, .slice A1 c.Aux.length k1] c :=
  ⟨_, _, rfl, rfl, ⟨_, _, rfl, rfl, ⟨_, _, rfl, rfl, ⟨_, _, rfl, h0, ⟨_, _, rfl, h1, rfl⟩⟩⟩⟩⟩
theorem ty248_own {w : World} {cs : List Value} {c : D.ShardCell} {G : List Nat} (h : ty248.own w cs c G) : ∃ A0 k0 A1 k1, cs = [.int .i64 c.Kind, .int .i64 c.Level, .int .i64 c.Value, .slice A0 c.Data.length k0, .slice A1 c.Aux.length k1] ∧ (All [Own ty103 [.slice A0 c.Data.length k0] c.Data, Own ty246 [.slice A1 c.Aux.length k1] c.Aux]).A w G := by
  obtain ⟨c0, d0, H0, K0, rfl, rfl, h0, c1, d1, H1, K1, rfl, rfl, h1, c2, d2, H2, K2, rfl, rfl, h2, c3, d3, H3, K3, rfl, rfl, h3, c4, d4, H4, K4, rfl, rfl, h4, hz, hk⟩ := h
  subst hz; subst hk
  obtain ⟨e0, k0⟩ := h0; subst e0; subst k0
  obtain ⟨e1, k1⟩ := h1; subst e1; subst k1
  obtain ⟨e2, k2⟩ := h2; subst e2; subst k2
  obtain ⟨A3_, k3_, e3⟩ := slFormO h3
  subst e3
  obtain ⟨A4_, k4_, e4⟩ := slFormO h4
  subst e4
  refine ⟨A3_, k3_, A4_, k4_, rfl, ?_⟩
  show (All _).A w _
  exact cast (congrArg _ (by simp)) (show (All _).A w (H3 ++ (H4 ++ ([]))) from ⟨_, _, rfl, h3, ⟨_, _, rfl, h4, rfl⟩⟩)
theorem ty248_ownI {w : World} {c : D.ShardCell} {A0 : Option Addr} {k0 : Nat} {A1 : Option Addr} {k1 : Nat} {G : List Nat} (h : (All [Own ty103 [.slice A0 c.Data.length k0] c.Data, Own ty246 [.slice A1 c.Aux.length k1] c.Aux]).A w G) : ty248.own w [.int .i64 c.Kind, .int .i64 c.Level, .int .i64 c.Value, .slice A0 c.Data.length k0, .slice A1 c.Aux.length k1] c G := by
  obtain ⟨G0, R0, rfl, h0, G1, R1, rfl, h1, hz⟩ := h
  have hz' : R1 = [] := hz
  subst hz'
  exact cast (congrArg _ (by simp)) (show ty248.own w [.int .i64 c.Kind, .int .i64 c.Level, .int .i64 c.Value, .slice A0 c.Data.length k0, .slice A1 c.Aux.length k1] c (_) from ⟨_, _, _, _, rfl, rfl, ⟨rfl, rfl⟩, ⟨_, _, _, _, rfl, rfl, ⟨rfl, rfl⟩, ⟨_, _, _, _, rfl, rfl, ⟨rfl, rfl⟩, ⟨_, _, _, _, rfl, rfl, h0, ⟨_, _, _, _, rfl, rfl, h1, ⟨rfl, rfl⟩⟩⟩⟩⟩⟩)
theorem ty248_openS {W w : World} {B : List Res} {cs : List Value} {c : D.ShardCell} (h : St W w (Own ty248 cs c :: B)) : ∃ A0 k0 A1 k1, cs = [.int .i64 c.Kind, .int .i64 c.Level, .int .i64 c.Value, .slice A0 c.Data.length k0, .slice A1 c.Aux.length k1] ∧ St W w ([Own ty103 [.slice A0 c.Data.length k0] c.Data, Own ty246 [.slice A1 c.Aux.length k1] c.Aux] ++ B) := by
  obtain ⟨G, hA, _⟩ := h.sep.head
  obtain ⟨A0, k0, A1, k1, rfl, _⟩ := ty248_own hA
  refine ⟨A0, k0, A1, k1, rfl, St.splitAll (h.conv fun G hG => ?_)⟩
  obtain ⟨X0, Y0, X1, Y1, he, hh⟩ := ty248_own hG
  simp only [List.cons.injEq, Value.slice.injEq, and_true, true_and] at he
  obtain ⟨⟨rfl, rfl⟩, ⟨rfl, rfl⟩⟩ := he
  exact hh
theorem ty248_shutS {W w : World} {B : List Res} {c : D.ShardCell} {A0 : Option Addr} {k0 : Nat} {A1 : Option Addr} {k1 : Nat} (h : St W w ([Own ty103 [.slice A0 c.Data.length k0] c.Data, Own ty246 [.slice A1 c.Aux.length k1] c.Aux] ++ B)) : St W w (Own ty248 [.int .i64 c.Kind, .int .i64 c.Level, .int .i64 c.Value, .slice A0 c.Data.length k0, .slice A1 c.Aux.length k1] c :: B) := (St.fuseAll h).conv fun _ hG => ty248_ownI hG

def ty196 : Ty (List D.ShardCell) := tSl 248 ty248
instance {W : World} : Reads W ty196 := inferInstanceAs (Reads W (tSl 248 ty248))
theorem ty196_form {w : World} {cs : List Value} {xs : (List D.ShardCell)} (h : ty196.ro w cs xs) : ∃ A c, cs = [.slice A xs.length c] := slForm h

def ty250 : Ty D.ShardVar := tMap (fun c => (c.Used, c.Full, c.Held, ())) (tPair tBool (tPair tBool (tPair ty62 tUnit)))
instance {W : World} : Reads W ty250 := inferInstanceAs (Reads W (tMap (fun c : D.ShardVar => (c.Used, c.Full, c.Held, ())) (tPair tBool (tPair tBool (tPair ty62 tUnit)))))
theorem ty250_open {w : World} {cs : List Value} {c : D.ShardVar} (h : ty250.ro w cs c) : cs = [.bool c.Used, .bool c.Full, .int .i64 c.Held.Machine, .int .i64 c.Held.Kind, .int .i64 c.Held.Index] := by
  obtain ⟨c0, d0, rfl, h0, c1, d1, rfl, h1, c2, d2, rfl, h2, hz⟩ := h
  subst hz
  subst h0
  subst h1
  have e2 := ty62_open h2
  subst e2
  rfl
theorem ty250_shut {w : World} (c : D.ShardVar)   : ty250.ro w [.bool c.Used, .bool c.Full, .int .i64 c.Held.Machine, .int .i64 c.Held.Kind, .int .i64 c.Held.Index] c :=
  ⟨_, _, rfl, rfl, ⟨_, _, rfl, rfl, ⟨_, _, rfl, (ty62_shut c.Held ), rfl⟩⟩⟩
theorem ty250_own {w : World} {cs : List Value} {c : D.ShardVar} {G : List Nat} (h : ty250.own w cs c G) : cs = [.bool c.Used, .bool c.Full, .int .i64 c.Held.Machine, .int .i64 c.Held.Kind, .int .i64 c.Held.Index] ∧ (All []).A w G := by
  obtain ⟨c0, d0, H0, K0, rfl, rfl, h0, c1, d1, H1, K1, rfl, rfl, h1, c2, d2, H2, K2, rfl, rfl, h2, hz, hk⟩ := h
  subst hz; subst hk
  obtain ⟨e0, k0⟩ := h0; subst e0; subst k0
  obtain ⟨e1, k1⟩ := h1; subst e1; subst k1
  obtain ⟨e2, g2⟩ := ty62_own h2
  subst e2
  refine ⟨rfl, ?_⟩
  exact cast (congrArg _ (by simp)) g2
theorem ty250_ownI {w : World} {c : D.ShardVar}  {G : List Nat} (h : (All []).A w G) : ty250.own w [.bool c.Used, .bool c.Full, .int .i64 c.Held.Machine, .int .i64 c.Held.Kind, .int .i64 c.Held.Index] c G := by
  have hz : G = [] := h
  subst hz
  exact cast (congrArg _ (by simp)) (show ty250.own w [.bool c.Used, .bool c.Full, .int .i64 c.Held.Machine, .int .i64 c.Held.Kind, .int .i64 c.Held.Index] c (_) from ⟨_, _, _, _, rfl, rfl, ⟨rfl, rfl⟩, ⟨_, _, _, _, rfl, rfl, ⟨rfl, rfl⟩, ⟨_, _, _, _, rfl, rfl, (ty62_ownI (c := c.Held) rfl), ⟨rfl, rfl⟩⟩⟩⟩)
theorem ty250_openS {W w : World} {B : List Res} {cs : List Value} {c : D.ShardVar} (h : St W w (Own ty250 cs c :: B)) : cs = [.bool c.Used, .bool c.Full, .int .i64 c.Held.Machine, .int .i64 c.Held.Kind, .int .i64 c.Held.Index] ∧ St W w ([] ++ B) := by
  obtain ⟨G, hA, _⟩ := h.sep.head
  obtain ⟨rfl, _⟩ := ty250_own hA
  refine ⟨rfl, St.splitAll (h.conv fun G hG => ?_)⟩
  exact (ty250_own hG).2
theorem ty250_shutS {W w : World} {B : List Res} {c : D.ShardVar}  (h : St W w ([] ++ B)) : St W w (Own ty250 [.bool c.Used, .bool c.Full, .int .i64 c.Held.Machine, .int .i64 c.Held.Kind, .int .i64 c.Held.Index] c :: B) := (St.fuseAll h).conv fun _ hG => ty250_ownI hG

def ty197 : Ty (List D.ShardVar) := tSl 250 ty250
instance {W : World} : Reads W ty197 := inferInstanceAs (Reads W (tSl 250 ty250))
theorem ty197_form {w : World} {cs : List Value} {xs : (List D.ShardVar)} (h : ty197.ro w cs xs) : ∃ A c, cs = [.slice A xs.length c] := slForm h

def ty261 : Ty D.ShardRedex := tMap (fun c => (c.A, c.B, ())) (tPair ty62 (tPair ty62 tUnit))
instance {W : World} : Reads W ty261 := inferInstanceAs (Reads W (tMap (fun c : D.ShardRedex => (c.A, c.B, ())) (tPair ty62 (tPair ty62 tUnit))))
theorem ty261_open {w : World} {cs : List Value} {c : D.ShardRedex} (h : ty261.ro w cs c) : cs = [.int .i64 c.A.Machine, .int .i64 c.A.Kind, .int .i64 c.A.Index, .int .i64 c.B.Machine, .int .i64 c.B.Kind, .int .i64 c.B.Index] := by
  obtain ⟨c0, d0, rfl, h0, c1, d1, rfl, h1, hz⟩ := h
  subst hz
  have e0 := ty62_open h0
  subst e0
  have e1 := ty62_open h1
  subst e1
  rfl
theorem ty261_shut {w : World} (c : D.ShardRedex)   : ty261.ro w [.int .i64 c.A.Machine, .int .i64 c.A.Kind, .int .i64 c.A.Index, .int .i64 c.B.Machine, .int .i64 c.B.Kind, .int .i64 c.B.Index] c :=
  ⟨_, _, rfl, (ty62_shut c.A ), ⟨_, _, rfl, (ty62_shut c.B ), rfl⟩⟩
theorem ty261_own {w : World} {cs : List Value} {c : D.ShardRedex} {G : List Nat} (h : ty261.own w cs c G) : cs = [.int .i64 c.A.Machine, .int .i64 c.A.Kind, .int .i64 c.A.Index, .int .i64 c.B.Machine, .int .i64 c.B.Kind, .int .i64 c.B.Index] ∧ (All []).A w G := by
  obtain ⟨c0, d0, H0, K0, rfl, rfl, h0, c1, d1, H1, K1, rfl, rfl, h1, hz, hk⟩ := h
  subst hz; subst hk
  obtain ⟨e0, g0⟩ := ty62_own h0
  subst e0
  obtain ⟨e1, g1⟩ := ty62_own h1
  subst e1
  refine ⟨rfl, ?_⟩
  exact cast (congrArg _ (by simp)) (allApp g0 g1)
theorem ty261_ownI {w : World} {c : D.ShardRedex}  {G : List Nat} (h : (All []).A w G) : ty261.own w [.int .i64 c.A.Machine, .int .i64 c.A.Kind, .int .i64 c.A.Index, .int .i64 c.B.Machine, .int .i64 c.B.Kind, .int .i64 c.B.Index] c G := by
  have hz : G = [] := h
  subst hz
  exact cast (congrArg _ (by simp)) (show ty261.own w [.int .i64 c.A.Machine, .int .i64 c.A.Kind, .int .i64 c.A.Index, .int .i64 c.B.Machine, .int .i64 c.B.Kind, .int .i64 c.B.Index] c (_) from ⟨_, _, _, _, rfl, rfl, (ty62_ownI (c := c.A) rfl), ⟨_, _, _, _, rfl, rfl, (ty62_ownI (c := c.B) rfl), ⟨rfl, rfl⟩⟩⟩)
theorem ty261_openS {W w : World} {B : List Res} {cs : List Value} {c : D.ShardRedex} (h : St W w (Own ty261 cs c :: B)) : cs = [.int .i64 c.A.Machine, .int .i64 c.A.Kind, .int .i64 c.A.Index, .int .i64 c.B.Machine, .int .i64 c.B.Kind, .int .i64 c.B.Index] ∧ St W w ([] ++ B) := by
  obtain ⟨G, hA, _⟩ := h.sep.head
  obtain ⟨rfl, _⟩ := ty261_own hA
  refine ⟨rfl, St.splitAll (h.conv fun G hG => ?_)⟩
  exact (ty261_own hG).2
theorem ty261_shutS {W w : World} {B : List Res} {c : D.ShardRedex}  (h : St W w ([] ++ B)) : St W w (Own ty261 [.int .i64 c.A.Machine, .int .i64 c.A.Kind, .int .i64 c.A.Index, .int .i64 c.B.Machine, .int .i64 c.B.Kind, .int .i64 c.B.Index] c :: B) := (St.fuseAll h).conv fun _ hG => ty261_ownI hG

def ty198 : Ty (List D.ShardRedex) := tSl 261 ty261
instance {W : World} : Reads W ty198 := inferInstanceAs (Reads W (tSl 261 ty261))
theorem ty198_form {w : World} {cs : List Value} {xs : (List D.ShardRedex)} (h : ty198.ro w cs xs) : ∃ A c, cs = [.slice A xs.length c] := slForm h

def ty200 : Ty D.Shard := tMap (fun c => (c.Cells, c.Vars, c.Redexes, ())) (tPair ty196 (tPair ty197 (tPair ty198 tUnit)))
instance {W : World} : Reads W ty200 := inferInstanceAs (Reads W (tMap (fun c : D.Shard => (c.Cells, c.Vars, c.Redexes, ())) (tPair ty196 (tPair ty197 (tPair ty198 tUnit)))))
theorem ty200_open {w : World} {cs : List Value} {c : D.Shard} (h : ty200.ro w cs c) : ∃ A0 k0 A1 k1 A2 k2, cs = [.slice A0 c.Cells.length k0, .slice A1 c.Vars.length k1, .slice A2 c.Redexes.length k2] ∧ ty196.ro w [.slice A0 c.Cells.length k0] c.Cells ∧ ty197.ro w [.slice A1 c.Vars.length k1] c.Vars ∧ ty198.ro w [.slice A2 c.Redexes.length k2] c.Redexes := by
  obtain ⟨c0, d0, rfl, h0, c1, d1, rfl, h1, c2, d2, rfl, h2, hz⟩ := h
  subst hz
  obtain ⟨A0_, k0_, e0⟩ := ty196_form h0
  subst e0
  obtain ⟨A1_, k1_, e1⟩ := ty197_form h1
  subst e1
  obtain ⟨A2_, k2_, e2⟩ := ty198_form h2
  subst e2
  exact ⟨A0_, k0_, A1_, k1_, A2_, k2_, rfl, h0, h1, h2⟩
theorem ty200_shut {w : World} (c : D.Shard) {A0 : Option Addr} {k0 : Nat} {A1 : Option Addr} {k1 : Nat} {A2 : Option Addr} {k2 : Nat} (h0 : ty196.ro w [.slice A0 c.Cells.length k0] c.Cells) (h1 : ty197.ro w [.slice A1 c.Vars.length k1] c.Vars) (h2 : ty198.ro w [.slice A2 c.Redexes.length k2] c.Redexes) : ty200.ro w [.slice A0 c.Cells.length k0, .slice A1 c.Vars.length k1, .slice A2 c.Redexes.length k2] c :=
  ⟨_, _, rfl, h0, ⟨_, _, rfl, h1, ⟨_, _, rfl, h2, rfl⟩⟩⟩
theorem ty200_own {w : World} {cs : List Value} {c : D.Shard} {G : List Nat} (h : ty200.own w cs c G) : ∃ A0 k0 A1 k1 A2 k2, cs = [.slice A0 c.Cells.length k0, .slice A1 c.Vars.length k1, .slice A2 c.Redexes.length k2] ∧ (All [Own ty196 [.slice A0 c.Cells.length k0] c.Cells, Own ty197 [.slice A1 c.Vars.length k1] c.Vars, Own ty198 [.slice A2 c.Redexes.length k2] c.Redexes]).A w G := by
  obtain ⟨c0, d0, H0, K0, rfl, rfl, h0, c1, d1, H1, K1, rfl, rfl, h1, c2, d2, H2, K2, rfl, rfl, h2, hz, hk⟩ := h
  subst hz; subst hk
  obtain ⟨A0_, k0_, e0⟩ := slFormO h0
  subst e0
  obtain ⟨A1_, k1_, e1⟩ := slFormO h1
  subst e1
  obtain ⟨A2_, k2_, e2⟩ := slFormO h2
  subst e2
  refine ⟨A0_, k0_, A1_, k1_, A2_, k2_, rfl, ?_⟩
  show (All _).A w _
  exact cast (congrArg _ (by simp)) (show (All _).A w (H0 ++ (H1 ++ (H2 ++ ([])))) from ⟨_, _, rfl, h0, ⟨_, _, rfl, h1, ⟨_, _, rfl, h2, rfl⟩⟩⟩)
theorem ty200_ownI {w : World} {c : D.Shard} {A0 : Option Addr} {k0 : Nat} {A1 : Option Addr} {k1 : Nat} {A2 : Option Addr} {k2 : Nat} {G : List Nat} (h : (All [Own ty196 [.slice A0 c.Cells.length k0] c.Cells, Own ty197 [.slice A1 c.Vars.length k1] c.Vars, Own ty198 [.slice A2 c.Redexes.length k2] c.Redexes]).A w G) : ty200.own w [.slice A0 c.Cells.length k0, .slice A1 c.Vars.length k1, .slice A2 c.Redexes.length k2] c G := by
  obtain ⟨G0, R0, rfl, h0, G1, R1, rfl, h1, G2, R2, rfl, h2, hz⟩ := h
  have hz' : R2 = [] := hz
  subst hz'
  exact cast (congrArg _ (by simp)) (show ty200.own w [.slice A0 c.Cells.length k0, .slice A1 c.Vars.length k1, .slice A2 c.Redexes.length k2] c (_) from ⟨_, _, _, _, rfl, rfl, h0, ⟨_, _, _, _, rfl, rfl, h1, ⟨_, _, _, _, rfl, rfl, h2, ⟨rfl, rfl⟩⟩⟩⟩)
theorem ty200_openS {W w : World} {B : List Res} {cs : List Value} {c : D.Shard} (h : St W w (Own ty200 cs c :: B)) : ∃ A0 k0 A1 k1 A2 k2, cs = [.slice A0 c.Cells.length k0, .slice A1 c.Vars.length k1, .slice A2 c.Redexes.length k2] ∧ St W w ([Own ty196 [.slice A0 c.Cells.length k0] c.Cells, Own ty197 [.slice A1 c.Vars.length k1] c.Vars, Own ty198 [.slice A2 c.Redexes.length k2] c.Redexes] ++ B) := by
  obtain ⟨G, hA, _⟩ := h.sep.head
  obtain ⟨A0, k0, A1, k1, A2, k2, rfl, _⟩ := ty200_own hA
  refine ⟨A0, k0, A1, k1, A2, k2, rfl, St.splitAll (h.conv fun G hG => ?_)⟩
  obtain ⟨X0, Y0, X1, Y1, X2, Y2, he, hh⟩ := ty200_own hG
  simp only [List.cons.injEq, Value.slice.injEq, and_true, true_and] at he
  obtain ⟨⟨rfl, rfl⟩, ⟨rfl, rfl⟩, ⟨rfl, rfl⟩⟩ := he
  exact hh
theorem ty200_shutS {W w : World} {B : List Res} {c : D.Shard} {A0 : Option Addr} {k0 : Nat} {A1 : Option Addr} {k1 : Nat} {A2 : Option Addr} {k2 : Nat} (h : St W w ([Own ty196 [.slice A0 c.Cells.length k0] c.Cells, Own ty197 [.slice A1 c.Vars.length k1] c.Vars, Own ty198 [.slice A2 c.Redexes.length k2] c.Redexes] ++ B)) : St W w (Own ty200 [.slice A0 c.Cells.length k0, .slice A1 c.Vars.length k1, .slice A2 c.Redexes.length k2] c :: B) := (St.fuseAll h).conv fun _ hG => ty200_ownI hG

def ty61 : Ty (List D.Shard) := tSl 200 ty200
instance {W : World} : Reads W ty61 := inferInstanceAs (Reads W (tSl 200 ty200))
theorem ty61_form {w : World} {cs : List Value} {xs : (List D.Shard)} (h : ty61.ro w cs xs) : ∃ A c, cs = [.slice A xs.length c] := slForm h

def ty64 : Ty D.Grid := tMap (fun c => (c.Shards, c.Root, ())) (tPair ty61 (tPair ty62 tUnit))
instance {W : World} : Reads W ty64 := inferInstanceAs (Reads W (tMap (fun c : D.Grid => (c.Shards, c.Root, ())) (tPair ty61 (tPair ty62 tUnit))))
theorem ty64_open {w : World} {cs : List Value} {c : D.Grid} (h : ty64.ro w cs c) : ∃ A0 k0, cs = [.slice A0 c.Shards.length k0, .int .i64 c.Root.Machine, .int .i64 c.Root.Kind, .int .i64 c.Root.Index] ∧ ty61.ro w [.slice A0 c.Shards.length k0] c.Shards := by
  obtain ⟨c0, d0, rfl, h0, c1, d1, rfl, h1, hz⟩ := h
  subst hz
  obtain ⟨A0_, k0_, e0⟩ := ty61_form h0
  subst e0
  have e1 := ty62_open h1
  subst e1
  exact ⟨A0_, k0_, rfl, h0⟩
theorem ty64_shut {w : World} (c : D.Grid) {A0 : Option Addr} {k0 : Nat} (h0 : ty61.ro w [.slice A0 c.Shards.length k0] c.Shards) : ty64.ro w [.slice A0 c.Shards.length k0, .int .i64 c.Root.Machine, .int .i64 c.Root.Kind, .int .i64 c.Root.Index] c :=
  ⟨_, _, rfl, h0, ⟨_, _, rfl, (ty62_shut c.Root ), rfl⟩⟩
theorem ty64_own {w : World} {cs : List Value} {c : D.Grid} {G : List Nat} (h : ty64.own w cs c G) : ∃ A0 k0, cs = [.slice A0 c.Shards.length k0, .int .i64 c.Root.Machine, .int .i64 c.Root.Kind, .int .i64 c.Root.Index] ∧ (All [Own ty61 [.slice A0 c.Shards.length k0] c.Shards]).A w G := by
  obtain ⟨c0, d0, H0, K0, rfl, rfl, h0, c1, d1, H1, K1, rfl, rfl, h1, hz, hk⟩ := h
  subst hz; subst hk
  obtain ⟨A0_, k0_, e0⟩ := slFormO h0
  subst e0
  obtain ⟨e1, g1⟩ := ty62_own h1
  subst e1
  refine ⟨A0_, k0_, rfl, ?_⟩
  exact cast (congrArg _ (by simp)) (allApp (allOne h0) g1)
theorem ty64_ownI {w : World} {c : D.Grid} {A0 : Option Addr} {k0 : Nat} {G : List Nat} (h : (All [Own ty61 [.slice A0 c.Shards.length k0] c.Shards]).A w G) : ty64.own w [.slice A0 c.Shards.length k0, .int .i64 c.Root.Machine, .int .i64 c.Root.Kind, .int .i64 c.Root.Index] c G := by
  obtain ⟨G0, R0, rfl, h0, hz⟩ := h
  have hz' : R0 = [] := hz
  subst hz'
  exact cast (congrArg _ (by simp)) (show ty64.own w [.slice A0 c.Shards.length k0, .int .i64 c.Root.Machine, .int .i64 c.Root.Kind, .int .i64 c.Root.Index] c (_) from ⟨_, _, _, _, rfl, rfl, h0, ⟨_, _, _, _, rfl, rfl, (ty62_ownI (c := c.Root) rfl), ⟨rfl, rfl⟩⟩⟩)
theorem ty64_openS {W w : World} {B : List Res} {cs : List Value} {c : D.Grid} (h : St W w (Own ty64 cs c :: B)) : ∃ A0 k0, cs = [.slice A0 c.Shards.length k0, .int .i64 c.Root.Machine, .int .i64 c.Root.Kind, .int .i64 c.Root.Index] ∧ St W w ([Own ty61 [.slice A0 c.Shards.length k0] c.Shards] ++ B) := by
  obtain ⟨G, hA, _⟩ := h.sep.head
  obtain ⟨A0, k0, rfl, _⟩ := ty64_own hA
  refine ⟨A0, k0, rfl, St.splitAll (h.conv fun G hG => ?_)⟩
  obtain ⟨X0, Y0, he, hh⟩ := ty64_own hG
  simp only [List.cons.injEq, Value.slice.injEq, and_true, true_and] at he
  obtain ⟨rfl, rfl⟩ := he
  exact hh
theorem ty64_shutS {W w : World} {B : List Res} {c : D.Grid} {A0 : Option Addr} {k0 : Nat} (h : St W w ([Own ty61 [.slice A0 c.Shards.length k0] c.Shards] ++ B)) : St W w (Own ty64 [.slice A0 c.Shards.length k0, .int .i64 c.Root.Machine, .int .i64 c.Root.Kind, .int .i64 c.Root.Index] c :: B) := (St.fuseAll h).conv fun _ hG => ty64_ownI hG

def ty70 : Ty D.Word := tMap (fun c => (c.Tag, c.At, ())) (tPair tInt (tPair tInt tUnit))
instance {W : World} : Reads W ty70 := inferInstanceAs (Reads W (tMap (fun c : D.Word => (c.Tag, c.At, ())) (tPair tInt (tPair tInt tUnit))))
theorem ty70_open {w : World} {cs : List Value} {c : D.Word} (h : ty70.ro w cs c) : cs = [.int .i64 c.Tag, .int .i64 c.At] := by
  obtain ⟨c0, d0, rfl, h0, c1, d1, rfl, h1, hz⟩ := h
  subst hz
  subst h0
  subst h1
  rfl
theorem ty70_shut {w : World} (c : D.Word)   : ty70.ro w [.int .i64 c.Tag, .int .i64 c.At] c :=
  ⟨_, _, rfl, rfl, ⟨_, _, rfl, rfl, rfl⟩⟩
theorem ty70_own {w : World} {cs : List Value} {c : D.Word} {G : List Nat} (h : ty70.own w cs c G) : cs = [.int .i64 c.Tag, .int .i64 c.At] ∧ (All []).A w G := by
  obtain ⟨c0, d0, H0, K0, rfl, rfl, h0, c1, d1, H1, K1, rfl, rfl, h1, hz, hk⟩ := h
  subst hz; subst hk
  obtain ⟨e0, k0⟩ := h0; subst e0; subst k0
  obtain ⟨e1, k1⟩ := h1; subst e1; subst k1
  refine ⟨rfl, ?_⟩
  show (All _).A w _
  exact cast (congrArg _ (by simp)) (show (All _).A w ([]) from rfl)
theorem ty70_ownI {w : World} {c : D.Word}  {G : List Nat} (h : (All []).A w G) : ty70.own w [.int .i64 c.Tag, .int .i64 c.At] c G := by
  have hz : G = [] := h
  subst hz
  exact cast (congrArg _ (by simp)) (show ty70.own w [.int .i64 c.Tag, .int .i64 c.At] c (_) from ⟨_, _, _, _, rfl, rfl, ⟨rfl, rfl⟩, ⟨_, _, _, _, rfl, rfl, ⟨rfl, rfl⟩, ⟨rfl, rfl⟩⟩⟩)
theorem ty70_openS {W w : World} {B : List Res} {cs : List Value} {c : D.Word} (h : St W w (Own ty70 cs c :: B)) : cs = [.int .i64 c.Tag, .int .i64 c.At] ∧ St W w ([] ++ B) := by
  obtain ⟨G, hA, _⟩ := h.sep.head
  obtain ⟨rfl, _⟩ := ty70_own hA
  refine ⟨rfl, St.splitAll (h.conv fun G hG => ?_)⟩
  exact (ty70_own hG).2
theorem ty70_shutS {W w : World} {B : List Res} {c : D.Word}  (h : St W w ([] ++ B)) : St W w (Own ty70 [.int .i64 c.Tag, .int .i64 c.At] c :: B) := (St.fuseAll h).conv fun _ hG => ty70_ownI hG

def ty208 : Ty (List D.Word) := tSl 70 ty70
instance {W : World} : Reads W ty208 := inferInstanceAs (Reads W (tSl 70 ty70))
theorem ty208_form {w : World} {cs : List Value} {xs : (List D.Word)} (h : ty208.ro w cs xs) : ∃ A c, cs = [.slice A xs.length c] := slForm h

def ty210 : Ty D.Cell := tMap (fun c => (c.Kind, c.Level, c.Value, c.Data, c.Words, ())) (tPair tInt (tPair tInt (tPair tInt (tPair ty103 (tPair ty208 tUnit)))))
instance {W : World} : Reads W ty210 := inferInstanceAs (Reads W (tMap (fun c : D.Cell => (c.Kind, c.Level, c.Value, c.Data, c.Words, ())) (tPair tInt (tPair tInt (tPair tInt (tPair ty103 (tPair ty208 tUnit)))))))
theorem ty210_open {w : World} {cs : List Value} {c : D.Cell} (h : ty210.ro w cs c) : ∃ A0 k0 A1 k1, cs = [.int .i64 c.Kind, .int .i64 c.Level, .int .i64 c.Value, .slice A0 c.Data.length k0, .slice A1 c.Words.length k1] ∧ ty103.ro w [.slice A0 c.Data.length k0] c.Data ∧ ty208.ro w [.slice A1 c.Words.length k1] c.Words := by
  obtain ⟨c0, d0, rfl, h0, c1, d1, rfl, h1, c2, d2, rfl, h2, c3, d3, rfl, h3, c4, d4, rfl, h4, hz⟩ := h
  subst hz
  subst h0
  subst h1
  subst h2
  obtain ⟨A3_, k3_, e3⟩ := ty103_form h3
  subst e3
  obtain ⟨A4_, k4_, e4⟩ := ty208_form h4
  subst e4
  exact ⟨A3_, k3_, A4_, k4_, rfl, h3, h4⟩
theorem ty210_shut {w : World} (c : D.Cell) {A0 : Option Addr} {k0 : Nat} {A1 : Option Addr} {k1 : Nat} (h0 : ty103.ro w [.slice A0 c.Data.length k0] c.Data) (h1 : ty208.ro w [.slice A1 c.Words.length k1] c.Words) : ty210.ro w [.int .i64 c.Kind, .int .i64 c.Level, .int .i64 c.Value, .slice A0 c.Data.length k0, .slice A1 c.Words.length k1] c :=
  ⟨_, _, rfl, rfl, ⟨_, _, rfl, rfl, ⟨_, _, rfl, rfl, ⟨_, _, rfl, h0, ⟨_, _, rfl, h1, rfl⟩⟩⟩⟩⟩
theorem ty210_own {w : World} {cs : List Value} {c : D.Cell} {G : List Nat} (h : ty210.own w cs c G) : ∃ A0 k0 A1 k1, cs = [.int .i64 c.Kind, .int .i64 c.Level, .int .i64 c.Value, .slice A0 c.Data.length k0, .slice A1 c.Words.length k1] ∧ (All [Own ty103 [.slice A0 c.Data.length k0] c.Data, Own ty208 [.slice A1 c.Words.length k1] c.Words]).A w G := by
  obtain ⟨c0, d0, H0, K0, rfl, rfl, h0, c1, d1, H1, K1, rfl, rfl, h1, c2, d2, H2, K2, rfl, rfl, h2, c3, d3, H3, K3, rfl, rfl, h3, c4, d4, H4, K4, rfl, rfl, h4, hz, hk⟩ := h
  subst hz; subst hk
  obtain ⟨e0, k0⟩ := h0; subst e0; subst k0
  obtain ⟨e1, k1⟩ := h1; subst e1; subst k1
  obtain ⟨e2, k2⟩ := h2; subst e2; subst k2
  obtain ⟨A3_, k3_, e3⟩ := slFormO h3
  subst e3
  obtain ⟨A4_, k4_, e4⟩ := slFormO h4
  subst e4
  refine ⟨A3_, k3_, A4_, k4_, rfl, ?_⟩
  show (All _).A w _
  exact cast (congrArg _ (by simp)) (show (All _).A w (H3 ++ (H4 ++ ([]))) from ⟨_, _, rfl, h3, ⟨_, _, rfl, h4, rfl⟩⟩)
theorem ty210_ownI {w : World} {c : D.Cell} {A0 : Option Addr} {k0 : Nat} {A1 : Option Addr} {k1 : Nat} {G : List Nat} (h : (All [Own ty103 [.slice A0 c.Data.length k0] c.Data, Own ty208 [.slice A1 c.Words.length k1] c.Words]).A w G) : ty210.own w [.int .i64 c.Kind, .int .i64 c.Level, .int .i64 c.Value, .slice A0 c.Data.length k0, .slice A1 c.Words.length k1] c G := by
  obtain ⟨G0, R0, rfl, h0, G1, R1, rfl, h1, hz⟩ := h
  have hz' : R1 = [] := hz
  subst hz'
  exact cast (congrArg _ (by simp)) (show ty210.own w [.int .i64 c.Kind, .int .i64 c.Level, .int .i64 c.Value, .slice A0 c.Data.length k0, .slice A1 c.Words.length k1] c (_) from ⟨_, _, _, _, rfl, rfl, ⟨rfl, rfl⟩, ⟨_, _, _, _, rfl, rfl, ⟨rfl, rfl⟩, ⟨_, _, _, _, rfl, rfl, ⟨rfl, rfl⟩, ⟨_, _, _, _, rfl, rfl, h0, ⟨_, _, _, _, rfl, rfl, h1, ⟨rfl, rfl⟩⟩⟩⟩⟩⟩)
theorem ty210_openS {W w : World} {B : List Res} {cs : List Value} {c : D.Cell} (h : St W w (Own ty210 cs c :: B)) : ∃ A0 k0 A1 k1, cs = [.int .i64 c.Kind, .int .i64 c.Level, .int .i64 c.Value, .slice A0 c.Data.length k0, .slice A1 c.Words.length k1] ∧ St W w ([Own ty103 [.slice A0 c.Data.length k0] c.Data, Own ty208 [.slice A1 c.Words.length k1] c.Words] ++ B) := by
  obtain ⟨G, hA, _⟩ := h.sep.head
  obtain ⟨A0, k0, A1, k1, rfl, _⟩ := ty210_own hA
  refine ⟨A0, k0, A1, k1, rfl, St.splitAll (h.conv fun G hG => ?_)⟩
  obtain ⟨X0, Y0, X1, Y1, he, hh⟩ := ty210_own hG
  simp only [List.cons.injEq, Value.slice.injEq, and_true, true_and] at he
  obtain ⟨⟨rfl, rfl⟩, ⟨rfl, rfl⟩⟩ := he
  exact hh
theorem ty210_shutS {W w : World} {B : List Res} {c : D.Cell} {A0 : Option Addr} {k0 : Nat} {A1 : Option Addr} {k1 : Nat} (h : St W w ([Own ty103 [.slice A0 c.Data.length k0] c.Data, Own ty208 [.slice A1 c.Words.length k1] c.Words] ++ B)) : St W w (Own ty210 [.int .i64 c.Kind, .int .i64 c.Level, .int .i64 c.Value, .slice A0 c.Data.length k0, .slice A1 c.Words.length k1] c :: B) := (St.fuseAll h).conv fun _ hG => ty210_ownI hG

def ty68 : Ty (List D.Cell) := tSl 210 ty210
instance {W : World} : Reads W ty68 := inferInstanceAs (Reads W (tSl 210 ty210))
theorem ty68_form {w : World} {cs : List Value} {xs : (List D.Cell)} (h : ty68.ro w cs xs) : ∃ A c, cs = [.slice A xs.length c] := slForm h

def ty216 : Ty D.Pair := tMap (fun c => (c.A, c.B, ())) (tPair tInt (tPair tInt tUnit))
instance {W : World} : Reads W ty216 := inferInstanceAs (Reads W (tMap (fun c : D.Pair => (c.A, c.B, ())) (tPair tInt (tPair tInt tUnit))))
theorem ty216_open {w : World} {cs : List Value} {c : D.Pair} (h : ty216.ro w cs c) : cs = [.int .i64 c.A, .int .i64 c.B] := by
  obtain ⟨c0, d0, rfl, h0, c1, d1, rfl, h1, hz⟩ := h
  subst hz
  subst h0
  subst h1
  rfl
theorem ty216_shut {w : World} (c : D.Pair)   : ty216.ro w [.int .i64 c.A, .int .i64 c.B] c :=
  ⟨_, _, rfl, rfl, ⟨_, _, rfl, rfl, rfl⟩⟩
theorem ty216_own {w : World} {cs : List Value} {c : D.Pair} {G : List Nat} (h : ty216.own w cs c G) : cs = [.int .i64 c.A, .int .i64 c.B] ∧ (All []).A w G := by
  obtain ⟨c0, d0, H0, K0, rfl, rfl, h0, c1, d1, H1, K1, rfl, rfl, h1, hz, hk⟩ := h
  subst hz; subst hk
  obtain ⟨e0, k0⟩ := h0; subst e0; subst k0
  obtain ⟨e1, k1⟩ := h1; subst e1; subst k1
  refine ⟨rfl, ?_⟩
  show (All _).A w _
  exact cast (congrArg _ (by simp)) (show (All _).A w ([]) from rfl)
theorem ty216_ownI {w : World} {c : D.Pair}  {G : List Nat} (h : (All []).A w G) : ty216.own w [.int .i64 c.A, .int .i64 c.B] c G := by
  have hz : G = [] := h
  subst hz
  exact cast (congrArg _ (by simp)) (show ty216.own w [.int .i64 c.A, .int .i64 c.B] c (_) from ⟨_, _, _, _, rfl, rfl, ⟨rfl, rfl⟩, ⟨_, _, _, _, rfl, rfl, ⟨rfl, rfl⟩, ⟨rfl, rfl⟩⟩⟩)
theorem ty216_openS {W w : World} {B : List Res} {cs : List Value} {c : D.Pair} (h : St W w (Own ty216 cs c :: B)) : cs = [.int .i64 c.A, .int .i64 c.B] ∧ St W w ([] ++ B) := by
  obtain ⟨G, hA, _⟩ := h.sep.head
  obtain ⟨rfl, _⟩ := ty216_own hA
  refine ⟨rfl, St.splitAll (h.conv fun G hG => ?_)⟩
  exact (ty216_own hG).2
theorem ty216_shutS {W w : World} {B : List Res} {c : D.Pair}  (h : St W w ([] ++ B)) : St W w (Own ty216 [.int .i64 c.A, .int .i64 c.B] c :: B) := (St.fuseAll h).conv fun _ hG => ty216_ownI hG

def ty71 : Ty (List D.Pair) := tSl 216 ty216
instance {W : World} : Reads W ty71 := inferInstanceAs (Reads W (tSl 216 ty216))
theorem ty71_form {w : World} {cs : List Value} {xs : (List D.Pair)} (h : ty71.ro w cs xs) : ∃ A c, cs = [.slice A xs.length c] := slForm h

def ty73 : Ty D.Memory := tMap (fun c => (c.Cells, c.Free, c.Root, c.Redexes, ())) (tPair ty68 (tPair tInt (tPair ty70 (tPair ty71 tUnit))))
instance {W : World} : Reads W ty73 := inferInstanceAs (Reads W (tMap (fun c : D.Memory => (c.Cells, c.Free, c.Root, c.Redexes, ())) (tPair ty68 (tPair tInt (tPair ty70 (tPair ty71 tUnit))))))
theorem ty73_open {w : World} {cs : List Value} {c : D.Memory} (h : ty73.ro w cs c) : ∃ A0 k0 A1 k1, cs = [.slice A0 c.Cells.length k0, .int .i64 c.Free, .int .i64 c.Root.Tag, .int .i64 c.Root.At, .slice A1 c.Redexes.length k1] ∧ ty68.ro w [.slice A0 c.Cells.length k0] c.Cells ∧ ty71.ro w [.slice A1 c.Redexes.length k1] c.Redexes := by
  obtain ⟨c0, d0, rfl, h0, c1, d1, rfl, h1, c2, d2, rfl, h2, c3, d3, rfl, h3, hz⟩ := h
  subst hz
  obtain ⟨A0_, k0_, e0⟩ := ty68_form h0
  subst e0
  subst h1
  have e2 := ty70_open h2
  subst e2
  obtain ⟨A3_, k3_, e3⟩ := ty71_form h3
  subst e3
  exact ⟨A0_, k0_, A3_, k3_, rfl, h0, h3⟩
theorem ty73_shut {w : World} (c : D.Memory) {A0 : Option Addr} {k0 : Nat} {A1 : Option Addr} {k1 : Nat} (h0 : ty68.ro w [.slice A0 c.Cells.length k0] c.Cells) (h1 : ty71.ro w [.slice A1 c.Redexes.length k1] c.Redexes) : ty73.ro w [.slice A0 c.Cells.length k0, .int .i64 c.Free, .int .i64 c.Root.Tag, .int .i64 c.Root.At, .slice A1 c.Redexes.length k1] c :=
  ⟨_, _, rfl, h0, ⟨_, _, rfl, rfl, ⟨_, _, rfl, (ty70_shut c.Root ), ⟨_, _, rfl, h1, rfl⟩⟩⟩⟩
theorem ty73_own {w : World} {cs : List Value} {c : D.Memory} {G : List Nat} (h : ty73.own w cs c G) : ∃ A0 k0 A1 k1, cs = [.slice A0 c.Cells.length k0, .int .i64 c.Free, .int .i64 c.Root.Tag, .int .i64 c.Root.At, .slice A1 c.Redexes.length k1] ∧ (All [Own ty68 [.slice A0 c.Cells.length k0] c.Cells, Own ty71 [.slice A1 c.Redexes.length k1] c.Redexes]).A w G := by
  obtain ⟨c0, d0, H0, K0, rfl, rfl, h0, c1, d1, H1, K1, rfl, rfl, h1, c2, d2, H2, K2, rfl, rfl, h2, c3, d3, H3, K3, rfl, rfl, h3, hz, hk⟩ := h
  subst hz; subst hk
  obtain ⟨A0_, k0_, e0⟩ := slFormO h0
  subst e0
  obtain ⟨e1, k1⟩ := h1; subst e1; subst k1
  obtain ⟨e2, g2⟩ := ty70_own h2
  subst e2
  obtain ⟨A3_, k3_, e3⟩ := slFormO h3
  subst e3
  refine ⟨A0_, k0_, A3_, k3_, rfl, ?_⟩
  exact cast (congrArg _ (by simp)) (allApp (allOne h0) (allApp g2 (allOne h3)))
theorem ty73_ownI {w : World} {c : D.Memory} {A0 : Option Addr} {k0 : Nat} {A1 : Option Addr} {k1 : Nat} {G : List Nat} (h : (All [Own ty68 [.slice A0 c.Cells.length k0] c.Cells, Own ty71 [.slice A1 c.Redexes.length k1] c.Redexes]).A w G) : ty73.own w [.slice A0 c.Cells.length k0, .int .i64 c.Free, .int .i64 c.Root.Tag, .int .i64 c.Root.At, .slice A1 c.Redexes.length k1] c G := by
  obtain ⟨G0, R0, rfl, h0, G1, R1, rfl, h1, hz⟩ := h
  have hz' : R1 = [] := hz
  subst hz'
  exact cast (congrArg _ (by simp)) (show ty73.own w [.slice A0 c.Cells.length k0, .int .i64 c.Free, .int .i64 c.Root.Tag, .int .i64 c.Root.At, .slice A1 c.Redexes.length k1] c (_) from ⟨_, _, _, _, rfl, rfl, h0, ⟨_, _, _, _, rfl, rfl, ⟨rfl, rfl⟩, ⟨_, _, _, _, rfl, rfl, (ty70_ownI (c := c.Root) rfl), ⟨_, _, _, _, rfl, rfl, h1, ⟨rfl, rfl⟩⟩⟩⟩⟩)
theorem ty73_openS {W w : World} {B : List Res} {cs : List Value} {c : D.Memory} (h : St W w (Own ty73 cs c :: B)) : ∃ A0 k0 A1 k1, cs = [.slice A0 c.Cells.length k0, .int .i64 c.Free, .int .i64 c.Root.Tag, .int .i64 c.Root.At, .slice A1 c.Redexes.length k1] ∧ St W w ([Own ty68 [.slice A0 c.Cells.length k0] c.Cells, Own ty71 [.slice A1 c.Redexes.length k1] c.Redexes] ++ B) := by
  obtain ⟨G, hA, _⟩ := h.sep.head
  obtain ⟨A0, k0, A1, k1, rfl, _⟩ := ty73_own hA
  refine ⟨A0, k0, A1, k1, rfl, St.splitAll (h.conv fun G hG => ?_)⟩
  obtain ⟨X0, Y0, X1, Y1, he, hh⟩ := ty73_own hG
  simp only [List.cons.injEq, Value.slice.injEq, and_true, true_and] at he
  obtain ⟨⟨rfl, rfl⟩, ⟨rfl, rfl⟩⟩ := he
  exact hh
theorem ty73_shutS {W w : World} {B : List Res} {c : D.Memory} {A0 : Option Addr} {k0 : Nat} {A1 : Option Addr} {k1 : Nat} (h : St W w ([Own ty68 [.slice A0 c.Cells.length k0] c.Cells, Own ty71 [.slice A1 c.Redexes.length k1] c.Redexes] ++ B)) : St W w (Own ty73 [.slice A0 c.Cells.length k0, .int .i64 c.Free, .int .i64 c.Root.Tag, .int .i64 c.Root.At, .slice A1 c.Redexes.length k1] c :: B) := (St.fuseAll h).conv fun _ hG => ty73_ownI hG

def ty77 : Ty D.Word := tMap (fun c => (c.Tag, c.At, ())) (tPair tInt (tPair tInt tUnit))
instance {W : World} : Reads W ty77 := inferInstanceAs (Reads W (tMap (fun c : D.Word => (c.Tag, c.At, ())) (tPair tInt (tPair tInt tUnit))))
theorem ty77_open {w : World} {cs : List Value} {c : D.Word} (h : ty77.ro w cs c) : cs = [.int .i64 c.Tag, .int .i64 c.At] := by
  obtain ⟨c0, d0, rfl, h0, c1, d1, rfl, h1, hz⟩ := h
  subst hz
  subst h0
  subst h1
  rfl
theorem ty77_shut {w : World} (c : D.Word)   : ty77.ro w [.int .i64 c.Tag, .int .i64 c.At] c :=
  ⟨_, _, rfl, rfl, ⟨_, _, rfl, rfl, rfl⟩⟩
theorem ty77_own {w : World} {cs : List Value} {c : D.Word} {G : List Nat} (h : ty77.own w cs c G) : cs = [.int .i64 c.Tag, .int .i64 c.At] ∧ (All []).A w G := by
  obtain ⟨c0, d0, H0, K0, rfl, rfl, h0, c1, d1, H1, K1, rfl, rfl, h1, hz, hk⟩ := h
  subst hz; subst hk
  obtain ⟨e0, k0⟩ := h0; subst e0; subst k0
  obtain ⟨e1, k1⟩ := h1; subst e1; subst k1
  refine ⟨rfl, ?_⟩
  show (All _).A w _
  exact cast (congrArg _ (by simp)) (show (All _).A w ([]) from rfl)
theorem ty77_ownI {w : World} {c : D.Word}  {G : List Nat} (h : (All []).A w G) : ty77.own w [.int .i64 c.Tag, .int .i64 c.At] c G := by
  have hz : G = [] := h
  subst hz
  exact cast (congrArg _ (by simp)) (show ty77.own w [.int .i64 c.Tag, .int .i64 c.At] c (_) from ⟨_, _, _, _, rfl, rfl, ⟨rfl, rfl⟩, ⟨_, _, _, _, rfl, rfl, ⟨rfl, rfl⟩, ⟨rfl, rfl⟩⟩⟩)
theorem ty77_openS {W w : World} {B : List Res} {cs : List Value} {c : D.Word} (h : St W w (Own ty77 cs c :: B)) : cs = [.int .i64 c.Tag, .int .i64 c.At] ∧ St W w ([] ++ B) := by
  obtain ⟨G, hA, _⟩ := h.sep.head
  obtain ⟨rfl, _⟩ := ty77_own hA
  refine ⟨rfl, St.splitAll (h.conv fun G hG => ?_)⟩
  exact (ty77_own hG).2
theorem ty77_shutS {W w : World} {B : List Res} {c : D.Word}  (h : St W w ([] ++ B)) : St W w (Own ty77 [.int .i64 c.Tag, .int .i64 c.At] c :: B) := (St.fuseAll h).conv fun _ hG => ty77_ownI hG

def ty155 : Ty (List D.Word) := tSl 77 ty77
instance {W : World} : Reads W ty155 := inferInstanceAs (Reads W (tSl 77 ty77))
theorem ty155_form {w : World} {cs : List Value} {xs : (List D.Word)} (h : ty155.ro w cs xs) : ∃ A c, cs = [.slice A xs.length c] := slForm h

def ty157 : Ty D.Cell := tMap (fun c => (c.Kind, c.Level, c.Value, c.Data, c.Words, ())) (tPair tInt (tPair tInt (tPair tInt (tPair ty103 (tPair ty155 tUnit)))))
instance {W : World} : Reads W ty157 := inferInstanceAs (Reads W (tMap (fun c : D.Cell => (c.Kind, c.Level, c.Value, c.Data, c.Words, ())) (tPair tInt (tPair tInt (tPair tInt (tPair ty103 (tPair ty155 tUnit)))))))
theorem ty157_open {w : World} {cs : List Value} {c : D.Cell} (h : ty157.ro w cs c) : ∃ A0 k0 A1 k1, cs = [.int .i64 c.Kind, .int .i64 c.Level, .int .i64 c.Value, .slice A0 c.Data.length k0, .slice A1 c.Words.length k1] ∧ ty103.ro w [.slice A0 c.Data.length k0] c.Data ∧ ty155.ro w [.slice A1 c.Words.length k1] c.Words := by
  obtain ⟨c0, d0, rfl, h0, c1, d1, rfl, h1, c2, d2, rfl, h2, c3, d3, rfl, h3, c4, d4, rfl, h4, hz⟩ := h
  subst hz
  subst h0
  subst h1
  subst h2
  obtain ⟨A3_, k3_, e3⟩ := ty103_form h3
  subst e3
  obtain ⟨A4_, k4_, e4⟩ := ty155_form h4
  subst e4
  exact ⟨A3_, k3_, A4_, k4_, rfl, h3, h4⟩
theorem ty157_shut {w : World} (c : D.Cell) {A0 : Option Addr} {k0 : Nat} {A1 : Option Addr} {k1 : Nat} (h0 : ty103.ro w [.slice A0 c.Data.length k0] c.Data) (h1 : ty155.ro w [.slice A1 c.Words.length k1] c.Words) : ty157.ro w [.int .i64 c.Kind, .int .i64 c.Level, .int .i64 c.Value, .slice A0 c.Data.length k0, .slice A1 c.Words.length k1] c :=
  ⟨_, _, rfl, rfl, ⟨_, _, rfl, rfl, ⟨_, _, rfl, rfl, ⟨_, _, rfl, h0, ⟨_, _, rfl, h1, rfl⟩⟩⟩⟩⟩
theorem ty157_own {w : World} {cs : List Value} {c : D.Cell} {G : List Nat} (h : ty157.own w cs c G) : ∃ A0 k0 A1 k1, cs = [.int .i64 c.Kind, .int .i64 c.Level, .int .i64 c.Value, .slice A0 c.Data.length k0, .slice A1 c.Words.length k1] ∧ (All [Own ty103 [.slice A0 c.Data.length k0] c.Data, Own ty155 [.slice A1 c.Words.length k1] c.Words]).A w G := by
  obtain ⟨c0, d0, H0, K0, rfl, rfl, h0, c1, d1, H1, K1, rfl, rfl, h1, c2, d2, H2, K2, rfl, rfl, h2, c3, d3, H3, K3, rfl, rfl, h3, c4, d4, H4, K4, rfl, rfl, h4, hz, hk⟩ := h
  subst hz; subst hk
  obtain ⟨e0, k0⟩ := h0; subst e0; subst k0
  obtain ⟨e1, k1⟩ := h1; subst e1; subst k1
  obtain ⟨e2, k2⟩ := h2; subst e2; subst k2
  obtain ⟨A3_, k3_, e3⟩ := slFormO h3
  subst e3
  obtain ⟨A4_, k4_, e4⟩ := slFormO h4
  subst e4
  refine ⟨A3_, k3_, A4_, k4_, rfl, ?_⟩
  show (All _).A w _
  exact cast (congrArg _ (by simp)) (show (All _).A w (H3 ++ (H4 ++ ([]))) from ⟨_, _, rfl, h3, ⟨_, _, rfl, h4, rfl⟩⟩)
theorem ty157_ownI {w : World} {c : D.Cell} {A0 : Option Addr} {k0 : Nat} {A1 : Option Addr} {k1 : Nat} {G : List Nat} (h : (All [Own ty103 [.slice A0 c.Data.length k0] c.Data, Own ty155 [.slice A1 c.Words.length k1] c.Words]).A w G) : ty157.own w [.int .i64 c.Kind, .int .i64 c.Level, .int .i64 c.Value, .slice A0 c.Data.length k0, .slice A1 c.Words.length k1] c G := by
  obtain ⟨G0, R0, rfl, h0, G1, R1, rfl, h1, hz⟩ := h
  have hz' : R1 = [] := hz
  subst hz'
  exact cast (congrArg _ (by simp)) (show ty157.own w [.int .i64 c.Kind, .int .i64 c.Level, .int .i64 c.Value, .slice A0 c.Data.length k0, .slice A1 c.Words.length k1] c (_) from ⟨_, _, _, _, rfl, rfl, ⟨rfl, rfl⟩, ⟨_, _, _, _, rfl, rfl, ⟨rfl, rfl⟩, ⟨_, _, _, _, rfl, rfl, ⟨rfl, rfl⟩, ⟨_, _, _, _, rfl, rfl, h0, ⟨_, _, _, _, rfl, rfl, h1, ⟨rfl, rfl⟩⟩⟩⟩⟩⟩)
theorem ty157_openS {W w : World} {B : List Res} {cs : List Value} {c : D.Cell} (h : St W w (Own ty157 cs c :: B)) : ∃ A0 k0 A1 k1, cs = [.int .i64 c.Kind, .int .i64 c.Level, .int .i64 c.Value, .slice A0 c.Data.length k0, .slice A1 c.Words.length k1] ∧ St W w ([Own ty103 [.slice A0 c.Data.length k0] c.Data, Own ty155 [.slice A1 c.Words.length k1] c.Words] ++ B) := by
  obtain ⟨G, hA, _⟩ := h.sep.head
  obtain ⟨A0, k0, A1, k1, rfl, _⟩ := ty157_own hA
  refine ⟨A0, k0, A1, k1, rfl, St.splitAll (h.conv fun G hG => ?_)⟩
  obtain ⟨X0, Y0, X1, Y1, he, hh⟩ := ty157_own hG
  simp only [List.cons.injEq, Value.slice.injEq, and_true, true_and] at he
  obtain ⟨⟨rfl, rfl⟩, ⟨rfl, rfl⟩⟩ := he
  exact hh
theorem ty157_shutS {W w : World} {B : List Res} {c : D.Cell} {A0 : Option Addr} {k0 : Nat} {A1 : Option Addr} {k1 : Nat} (h : St W w ([Own ty103 [.slice A0 c.Data.length k0] c.Data, Own ty155 [.slice A1 c.Words.length k1] c.Words] ++ B)) : St W w (Own ty157 [.int .i64 c.Kind, .int .i64 c.Level, .int .i64 c.Value, .slice A0 c.Data.length k0, .slice A1 c.Words.length k1] c :: B) := (St.fuseAll h).conv fun _ hG => ty157_ownI hG

def ty76 : Ty (List D.Cell) := tSl 157 ty157
instance {W : World} : Reads W ty76 := inferInstanceAs (Reads W (tSl 157 ty157))
theorem ty76_form {w : World} {cs : List Value} {xs : (List D.Cell)} (h : ty76.ro w cs xs) : ∃ A c, cs = [.slice A xs.length c] := slForm h

def ty139 : Ty D.Pair := tMap (fun c => (c.A, c.B, ())) (tPair tInt (tPair tInt tUnit))
instance {W : World} : Reads W ty139 := inferInstanceAs (Reads W (tMap (fun c : D.Pair => (c.A, c.B, ())) (tPair tInt (tPair tInt tUnit))))
theorem ty139_open {w : World} {cs : List Value} {c : D.Pair} (h : ty139.ro w cs c) : cs = [.int .i64 c.A, .int .i64 c.B] := by
  obtain ⟨c0, d0, rfl, h0, c1, d1, rfl, h1, hz⟩ := h
  subst hz
  subst h0
  subst h1
  rfl
theorem ty139_shut {w : World} (c : D.Pair)   : ty139.ro w [.int .i64 c.A, .int .i64 c.B] c :=
  ⟨_, _, rfl, rfl, ⟨_, _, rfl, rfl, rfl⟩⟩
theorem ty139_own {w : World} {cs : List Value} {c : D.Pair} {G : List Nat} (h : ty139.own w cs c G) : cs = [.int .i64 c.A, .int .i64 c.B] ∧ (All []).A w G := by
  obtain ⟨c0, d0, H0, K0, rfl, rfl, h0, c1, d1, H1, K1, rfl, rfl, h1, hz, hk⟩ := h
  subst hz; subst hk
  obtain ⟨e0, k0⟩ := h0; subst e0; subst k0
  obtain ⟨e1, k1⟩ := h1; subst e1; subst k1
  refine ⟨rfl, ?_⟩
  show (All _).A w _
  exact cast (congrArg _ (by simp)) (show (All _).A w ([]) from rfl)
theorem ty139_ownI {w : World} {c : D.Pair}  {G : List Nat} (h : (All []).A w G) : ty139.own w [.int .i64 c.A, .int .i64 c.B] c G := by
  have hz : G = [] := h
  subst hz
  exact cast (congrArg _ (by simp)) (show ty139.own w [.int .i64 c.A, .int .i64 c.B] c (_) from ⟨_, _, _, _, rfl, rfl, ⟨rfl, rfl⟩, ⟨_, _, _, _, rfl, rfl, ⟨rfl, rfl⟩, ⟨rfl, rfl⟩⟩⟩)
theorem ty139_openS {W w : World} {B : List Res} {cs : List Value} {c : D.Pair} (h : St W w (Own ty139 cs c :: B)) : cs = [.int .i64 c.A, .int .i64 c.B] ∧ St W w ([] ++ B) := by
  obtain ⟨G, hA, _⟩ := h.sep.head
  obtain ⟨rfl, _⟩ := ty139_own hA
  refine ⟨rfl, St.splitAll (h.conv fun G hG => ?_)⟩
  exact (ty139_own hG).2
theorem ty139_shutS {W w : World} {B : List Res} {c : D.Pair}  (h : St W w ([] ++ B)) : St W w (Own ty139 [.int .i64 c.A, .int .i64 c.B] c :: B) := (St.fuseAll h).conv fun _ hG => ty139_ownI hG

def ty78 : Ty (List D.Pair) := tSl 139 ty139
instance {W : World} : Reads W ty78 := inferInstanceAs (Reads W (tSl 139 ty139))
theorem ty78_form {w : World} {cs : List Value} {xs : (List D.Pair)} (h : ty78.ro w cs xs) : ∃ A c, cs = [.slice A xs.length c] := slForm h

def ty80 : Ty D.Memory := tMap (fun c => (c.Cells, c.Free, c.Root, c.Redexes, ())) (tPair ty76 (tPair tInt (tPair ty77 (tPair ty78 tUnit))))
instance {W : World} : Reads W ty80 := inferInstanceAs (Reads W (tMap (fun c : D.Memory => (c.Cells, c.Free, c.Root, c.Redexes, ())) (tPair ty76 (tPair tInt (tPair ty77 (tPair ty78 tUnit))))))
theorem ty80_open {w : World} {cs : List Value} {c : D.Memory} (h : ty80.ro w cs c) : ∃ A0 k0 A1 k1, cs = [.slice A0 c.Cells.length k0, .int .i64 c.Free, .int .i64 c.Root.Tag, .int .i64 c.Root.At, .slice A1 c.Redexes.length k1] ∧ ty76.ro w [.slice A0 c.Cells.length k0] c.Cells ∧ ty78.ro w [.slice A1 c.Redexes.length k1] c.Redexes := by
  obtain ⟨c0, d0, rfl, h0, c1, d1, rfl, h1, c2, d2, rfl, h2, c3, d3, rfl, h3, hz⟩ := h
  subst hz
  obtain ⟨A0_, k0_, e0⟩ := ty76_form h0
  subst e0
  subst h1
  have e2 := ty77_open h2
  subst e2
  obtain ⟨A3_, k3_, e3⟩ := ty78_form h3
  subst e3
  exact ⟨A0_, k0_, A3_, k3_, rfl, h0, h3⟩
theorem ty80_shut {w : World} (c : D.Memory) {A0 : Option Addr} {k0 : Nat} {A1 : Option Addr} {k1 : Nat} (h0 : ty76.ro w [.slice A0 c.Cells.length k0] c.Cells) (h1 : ty78.ro w [.slice A1 c.Redexes.length k1] c.Redexes) : ty80.ro w [.slice A0 c.Cells.length k0, .int .i64 c.Free, .int .i64 c.Root.Tag, .int .i64 c.Root.At, .slice A1 c.Redexes.length k1] c :=
  ⟨_, _, rfl, h0, ⟨_, _, rfl, rfl, ⟨_, _, rfl, (ty77_shut c.Root ), ⟨_, _, rfl, h1, rfl⟩⟩⟩⟩
theorem ty80_own {w : World} {cs : List Value} {c : D.Memory} {G : List Nat} (h : ty80.own w cs c G) : ∃ A0 k0 A1 k1, cs = [.slice A0 c.Cells.length k0, .int .i64 c.Free, .int .i64 c.Root.Tag, .int .i64 c.Root.At, .slice A1 c.Redexes.length k1] ∧ (All [Own ty76 [.slice A0 c.Cells.length k0] c.Cells, Own ty78 [.slice A1 c.Redexes.length k1] c.Redexes]).A w G := by
  obtain ⟨c0, d0, H0, K0, rfl, rfl, h0, c1, d1, H1, K1, rfl, rfl, h1, c2, d2, H2, K2, rfl, rfl, h2, c3, d3, H3, K3, rfl, rfl, h3, hz, hk⟩ := h
  subst hz; subst hk
  obtain ⟨A0_, k0_, e0⟩ := slFormO h0
  subst e0
  obtain ⟨e1, k1⟩ := h1; subst e1; subst k1
  obtain ⟨e2, g2⟩ := ty77_own h2
  subst e2
  obtain ⟨A3_, k3_, e3⟩ := slFormO h3
  subst e3
  refine ⟨A0_, k0_, A3_, k3_, rfl, ?_⟩
  exact cast (congrArg _ (by simp)) (allApp (allOne h0) (allApp g2 (allOne h3)))
theorem ty80_ownI {w : World} {c : D.Memory} {A0 : Option Addr} {k0 : Nat} {A1 : Option Addr} {k1 : Nat} {G : List Nat} (h : (All [Own ty76 [.slice A0 c.Cells.length k0] c.Cells, Own ty78 [.slice A1 c.Redexes.length k1] c.Redexes]).A w G) : ty80.own w [.slice A0 c.Cells.length k0, .int .i64 c.Free, .int .i64 c.Root.Tag, .int .i64 c.Root.At, .slice A1 c.Redexes.length k1] c G := by
  obtain ⟨G0, R0, rfl, h0, G1, R1, rfl, h1, hz⟩ := h
  have hz' : R1 = [] := hz
  subst hz'
  exact cast (congrArg _ (by simp)) (show ty80.own w [.slice A0 c.Cells.length k0, .int .i64 c.Free, .int .i64 c.Root.Tag, .int .i64 c.Root.At, .slice A1 c.Redexes.length k1] c (_) from ⟨_, _, _, _, rfl, rfl, h0, ⟨_, _, _, _, rfl, rfl, ⟨rfl, rfl⟩, ⟨_, _, _, _, rfl, rfl, (ty77_ownI (c := c.Root) rfl), ⟨_, _, _, _, rfl, rfl, h1, ⟨rfl, rfl⟩⟩⟩⟩⟩)
theorem ty80_openS {W w : World} {B : List Res} {cs : List Value} {c : D.Memory} (h : St W w (Own ty80 cs c :: B)) : ∃ A0 k0 A1 k1, cs = [.slice A0 c.Cells.length k0, .int .i64 c.Free, .int .i64 c.Root.Tag, .int .i64 c.Root.At, .slice A1 c.Redexes.length k1] ∧ St W w ([Own ty76 [.slice A0 c.Cells.length k0] c.Cells, Own ty78 [.slice A1 c.Redexes.length k1] c.Redexes] ++ B) := by
  obtain ⟨G, hA, _⟩ := h.sep.head
  obtain ⟨A0, k0, A1, k1, rfl, _⟩ := ty80_own hA
  refine ⟨A0, k0, A1, k1, rfl, St.splitAll (h.conv fun G hG => ?_)⟩
  obtain ⟨X0, Y0, X1, Y1, he, hh⟩ := ty80_own hG
  simp only [List.cons.injEq, Value.slice.injEq, and_true, true_and] at he
  obtain ⟨⟨rfl, rfl⟩, ⟨rfl, rfl⟩⟩ := he
  exact hh
theorem ty80_shutS {W w : World} {B : List Res} {c : D.Memory} {A0 : Option Addr} {k0 : Nat} {A1 : Option Addr} {k1 : Nat} (h : St W w ([Own ty76 [.slice A0 c.Cells.length k0] c.Cells, Own ty78 [.slice A1 c.Redexes.length k1] c.Redexes] ++ B)) : St W w (Own ty80 [.slice A0 c.Cells.length k0, .int .i64 c.Free, .int .i64 c.Root.Tag, .int .i64 c.Root.At, .slice A1 c.Redexes.length k1] c :: B) := (St.fuseAll h).conv fun _ hG => ty80_ownI hG

def enc38 : D.Port → Value := fun c => .agg ⟨[.int .i64 c.Agent, .int .i64 c.Slot]⟩
theorem keyOk38 : KeyOk Try.prog 38 enc38 := KeyOk.struct ttok (cells := fun c : D.Port => [.int .i64 c.Agent, .int .i64 c.Slot]) (b := fun x y => (((x.Agent : Int) == y.Agent) && (((x.Slot : Int) == y.Slot) && true))) rfl rfl (fun _ _ => rfl) (fun x y => by cases x; cases y; simp [seqb_iff]) (fun _ => rfl) (fun {x y} h => by cases x; cases y; simpa using h)
def ty119 : Ty (List (D.Port × Bool)) := tMp enc38 Value.bool
instance {W : World} : Reads W ty119 := inferInstanceAs (Reads W (tMp enc38 Value.bool))
theorem ty119_form {w : World} {cs : List Value} {xs : (List (D.Port × Bool))} (h : ty119.ro w cs xs) : ∃ g, cs = [.map (some g)] := mpForm h
theorem mapOk119 : MapOk Try.prog 119 38 4 enc38 Value.bool false := ⟨by kernel_rfl, by kernel_rfl, keyOk38⟩

def ty271 : Ty D.thing := tMap (fun c => (c.at_, c.slot, c.own, ())) (tPair ty62 (tPair tInt (tPair tBool tUnit)))
instance {W : World} : Reads W ty271 := inferInstanceAs (Reads W (tMap (fun c : D.thing => (c.at_, c.slot, c.own, ())) (tPair ty62 (tPair tInt (tPair tBool tUnit)))))
theorem ty271_open {w : World} {cs : List Value} {c : D.thing} (h : ty271.ro w cs c) : cs = [.int .i64 c.at_.Machine, .int .i64 c.at_.Kind, .int .i64 c.at_.Index, .int .i64 c.slot, .bool c.own] := by
  obtain ⟨c0, d0, rfl, h0, c1, d1, rfl, h1, c2, d2, rfl, h2, hz⟩ := h
  subst hz
  have e0 := ty62_open h0
  subst e0
  subst h1
  subst h2
  rfl
theorem ty271_shut {w : World} (c : D.thing)   : ty271.ro w [.int .i64 c.at_.Machine, .int .i64 c.at_.Kind, .int .i64 c.at_.Index, .int .i64 c.slot, .bool c.own] c :=
  ⟨_, _, rfl, (ty62_shut c.at_ ), ⟨_, _, rfl, rfl, ⟨_, _, rfl, rfl, rfl⟩⟩⟩
theorem ty271_own {w : World} {cs : List Value} {c : D.thing} {G : List Nat} (h : ty271.own w cs c G) : cs = [.int .i64 c.at_.Machine, .int .i64 c.at_.Kind, .int .i64 c.at_.Index, .int .i64 c.slot, .bool c.own] ∧ (All []).A w G := by
  obtain ⟨c0, d0, H0, K0, rfl, rfl, h0, c1, d1, H1, K1, rfl, rfl, h1, c2, d2, H2, K2, rfl, rfl, h2, hz, hk⟩ := h
  subst hz; subst hk
  obtain ⟨e0, g0⟩ := ty62_own h0
  subst e0
  obtain ⟨e1, k1⟩ := h1; subst e1; subst k1
  obtain ⟨e2, k2⟩ := h2; subst e2; subst k2
  refine ⟨rfl, ?_⟩
  exact cast (congrArg _ (by simp)) g0
theorem ty271_ownI {w : World} {c : D.thing}  {G : List Nat} (h : (All []).A w G) : ty271.own w [.int .i64 c.at_.Machine, .int .i64 c.at_.Kind, .int .i64 c.at_.Index, .int .i64 c.slot, .bool c.own] c G := by
  have hz : G = [] := h
  subst hz
  exact cast (congrArg _ (by simp)) (show ty271.own w [.int .i64 c.at_.Machine, .int .i64 c.at_.Kind, .int .i64 c.at_.Index, .int .i64 c.slot, .bool c.own] c (_) from ⟨_, _, _, _, rfl, rfl, (ty62_ownI (c := c.at_) rfl), ⟨_, _, _, _, rfl, rfl, ⟨rfl, rfl⟩, ⟨_, _, _, _, rfl, rfl, ⟨rfl, rfl⟩, ⟨rfl, rfl⟩⟩⟩⟩)
theorem ty271_openS {W w : World} {B : List Res} {cs : List Value} {c : D.thing} (h : St W w (Own ty271 cs c :: B)) : cs = [.int .i64 c.at_.Machine, .int .i64 c.at_.Kind, .int .i64 c.at_.Index, .int .i64 c.slot, .bool c.own] ∧ St W w ([] ++ B) := by
  obtain ⟨G, hA, _⟩ := h.sep.head
  obtain ⟨rfl, _⟩ := ty271_own hA
  refine ⟨rfl, St.splitAll (h.conv fun G hG => ?_)⟩
  exact (ty271_own hG).2
theorem ty271_shutS {W w : World} {B : List Res} {c : D.thing}  (h : St W w ([] ++ B)) : St W w (Own ty271 [.int .i64 c.at_.Machine, .int .i64 c.at_.Kind, .int .i64 c.at_.Index, .int .i64 c.slot, .bool c.own] c :: B) := (St.fuseAll h).conv fun _ hG => ty271_ownI hG

def ty273 : Ty D.statement := tMap (fun c => (c.a, c.b, ())) (tPair ty271 (tPair ty271 tUnit))
instance {W : World} : Reads W ty273 := inferInstanceAs (Reads W (tMap (fun c : D.statement => (c.a, c.b, ())) (tPair ty271 (tPair ty271 tUnit))))
theorem ty273_open {w : World} {cs : List Value} {c : D.statement} (h : ty273.ro w cs c) : cs = [.int .i64 c.a.at_.Machine, .int .i64 c.a.at_.Kind, .int .i64 c.a.at_.Index, .int .i64 c.a.slot, .bool c.a.own, .int .i64 c.b.at_.Machine, .int .i64 c.b.at_.Kind, .int .i64 c.b.at_.Index, .int .i64 c.b.slot, .bool c.b.own] := by
  obtain ⟨c0, d0, rfl, h0, c1, d1, rfl, h1, hz⟩ := h
  subst hz
  have e0 := ty271_open h0
  subst e0
  have e1 := ty271_open h1
  subst e1
  rfl
theorem ty273_shut {w : World} (c : D.statement)   : ty273.ro w [.int .i64 c.a.at_.Machine, .int .i64 c.a.at_.Kind, .int .i64 c.a.at_.Index, .int .i64 c.a.slot, .bool c.a.own, .int .i64 c.b.at_.Machine, .int .i64 c.b.at_.Kind, .int .i64 c.b.at_.Index, .int .i64 c.b.slot, .bool c.b.own] c :=
  ⟨_, _, rfl, (ty271_shut c.a ), ⟨_, _, rfl, (ty271_shut c.b ), rfl⟩⟩
theorem ty273_own {w : World} {cs : List Value} {c : D.statement} {G : List Nat} (h : ty273.own w cs c G) : cs = [.int .i64 c.a.at_.Machine, .int .i64 c.a.at_.Kind, .int .i64 c.a.at_.Index, .int .i64 c.a.slot, .bool c.a.own, .int .i64 c.b.at_.Machine, .int .i64 c.b.at_.Kind, .int .i64 c.b.at_.Index, .int .i64 c.b.slot, .bool c.b.own] ∧ (All []).A w G := by
  obtain ⟨c0, d0, H0, K0, rfl, rfl, h0, c1, d1, H1, K1, rfl, rfl, h1, hz, hk⟩ := h
  subst hz; subst hk
  obtain ⟨e0, g0⟩ := ty271_own h0
  subst e0
  obtain ⟨e1, g1⟩ := ty271_own h1
  subst e1
  refine ⟨rfl, ?_⟩
  exact cast (congrArg _ (by simp)) (allApp g0 g1)
theorem ty273_ownI {w : World} {c : D.statement}  {G : List Nat} (h : (All []).A w G) : ty273.own w [.int .i64 c.a.at_.Machine, .int .i64 c.a.at_.Kind, .int .i64 c.a.at_.Index, .int .i64 c.a.slot, .bool c.a.own, .int .i64 c.b.at_.Machine, .int .i64 c.b.at_.Kind, .int .i64 c.b.at_.Index, .int .i64 c.b.slot, .bool c.b.own] c G := by
  have hz : G = [] := h
  subst hz
  exact cast (congrArg _ (by simp)) (show ty273.own w [.int .i64 c.a.at_.Machine, .int .i64 c.a.at_.Kind, .int .i64 c.a.at_.Index, .int .i64 c.a.slot, .bool c.a.own, .int .i64 c.b.at_.Machine, .int .i64 c.b.at_.Kind, .int .i64 c.b.at_.Index, .int .i64 c.b.slot, .bool c.b.own] c (_) from ⟨_, _, _, _, rfl, rfl, (ty271_ownI (c := c.a) rfl), ⟨_, _, _, _, rfl, rfl, (ty271_ownI (c := c.b) rfl), ⟨rfl, rfl⟩⟩⟩)
theorem ty273_openS {W w : World} {B : List Res} {cs : List Value} {c : D.statement} (h : St W w (Own ty273 cs c :: B)) : cs = [.int .i64 c.a.at_.Machine, .int .i64 c.a.at_.Kind, .int .i64 c.a.at_.Index, .int .i64 c.a.slot, .bool c.a.own, .int .i64 c.b.at_.Machine, .int .i64 c.b.at_.Kind, .int .i64 c.b.at_.Index, .int .i64 c.b.slot, .bool c.b.own] ∧ St W w ([] ++ B) := by
  obtain ⟨G, hA, _⟩ := h.sep.head
  obtain ⟨rfl, _⟩ := ty273_own hA
  refine ⟨rfl, St.splitAll (h.conv fun G hG => ?_)⟩
  exact (ty273_own hG).2
theorem ty273_shutS {W w : World} {B : List Res} {c : D.statement}  (h : St W w ([] ++ B)) : St W w (Own ty273 [.int .i64 c.a.at_.Machine, .int .i64 c.a.at_.Kind, .int .i64 c.a.at_.Index, .int .i64 c.a.slot, .bool c.a.own, .int .i64 c.b.at_.Machine, .int .i64 c.b.at_.Kind, .int .i64 c.b.at_.Index, .int .i64 c.b.slot, .bool c.b.own] c :: B) := (St.fuseAll h).conv fun _ hG => ty273_ownI hG

def ty202 : Ty (List D.statement) := tSl 273 ty273
instance {W : World} : Reads W ty202 := inferInstanceAs (Reads W (tSl 273 ty273))
theorem ty202_form {w : World} {cs : List Value} {xs : (List D.statement)} (h : ty202.ro w cs xs) : ∃ A c, cs = [.slice A xs.length c] := slForm h

def ty251 : Ty (List (List Int)) := tSl 103 ty103
instance {W : World} : Reads W ty251 := inferInstanceAs (Reads W (tSl 103 ty103))
theorem ty251_form {w : World} {cs : List Value} {xs : (List (List Int))} (h : ty251.ro w cs xs) : ∃ A c, cs = [.slice A xs.length c] := slForm h

def ty253 : Ty D.l27Links := tMap (fun c => (c.agents, c.ports, c.cells, c.vars, c.ends, c.pairs, ())) (tPair ty28 (tPair ty110 (tPair ty251 (tPair ty251 (tPair ty251 (tPair ty251 tUnit))))))
instance {W : World} : Reads W ty253 := inferInstanceAs (Reads W (tMap (fun c : D.l27Links => (c.agents, c.ports, c.cells, c.vars, c.ends, c.pairs, ())) (tPair ty28 (tPair ty110 (tPair ty251 (tPair ty251 (tPair ty251 (tPair ty251 tUnit))))))))
theorem ty253_open {w : World} {cs : List Value} {c : D.l27Links} (h : ty253.ro w cs c) : ∃ A0 k0 A1 k1 A2 k2 A3 k3 A4 k4 A5 k5, cs = [.slice A0 c.agents.length k0, .slice A1 c.ports.length k1, .slice A2 c.cells.length k2, .slice A3 c.vars.length k3, .slice A4 c.ends.length k4, .slice A5 c.pairs.length k5] ∧ ty28.ro w [.slice A0 c.agents.length k0] c.agents ∧ ty110.ro w [.slice A1 c.ports.length k1] c.ports ∧ ty251.ro w [.slice A2 c.cells.length k2] c.cells ∧ ty251.ro w [.slice A3 c.vars.length k3] c.vars ∧ ty251.ro w [.slice A4 c.ends.length k4] c.ends ∧ ty251.ro w [.slice A5 c.pairs.length k5] c.pairs := by
  obtain ⟨c0, d0, rfl, h0, c1, d1, rfl, h1, c2, d2, rfl, h2, c3, d3, rfl, h3, c4, d4, rfl, h4, c5, d5, rfl, h5, hz⟩ := h
  subst hz
  obtain ⟨A0_, k0_, e0⟩ := ty28_form h0
  subst e0
  obtain ⟨A1_, k1_, e1⟩ := ty110_form h1
  subst e1
  obtain ⟨A2_, k2_, e2⟩ := ty251_form h2
  subst e2
  obtain ⟨A3_, k3_, e3⟩ := ty251_form h3
  subst e3
  obtain ⟨A4_, k4_, e4⟩ := ty251_form h4
  subst e4
  obtain ⟨A5_, k5_, e5⟩ := ty251_form h5
  subst e5
  exact ⟨A0_, k0_, A1_, k1_, A2_, k2_, A3_, k3_, A4_, k4_, A5_, k5_, rfl, h0, h1, h2, h3, h4, h5⟩
theorem ty253_shut {w : World} (c : D.l27Links) {A0 : Option Addr} {k0 : Nat} {A1 : Option Addr} {k1 : Nat} {A2 : Option Addr} {k2 : Nat} {A3 : Option Addr} {k3 : Nat} {A4 : Option Addr} {k4 : Nat} {A5 : Option Addr} {k5 : Nat} (h0 : ty28.ro w [.slice A0 c.agents.length k0] c.agents) (h1 : ty110.ro w [.slice A1 c.ports.length k1] c.ports) (h2 : ty251.ro w [.slice A2 c.cells.length k2] c.cells) (h3 : ty251.ro w [.slice A3 c.vars.length k3] c.vars) (h4 : ty251.ro w [.slice A4 c.ends.length k4] c.ends) (h5 : ty251.ro w [.slice A5 c.pairs.length k5] c.pairs) : ty253.ro w [.slice A0 c.agents.length k0, .slice A1 c.ports.length k1, .slice A2 c.cells.length k2, .slice A3 c.vars.length k3, .slice A4 c.ends.length k4, .slice A5 c.pairs.length k5] c :=
  ⟨_, _, rfl, h0, ⟨_, _, rfl, h1, ⟨_, _, rfl, h2, ⟨_, _, rfl, h3, ⟨_, _, rfl, h4, ⟨_, _, rfl, h5, rfl⟩⟩⟩⟩⟩⟩
theorem ty253_own {w : World} {cs : List Value} {c : D.l27Links} {G : List Nat} (h : ty253.own w cs c G) : ∃ A0 k0 A1 k1 A2 k2 A3 k3 A4 k4 A5 k5, cs = [.slice A0 c.agents.length k0, .slice A1 c.ports.length k1, .slice A2 c.cells.length k2, .slice A3 c.vars.length k3, .slice A4 c.ends.length k4, .slice A5 c.pairs.length k5] ∧ (All [Own ty28 [.slice A0 c.agents.length k0] c.agents, Own ty110 [.slice A1 c.ports.length k1] c.ports, Own ty251 [.slice A2 c.cells.length k2] c.cells, Own ty251 [.slice A3 c.vars.length k3] c.vars, Own ty251 [.slice A4 c.ends.length k4] c.ends, Own ty251 [.slice A5 c.pairs.length k5] c.pairs]).A w G := by
  obtain ⟨c0, d0, H0, K0, rfl, rfl, h0, c1, d1, H1, K1, rfl, rfl, h1, c2, d2, H2, K2, rfl, rfl, h2, c3, d3, H3, K3, rfl, rfl, h3, c4, d4, H4, K4, rfl, rfl, h4, c5, d5, H5, K5, rfl, rfl, h5, hz, hk⟩ := h
  subst hz; subst hk
  obtain ⟨A0_, k0_, e0⟩ := slFormO h0
  subst e0
  obtain ⟨A1_, k1_, e1⟩ := slFormO h1
  subst e1
  obtain ⟨A2_, k2_, e2⟩ := slFormO h2
  subst e2
  obtain ⟨A3_, k3_, e3⟩ := slFormO h3
  subst e3
  obtain ⟨A4_, k4_, e4⟩ := slFormO h4
  subst e4
  obtain ⟨A5_, k5_, e5⟩ := slFormO h5
  subst e5
  refine ⟨A0_, k0_, A1_, k1_, A2_, k2_, A3_, k3_, A4_, k4_, A5_, k5_, rfl, ?_⟩
  show (All _).A w _
  exact cast (congrArg _ (by simp)) (show (All _).A w (H0 ++ (H1 ++ (H2 ++ (H3 ++ (H4 ++ (H5 ++ ([]))))))) from ⟨_, _, rfl, h0, ⟨_, _, rfl, h1, ⟨_, _, rfl, h2, ⟨_, _, rfl, h3, ⟨_, _, rfl, h4, ⟨_, _, rfl, h5, rfl⟩⟩⟩⟩⟩⟩)
theorem ty253_ownI {w : World} {c : D.l27Links} {A0 : Option Addr} {k0 : Nat} {A1 : Option Addr} {k1 : Nat} {A2 : Option Addr} {k2 : Nat} {A3 : Option Addr} {k3 : Nat} {A4 : Option Addr} {k4 : Nat} {A5 : Option Addr} {k5 : Nat} {G : List Nat} (h : (All [Own ty28 [.slice A0 c.agents.length k0] c.agents, Own ty110 [.slice A1 c.ports.length k1] c.ports, Own ty251 [.slice A2 c.cells.length k2] c.cells, Own ty251 [.slice A3 c.vars.length k3] c.vars, Own ty251 [.slice A4 c.ends.length k4] c.ends, Own ty251 [.slice A5 c.pairs.length k5] c.pairs]).A w G) : ty253.own w [.slice A0 c.agents.length k0, .slice A1 c.ports.length k1, .slice A2 c.cells.length k2, .slice A3 c.vars.length k3, .slice A4 c.ends.length k4, .slice A5 c.pairs.length k5] c G := by
  obtain ⟨G0, R0, rfl, h0, G1, R1, rfl, h1, G2, R2, rfl, h2, G3, R3, rfl, h3, G4, R4, rfl, h4, G5, R5, rfl, h5, hz⟩ := h
  have hz' : R5 = [] := hz
  subst hz'
  exact cast (congrArg _ (by simp)) (show ty253.own w [.slice A0 c.agents.length k0, .slice A1 c.ports.length k1, .slice A2 c.cells.length k2, .slice A3 c.vars.length k3, .slice A4 c.ends.length k4, .slice A5 c.pairs.length k5] c (_) from ⟨_, _, _, _, rfl, rfl, h0, ⟨_, _, _, _, rfl, rfl, h1, ⟨_, _, _, _, rfl, rfl, h2, ⟨_, _, _, _, rfl, rfl, h3, ⟨_, _, _, _, rfl, rfl, h4, ⟨_, _, _, _, rfl, rfl, h5, ⟨rfl, rfl⟩⟩⟩⟩⟩⟩⟩)
theorem ty253_openS {W w : World} {B : List Res} {cs : List Value} {c : D.l27Links} (h : St W w (Own ty253 cs c :: B)) : ∃ A0 k0 A1 k1 A2 k2 A3 k3 A4 k4 A5 k5, cs = [.slice A0 c.agents.length k0, .slice A1 c.ports.length k1, .slice A2 c.cells.length k2, .slice A3 c.vars.length k3, .slice A4 c.ends.length k4, .slice A5 c.pairs.length k5] ∧ St W w ([Own ty28 [.slice A0 c.agents.length k0] c.agents, Own ty110 [.slice A1 c.ports.length k1] c.ports, Own ty251 [.slice A2 c.cells.length k2] c.cells, Own ty251 [.slice A3 c.vars.length k3] c.vars, Own ty251 [.slice A4 c.ends.length k4] c.ends, Own ty251 [.slice A5 c.pairs.length k5] c.pairs] ++ B) := by
  obtain ⟨G, hA, _⟩ := h.sep.head
  obtain ⟨A0, k0, A1, k1, A2, k2, A3, k3, A4, k4, A5, k5, rfl, _⟩ := ty253_own hA
  refine ⟨A0, k0, A1, k1, A2, k2, A3, k3, A4, k4, A5, k5, rfl, St.splitAll (h.conv fun G hG => ?_)⟩
  obtain ⟨X0, Y0, X1, Y1, X2, Y2, X3, Y3, X4, Y4, X5, Y5, he, hh⟩ := ty253_own hG
  simp only [List.cons.injEq, Value.slice.injEq, and_true, true_and] at he
  obtain ⟨⟨rfl, rfl⟩, ⟨rfl, rfl⟩, ⟨rfl, rfl⟩, ⟨rfl, rfl⟩, ⟨rfl, rfl⟩, ⟨rfl, rfl⟩⟩ := he
  exact hh
theorem ty253_shutS {W w : World} {B : List Res} {c : D.l27Links} {A0 : Option Addr} {k0 : Nat} {A1 : Option Addr} {k1 : Nat} {A2 : Option Addr} {k2 : Nat} {A3 : Option Addr} {k3 : Nat} {A4 : Option Addr} {k4 : Nat} {A5 : Option Addr} {k5 : Nat} (h : St W w ([Own ty28 [.slice A0 c.agents.length k0] c.agents, Own ty110 [.slice A1 c.ports.length k1] c.ports, Own ty251 [.slice A2 c.cells.length k2] c.cells, Own ty251 [.slice A3 c.vars.length k3] c.vars, Own ty251 [.slice A4 c.ends.length k4] c.ends, Own ty251 [.slice A5 c.pairs.length k5] c.pairs] ++ B)) : St W w (Own ty253 [.slice A0 c.agents.length k0, .slice A1 c.ports.length k1, .slice A2 c.cells.length k2, .slice A3 c.vars.length k3, .slice A4 c.ends.length k4, .slice A5 c.pairs.length k5] c :: B) := (St.fuseAll h).conv fun _ hG => ty253_ownI hG

def enc62 : D.Address → Value := fun c => .agg ⟨[.int .i64 c.Machine, .int .i64 c.Kind, .int .i64 c.Index]⟩
theorem keyOk62 : KeyOk Try.prog 62 enc62 := KeyOk.struct ttok (cells := fun c : D.Address => [.int .i64 c.Machine, .int .i64 c.Kind, .int .i64 c.Index]) (b := fun x y => (((x.Machine : Int) == y.Machine) && (((x.Kind : Int) == y.Kind) && (((x.Index : Int) == y.Index) && true)))) rfl rfl (fun _ _ => rfl) (fun x y => by cases x; cases y; simp [seqb_iff]) (fun _ => rfl) (fun {x y} h => by cases x; cases y; simpa using h)
def ty275 : Ty (List (D.Address × Int)) := tMp enc62 (Value.int .i64)
instance {W : World} : Reads W ty275 := inferInstanceAs (Reads W (tMp enc62 (Value.int .i64)))
theorem ty275_form {w : World} {cs : List Value} {xs : (List (D.Address × Int))} (h : ty275.ro w cs xs) : ∃ g, cs = [.map (some g)] := mpForm h
theorem mapOk275 : MapOk Try.prog 275 62 3 enc62 (Value.int .i64) (0 : Int) := ⟨by kernel_rfl, by kernel_rfl, keyOk62⟩

def ty319 : Ty (List D.thing) := tSl 271 ty271
instance {W : World} : Reads W ty319 := inferInstanceAs (Reads W (tSl 271 ty271))
theorem ty319_form {w : World} {cs : List Value} {xs : (List D.thing)} (h : ty319.ro w cs xs) : ∃ A c, cs = [.slice A xs.length c] := slForm h

def ty326 : Ty (List Int) := tSl 3 tInt
instance {W : World} : Reads W ty326 := inferInstanceAs (Reads W (tSl 3 tInt))
theorem ty326_form {w : World} {cs : List Value} {xs : (List Int)} (h : ty326.ro w cs xs) : ∃ A c, cs = [.slice A xs.length c] := slForm h

end Go.E
