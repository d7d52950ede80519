/- The types of the data, as tables and as plain Lean types (written by program). Conditions: none. -/
import Derived.Test.YtlgkoadccodcaaaData
import Derived.Test.YtlgkoadccodcaaaProg
import Derived.KernelRfl
namespace Go.E
open Go.RowKit Go.Proofs

/-- The types that the code names. -/
def tt : TT := [
  ⟨2, .int .i64, 1, [.int .i64 0], 8⟩,
  ⟨3, .int .i64, 1, [.int .i64 0], 8⟩,
  ⟨4, .bool, 1, [.bool false], 1⟩,
  ⟨5, .int .u8, 1, [.int .u8 0], 1⟩,
  ⟨9, .str, 1, [.string ⟨#[]⟩], 16⟩,
  ⟨22, .slice 2, 1, [.slice none 0 0], 24⟩,
  ⟨23, .slice 110, 1, [.slice none 0 0], 24⟩,
  ⟨24, .slice 179, 1, [.slice none 0 0], 24⟩,
  ⟨26, .struct [(0, 1, false, 2), (1, 1, false, 2), (2, 1, false, 22), (3, 1, false, 23), (4, 1, false, 24), (5, 1, false, 22)], 6, [.int .i64 0, .int .i64 0, .slice none 0 0, .slice none 0 0, .slice none 0 0, .slice none 0 0], 112⟩,
  ⟨35, .slice 9, 1, [.slice none 0 0], 24⟩,
  ⟨37, .slice 126, 1, [.slice none 0 0], 24⟩,
  ⟨39, .struct [(0, 1, false, 2), (1, 1, false, 35), (2, 1, false, 2), (3, 1, false, 2), (4, 1, false, 2), (5, 1, false, 37), (6, 1, false, 35), (7, 1, false, 37)], 8, [.int .i64 0, .slice none 0 0, .int .i64 0, .int .i64 0, .int .i64 0, .slice none 0 0, .slice none 0 0, .slice none 0 0], 128⟩,
  ⟨47, .slice 187, 1, [.slice none 0 0], 24⟩,
  ⟨49, .struct [(0, 1, false, 2), (1, 1, false, 35), (2, 1, false, 2), (3, 1, false, 2), (4, 1, false, 2), (5, 1, false, 47), (6, 1, false, 35), (7, 1, false, 47)], 8, [.int .i64 0, .slice none 0 0, .int .i64 0, .int .i64 0, .int .i64 0, .slice none 0 0, .slice none 0 0, .slice none 0 0], 128⟩,
  ⟨55, .slice 66, 1, [.slice none 0 0], 24⟩,
  ⟨64, .struct [(0, 1, false, 2), (1, 1, false, 2)], 2, [.int .i64 0, .int .i64 0], 16⟩,
  ⟨66, .struct [(0, 1, false, 2), (1, 1, false, 2)], 2, [.int .i64 0, .int .i64 0], 16⟩,
  ⟨71, .slice 201, 1, [.slice none 0 0], 24⟩,
  ⟨73, .struct [(0, 1, false, 71)], 1, [.slice none 0 0], 24⟩,
  ⟨77, .slice 206, 1, [.slice none 0 0], 24⟩,
  ⟨79, .struct [(0, 1, false, 77)], 1, [.slice none 0 0], 24⟩,
  ⟨83, .slice 225, 1, [.slice none 0 0], 24⟩,
  ⟨85, .struct [(0, 1, false, 2), (1, 1, false, 2)], 2, [.int .i64 0, .int .i64 0], 16⟩,
  ⟨86, .slice 229, 1, [.slice none 0 0], 24⟩,
  ⟨88, .struct [(0, 1, false, 83), (1, 1, false, 2), (2, 2, true, 85), (4, 1, false, 86)], 5, [.slice none 0 0, .int .i64 0, .int .i64 0, .int .i64 0, .slice none 0 0], 72⟩,
  ⟨91, .slice 167, 1, [.slice none 0 0], 24⟩,
  ⟨92, .struct [(0, 1, false, 2), (1, 1, false, 2)], 2, [.int .i64 0, .int .i64 0], 16⟩,
  ⟨93, .slice 173, 1, [.slice none 0 0], 24⟩,
  ⟨95, .struct [(0, 1, false, 91), (1, 1, false, 2), (2, 2, true, 92), (4, 1, false, 93)], 5, [.slice none 0 0, .int .i64 0, .int .i64 0, .int .i64 0, .slice none 0 0], 72⟩,
  ⟨110, .struct [(0, 1, false, 22), (1, 1, false, 2), (2, 1, false, 2), (3, 1, false, 2), (4, 1, false, 2)], 5, [.slice none 0 0, .int .i64 0, .int .i64 0, .int .i64 0, .int .i64 0], 56⟩,
  ⟨118, .ptr 39, 1, [.pointer none], 8⟩,
  ⟨126, .struct [(0, 1, false, 4), (1, 1, false, 2), (2, 1, false, 9)], 3, [.bool false, .int .i64 0, .string ⟨#[]⟩], 32⟩,
  ⟨143, .ptr 79, 1, [.pointer none], 8⟩,
  ⟨152, .ptr 95, 1, [.pointer none], 8⟩,
  ⟨164, .ptr 167, 1, [.pointer none], 8⟩,
  ⟨165, .slice 92, 1, [.slice none 0 0], 24⟩,
  ⟨167, .struct [(0, 1, false, 2), (1, 1, false, 2), (2, 1, false, 2), (3, 1, false, 22), (4, 1, false, 165)], 5, [.int .i64 0, .int .i64 0, .int .i64 0, .slice none 0 0, .slice none 0 0], 72⟩,
  ⟨173, .struct [(0, 1, false, 2), (1, 1, false, 2)], 2, [.int .i64 0, .int .i64 0], 16⟩,
  ⟨179, .struct [(0, 1, false, 2), (1, 1, false, 2)], 2, [.int .i64 0, .int .i64 0], 16⟩,
  ⟨180, .ptr 126, 1, [.pointer none], 8⟩,
  ⟨185, .slice 5, 1, [.slice none 0 0], 24⟩,
  ⟨187, .struct [(0, 1, false, 4), (1, 1, false, 2), (2, 1, false, 9)], 3, [.bool false, .int .i64 0, .string ⟨#[]⟩], 32⟩,
  ⟨199, .slice 273, 1, [.slice none 0 0], 24⟩,
  ⟨201, .struct [(0, 1, false, 2), (1, 1, false, 2), (2, 1, false, 2), (3, 1, false, 22), (4, 1, false, 199)], 5, [.int .i64 0, .int .i64 0, .int .i64 0, .slice none 0 0, .slice none 0 0], 72⟩,
  ⟨203, .ptr 206, 1, [.pointer none], 8⟩,
  ⟨204, .slice 208, 1, [.slice none 0 0], 24⟩,
  ⟨206, .struct [(0, 1, false, 2), (1, 1, false, 2), (2, 1, false, 2), (3, 1, false, 22), (4, 1, false, 204)], 5, [.int .i64 0, .int .i64 0, .int .i64 0, .slice none 0 0, .slice none 0 0], 72⟩,
  ⟨208, .struct [(0, 1, false, 2), (1, 1, false, 2)], 2, [.int .i64 0, .int .i64 0], 16⟩,
  ⟨210, .slice 213, 1, [.slice none 0 0], 24⟩,
  ⟨213, .struct [(0, 2, true, 208), (2, 2, true, 208)], 4, [.int .i64 0, .int .i64 0, .int .i64 0, .int .i64 0], 32⟩,
  ⟨223, .slice 85, 1, [.slice none 0 0], 24⟩,
  ⟨225, .struct [(0, 1, false, 2), (1, 1, false, 2), (2, 1, false, 2), (3, 1, false, 22), (4, 1, false, 223)], 5, [.int .i64 0, .int .i64 0, .int .i64 0, .slice none 0 0, .slice none 0 0], 72⟩,
  ⟨229, .struct [(0, 1, false, 2), (1, 1, false, 2)], 2, [.int .i64 0, .int .i64 0], 16⟩,
  ⟨263, .slice 3, 1, [.slice none 0 0], 24⟩,
  ⟨268, .int .u64, 1, [.int .u64 0], 8⟩,
  ⟨273, .struct [(0, 1, false, 2), (1, 1, false, 2)], 2, [.int .i64 0, .int .i64 0], 16⟩]

def zerosOk (P : Program) : TT → Prop
  | [] => True
  | i :: r => (P.info? i.id).map (fun j => j.zero.map (fun v => v.cells.toList)) = some (some i.zero) ∧ zerosOk P r

theorem zerosOk_mem {P : Program} : ∀ {T : TT}, zerosOk P T → ∀ i, i ∈ T → (P.info? i.id).map (fun j => j.zero.map (fun v => v.cells.toList)) = some (some i.zero)
  | [], _, i, h => by cases h
  | _ :: _, ⟨h1, h2⟩, i, h => by
    rcases List.mem_cons.1 h with rfl | h
    · exact h1
    · exact zerosOk_mem h2 i h

theorem tt_all : tt.all (infoOk Try.prog) = true := by kernel_rfl
theorem tt_zeros : zerosOk Try.prog tt := ⟨by kernel_rfl, by kernel_rfl, by kernel_rfl, by kernel_rfl, by kernel_rfl, by kernel_rfl, by kernel_rfl, by kernel_rfl, by kernel_rfl, by kernel_rfl, by kernel_rfl, by kernel_rfl, by kernel_rfl, by kernel_rfl, by kernel_rfl, by kernel_rfl, by kernel_rfl, by kernel_rfl, by kernel_rfl, by kernel_rfl, by kernel_rfl, by kernel_rfl, by kernel_rfl, by kernel_rfl, by kernel_rfl, by kernel_rfl, by kernel_rfl, by kernel_rfl, by kernel_rfl, by kernel_rfl, by kernel_rfl, by kernel_rfl, by kernel_rfl, by kernel_rfl, by kernel_rfl, by kernel_rfl, by kernel_rfl, by kernel_rfl, by kernel_rfl, by kernel_rfl, by kernel_rfl, by kernel_rfl, by kernel_rfl, by kernel_rfl, by kernel_rfl, by kernel_rfl, by kernel_rfl, by kernel_rfl, by kernel_rfl, by kernel_rfl, by kernel_rfl, by kernel_rfl, by kernel_rfl, by kernel_rfl, by kernel_rfl, by kernel_rfl, trivial⟩
theorem ttok : TTok Try.prog tt := ⟨List.all_eq_true.1 tt_all, zerosOk_mem tt_zeros⟩
theorem mixed : Try.prog.follows .mixedOrders = true := by kernel_rfl

structure D.DequeActor where
  Todo : (List Int)
  Pc : Int
  T : Int
  B : Int
  X : Int
deriving Inhabited, DecidableEq

structure D.Handed where
  Actor : Int
  Value : Int
deriving Inhabited, DecidableEq

structure D.Deque where
  Top : Int
  Bottom : Int
  Buffer : (List Int)
  Actors : (List D.DequeActor)
  Taken : (List D.Handed)
  Refused : (List Int)
deriving Inhabited, DecidableEq

structure D.Packet where
  Ack : Bool
  Number : Int
  Text : ByteArray
deriving Inhabited, DecidableEq

structure D.Channel where
  Window : Int
  Messages : (List ByteArray)
  Base : Int
  Next : Int
  Expected : Int
  Early : (List D.Packet)
  Delivered : (List ByteArray)
  Flight : (List D.Packet)
deriving Inhabited, DecidableEq

structure D.ChannelEvent where
  Kind : Int
  Index : Int
deriving Inhabited, DecidableEq

structure D.Port where
  Agent : Int
  Slot : Int
deriving Inhabited, DecidableEq

structure D.Agent where
  Kind : Int
  Level : Int
  Value : Int
  Data : (List Int)
  Ports : (List D.Port)
deriving Inhabited, DecidableEq

structure D.Net where
  Agents : (List D.Agent)
deriving Inhabited, DecidableEq

structure D.Word where
  Tag : Int
  At : Int
deriving Inhabited, DecidableEq

structure D.Cell where
  Kind : Int
  Level : Int
  Value : Int
  Data : (List Int)
  Words : (List D.Word)
deriving Inhabited, DecidableEq

structure D.Pair where
  A : Int
  B : Int
deriving Inhabited, DecidableEq

structure D.Memory where
  Cells : (List D.Cell)
  Free : Int
  Root : D.Word
  Redexes : (List D.Pair)
deriving Inhabited, DecidableEq

structure D.Wire where
  A : D.Port
  B : D.Port
deriving Inhabited, DecidableEq

def ty22 : Ty (List Int) := tSl 2 tInt
theorem ty22_form {w : World} {cs : List Value} {xs : (List Int)} (h : ty22.ro w cs xs) : ∃ A c, cs = [.slice A xs.length c] := slForm h

def ty110 : Ty D.DequeActor := tMap (fun c => (c.Todo, c.Pc, c.T, c.B, c.X, ())) (tPair ty22 (tPair tInt (tPair tInt (tPair tInt (tPair tInt tUnit)))))
theorem ty110_open {w : World} {cs : List Value} {c : D.DequeActor} (h : ty110.ro w cs c) : ∃ A0 k0, cs = [.slice A0 c.Todo.length k0, .int .i64 c.Pc, .int .i64 c.T, .int .i64 c.B, .int .i64 c.X] ∧ ty22.ro w [.slice A0 c.Todo.length k0] c.Todo := by
  obtain ⟨c0, d0, rfl, h0, c1, d1, rfl, h1, c2, d2, rfl, h2, c3, d3, rfl, h3, c4, d4, rfl, h4, hz⟩ := h
  subst hz
  obtain ⟨A0_, k0_, e0⟩ := ty22_form h0
  subst e0
  subst h1
  subst h2
  subst h3
  subst h4
  exact ⟨A0_, k0_, rfl, h0⟩
theorem ty110_shut {w : World} (c : D.DequeActor) {A0 : Option Addr} {k0 : Nat} (h0 : ty22.ro w [.slice A0 c.Todo.length k0] c.Todo) : ty110.ro w [.slice A0 c.Todo.length k0, .int .i64 c.Pc, .int .i64 c.T, .int .i64 c.B, .int .i64 c.X] c :=
  ⟨_, _, rfl, h0, ⟨_, _, rfl, rfl, ⟨_, _, rfl, rfl, ⟨_, _, rfl, rfl, ⟨_, _, rfl, rfl, rfl⟩⟩⟩⟩⟩
theorem ty110_own {w : World} {cs : List Value} {c : D.DequeActor} {G : List Nat} (h : ty110.own w cs c G) : ∃ A0 k0, cs = [.slice A0 c.Todo.length k0, .int .i64 c.Pc, .int .i64 c.T, .int .i64 c.B, .int .i64 c.X] ∧ (All [Own ty22 [.slice A0 c.Todo.length k0] c.Todo]).A w G := by
  obtain ⟨c0, d0, H0, K0, rfl, rfl, h0, c1, d1, H1, K1, rfl, rfl, h1, c2, d2, H2, K2, rfl, rfl, h2, c3, d3, H3, K3, rfl, rfl, h3, c4, d4, H4, K4, rfl, rfl, h4, hz, hk⟩ := h
  subst hz; subst hk
  obtain ⟨A0_, k0_, e0⟩ := ty22_form (ty22.own_ro h0)
  subst e0
  obtain ⟨e1, k1⟩ := h1; subst e1; subst k1
  obtain ⟨e2, k2⟩ := h2; subst e2; subst k2
  obtain ⟨e3, k3⟩ := h3; subst e3; subst k3
  obtain ⟨e4, k4⟩ := h4; subst e4; subst k4
  refine ⟨A0_, k0_, rfl, ?_⟩
  show (All _).A w _
  exact cast (congrArg _ (by simp)) (show (All _).A w (H0 ++ ([])) from ⟨_, _, rfl, h0, rfl⟩)
theorem ty110_ownI {w : World} {c : D.DequeActor} {A0 : Option Addr} {k0 : Nat} {G : List Nat} (h : (All [Own ty22 [.slice A0 c.Todo.length k0] c.Todo]).A w G) : ty110.own w [.slice A0 c.Todo.length k0, .int .i64 c.Pc, .int .i64 c.T, .int .i64 c.B, .int .i64 c.X] c G := by
  obtain ⟨G0, R0, rfl, h0, hz⟩ := h
  have hz' : R0 = [] := hz
  subst hz'
  exact cast (congrArg _ (by simp)) (show ty110.own w [.slice A0 c.Todo.length k0, .int .i64 c.Pc, .int .i64 c.T, .int .i64 c.B, .int .i64 c.X] c (_) from ⟨_, _, _, _, rfl, rfl, h0, ⟨_, _, _, _, rfl, rfl, ⟨rfl, rfl⟩, ⟨_, _, _, _, rfl, rfl, ⟨rfl, rfl⟩, ⟨_, _, _, _, rfl, rfl, ⟨rfl, rfl⟩, ⟨_, _, _, _, rfl, rfl, ⟨rfl, rfl⟩, ⟨rfl, rfl⟩⟩⟩⟩⟩⟩)
theorem ty110_openS {W w : World} {B : List Res} {cs : List Value} {c : D.DequeActor} (h : St W w (Own ty110 cs c :: B)) : ∃ A0 k0, cs = [.slice A0 c.Todo.length k0, .int .i64 c.Pc, .int .i64 c.T, .int .i64 c.B, .int .i64 c.X] ∧ St W w ([Own ty22 [.slice A0 c.Todo.length k0] c.Todo] ++ B) := by
  obtain ⟨G, hA, _⟩ := h.sep.head
  obtain ⟨A0, k0, rfl, _⟩ := ty110_own hA
  refine ⟨A0, k0, rfl, St.splitAll (h.conv fun G hG => ?_)⟩
  obtain ⟨X0, Y0, he, hh⟩ := ty110_own hG
  simp only [List.cons.injEq, Value.slice.injEq, and_true, true_and] at he
  obtain ⟨rfl, rfl⟩ := he
  exact hh
theorem ty110_shutS {W w : World} {B : List Res} {c : D.DequeActor} {A0 : Option Addr} {k0 : Nat} (h : St W w ([Own ty22 [.slice A0 c.Todo.length k0] c.Todo] ++ B)) : St W w (Own ty110 [.slice A0 c.Todo.length k0, .int .i64 c.Pc, .int .i64 c.T, .int .i64 c.B, .int .i64 c.X] c :: B) := (St.fuseAll h).conv fun _ hG => ty110_ownI hG

def ty23 : Ty (List D.DequeActor) := tSl 110 ty110
theorem ty23_form {w : World} {cs : List Value} {xs : (List D.DequeActor)} (h : ty23.ro w cs xs) : ∃ A c, cs = [.slice A xs.length c] := slForm h

def ty179 : Ty D.Handed := tMap (fun c => (c.Actor, c.Value, ())) (tPair tInt (tPair tInt tUnit))
theorem ty179_open {w : World} {cs : List Value} {c : D.Handed} (h : ty179.ro w cs c) : cs = [.int .i64 c.Actor, .int .i64 c.Value] := by
  obtain ⟨c0, d0, rfl, h0, c1, d1, rfl, h1, hz⟩ := h
  subst hz
  subst h0
  subst h1
  rfl
theorem ty179_shut {w : World} (c : D.Handed)   : ty179.ro w [.int .i64 c.Actor, .int .i64 c.Value] c :=
  ⟨_, _, rfl, rfl, ⟨_, _, rfl, rfl, rfl⟩⟩
theorem ty179_own {w : World} {cs : List Value} {c : D.Handed} {G : List Nat} (h : ty179.own w cs c G) : cs = [.int .i64 c.Actor, .int .i64 c.Value] ∧ (All []).A w G := by
  obtain ⟨c0, d0, H0, K0, rfl, rfl, h0, c1, d1, H1, K1, rfl, rfl, h1, hz, hk⟩ := h
  subst hz; subst hk
  obtain ⟨e0, k0⟩ := h0; subst e0; subst k0
  obtain ⟨e1, k1⟩ := h1; subst e1; subst k1
  refine ⟨rfl, ?_⟩
  show (All _).A w _
  exact cast (congrArg _ (by simp)) (show (All _).A w ([]) from rfl)
theorem ty179_ownI {w : World} {c : D.Handed}  {G : List Nat} (h : (All []).A w G) : ty179.own w [.int .i64 c.Actor, .int .i64 c.Value] c G := by
  have hz : G = [] := h
  subst hz
  exact cast (congrArg _ (by simp)) (show ty179.own w [.int .i64 c.Actor, .int .i64 c.Value] c (_) from ⟨_, _, _, _, rfl, rfl, ⟨rfl, rfl⟩, ⟨_, _, _, _, rfl, rfl, ⟨rfl, rfl⟩, ⟨rfl, rfl⟩⟩⟩)
theorem ty179_openS {W w : World} {B : List Res} {cs : List Value} {c : D.Handed} (h : St W w (Own ty179 cs c :: B)) : cs = [.int .i64 c.Actor, .int .i64 c.Value] ∧ St W w ([] ++ B) := by
  obtain ⟨G, hA, _⟩ := h.sep.head
  obtain ⟨rfl, _⟩ := ty179_own hA
  refine ⟨rfl, St.splitAll (h.conv fun G hG => ?_)⟩
  exact (ty179_own hG).2
theorem ty179_shutS {W w : World} {B : List Res} {c : D.Handed}  (h : St W w ([] ++ B)) : St W w (Own ty179 [.int .i64 c.Actor, .int .i64 c.Value] c :: B) := (St.fuseAll h).conv fun _ hG => ty179_ownI hG

def ty24 : Ty (List D.Handed) := tSl 179 ty179
theorem ty24_form {w : World} {cs : List Value} {xs : (List D.Handed)} (h : ty24.ro w cs xs) : ∃ A c, cs = [.slice A xs.length c] := slForm h

def ty26 : Ty D.Deque := tMap (fun c => (c.Top, c.Bottom, c.Buffer, c.Actors, c.Taken, c.Refused, ())) (tPair tInt (tPair tInt (tPair ty22 (tPair ty23 (tPair ty24 (tPair ty22 tUnit))))))
theorem ty26_open {w : World} {cs : List Value} {c : D.Deque} (h : ty26.ro w cs c) : ∃ A0 k0 A1 k1 A2 k2 A3 k3, cs = [.int .i64 c.Top, .int .i64 c.Bottom, .slice A0 c.Buffer.length k0, .slice A1 c.Actors.length k1, .slice A2 c.Taken.length k2, .slice A3 c.Refused.length k3] ∧ ty22.ro w [.slice A0 c.Buffer.length k0] c.Buffer ∧ ty23.ro w [.slice A1 c.Actors.length k1] c.Actors ∧ ty24.ro w [.slice A2 c.Taken.length k2] c.Taken ∧ ty22.ro w [.slice A3 c.Refused.length k3] c.Refused := by
  obtain ⟨c0, d0, rfl, h0, c1, d1, rfl, h1, c2, d2, rfl, h2, c3, d3, rfl, h3, c4, d4, rfl, h4, c5, d5, rfl, h5, hz⟩ := h
  subst hz
  subst h0
  subst h1
  obtain ⟨A2_, k2_, e2⟩ := ty22_form h2
  subst e2
  obtain ⟨A3_, k3_, e3⟩ := ty23_form h3
  subst e3
  obtain ⟨A4_, k4_, e4⟩ := ty24_form h4
  subst e4
  obtain ⟨A5_, k5_, e5⟩ := ty22_form h5
  subst e5
  exact ⟨A2_, k2_, A3_, k3_, A4_, k4_, A5_, k5_, rfl, h2, h3, h4, h5⟩
theorem ty26_shut {w : World} (c : D.Deque) {A0 : Option Addr} {k0 : Nat} {A1 : Option Addr} {k1 : Nat} {A2 : Option Addr} {k2 : Nat} {A3 : Option Addr} {k3 : Nat} (h0 : ty22.ro w [.slice A0 c.Buffer.length k0] c.Buffer) (h1 : ty23.ro w [.slice A1 c.Actors.length k1] c.Actors) (h2 : ty24.ro w [.slice A2 c.Taken.length k2] c.Taken) (h3 : ty22.ro w [.slice A3 c.Refused.length k3] c.Refused) : ty26.ro w [.int .i64 c.Top, .int .i64 c.Bottom, .slice A0 c.Buffer.length k0, .slice A1 c.Actors.length k1, .slice A2 c.Taken.length k2, .slice A3 c.Refused.length k3] c :=
  ⟨_, _, rfl, rfl, ⟨_, _, rfl, rfl, ⟨_, _, rfl, h0, ⟨_, _, rfl, h1, ⟨_, _, rfl, h2, ⟨_, _, rfl, h3, rfl⟩⟩⟩⟩⟩⟩
theorem ty26_own {w : World} {cs : List Value} {c : D.Deque} {G : List Nat} (h : ty26.own w cs c G) : ∃ A0 k0 A1 k1 A2 k2 A3 k3, cs = [.int .i64 c.Top, .int .i64 c.Bottom, .slice A0 c.Buffer.length k0, .slice A1 c.Actors.length k1, .slice A2 c.Taken.length k2, .slice A3 c.Refused.length k3] ∧ (All [Own ty22 [.slice A0 c.Buffer.length k0] c.Buffer, Own ty23 [.slice A1 c.Actors.length k1] c.Actors, Own ty24 [.slice A2 c.Taken.length k2] c.Taken, Own ty22 [.slice A3 c.Refused.length k3] c.Refused]).A w G := by
  obtain ⟨c0, d0, H0, K0, rfl, rfl, h0, c1, d1, H1, K1, rfl, rfl, h1, c2, d2, H2, K2, rfl, rfl, h2, c3, d3, H3, K3, rfl, rfl, h3, c4, d4, H4, K4, rfl, rfl, h4, c5, d5, H5, K5, rfl, rfl, h5, hz, hk⟩ := h
  subst hz; subst hk
  obtain ⟨e0, k0⟩ := h0; subst e0; subst k0
  obtain ⟨e1, k1⟩ := h1; subst e1; subst k1
  obtain ⟨A2_, k2_, e2⟩ := ty22_form (ty22.own_ro h2)
  subst e2
  obtain ⟨A3_, k3_, e3⟩ := ty23_form (ty23.own_ro h3)
  subst e3
  obtain ⟨A4_, k4_, e4⟩ := ty24_form (ty24.own_ro h4)
  subst e4
  obtain ⟨A5_, k5_, e5⟩ := ty22_form (ty22.own_ro h5)
  subst e5
  refine ⟨A2_, k2_, A3_, k3_, A4_, k4_, A5_, k5_, rfl, ?_⟩
  show (All _).A w _
  exact cast (congrArg _ (by simp)) (show (All _).A w (H2 ++ (H3 ++ (H4 ++ (H5 ++ ([]))))) from ⟨_, _, rfl, h2, ⟨_, _, rfl, h3, ⟨_, _, rfl, h4, ⟨_, _, rfl, h5, rfl⟩⟩⟩⟩)
theorem ty26_ownI {w : World} {c : D.Deque} {A0 : Option Addr} {k0 : Nat} {A1 : Option Addr} {k1 : Nat} {A2 : Option Addr} {k2 : Nat} {A3 : Option Addr} {k3 : Nat} {G : List Nat} (h : (All [Own ty22 [.slice A0 c.Buffer.length k0] c.Buffer, Own ty23 [.slice A1 c.Actors.length k1] c.Actors, Own ty24 [.slice A2 c.Taken.length k2] c.Taken, Own ty22 [.slice A3 c.Refused.length k3] c.Refused]).A w G) : ty26.own w [.int .i64 c.Top, .int .i64 c.Bottom, .slice A0 c.Buffer.length k0, .slice A1 c.Actors.length k1, .slice A2 c.Taken.length k2, .slice A3 c.Refused.length k3] c G := by
  obtain ⟨G0, R0, rfl, h0, G1, R1, rfl, h1, G2, R2, rfl, h2, G3, R3, rfl, h3, hz⟩ := h
  have hz' : R3 = [] := hz
  subst hz'
  exact cast (congrArg _ (by simp)) (show ty26.own w [.int .i64 c.Top, .int .i64 c.Bottom, .slice A0 c.Buffer.length k0, .slice A1 c.Actors.length k1, .slice A2 c.Taken.length k2, .slice A3 c.Refused.length k3] c (_) from ⟨_, _, _, _, rfl, rfl, ⟨rfl, rfl⟩, ⟨_, _, _, _, rfl, rfl, ⟨rfl, rfl⟩, ⟨_, _, _, _, rfl, rfl, h0, ⟨_, _, _, _, rfl, rfl, h1, ⟨_, _, _, _, rfl, rfl, h2, ⟨_, _, _, _, rfl, rfl, h3, ⟨rfl, rfl⟩⟩⟩⟩⟩⟩⟩)
theorem ty26_openS {W w : World} {B : List Res} {cs : List Value} {c : D.Deque} (h : St W w (Own ty26 cs c :: B)) : ∃ A0 k0 A1 k1 A2 k2 A3 k3, cs = [.int .i64 c.Top, .int .i64 c.Bottom, .slice A0 c.Buffer.length k0, .slice A1 c.Actors.length k1, .slice A2 c.Taken.length k2, .slice A3 c.Refused.length k3] ∧ St W w ([Own ty22 [.slice A0 c.Buffer.length k0] c.Buffer, Own ty23 [.slice A1 c.Actors.length k1] c.Actors, Own ty24 [.slice A2 c.Taken.length k2] c.Taken, Own ty22 [.slice A3 c.Refused.length k3] c.Refused] ++ B) := by
  obtain ⟨G, hA, _⟩ := h.sep.head
  obtain ⟨A0, k0, A1, k1, A2, k2, A3, k3, rfl, _⟩ := ty26_own hA
  refine ⟨A0, k0, A1, k1, A2, k2, A3, k3, rfl, St.splitAll (h.conv fun G hG => ?_)⟩
  obtain ⟨X0, Y0, X1, Y1, X2, Y2, X3, Y3, he, hh⟩ := ty26_own hG
  simp only [List.cons.injEq, Value.slice.injEq, and_true, true_and] at he
  obtain ⟨⟨rfl, rfl⟩, ⟨rfl, rfl⟩, ⟨rfl, rfl⟩, ⟨rfl, rfl⟩⟩ := he
  exact hh
theorem ty26_shutS {W w : World} {B : List Res} {c : D.Deque} {A0 : Option Addr} {k0 : Nat} {A1 : Option Addr} {k1 : Nat} {A2 : Option Addr} {k2 : Nat} {A3 : Option Addr} {k3 : Nat} (h : St W w ([Own ty22 [.slice A0 c.Buffer.length k0] c.Buffer, Own ty23 [.slice A1 c.Actors.length k1] c.Actors, Own ty24 [.slice A2 c.Taken.length k2] c.Taken, Own ty22 [.slice A3 c.Refused.length k3] c.Refused] ++ B)) : St W w (Own ty26 [.int .i64 c.Top, .int .i64 c.Bottom, .slice A0 c.Buffer.length k0, .slice A1 c.Actors.length k1, .slice A2 c.Taken.length k2, .slice A3 c.Refused.length k3] c :: B) := (St.fuseAll h).conv fun _ hG => ty26_ownI hG

def ty35 : Ty (List ByteArray) := tSl 9 tStr
theorem ty35_form {w : World} {cs : List Value} {xs : (List ByteArray)} (h : ty35.ro w cs xs) : ∃ A c, cs = [.slice A xs.length c] := slForm h

def ty126 : Ty D.Packet := tMap (fun c => (c.Ack, c.Number, c.Text, ())) (tPair tBool (tPair tInt (tPair tStr tUnit)))
theorem ty126_open {w : World} {cs : List Value} {c : D.Packet} (h : ty126.ro w cs c) : cs = [.bool c.Ack, .int .i64 c.Number, .string c.Text] := by
  obtain ⟨c0, d0, rfl, h0, c1, d1, rfl, h1, c2, d2, rfl, h2, hz⟩ := h
  subst hz
  subst h0
  subst h1
  subst h2
  rfl
theorem ty126_shut {w : World} (c : D.Packet)   : ty126.ro w [.bool c.Ack, .int .i64 c.Number, .string c.Text] c :=
  ⟨_, _, rfl, rfl, ⟨_, _, rfl, rfl, ⟨_, _, rfl, rfl, rfl⟩⟩⟩
theorem ty126_own {w : World} {cs : List Value} {c : D.Packet} {G : List Nat} (h : ty126.own w cs c G) : cs = [.bool c.Ack, .int .i64 c.Number, .string c.Text] ∧ (All []).A w G := by
  obtain ⟨c0, d0, H0, K0, rfl, rfl, h0, c1, d1, H1, K1, rfl, rfl, h1, c2, d2, H2, K2, rfl, rfl, h2, hz, hk⟩ := h
  subst hz; subst hk
  obtain ⟨e0, k0⟩ := h0; subst e0; subst k0
  obtain ⟨e1, k1⟩ := h1; subst e1; subst k1
  obtain ⟨e2, k2⟩ := h2; subst e2; subst k2
  refine ⟨rfl, ?_⟩
  show (All _).A w _
  exact cast (congrArg _ (by simp)) (show (All _).A w ([]) from rfl)
theorem ty126_ownI {w : World} {c : D.Packet}  {G : List Nat} (h : (All []).A w G) : ty126.own w [.bool c.Ack, .int .i64 c.Number, .string c.Text] c G := by
  have hz : G = [] := h
  subst hz
  exact cast (congrArg _ (by simp)) (show ty126.own w [.bool c.Ack, .int .i64 c.Number, .string c.Text] c (_) from ⟨_, _, _, _, rfl, rfl, ⟨rfl, rfl⟩, ⟨_, _, _, _, rfl, rfl, ⟨rfl, rfl⟩, ⟨_, _, _, _, rfl, rfl, ⟨rfl, rfl⟩, ⟨rfl, rfl⟩⟩⟩⟩)
theorem ty126_openS {W w : World} {B : List Res} {cs : List Value} {c : D.Packet} (h : St W w (Own ty126 cs c :: B)) : cs = [.bool c.Ack, .int .i64 c.Number, .string c.Text] ∧ St W w ([] ++ B) := by
  obtain ⟨G, hA, _⟩ := h.sep.head
  obtain ⟨rfl, _⟩ := ty126_own hA
  refine ⟨rfl, St.splitAll (h.conv fun G hG => ?_)⟩
  exact (ty126_own hG).2
theorem ty126_shutS {W w : World} {B : List Res} {c : D.Packet}  (h : St W w ([] ++ B)) : St W w (Own ty126 [.bool c.Ack, .int .i64 c.Number, .string c.Text] c :: B) := (St.fuseAll h).conv fun _ hG => ty126_ownI hG

def ty37 : Ty (List D.Packet) := tSl 126 ty126
theorem ty37_form {w : World} {cs : List Value} {xs : (List D.Packet)} (h : ty37.ro w cs xs) : ∃ A c, cs = [.slice A xs.length c] := slForm h

def ty39 : Ty D.Channel := tMap (fun c => (c.Window, c.Messages, c.Base, c.Next, c.Expected, c.Early, c.Delivered, c.Flight, ())) (tPair tInt (tPair ty35 (tPair tInt (tPair tInt (tPair tInt (tPair ty37 (tPair ty35 (tPair ty37 tUnit))))))))
theorem ty39_open {w : World} {cs : List Value} {c : D.Channel} (h : ty39.ro w cs c) : ∃ A0 k0 A1 k1 A2 k2 A3 k3, cs = [.int .i64 c.Window, .slice A0 c.Messages.length k0, .int .i64 c.Base, .int .i64 c.Next, .int .i64 c.Expected, .slice A1 c.Early.length k1, .slice A2 c.Delivered.length k2, .slice A3 c.Flight.length k3] ∧ ty35.ro w [.slice A0 c.Messages.length k0] c.Messages ∧ ty37.ro w [.slice A1 c.Early.length k1] c.Early ∧ ty35.ro w [.slice A2 c.Delivered.length k2] c.Delivered ∧ ty37.ro w [.slice A3 c.Flight.length k3] c.Flight := by
  obtain ⟨c0, d0, rfl, h0, c1, d1, rfl, h1, c2, d2, rfl, h2, c3, d3, rfl, h3, c4, d4, rfl, h4, c5, d5, rfl, h5, c6, d6, rfl, h6, c7, d7, rfl, h7, hz⟩ := h
  subst hz
  subst h0
  obtain ⟨A1_, k1_, e1⟩ := ty35_form h1
  subst e1
  subst h2
  subst h3
  subst h4
  obtain ⟨A5_, k5_, e5⟩ := ty37_form h5
  subst e5
  obtain ⟨A6_, k6_, e6⟩ := ty35_form h6
  subst e6
  obtain ⟨A7_, k7_, e7⟩ := ty37_form h7
  subst e7
  exact ⟨A1_, k1_, A5_, k5_, A6_, k6_, A7_, k7_, rfl, h1, h5, h6, h7⟩
theorem ty39_shut {w : World} (c : D.Channel) {A0 : Option Addr} {k0 : Nat} {A1 : Option Addr} {k1 : Nat} {A2 : Option Addr} {k2 : Nat} {A3 : Option Addr} {k3 : Nat} (h0 : ty35.ro w [.slice A0 c.Messages.length k0] c.Messages) (h1 : ty37.ro w [.slice A1 c.Early.length k1] c.Early) (h2 : ty35.ro w [.slice A2 c.Delivered.length k2] c.Delivered) (h3 : ty37.ro w [.slice A3 c.Flight.length k3] c.Flight) : ty39.ro w [.int .i64 c.Window, .slice A0 c.Messages.length k0, .int .i64 c.Base, .int .i64 c.Next, .int .i64 c.Expected, .slice A1 c.Early.length k1, .slice A2 c.Delivered.length k2, .slice A3 c.Flight.length k3] c :=
  ⟨_, _, rfl, rfl, ⟨_, _, rfl, h0, ⟨_, _, rfl, rfl, ⟨_, _, rfl, rfl, ⟨_, _, rfl, rfl, ⟨_, _, rfl, h1, ⟨_, _, rfl, h2, ⟨_, _, rfl, h3, rfl⟩⟩⟩⟩⟩⟩⟩⟩
theorem ty39_own {w : World} {cs : List Value} {c : D.Channel} {G : List Nat} (h : ty39.own w cs c G) : ∃ A0 k0 A1 k1 A2 k2 A3 k3, cs = [.int .i64 c.Window, .slice A0 c.Messages.length k0, .int .i64 c.Base, .int .i64 c.Next, .int .i64 c.Expected, .slice A1 c.Early.length k1, .slice A2 c.Delivered.length k2, .slice A3 c.Flight.length k3] ∧ (All [Own ty35 [.slice A0 c.Messages.length k0] c.Messages, Own ty37 [.slice A1 c.Early.length k1] c.Early, Own ty35 [.slice A2 c.Delivered.length k2] c.Delivered, Own ty37 [.slice A3 c.Flight.length k3] c.Flight]).A w G := by
  obtain ⟨c0, d0, H0, K0, rfl, rfl, h0, c1, d1, H1, K1, rfl, rfl, h1, c2, d2, H2, K2, rfl, rfl, h2, c3, d3, H3, K3, rfl, rfl, h3, c4, d4, H4, K4, rfl, rfl, h4, c5, d5, H5, K5, rfl, rfl, h5, c6, d6, H6, K6, rfl, rfl, h6, c7, d7, H7, K7, rfl, rfl, h7, hz, hk⟩ := h
  subst hz; subst hk
  obtain ⟨e0, k0⟩ := h0; subst e0; subst k0
  obtain ⟨A1_, k1_, e1⟩ := ty35_form (ty35.own_ro h1)
  subst e1
  obtain ⟨e2, k2⟩ := h2; subst e2; subst k2
  obtain ⟨e3, k3⟩ := h3; subst e3; subst k3
  obtain ⟨e4, k4⟩ := h4; subst e4; subst k4
  obtain ⟨A5_, k5_, e5⟩ := ty37_form (ty37.own_ro h5)
  subst e5
  obtain ⟨A6_, k6_, e6⟩ := ty35_form (ty35.own_ro h6)
  subst e6
  obtain ⟨A7_, k7_, e7⟩ := ty37_form (ty37.own_ro h7)
  subst e7
  refine ⟨A1_, k1_, A5_, k5_, A6_, k6_, A7_, k7_, rfl, ?_⟩
  show (All _).A w _
  exact cast (congrArg _ (by simp)) (show (All _).A w (H1 ++ (H5 ++ (H6 ++ (H7 ++ ([]))))) from ⟨_, _, rfl, h1, ⟨_, _, rfl, h5, ⟨_, _, rfl, h6, ⟨_, _, rfl, h7, rfl⟩⟩⟩⟩)
theorem ty39_ownI {w : World} {c : D.Channel} {A0 : Option Addr} {k0 : Nat} {A1 : Option Addr} {k1 : Nat} {A2 : Option Addr} {k2 : Nat} {A3 : Option Addr} {k3 : Nat} {G : List Nat} (h : (All [Own ty35 [.slice A0 c.Messages.length k0] c.Messages, Own ty37 [.slice A1 c.Early.length k1] c.Early, Own ty35 [.slice A2 c.Delivered.length k2] c.Delivered, Own ty37 [.slice A3 c.Flight.length k3] c.Flight]).A w G) : ty39.own w [.int .i64 c.Window, .slice A0 c.Messages.length k0, .int .i64 c.Base, .int .i64 c.Next, .int .i64 c.Expected, .slice A1 c.Early.length k1, .slice A2 c.Delivered.length k2, .slice A3 c.Flight.length k3] c G := by
  obtain ⟨G0, R0, rfl, h0, G1, R1, rfl, h1, G2, R2, rfl, h2, G3, R3, rfl, h3, hz⟩ := h
  have hz' : R3 = [] := hz
  subst hz'
  exact cast (congrArg _ (by simp)) (show ty39.own w [.int .i64 c.Window, .slice A0 c.Messages.length k0, .int .i64 c.Base, .int .i64 c.Next, .int .i64 c.Expected, .slice A1 c.Early.length k1, .slice A2 c.Delivered.length k2, .slice A3 c.Flight.length k3] c (_) from ⟨_, _, _, _, rfl, rfl, ⟨rfl, rfl⟩, ⟨_, _, _, _, rfl, rfl, h0, ⟨_, _, _, _, rfl, rfl, ⟨rfl, rfl⟩, ⟨_, _, _, _, rfl, rfl, ⟨rfl, rfl⟩, ⟨_, _, _, _, rfl, rfl, ⟨rfl, rfl⟩, ⟨_, _, _, _, rfl, rfl, h1, ⟨_, _, _, _, rfl, rfl, h2, ⟨_, _, _, _, rfl, rfl, h3, ⟨rfl, rfl⟩⟩⟩⟩⟩⟩⟩⟩⟩)
theorem ty39_openS {W w : World} {B : List Res} {cs : List Value} {c : D.Channel} (h : St W w (Own ty39 cs c :: B)) : ∃ A0 k0 A1 k1 A2 k2 A3 k3, cs = [.int .i64 c.Window, .slice A0 c.Messages.length k0, .int .i64 c.Base, .int .i64 c.Next, .int .i64 c.Expected, .slice A1 c.Early.length k1, .slice A2 c.Delivered.length k2, .slice A3 c.Flight.length k3] ∧ St W w ([Own ty35 [.slice A0 c.Messages.length k0] c.Messages, Own ty37 [.slice A1 c.Early.length k1] c.Early, Own ty35 [.slice A2 c.Delivered.length k2] c.Delivered, Own ty37 [.slice A3 c.Flight.length k3] c.Flight] ++ B) := by
  obtain ⟨G, hA, _⟩ := h.sep.head
  obtain ⟨A0, k0, A1, k1, A2, k2, A3, k3, rfl, _⟩ := ty39_own hA
  refine ⟨A0, k0, A1, k1, A2, k2, A3, k3, rfl, St.splitAll (h.conv fun G hG => ?_)⟩
  obtain ⟨X0, Y0, X1, Y1, X2, Y2, X3, Y3, he, hh⟩ := ty39_own hG
  simp only [List.cons.injEq, Value.slice.injEq, and_true, true_and] at he
  obtain ⟨⟨rfl, rfl⟩, ⟨rfl, rfl⟩, ⟨rfl, rfl⟩, ⟨rfl, rfl⟩⟩ := he
  exact hh
theorem ty39_shutS {W w : World} {B : List Res} {c : D.Channel} {A0 : Option Addr} {k0 : Nat} {A1 : Option Addr} {k1 : Nat} {A2 : Option Addr} {k2 : Nat} {A3 : Option Addr} {k3 : Nat} (h : St W w ([Own ty35 [.slice A0 c.Messages.length k0] c.Messages, Own ty37 [.slice A1 c.Early.length k1] c.Early, Own ty35 [.slice A2 c.Delivered.length k2] c.Delivered, Own ty37 [.slice A3 c.Flight.length k3] c.Flight] ++ B)) : St W w (Own ty39 [.int .i64 c.Window, .slice A0 c.Messages.length k0, .int .i64 c.Base, .int .i64 c.Next, .int .i64 c.Expected, .slice A1 c.Early.length k1, .slice A2 c.Delivered.length k2, .slice A3 c.Flight.length k3] c :: B) := (St.fuseAll h).conv fun _ hG => ty39_ownI hG

def ty187 : Ty D.Packet := tMap (fun c => (c.Ack, c.Number, c.Text, ())) (tPair tBool (tPair tInt (tPair tStr tUnit)))
theorem ty187_open {w : World} {cs : List Value} {c : D.Packet} (h : ty187.ro w cs c) : cs = [.bool c.Ack, .int .i64 c.Number, .string c.Text] := by
  obtain ⟨c0, d0, rfl, h0, c1, d1, rfl, h1, c2, d2, rfl, h2, hz⟩ := h
  subst hz
  subst h0
  subst h1
  subst h2
  rfl
theorem ty187_shut {w : World} (c : D.Packet)   : ty187.ro w [.bool c.Ack, .int .i64 c.Number, .string c.Text] c :=
  ⟨_, _, rfl, rfl, ⟨_, _, rfl, rfl, ⟨_, _, rfl, rfl, rfl⟩⟩⟩
theorem ty187_own {w : World} {cs : List Value} {c : D.Packet} {G : List Nat} (h : ty187.own w cs c G) : cs = [.bool c.Ack, .int .i64 c.Number, .string c.Text] ∧ (All []).A w G := by
  obtain ⟨c0, d0, H0, K0, rfl, rfl, h0, c1, d1, H1, K1, rfl, rfl, h1, c2, d2, H2, K2, rfl, rfl, h2, hz, hk⟩ := h
  subst hz; subst hk
  obtain ⟨e0, k0⟩ := h0; subst e0; subst k0
  obtain ⟨e1, k1⟩ := h1; subst e1; subst k1
  obtain ⟨e2, k2⟩ := h2; subst e2; subst k2
  refine ⟨rfl, ?_⟩
  show (All _).A w _
  exact cast (congrArg _ (by simp)) (show (All _).A w ([]) from rfl)
theorem ty187_ownI {w : World} {c : D.Packet}  {G : List Nat} (h : (All []).A w G) : ty187.own w [.bool c.Ack, .int .i64 c.Number, .string c.Text] c G := by
  have hz : G = [] := h
  subst hz
  exact cast (congrArg _ (by simp)) (show ty187.own w [.bool c.Ack, .int .i64 c.Number, .string c.Text] c (_) from ⟨_, _, _, _, rfl, rfl, ⟨rfl, rfl⟩, ⟨_, _, _, _, rfl, rfl, ⟨rfl, rfl⟩, ⟨_, _, _, _, rfl, rfl, ⟨rfl, rfl⟩, ⟨rfl, rfl⟩⟩⟩⟩)
theorem ty187_openS {W w : World} {B : List Res} {cs : List Value} {c : D.Packet} (h : St W w (Own ty187 cs c :: B)) : cs = [.bool c.Ack, .int .i64 c.Number, .string c.Text] ∧ St W w ([] ++ B) := by
  obtain ⟨G, hA, _⟩ := h.sep.head
  obtain ⟨rfl, _⟩ := ty187_own hA
  refine ⟨rfl, St.splitAll (h.conv fun G hG => ?_)⟩
  exact (ty187_own hG).2
theorem ty187_shutS {W w : World} {B : List Res} {c : D.Packet}  (h : St W w ([] ++ B)) : St W w (Own ty187 [.bool c.Ack, .int .i64 c.Number, .string c.Text] c :: B) := (St.fuseAll h).conv fun _ hG => ty187_ownI hG

def ty47 : Ty (List D.Packet) := tSl 187 ty187
theorem ty47_form {w : World} {cs : List Value} {xs : (List D.Packet)} (h : ty47.ro w cs xs) : ∃ A c, cs = [.slice A xs.length c] := slForm h

def ty49 : Ty D.Channel := tMap (fun c => (c.Window, c.Messages, c.Base, c.Next, c.Expected, c.Early, c.Delivered, c.Flight, ())) (tPair tInt (tPair ty35 (tPair tInt (tPair tInt (tPair tInt (tPair ty47 (tPair ty35 (tPair ty47 tUnit))))))))
theorem ty49_open {w : World} {cs : List Value} {c : D.Channel} (h : ty49.ro w cs c) : ∃ A0 k0 A1 k1 A2 k2 A3 k3, cs = [.int .i64 c.Window, .slice A0 c.Messages.length k0, .int .i64 c.Base, .int .i64 c.Next, .int .i64 c.Expected, .slice A1 c.Early.length k1, .slice A2 c.Delivered.length k2, .slice A3 c.Flight.length k3] ∧ ty35.ro w [.slice A0 c.Messages.length k0] c.Messages ∧ ty47.ro w [.slice A1 c.Early.length k1] c.Early ∧ ty35.ro w [.slice A2 c.Delivered.length k2] c.Delivered ∧ ty47.ro w [.slice A3 c.Flight.length k3] c.Flight := by
  obtain ⟨c0, d0, rfl, h0, c1, d1, rfl, h1, c2, d2, rfl, h2, c3, d3, rfl, h3, c4, d4, rfl, h4, c5, d5, rfl, h5, c6, d6, rfl, h6, c7, d7, rfl, h7, hz⟩ := h
  subst hz
  subst h0
  obtain ⟨A1_, k1_, e1⟩ := ty35_form h1
  subst e1
  subst h2
  subst h3
  subst h4
  obtain ⟨A5_, k5_, e5⟩ := ty47_form h5
  subst e5
  obtain ⟨A6_, k6_, e6⟩ := ty35_form h6
  subst e6
  obtain ⟨A7_, k7_, e7⟩ := ty47_form h7
  subst e7
  exact ⟨A1_, k1_, A5_, k5_, A6_, k6_, A7_, k7_, rfl, h1, h5, h6, h7⟩
theorem ty49_shut {w : World} (c : D.Channel) {A0 : Option Addr} {k0 : Nat} {A1 : Option Addr} {k1 : Nat} {A2 : Option Addr} {k2 : Nat} {A3 : Option Addr} {k3 : Nat} (h0 : ty35.ro w [.slice A0 c.Messages.length k0] c.Messages) (h1 : ty47.ro w [.slice A1 c.Early.length k1] c.Early) (h2 : ty35.ro w [.slice A2 c.Delivered.length k2] c.Delivered) (h3 : ty47.ro w [.slice A3 c.Flight.length k3] c.Flight) : ty49.ro w [.int .i64 c.Window, .slice A0 c.Messages.length k0, .int .i64 c.Base, .int .i64 c.Next, .int .i64 c.Expected, .slice A1 c.Early.length k1, .slice A2 c.Delivered.length k2, .slice A3 c.Flight.length k3] c :=
  ⟨_, _, rfl, rfl, ⟨_, _, rfl, h0, ⟨_, _, rfl, rfl, ⟨_, _, rfl, rfl, ⟨_, _, rfl, rfl, ⟨_, _, rfl, h1, ⟨_, _, rfl, h2, ⟨_, _, rfl, h3, rfl⟩⟩⟩⟩⟩⟩⟩⟩
theorem ty49_own {w : World} {cs : List Value} {c : D.Channel} {G : List Nat} (h : ty49.own w cs c G) : ∃ A0 k0 A1 k1 A2 k2 A3 k3, cs = [.int .i64 c.Window, .slice A0 c.Messages.length k0, .int .i64 c.Base, .int .i64 c.Next, .int .i64 c.Expected, .slice A1 c.Early.length k1, .slice A2 c.Delivered.length k2, .slice A3 c.Flight.length k3] ∧ (All [Own ty35 [.slice A0 c.Messages.length k0] c.Messages, Own ty47 [.slice A1 c.Early.length k1] c.Early, Own ty35 [.slice A2 c.Delivered.length k2] c.Delivered, Own ty47 [.slice A3 c.Flight.length k3] c.Flight]).A w G := by
  obtain ⟨c0, d0, H0, K0, rfl, rfl, h0, c1, d1, H1, K1, rfl, rfl, h1, c2, d2, H2, K2, rfl, rfl, h2, c3, d3, H3, K3, rfl, rfl, h3, c4, d4, H4, K4, rfl, rfl, h4, c5, d5, H5, K5, rfl, rfl, h5, c6, d6, H6, K6, rfl, rfl, h6, c7, d7, H7, K7, rfl, rfl, h7, hz, hk⟩ := h
  subst hz; subst hk
  obtain ⟨e0, k0⟩ := h0; subst e0; subst k0
  obtain ⟨A1_, k1_, e1⟩ := ty35_form (ty35.own_ro h1)
  subst e1
  obtain ⟨e2, k2⟩ := h2; subst e2; subst k2
  obtain ⟨e3, k3⟩ := h3; subst e3; subst k3
  obtain ⟨e4, k4⟩ := h4; subst e4; subst k4
  obtain ⟨A5_, k5_, e5⟩ := ty47_form (ty47.own_ro h5)
  subst e5
  obtain ⟨A6_, k6_, e6⟩ := ty35_form (ty35.own_ro h6)
  subst e6
  obtain ⟨A7_, k7_, e7⟩ := ty47_form (ty47.own_ro h7)
  subst e7
  refine ⟨A1_, k1_, A5_, k5_, A6_, k6_, A7_, k7_, rfl, ?_⟩
  show (All _).A w _
  exact cast (congrArg _ (by simp)) (show (All _).A w (H1 ++ (H5 ++ (H6 ++ (H7 ++ ([]))))) from ⟨_, _, rfl, h1, ⟨_, _, rfl, h5, ⟨_, _, rfl, h6, ⟨_, _, rfl, h7, rfl⟩⟩⟩⟩)
theorem ty49_ownI {w : World} {c : D.Channel} {A0 : Option Addr} {k0 : Nat} {A1 : Option Addr} {k1 : Nat} {A2 : Option Addr} {k2 : Nat} {A3 : Option Addr} {k3 : Nat} {G : List Nat} (h : (All [Own ty35 [.slice A0 c.Messages.length k0] c.Messages, Own ty47 [.slice A1 c.Early.length k1] c.Early, Own ty35 [.slice A2 c.Delivered.length k2] c.Delivered, Own ty47 [.slice A3 c.Flight.length k3] c.Flight]).A w G) : ty49.own w [.int .i64 c.Window, .slice A0 c.Messages.length k0, .int .i64 c.Base, .int .i64 c.Next, .int .i64 c.Expected, .slice A1 c.Early.length k1, .slice A2 c.Delivered.length k2, .slice A3 c.Flight.length k3] c G := by
  obtain ⟨G0, R0, rfl, h0, G1, R1, rfl, h1, G2, R2, rfl, h2, G3, R3, rfl, h3, hz⟩ := h
  have hz' : R3 = [] := hz
  subst hz'
  exact cast (congrArg _ (by simp)) (show ty49.own w [.int .i64 c.Window, .slice A0 c.Messages.length k0, .int .i64 c.Base, .int .i64 c.Next, .int .i64 c.Expected, .slice A1 c.Early.length k1, .slice A2 c.Delivered.length k2, .slice A3 c.Flight.length k3] c (_) from ⟨_, _, _, _, rfl, rfl, ⟨rfl, rfl⟩, ⟨_, _, _, _, rfl, rfl, h0, ⟨_, _, _, _, rfl, rfl, ⟨rfl, rfl⟩, ⟨_, _, _, _, rfl, rfl, ⟨rfl, rfl⟩, ⟨_, _, _, _, rfl, rfl, ⟨rfl, rfl⟩, ⟨_, _, _, _, rfl, rfl, h1, ⟨_, _, _, _, rfl, rfl, h2, ⟨_, _, _, _, rfl, rfl, h3, ⟨rfl, rfl⟩⟩⟩⟩⟩⟩⟩⟩⟩)
theorem ty49_openS {W w : World} {B : List Res} {cs : List Value} {c : D.Channel} (h : St W w (Own ty49 cs c :: B)) : ∃ A0 k0 A1 k1 A2 k2 A3 k3, cs = [.int .i64 c.Window, .slice A0 c.Messages.length k0, .int .i64 c.Base, .int .i64 c.Next, .int .i64 c.Expected, .slice A1 c.Early.length k1, .slice A2 c.Delivered.length k2, .slice A3 c.Flight.length k3] ∧ St W w ([Own ty35 [.slice A0 c.Messages.length k0] c.Messages, Own ty47 [.slice A1 c.Early.length k1] c.Early, Own ty35 [.slice A2 c.Delivered.length k2] c.Delivered, Own ty47 [.slice A3 c.Flight.length k3] c.Flight] ++ B) := by
  obtain ⟨G, hA, _⟩ := h.sep.head
  obtain ⟨A0, k0, A1, k1, A2, k2, A3, k3, rfl, _⟩ := ty49_own hA
  refine ⟨A0, k0, A1, k1, A2, k2, A3, k3, rfl, St.splitAll (h.conv fun G hG => ?_)⟩
  obtain ⟨X0, Y0, X1, Y1, X2, Y2, X3, Y3, he, hh⟩ := ty49_own hG
  simp only [List.cons.injEq, Value.slice.injEq, and_true, true_and] at he
  obtain ⟨⟨rfl, rfl⟩, ⟨rfl, rfl⟩, ⟨rfl, rfl⟩, ⟨rfl, rfl⟩⟩ := he
  exact hh
theorem ty49_shutS {W w : World} {B : List Res} {c : D.Channel} {A0 : Option Addr} {k0 : Nat} {A1 : Option Addr} {k1 : Nat} {A2 : Option Addr} {k2 : Nat} {A3 : Option Addr} {k3 : Nat} (h : St W w ([Own ty35 [.slice A0 c.Messages.length k0] c.Messages, Own ty47 [.slice A1 c.Early.length k1] c.Early, Own ty35 [.slice A2 c.Delivered.length k2] c.Delivered, Own ty47 [.slice A3 c.Flight.length k3] c.Flight] ++ B)) : St W w (Own ty49 [.int .i64 c.Window, .slice A0 c.Messages.length k0, .int .i64 c.Base, .int .i64 c.Next, .int .i64 c.Expected, .slice A1 c.Early.length k1, .slice A2 c.Delivered.length k2, .slice A3 c.Flight.length k3] c :: B) := (St.fuseAll h).conv fun _ hG => ty49_ownI hG

def ty66 : Ty D.ChannelEvent := tMap (fun c => (c.Kind, c.Index, ())) (tPair tInt (tPair tInt tUnit))
theorem ty66_open {w : World} {cs : List Value} {c : D.ChannelEvent} (h : ty66.ro w cs c) : cs = [.int .i64 c.Kind, .int .i64 c.Index] := by
  obtain ⟨c0, d0, rfl, h0, c1, d1, rfl, h1, hz⟩ := h
  subst hz
  subst h0
  subst h1
  rfl
theorem ty66_shut {w : World} (c : D.ChannelEvent)   : ty66.ro w [.int .i64 c.Kind, .int .i64 c.Index] c :=
  ⟨_, _, rfl, rfl, ⟨_, _, rfl, rfl, rfl⟩⟩
theorem ty66_own {w : World} {cs : List Value} {c : D.ChannelEvent} {G : List Nat} (h : ty66.own w cs c G) : cs = [.int .i64 c.Kind, .int .i64 c.Index] ∧ (All []).A w G := by
  obtain ⟨c0, d0, H0, K0, rfl, rfl, h0, c1, d1, H1, K1, rfl, rfl, h1, hz, hk⟩ := h
  subst hz; subst hk
  obtain ⟨e0, k0⟩ := h0; subst e0; subst k0
  obtain ⟨e1, k1⟩ := h1; subst e1; subst k1
  refine ⟨rfl, ?_⟩
  show (All _).A w _
  exact cast (congrArg _ (by simp)) (show (All _).A w ([]) from rfl)
theorem ty66_ownI {w : World} {c : D.ChannelEvent}  {G : List Nat} (h : (All []).A w G) : ty66.own w [.int .i64 c.Kind, .int .i64 c.Index] c G := by
  have hz : G = [] := h
  subst hz
  exact cast (congrArg _ (by simp)) (show ty66.own w [.int .i64 c.Kind, .int .i64 c.Index] c (_) from ⟨_, _, _, _, rfl, rfl, ⟨rfl, rfl⟩, ⟨_, _, _, _, rfl, rfl, ⟨rfl, rfl⟩, ⟨rfl, rfl⟩⟩⟩)
theorem ty66_openS {W w : World} {B : List Res} {cs : List Value} {c : D.ChannelEvent} (h : St W w (Own ty66 cs c :: B)) : cs = [.int .i64 c.Kind, .int .i64 c.Index] ∧ St W w ([] ++ B) := by
  obtain ⟨G, hA, _⟩ := h.sep.head
  obtain ⟨rfl, _⟩ := ty66_own hA
  refine ⟨rfl, St.splitAll (h.conv fun G hG => ?_)⟩
  exact (ty66_own hG).2
theorem ty66_shutS {W w : World} {B : List Res} {c : D.ChannelEvent}  (h : St W w ([] ++ B)) : St W w (Own ty66 [.int .i64 c.Kind, .int .i64 c.Index] c :: B) := (St.fuseAll h).conv fun _ hG => ty66_ownI hG

def ty55 : Ty (List D.ChannelEvent) := tSl 66 ty66
theorem ty55_form {w : World} {cs : List Value} {xs : (List D.ChannelEvent)} (h : ty55.ro w cs xs) : ∃ A c, cs = [.slice A xs.length c] := slForm h

def ty64 : Ty D.ChannelEvent := tMap (fun c => (c.Kind, c.Index, ())) (tPair tInt (tPair tInt tUnit))
theorem ty64_open {w : World} {cs : List Value} {c : D.ChannelEvent} (h : ty64.ro w cs c) : cs = [.int .i64 c.Kind, .int .i64 c.Index] := by
  obtain ⟨c0, d0, rfl, h0, c1, d1, rfl, h1, hz⟩ := h
  subst hz
  subst h0
  subst h1
  rfl
theorem ty64_shut {w : World} (c : D.ChannelEvent)   : ty64.ro w [.int .i64 c.Kind, .int .i64 c.Index] c :=
  ⟨_, _, rfl, rfl, ⟨_, _, rfl, rfl, rfl⟩⟩
theorem ty64_own {w : World} {cs : List Value} {c : D.ChannelEvent} {G : List Nat} (h : ty64.own w cs c G) : cs = [.int .i64 c.Kind, .int .i64 c.Index] ∧ (All []).A w G := by
  obtain ⟨c0, d0, H0, K0, rfl, rfl, h0, c1, d1, H1, K1, rfl, rfl, h1, hz, hk⟩ := h
  subst hz; subst hk
  obtain ⟨e0, k0⟩ := h0; subst e0; subst k0
  obtain ⟨e1, k1⟩ := h1; subst e1; subst k1
  refine ⟨rfl, ?_⟩
  show (All _).A w _
  exact cast (congrArg _ (by simp)) (show (All _).A w ([]) from rfl)
theorem ty64_ownI {w : World} {c : D.ChannelEvent}  {G : List Nat} (h : (All []).A w G) : ty64.own w [.int .i64 c.Kind, .int .i64 c.Index] c G := by
  have hz : G = [] := h
  subst hz
  exact cast (congrArg _ (by simp)) (show ty64.own w [.int .i64 c.Kind, .int .i64 c.Index] c (_) from ⟨_, _, _, _, rfl, rfl, ⟨rfl, rfl⟩, ⟨_, _, _, _, rfl, rfl, ⟨rfl, rfl⟩, ⟨rfl, rfl⟩⟩⟩)
theorem ty64_openS {W w : World} {B : List Res} {cs : List Value} {c : D.ChannelEvent} (h : St W w (Own ty64 cs c :: B)) : cs = [.int .i64 c.Kind, .int .i64 c.Index] ∧ St W w ([] ++ B) := by
  obtain ⟨G, hA, _⟩ := h.sep.head
  obtain ⟨rfl, _⟩ := ty64_own hA
  refine ⟨rfl, St.splitAll (h.conv fun G hG => ?_)⟩
  exact (ty64_own hG).2
theorem ty64_shutS {W w : World} {B : List Res} {c : D.ChannelEvent}  (h : St W w ([] ++ B)) : St W w (Own ty64 [.int .i64 c.Kind, .int .i64 c.Index] c :: B) := (St.fuseAll h).conv fun _ hG => ty64_ownI hG

def ty273 : Ty D.Port := tMap (fun c => (c.Agent, c.Slot, ())) (tPair tInt (tPair tInt tUnit))
theorem ty273_open {w : World} {cs : List Value} {c : D.Port} (h : ty273.ro w cs c) : cs = [.int .i64 c.Agent, .int .i64 c.Slot] := by
  obtain ⟨c0, d0, rfl, h0, c1, d1, rfl, h1, hz⟩ := h
  subst hz
  subst h0
  subst h1
  rfl
theorem ty273_shut {w : World} (c : D.Port)   : ty273.ro w [.int .i64 c.Agent, .int .i64 c.Slot] c :=
  ⟨_, _, rfl, rfl, ⟨_, _, rfl, rfl, rfl⟩⟩
theorem ty273_own {w : World} {cs : List Value} {c : D.Port} {G : List Nat} (h : ty273.own w cs c G) : cs = [.int .i64 c.Agent, .int .i64 c.Slot] ∧ (All []).A w G := by
  obtain ⟨c0, d0, H0, K0, rfl, rfl, h0, c1, d1, H1, K1, rfl, rfl, h1, hz, hk⟩ := h
  subst hz; subst hk
  obtain ⟨e0, k0⟩ := h0; subst e0; subst k0
  obtain ⟨e1, k1⟩ := h1; subst e1; subst k1
  refine ⟨rfl, ?_⟩
  show (All _).A w _
  exact cast (congrArg _ (by simp)) (show (All _).A w ([]) from rfl)
theorem ty273_ownI {w : World} {c : D.Port}  {G : List Nat} (h : (All []).A w G) : ty273.own w [.int .i64 c.Agent, .int .i64 c.Slot] c G := by
  have hz : G = [] := h
  subst hz
  exact cast (congrArg _ (by simp)) (show ty273.own w [.int .i64 c.Agent, .int .i64 c.Slot] c (_) from ⟨_, _, _, _, rfl, rfl, ⟨rfl, rfl⟩, ⟨_, _, _, _, rfl, rfl, ⟨rfl, rfl⟩, ⟨rfl, rfl⟩⟩⟩)
theorem ty273_openS {W w : World} {B : List Res} {cs : List Value} {c : D.Port} (h : St W w (Own ty273 cs c :: B)) : cs = [.int .i64 c.Agent, .int .i64 c.Slot] ∧ St W w ([] ++ B) := by
  obtain ⟨G, hA, _⟩ := h.sep.head
  obtain ⟨rfl, _⟩ := ty273_own hA
  refine ⟨rfl, St.splitAll (h.conv fun G hG => ?_)⟩
  exact (ty273_own hG).2
theorem ty273_shutS {W w : World} {B : List Res} {c : D.Port}  (h : St W w ([] ++ B)) : St W w (Own ty273 [.int .i64 c.Agent, .int .i64 c.Slot] c :: B) := (St.fuseAll h).conv fun _ hG => ty273_ownI hG

def ty199 : Ty (List D.Port) := tSl 273 ty273
theorem ty199_form {w : World} {cs : List Value} {xs : (List D.Port)} (h : ty199.ro w cs xs) : ∃ A c, cs = [.slice A xs.length c] := slForm h

def ty201 : Ty D.Agent := tMap (fun c => (c.Kind, c.Level, c.Value, c.Data, c.Ports, ())) (tPair tInt (tPair tInt (tPair tInt (tPair ty22 (tPair ty199 tUnit)))))
theorem ty201_open {w : World} {cs : List Value} {c : D.Agent} (h : ty201.ro w cs c) : ∃ A0 k0 A1 k1, cs = [.int .i64 c.Kind, .int .i64 c.Level, .int .i64 c.Value, .slice A0 c.Data.length k0, .slice A1 c.Ports.length k1] ∧ ty22.ro w [.slice A0 c.Data.length k0] c.Data ∧ ty199.ro w [.slice A1 c.Ports.length k1] c.Ports := by
  obtain ⟨c0, d0, rfl, h0, c1, d1, rfl, h1, c2, d2, rfl, h2, c3, d3, rfl, h3, c4, d4, rfl, h4, hz⟩ := h
  subst hz
  subst h0
  subst h1
  subst h2
  obtain ⟨A3_, k3_, e3⟩ := ty22_form h3
  subst e3
  obtain ⟨A4_, k4_, e4⟩ := ty199_form h4
  subst e4
  exact ⟨A3_, k3_, A4_, k4_, rfl, h3, h4⟩
theorem ty201_shut {w : World} (c : D.Agent) {A0 : Option Addr} {k0 : Nat} {A1 : Option Addr} {k1 : Nat} (h0 : ty22.ro w [.slice A0 c.Data.length k0] c.Data) (h1 : ty199.ro w [.slice A1 c.Ports.length k1] c.Ports) : ty201.ro w [.int .i64 c.Kind, .int .i64 c.Level, .int .i64 c.Value, .slice A0 c.Data.length k0, .slice A1 c.Ports.length k1] c :=
  ⟨_, _, rfl, rfl, ⟨_, _, rfl, rfl, ⟨_, _, rfl, rfl, ⟨_, _, rfl, h0, ⟨_, _, rfl, h1, rfl⟩⟩⟩⟩⟩
theorem ty201_own {w : World} {cs : List Value} {c : D.Agent} {G : List Nat} (h : ty201.own w cs c G) : ∃ A0 k0 A1 k1, cs = [.int .i64 c.Kind, .int .i64 c.Level, .int .i64 c.Value, .slice A0 c.Data.length k0, .slice A1 c.Ports.length k1] ∧ (All [Own ty22 [.slice A0 c.Data.length k0] c.Data, Own ty199 [.slice A1 c.Ports.length k1] c.Ports]).A w G := by
  obtain ⟨c0, d0, H0, K0, rfl, rfl, h0, c1, d1, H1, K1, rfl, rfl, h1, c2, d2, H2, K2, rfl, rfl, h2, c3, d3, H3, K3, rfl, rfl, h3, c4, d4, H4, K4, rfl, rfl, h4, hz, hk⟩ := h
  subst hz; subst hk
  obtain ⟨e0, k0⟩ := h0; subst e0; subst k0
  obtain ⟨e1, k1⟩ := h1; subst e1; subst k1
  obtain ⟨e2, k2⟩ := h2; subst e2; subst k2
  obtain ⟨A3_, k3_, e3⟩ := ty22_form (ty22.own_ro h3)
  subst e3
  obtain ⟨A4_, k4_, e4⟩ := ty199_form (ty199.own_ro h4)
  subst e4
  refine ⟨A3_, k3_, A4_, k4_, rfl, ?_⟩
  show (All _).A w _
  exact cast (congrArg _ (by simp)) (show (All _).A w (H3 ++ (H4 ++ ([]))) from ⟨_, _, rfl, h3, ⟨_, _, rfl, h4, rfl⟩⟩)
theorem ty201_ownI {w : World} {c : D.Agent} {A0 : Option Addr} {k0 : Nat} {A1 : Option Addr} {k1 : Nat} {G : List Nat} (h : (All [Own ty22 [.slice A0 c.Data.length k0] c.Data, Own ty199 [.slice A1 c.Ports.length k1] c.Ports]).A w G) : ty201.own w [.int .i64 c.Kind, .int .i64 c.Level, .int .i64 c.Value, .slice A0 c.Data.length k0, .slice A1 c.Ports.length k1] c G := by
  obtain ⟨G0, R0, rfl, h0, G1, R1, rfl, h1, hz⟩ := h
  have hz' : R1 = [] := hz
  subst hz'
  exact cast (congrArg _ (by simp)) (show ty201.own w [.int .i64 c.Kind, .int .i64 c.Level, .int .i64 c.Value, .slice A0 c.Data.length k0, .slice A1 c.Ports.length k1] c (_) from ⟨_, _, _, _, rfl, rfl, ⟨rfl, rfl⟩, ⟨_, _, _, _, rfl, rfl, ⟨rfl, rfl⟩, ⟨_, _, _, _, rfl, rfl, ⟨rfl, rfl⟩, ⟨_, _, _, _, rfl, rfl, h0, ⟨_, _, _, _, rfl, rfl, h1, ⟨rfl, rfl⟩⟩⟩⟩⟩⟩)
theorem ty201_openS {W w : World} {B : List Res} {cs : List Value} {c : D.Agent} (h : St W w (Own ty201 cs c :: B)) : ∃ A0 k0 A1 k1, cs = [.int .i64 c.Kind, .int .i64 c.Level, .int .i64 c.Value, .slice A0 c.Data.length k0, .slice A1 c.Ports.length k1] ∧ St W w ([Own ty22 [.slice A0 c.Data.length k0] c.Data, Own ty199 [.slice A1 c.Ports.length k1] c.Ports] ++ B) := by
  obtain ⟨G, hA, _⟩ := h.sep.head
  obtain ⟨A0, k0, A1, k1, rfl, _⟩ := ty201_own hA
  refine ⟨A0, k0, A1, k1, rfl, St.splitAll (h.conv fun G hG => ?_)⟩
  obtain ⟨X0, Y0, X1, Y1, he, hh⟩ := ty201_own hG
  simp only [List.cons.injEq, Value.slice.injEq, and_true, true_and] at he
  obtain ⟨⟨rfl, rfl⟩, ⟨rfl, rfl⟩⟩ := he
  exact hh
theorem ty201_shutS {W w : World} {B : List Res} {c : D.Agent} {A0 : Option Addr} {k0 : Nat} {A1 : Option Addr} {k1 : Nat} (h : St W w ([Own ty22 [.slice A0 c.Data.length k0] c.Data, Own ty199 [.slice A1 c.Ports.length k1] c.Ports] ++ B)) : St W w (Own ty201 [.int .i64 c.Kind, .int .i64 c.Level, .int .i64 c.Value, .slice A0 c.Data.length k0, .slice A1 c.Ports.length k1] c :: B) := (St.fuseAll h).conv fun _ hG => ty201_ownI hG

def ty71 : Ty (List D.Agent) := tSl 201 ty201
theorem ty71_form {w : World} {cs : List Value} {xs : (List D.Agent)} (h : ty71.ro w cs xs) : ∃ A c, cs = [.slice A xs.length c] := slForm h

def ty73 : Ty D.Net := tMap (fun c => (c.Agents, ())) (tPair ty71 tUnit)
theorem ty73_open {w : World} {cs : List Value} {c : D.Net} (h : ty73.ro w cs c) : ∃ A0 k0, cs = [.slice A0 c.Agents.length k0] ∧ ty71.ro w [.slice A0 c.Agents.length k0] c.Agents := by
  obtain ⟨c0, d0, rfl, h0, hz⟩ := h
  subst hz
  obtain ⟨A0_, k0_, e0⟩ := ty71_form h0
  subst e0
  exact ⟨A0_, k0_, rfl, h0⟩
theorem ty73_shut {w : World} (c : D.Net) {A0 : Option Addr} {k0 : Nat} (h0 : ty71.ro w [.slice A0 c.Agents.length k0] c.Agents) : ty73.ro w [.slice A0 c.Agents.length k0] c :=
  ⟨_, _, rfl, h0, rfl⟩
theorem ty73_own {w : World} {cs : List Value} {c : D.Net} {G : List Nat} (h : ty73.own w cs c G) : ∃ A0 k0, cs = [.slice A0 c.Agents.length k0] ∧ (All [Own ty71 [.slice A0 c.Agents.length k0] c.Agents]).A w G := by
  obtain ⟨c0, d0, H0, K0, rfl, rfl, h0, hz, hk⟩ := h
  subst hz; subst hk
  obtain ⟨A0_, k0_, e0⟩ := ty71_form (ty71.own_ro h0)
  subst e0
  refine ⟨A0_, k0_, rfl, ?_⟩
  show (All _).A w _
  exact cast (congrArg _ (by simp)) (show (All _).A w (H0 ++ ([])) from ⟨_, _, rfl, h0, rfl⟩)
theorem ty73_ownI {w : World} {c : D.Net} {A0 : Option Addr} {k0 : Nat} {G : List Nat} (h : (All [Own ty71 [.slice A0 c.Agents.length k0] c.Agents]).A w G) : ty73.own w [.slice A0 c.Agents.length k0] c G := by
  obtain ⟨G0, R0, rfl, h0, hz⟩ := h
  have hz' : R0 = [] := hz
  subst hz'
  exact cast (congrArg _ (by simp)) (show ty73.own w [.slice A0 c.Agents.length k0] c (_) from ⟨_, _, _, _, rfl, rfl, h0, ⟨rfl, rfl⟩⟩)
theorem ty73_openS {W w : World} {B : List Res} {cs : List Value} {c : D.Net} (h : St W w (Own ty73 cs c :: B)) : ∃ A0 k0, cs = [.slice A0 c.Agents.length k0] ∧ St W w ([Own ty71 [.slice A0 c.Agents.length k0] c.Agents] ++ B) := by
  obtain ⟨G, hA, _⟩ := h.sep.head
  obtain ⟨A0, k0, rfl, _⟩ := ty73_own hA
  refine ⟨A0, k0, rfl, St.splitAll (h.conv fun G hG => ?_)⟩
  obtain ⟨X0, Y0, he, hh⟩ := ty73_own hG
  simp only [List.cons.injEq, Value.slice.injEq, and_true, true_and] at he
  obtain ⟨rfl, rfl⟩ := he
  exact hh
theorem ty73_shutS {W w : World} {B : List Res} {c : D.Net} {A0 : Option Addr} {k0 : Nat} (h : St W w ([Own ty71 [.slice A0 c.Agents.length k0] c.Agents] ++ B)) : St W w (Own ty73 [.slice A0 c.Agents.length k0] c :: B) := (St.fuseAll h).conv fun _ hG => ty73_ownI hG

def ty208 : Ty D.Port := tMap (fun c => (c.Agent, c.Slot, ())) (tPair tInt (tPair tInt tUnit))
theorem ty208_open {w : World} {cs : List Value} {c : D.Port} (h : ty208.ro w cs c) : cs = [.int .i64 c.Agent, .int .i64 c.Slot] := by
  obtain ⟨c0, d0, rfl, h0, c1, d1, rfl, h1, hz⟩ := h
  subst hz
  subst h0
  subst h1
  rfl
theorem ty208_shut {w : World} (c : D.Port)   : ty208.ro w [.int .i64 c.Agent, .int .i64 c.Slot] c :=
  ⟨_, _, rfl, rfl, ⟨_, _, rfl, rfl, rfl⟩⟩
theorem ty208_own {w : World} {cs : List Value} {c : D.Port} {G : List Nat} (h : ty208.own w cs c G) : cs = [.int .i64 c.Agent, .int .i64 c.Slot] ∧ (All []).A w G := by
  obtain ⟨c0, d0, H0, K0, rfl, rfl, h0, c1, d1, H1, K1, rfl, rfl, h1, hz, hk⟩ := h
  subst hz; subst hk
  obtain ⟨e0, k0⟩ := h0; subst e0; subst k0
  obtain ⟨e1, k1⟩ := h1; subst e1; subst k1
  refine ⟨rfl, ?_⟩
  show (All _).A w _
  exact cast (congrArg _ (by simp)) (show (All _).A w ([]) from rfl)
theorem ty208_ownI {w : World} {c : D.Port}  {G : List Nat} (h : (All []).A w G) : ty208.own w [.int .i64 c.Agent, .int .i64 c.Slot] c G := by
  have hz : G = [] := h
  subst hz
  exact cast (congrArg _ (by simp)) (show ty208.own w [.int .i64 c.Agent, .int .i64 c.Slot] c (_) from ⟨_, _, _, _, rfl, rfl, ⟨rfl, rfl⟩, ⟨_, _, _, _, rfl, rfl, ⟨rfl, rfl⟩, ⟨rfl, rfl⟩⟩⟩)
theorem ty208_openS {W w : World} {B : List Res} {cs : List Value} {c : D.Port} (h : St W w (Own ty208 cs c :: B)) : cs = [.int .i64 c.Agent, .int .i64 c.Slot] ∧ St W w ([] ++ B) := by
  obtain ⟨G, hA, _⟩ := h.sep.head
  obtain ⟨rfl, _⟩ := ty208_own hA
  refine ⟨rfl, St.splitAll (h.conv fun G hG => ?_)⟩
  exact (ty208_own hG).2
theorem ty208_shutS {W w : World} {B : List Res} {c : D.Port}  (h : St W w ([] ++ B)) : St W w (Own ty208 [.int .i64 c.Agent, .int .i64 c.Slot] c :: B) := (St.fuseAll h).conv fun _ hG => ty208_ownI hG

def ty204 : Ty (List D.Port) := tSl 208 ty208
theorem ty204_form {w : World} {cs : List Value} {xs : (List D.Port)} (h : ty204.ro w cs xs) : ∃ A c, cs = [.slice A xs.length c] := slForm h

def ty206 : Ty D.Agent := tMap (fun c => (c.Kind, c.Level, c.Value, c.Data, c.Ports, ())) (tPair tInt (tPair tInt (tPair tInt (tPair ty22 (tPair ty204 tUnit)))))
theorem ty206_open {w : World} {cs : List Value} {c : D.Agent} (h : ty206.ro w cs c) : ∃ A0 k0 A1 k1, cs = [.int .i64 c.Kind, .int .i64 c.Level, .int .i64 c.Value, .slice A0 c.Data.length k0, .slice A1 c.Ports.length k1] ∧ ty22.ro w [.slice A0 c.Data.length k0] c.Data ∧ ty204.ro w [.slice A1 c.Ports.length k1] c.Ports := by
  obtain ⟨c0, d0, rfl, h0, c1, d1, rfl, h1, c2, d2, rfl, h2, c3, d3, rfl, h3, c4, d4, rfl, h4, hz⟩ := h
  subst hz
  subst h0
  subst h1
  subst h2
  obtain ⟨A3_, k3_, e3⟩ := ty22_form h3
  subst e3
  obtain ⟨A4_, k4_, e4⟩ := ty204_form h4
  subst e4
  exact ⟨A3_, k3_, A4_, k4_, rfl, h3, h4⟩
theorem ty206_shut {w : World} (c : D.Agent) {A0 : Option Addr} {k0 : Nat} {A1 : Option Addr} {k1 : Nat} (h0 : ty22.ro w [.slice A0 c.Data.length k0] c.Data) (h1 : ty204.ro w [.slice A1 c.Ports.length k1] c.Ports) : ty206.ro w [.int .i64 c.Kind, .int .i64 c.Level, .int .i64 c.Value, .slice A0 c.Data.length k0, .slice A1 c.Ports.length k1] c :=
  ⟨_, _, rfl, rfl, ⟨_, _, rfl, rfl, ⟨_, _, rfl, rfl, ⟨_, _, rfl, h0, ⟨_, _, rfl, h1, rfl⟩⟩⟩⟩⟩
theorem ty206_own {w : World} {cs : List Value} {c : D.Agent} {G : List Nat} (h : ty206.own w cs c G) : ∃ A0 k0 A1 k1, cs = [.int .i64 c.Kind, .int .i64 c.Level, .int .i64 c.Value, .slice A0 c.Data.length k0, .slice A1 c.Ports.length k1] ∧ (All [Own ty22 [.slice A0 c.Data.length k0] c.Data, Own ty204 [.slice A1 c.Ports.length k1] c.Ports]).A w G := by
  obtain ⟨c0, d0, H0, K0, rfl, rfl, h0, c1, d1, H1, K1, rfl, rfl, h1, c2, d2, H2, K2, rfl, rfl, h2, c3, d3, H3, K3, rfl, rfl, h3, c4, d4, H4, K4, rfl, rfl, h4, hz, hk⟩ := h
  subst hz; subst hk
  obtain ⟨e0, k0⟩ := h0; subst e0; subst k0
  obtain ⟨e1, k1⟩ := h1; subst e1; subst k1
  obtain ⟨e2, k2⟩ := h2; subst e2; subst k2
  obtain ⟨A3_, k3_, e3⟩ := ty22_form (ty22.own_ro h3)
  subst e3
  obtain ⟨A4_, k4_, e4⟩ := ty204_form (ty204.own_ro h4)
  subst e4
  refine ⟨A3_, k3_, A4_, k4_, rfl, ?_⟩
  show (All _).A w _
  exact cast (congrArg _ (by simp)) (show (All _).A w (H3 ++ (H4 ++ ([]))) from ⟨_, _, rfl, h3, ⟨_, _, rfl, h4, rfl⟩⟩)
theorem ty206_ownI {w : World} {c : D.Agent} {A0 : Option Addr} {k0 : Nat} {A1 : Option Addr} {k1 : Nat} {G : List Nat} (h : (All [Own ty22 [.slice A0 c.Data.length k0] c.Data, Own ty204 [.slice A1 c.Ports.length k1] c.Ports]).A w G) : ty206.own w [.int .i64 c.Kind, .int .i64 c.Level, .int .i64 c.Value, .slice A0 c.Data.length k0, .slice A1 c.Ports.length k1] c G := by
  obtain ⟨G0, R0, rfl, h0, G1, R1, rfl, h1, hz⟩ := h
  have hz' : R1 = [] := hz
  subst hz'
  exact cast (congrArg _ (by simp)) (show ty206.own w [.int .i64 c.Kind, .int .i64 c.Level, .int .i64 c.Value, .slice A0 c.Data.length k0, .slice A1 c.Ports.length k1] c (_) from ⟨_, _, _, _, rfl, rfl, ⟨rfl, rfl⟩, ⟨_, _, _, _, rfl, rfl, ⟨rfl, rfl⟩, ⟨_, _, _, _, rfl, rfl, ⟨rfl, rfl⟩, ⟨_, _, _, _, rfl, rfl, h0, ⟨_, _, _, _, rfl, rfl, h1, ⟨rfl, rfl⟩⟩⟩⟩⟩⟩)
theorem ty206_openS {W w : World} {B : List Res} {cs : List Value} {c : D.Agent} (h : St W w (Own ty206 cs c :: B)) : ∃ A0 k0 A1 k1, cs = [.int .i64 c.Kind, .int .i64 c.Level, .int .i64 c.Value, .slice A0 c.Data.length k0, .slice A1 c.Ports.length k1] ∧ St W w ([Own ty22 [.slice A0 c.Data.length k0] c.Data, Own ty204 [.slice A1 c.Ports.length k1] c.Ports] ++ B) := by
  obtain ⟨G, hA, _⟩ := h.sep.head
  obtain ⟨A0, k0, A1, k1, rfl, _⟩ := ty206_own hA
  refine ⟨A0, k0, A1, k1, rfl, St.splitAll (h.conv fun G hG => ?_)⟩
  obtain ⟨X0, Y0, X1, Y1, he, hh⟩ := ty206_own hG
  simp only [List.cons.injEq, Value.slice.injEq, and_true, true_and] at he
  obtain ⟨⟨rfl, rfl⟩, ⟨rfl, rfl⟩⟩ := he
  exact hh
theorem ty206_shutS {W w : World} {B : List Res} {c : D.Agent} {A0 : Option Addr} {k0 : Nat} {A1 : Option Addr} {k1 : Nat} (h : St W w ([Own ty22 [.slice A0 c.Data.length k0] c.Data, Own ty204 [.slice A1 c.Ports.length k1] c.Ports] ++ B)) : St W w (Own ty206 [.int .i64 c.Kind, .int .i64 c.Level, .int .i64 c.Value, .slice A0 c.Data.length k0, .slice A1 c.Ports.length k1] c :: B) := (St.fuseAll h).conv fun _ hG => ty206_ownI hG

def ty77 : Ty (List D.Agent) := tSl 206 ty206
theorem ty77_form {w : World} {cs : List Value} {xs : (List D.Agent)} (h : ty77.ro w cs xs) : ∃ A c, cs = [.slice A xs.length c] := slForm h

def ty79 : Ty D.Net := tMap (fun c => (c.Agents, ())) (tPair ty77 tUnit)
theorem ty79_open {w : World} {cs : List Value} {c : D.Net} (h : ty79.ro w cs c) : ∃ A0 k0, cs = [.slice A0 c.Agents.length k0] ∧ ty77.ro w [.slice A0 c.Agents.length k0] c.Agents := by
  obtain ⟨c0, d0, rfl, h0, hz⟩ := h
  subst hz
  obtain ⟨A0_, k0_, e0⟩ := ty77_form h0
  subst e0
  exact ⟨A0_, k0_, rfl, h0⟩
theorem ty79_shut {w : World} (c : D.Net) {A0 : Option Addr} {k0 : Nat} (h0 : ty77.ro w [.slice A0 c.Agents.length k0] c.Agents) : ty79.ro w [.slice A0 c.Agents.length k0] c :=
  ⟨_, _, rfl, h0, rfl⟩
theorem ty79_own {w : World} {cs : List Value} {c : D.Net} {G : List Nat} (h : ty79.own w cs c G) : ∃ A0 k0, cs = [.slice A0 c.Agents.length k0] ∧ (All [Own ty77 [.slice A0 c.Agents.length k0] c.Agents]).A w G := by
  obtain ⟨c0, d0, H0, K0, rfl, rfl, h0, hz, hk⟩ := h
  subst hz; subst hk
  obtain ⟨A0_, k0_, e0⟩ := ty77_form (ty77.own_ro h0)
  subst e0
  refine ⟨A0_, k0_, rfl, ?_⟩
  show (All _).A w _
  exact cast (congrArg _ (by simp)) (show (All _).A w (H0 ++ ([])) from ⟨_, _, rfl, h0, rfl⟩)
theorem ty79_ownI {w : World} {c : D.Net} {A0 : Option Addr} {k0 : Nat} {G : List Nat} (h : (All [Own ty77 [.slice A0 c.Agents.length k0] c.Agents]).A w G) : ty79.own w [.slice A0 c.Agents.length k0] c G := by
  obtain ⟨G0, R0, rfl, h0, hz⟩ := h
  have hz' : R0 = [] := hz
  subst hz'
  exact cast (congrArg _ (by simp)) (show ty79.own w [.slice A0 c.Agents.length k0] c (_) from ⟨_, _, _, _, rfl, rfl, h0, ⟨rfl, rfl⟩⟩)
theorem ty79_openS {W w : World} {B : List Res} {cs : List Value} {c : D.Net} (h : St W w (Own ty79 cs c :: B)) : ∃ A0 k0, cs = [.slice A0 c.Agents.length k0] ∧ St W w ([Own ty77 [.slice A0 c.Agents.length k0] c.Agents] ++ B) := by
  obtain ⟨G, hA, _⟩ := h.sep.head
  obtain ⟨A0, k0, rfl, _⟩ := ty79_own hA
  refine ⟨A0, k0, rfl, St.splitAll (h.conv fun G hG => ?_)⟩
  obtain ⟨X0, Y0, he, hh⟩ := ty79_own hG
  simp only [List.cons.injEq, Value.slice.injEq, and_true, true_and] at he
  obtain ⟨rfl, rfl⟩ := he
  exact hh
theorem ty79_shutS {W w : World} {B : List Res} {c : D.Net} {A0 : Option Addr} {k0 : Nat} (h : St W w ([Own ty77 [.slice A0 c.Agents.length k0] c.Agents] ++ B)) : St W w (Own ty79 [.slice A0 c.Agents.length k0] c :: B) := (St.fuseAll h).conv fun _ hG => ty79_ownI hG

def ty85 : Ty D.Word := tMap (fun c => (c.Tag, c.At, ())) (tPair tInt (tPair tInt tUnit))
theorem ty85_open {w : World} {cs : List Value} {c : D.Word} (h : ty85.ro w cs c) : cs = [.int .i64 c.Tag, .int .i64 c.At] := by
  obtain ⟨c0, d0, rfl, h0, c1, d1, rfl, h1, hz⟩ := h
  subst hz
  subst h0
  subst h1
  rfl
theorem ty85_shut {w : World} (c : D.Word)   : ty85.ro w [.int .i64 c.Tag, .int .i64 c.At] c :=
  ⟨_, _, rfl, rfl, ⟨_, _, rfl, rfl, rfl⟩⟩
theorem ty85_own {w : World} {cs : List Value} {c : D.Word} {G : List Nat} (h : ty85.own w cs c G) : cs = [.int .i64 c.Tag, .int .i64 c.At] ∧ (All []).A w G := by
  obtain ⟨c0, d0, H0, K0, rfl, rfl, h0, c1, d1, H1, K1, rfl, rfl, h1, hz, hk⟩ := h
  subst hz; subst hk
  obtain ⟨e0, k0⟩ := h0; subst e0; subst k0
  obtain ⟨e1, k1⟩ := h1; subst e1; subst k1
  refine ⟨rfl, ?_⟩
  show (All _).A w _
  exact cast (congrArg _ (by simp)) (show (All _).A w ([]) from rfl)
theorem ty85_ownI {w : World} {c : D.Word}  {G : List Nat} (h : (All []).A w G) : ty85.own w [.int .i64 c.Tag, .int .i64 c.At] c G := by
  have hz : G = [] := h
  subst hz
  exact cast (congrArg _ (by simp)) (show ty85.own w [.int .i64 c.Tag, .int .i64 c.At] c (_) from ⟨_, _, _, _, rfl, rfl, ⟨rfl, rfl⟩, ⟨_, _, _, _, rfl, rfl, ⟨rfl, rfl⟩, ⟨rfl, rfl⟩⟩⟩)
theorem ty85_openS {W w : World} {B : List Res} {cs : List Value} {c : D.Word} (h : St W w (Own ty85 cs c :: B)) : cs = [.int .i64 c.Tag, .int .i64 c.At] ∧ St W w ([] ++ B) := by
  obtain ⟨G, hA, _⟩ := h.sep.head
  obtain ⟨rfl, _⟩ := ty85_own hA
  refine ⟨rfl, St.splitAll (h.conv fun G hG => ?_)⟩
  exact (ty85_own hG).2
theorem ty85_shutS {W w : World} {B : List Res} {c : D.Word}  (h : St W w ([] ++ B)) : St W w (Own ty85 [.int .i64 c.Tag, .int .i64 c.At] c :: B) := (St.fuseAll h).conv fun _ hG => ty85_ownI hG

def ty223 : Ty (List D.Word) := tSl 85 ty85
theorem ty223_form {w : World} {cs : List Value} {xs : (List D.Word)} (h : ty223.ro w cs xs) : ∃ A c, cs = [.slice A xs.length c] := slForm h

def ty225 : Ty D.Cell := tMap (fun c => (c.Kind, c.Level, c.Value, c.Data, c.Words, ())) (tPair tInt (tPair tInt (tPair tInt (tPair ty22 (tPair ty223 tUnit)))))
theorem ty225_open {w : World} {cs : List Value} {c : D.Cell} (h : ty225.ro w cs c) : ∃ A0 k0 A1 k1, cs = [.int .i64 c.Kind, .int .i64 c.Level, .int .i64 c.Value, .slice A0 c.Data.length k0, .slice A1 c.Words.length k1] ∧ ty22.ro w [.slice A0 c.Data.length k0] c.Data ∧ ty223.ro w [.slice A1 c.Words.length k1] c.Words := by
  obtain ⟨c0, d0, rfl, h0, c1, d1, rfl, h1, c2, d2, rfl, h2, c3, d3, rfl, h3, c4, d4, rfl, h4, hz⟩ := h
  subst hz
  subst h0
  subst h1
  subst h2
  obtain ⟨A3_, k3_, e3⟩ := ty22_form h3
  subst e3
  obtain ⟨A4_, k4_, e4⟩ := ty223_form h4
  subst e4
  exact ⟨A3_, k3_, A4_, k4_, rfl, h3, h4⟩
theorem ty225_shut {w : World} (c : D.Cell) {A0 : Option Addr} {k0 : Nat} {A1 : Option Addr} {k1 : Nat} (h0 : ty22.ro w [.slice A0 c.Data.length k0] c.Data) (h1 : ty223.ro w [.slice A1 c.Words.length k1] c.Words) : ty225.ro w [.int .i64 c.Kind, .int .i64 c.Level, .int .i64 c.Value, .slice A0 c.Data.length k0, .slice A1 c.Words.length k1] c :=
  ⟨_, _, rfl, rfl, ⟨_, _, rfl, rfl, ⟨_, _, rfl, rfl, ⟨_, _, rfl, h0, ⟨_, _, rfl, h1, rfl⟩⟩⟩⟩⟩
theorem ty225_own {w : World} {cs : List Value} {c : D.Cell} {G : List Nat} (h : ty225.own w cs c G) : ∃ A0 k0 A1 k1, cs = [.int .i64 c.Kind, .int .i64 c.Level, .int .i64 c.Value, .slice A0 c.Data.length k0, .slice A1 c.Words.length k1] ∧ (All [Own ty22 [.slice A0 c.Data.length k0] c.Data, Own ty223 [.slice A1 c.Words.length k1] c.Words]).A w G := by
  obtain ⟨c0, d0, H0, K0, rfl, rfl, h0, c1, d1, H1, K1, rfl, rfl, h1, c2, d2, H2, K2, rfl, rfl, h2, c3, d3, H3, K3, rfl, rfl, h3, c4, d4, H4, K4, rfl, rfl, h4, hz, hk⟩ := h
  subst hz; subst hk
  obtain ⟨e0, k0⟩ := h0; subst e0; subst k0
  obtain ⟨e1, k1⟩ := h1; subst e1; subst k1
  obtain ⟨e2, k2⟩ := h2; subst e2; subst k2
  obtain ⟨A3_, k3_, e3⟩ := ty22_form (ty22.own_ro h3)
  subst e3
  obtain ⟨A4_, k4_, e4⟩ := ty223_form (ty223.own_ro h4)
  subst e4
  refine ⟨A3_, k3_, A4_, k4_, rfl, ?_⟩
  show (All _).A w _
  exact cast (congrArg _ (by simp)) (show (All _).A w (H3 ++ (H4 ++ ([]))) from ⟨_, _, rfl, h3, ⟨_, _, rfl, h4, rfl⟩⟩)
theorem ty225_ownI {w : World} {c : D.Cell} {A0 : Option Addr} {k0 : Nat} {A1 : Option Addr} {k1 : Nat} {G : List Nat} (h : (All [Own ty22 [.slice A0 c.Data.length k0] c.Data, Own ty223 [.slice A1 c.Words.length k1] c.Words]).A w G) : ty225.own w [.int .i64 c.Kind, .int .i64 c.Level, .int .i64 c.Value, .slice A0 c.Data.length k0, .slice A1 c.Words.length k1] c G := by
  obtain ⟨G0, R0, rfl, h0, G1, R1, rfl, h1, hz⟩ := h
  have hz' : R1 = [] := hz
  subst hz'
  exact cast (congrArg _ (by simp)) (show ty225.own w [.int .i64 c.Kind, .int .i64 c.Level, .int .i64 c.Value, .slice A0 c.Data.length k0, .slice A1 c.Words.length k1] c (_) from ⟨_, _, _, _, rfl, rfl, ⟨rfl, rfl⟩, ⟨_, _, _, _, rfl, rfl, ⟨rfl, rfl⟩, ⟨_, _, _, _, rfl, rfl, ⟨rfl, rfl⟩, ⟨_, _, _, _, rfl, rfl, h0, ⟨_, _, _, _, rfl, rfl, h1, ⟨rfl, rfl⟩⟩⟩⟩⟩⟩)
theorem ty225_openS {W w : World} {B : List Res} {cs : List Value} {c : D.Cell} (h : St W w (Own ty225 cs c :: B)) : ∃ A0 k0 A1 k1, cs = [.int .i64 c.Kind, .int .i64 c.Level, .int .i64 c.Value, .slice A0 c.Data.length k0, .slice A1 c.Words.length k1] ∧ St W w ([Own ty22 [.slice A0 c.Data.length k0] c.Data, Own ty223 [.slice A1 c.Words.length k1] c.Words] ++ B) := by
  obtain ⟨G, hA, _⟩ := h.sep.head
  obtain ⟨A0, k0, A1, k1, rfl, _⟩ := ty225_own hA
  refine ⟨A0, k0, A1, k1, rfl, St.splitAll (h.conv fun G hG => ?_)⟩
  obtain ⟨X0, Y0, X1, Y1, he, hh⟩ := ty225_own hG
  simp only [List.cons.injEq, Value.slice.injEq, and_true, true_and] at he
  obtain ⟨⟨rfl, rfl⟩, ⟨rfl, rfl⟩⟩ := he
  exact hh
theorem ty225_shutS {W w : World} {B : List Res} {c : D.Cell} {A0 : Option Addr} {k0 : Nat} {A1 : Option Addr} {k1 : Nat} (h : St W w ([Own ty22 [.slice A0 c.Data.length k0] c.Data, Own ty223 [.slice A1 c.Words.length k1] c.Words] ++ B)) : St W w (Own ty225 [.int .i64 c.Kind, .int .i64 c.Level, .int .i64 c.Value, .slice A0 c.Data.length k0, .slice A1 c.Words.length k1] c :: B) := (St.fuseAll h).conv fun _ hG => ty225_ownI hG

def ty83 : Ty (List D.Cell) := tSl 225 ty225
theorem ty83_form {w : World} {cs : List Value} {xs : (List D.Cell)} (h : ty83.ro w cs xs) : ∃ A c, cs = [.slice A xs.length c] := slForm h

def ty229 : Ty D.Pair := tMap (fun c => (c.A, c.B, ())) (tPair tInt (tPair tInt tUnit))
theorem ty229_open {w : World} {cs : List Value} {c : D.Pair} (h : ty229.ro w cs c) : cs = [.int .i64 c.A, .int .i64 c.B] := by
  obtain ⟨c0, d0, rfl, h0, c1, d1, rfl, h1, hz⟩ := h
  subst hz
  subst h0
  subst h1
  rfl
theorem ty229_shut {w : World} (c : D.Pair)   : ty229.ro w [.int .i64 c.A, .int .i64 c.B] c :=
  ⟨_, _, rfl, rfl, ⟨_, _, rfl, rfl, rfl⟩⟩
theorem ty229_own {w : World} {cs : List Value} {c : D.Pair} {G : List Nat} (h : ty229.own w cs c G) : cs = [.int .i64 c.A, .int .i64 c.B] ∧ (All []).A w G := by
  obtain ⟨c0, d0, H0, K0, rfl, rfl, h0, c1, d1, H1, K1, rfl, rfl, h1, hz, hk⟩ := h
  subst hz; subst hk
  obtain ⟨e0, k0⟩ := h0; subst e0; subst k0
  obtain ⟨e1, k1⟩ := h1; subst e1; subst k1
  refine ⟨rfl, ?_⟩
  show (All _).A w _
  exact cast (congrArg _ (by simp)) (show (All _).A w ([]) from rfl)
theorem ty229_ownI {w : World} {c : D.Pair}  {G : List Nat} (h : (All []).A w G) : ty229.own w [.int .i64 c.A, .int .i64 c.B] c G := by
  have hz : G = [] := h
  subst hz
  exact cast (congrArg _ (by simp)) (show ty229.own w [.int .i64 c.A, .int .i64 c.B] c (_) from ⟨_, _, _, _, rfl, rfl, ⟨rfl, rfl⟩, ⟨_, _, _, _, rfl, rfl, ⟨rfl, rfl⟩, ⟨rfl, rfl⟩⟩⟩)
theorem ty229_openS {W w : World} {B : List Res} {cs : List Value} {c : D.Pair} (h : St W w (Own ty229 cs c :: B)) : cs = [.int .i64 c.A, .int .i64 c.B] ∧ St W w ([] ++ B) := by
  obtain ⟨G, hA, _⟩ := h.sep.head
  obtain ⟨rfl, _⟩ := ty229_own hA
  refine ⟨rfl, St.splitAll (h.conv fun G hG => ?_)⟩
  exact (ty229_own hG).2
theorem ty229_shutS {W w : World} {B : List Res} {c : D.Pair}  (h : St W w ([] ++ B)) : St W w (Own ty229 [.int .i64 c.A, .int .i64 c.B] c :: B) := (St.fuseAll h).conv fun _ hG => ty229_ownI hG

def ty86 : Ty (List D.Pair) := tSl 229 ty229
theorem ty86_form {w : World} {cs : List Value} {xs : (List D.Pair)} (h : ty86.ro w cs xs) : ∃ A c, cs = [.slice A xs.length c] := slForm h

def ty88 : Ty D.Memory := tMap (fun c => (c.Cells, c.Free, c.Root, c.Redexes, ())) (tPair ty83 (tPair tInt (tPair ty85 (tPair ty86 tUnit))))
theorem ty88_open {w : World} {cs : List Value} {c : D.Memory} (h : ty88.ro w cs c) : ∃ A0 k0 A1 k1, cs = [.slice A0 c.Cells.length k0, .int .i64 c.Free, .int .i64 c.Root.Tag, .int .i64 c.Root.At, .slice A1 c.Redexes.length k1] ∧ ty83.ro w [.slice A0 c.Cells.length k0] c.Cells ∧ ty86.ro w [.slice A1 c.Redexes.length k1] c.Redexes := by
  obtain ⟨c0, d0, rfl, h0, c1, d1, rfl, h1, c2, d2, rfl, h2, c3, d3, rfl, h3, hz⟩ := h
  subst hz
  obtain ⟨A0_, k0_, e0⟩ := ty83_form h0
  subst e0
  subst h1
  have e2 := ty85_open h2
  subst e2
  obtain ⟨A3_, k3_, e3⟩ := ty86_form h3
  subst e3
  exact ⟨A0_, k0_, A3_, k3_, rfl, h0, h3⟩
theorem ty88_shut {w : World} (c : D.Memory) {A0 : Option Addr} {k0 : Nat} {A1 : Option Addr} {k1 : Nat} (h0 : ty83.ro w [.slice A0 c.Cells.length k0] c.Cells) (h1 : ty86.ro w [.slice A1 c.Redexes.length k1] c.Redexes) : ty88.ro w [.slice A0 c.Cells.length k0, .int .i64 c.Free, .int .i64 c.Root.Tag, .int .i64 c.Root.At, .slice A1 c.Redexes.length k1] c :=
  ⟨_, _, rfl, h0, ⟨_, _, rfl, rfl, ⟨_, _, rfl, (ty85_shut c.Root ), ⟨_, _, rfl, h1, rfl⟩⟩⟩⟩
theorem ty88_own {w : World} {cs : List Value} {c : D.Memory} {G : List Nat} (h : ty88.own w cs c G) : ∃ A0 k0 A1 k1, cs = [.slice A0 c.Cells.length k0, .int .i64 c.Free, .int .i64 c.Root.Tag, .int .i64 c.Root.At, .slice A1 c.Redexes.length k1] ∧ (All [Own ty83 [.slice A0 c.Cells.length k0] c.Cells, Own ty86 [.slice A1 c.Redexes.length k1] c.Redexes]).A w G := by
  obtain ⟨c0, d0, H0, K0, rfl, rfl, h0, c1, d1, H1, K1, rfl, rfl, h1, c2, d2, H2, K2, rfl, rfl, h2, c3, d3, H3, K3, rfl, rfl, h3, hz, hk⟩ := h
  subst hz; subst hk
  obtain ⟨A0_, k0_, e0⟩ := ty83_form (ty83.own_ro h0)
  subst e0
  obtain ⟨e1, k1⟩ := h1; subst e1; subst k1
  obtain ⟨e2, g2⟩ := ty85_own h2
  subst e2
  obtain ⟨A3_, k3_, e3⟩ := ty86_form (ty86.own_ro h3)
  subst e3
  refine ⟨A0_, k0_, A3_, k3_, rfl, ?_⟩
  exact cast (congrArg _ (by simp)) (allApp (allOne h0) (allApp g2 (allOne h3)))
theorem ty88_ownI {w : World} {c : D.Memory} {A0 : Option Addr} {k0 : Nat} {A1 : Option Addr} {k1 : Nat} {G : List Nat} (h : (All [Own ty83 [.slice A0 c.Cells.length k0] c.Cells, Own ty86 [.slice A1 c.Redexes.length k1] c.Redexes]).A w G) : ty88.own w [.slice A0 c.Cells.length k0, .int .i64 c.Free, .int .i64 c.Root.Tag, .int .i64 c.Root.At, .slice A1 c.Redexes.length k1] c G := by
  obtain ⟨G0, R0, rfl, h0, G1, R1, rfl, h1, hz⟩ := h
  have hz' : R1 = [] := hz
  subst hz'
  exact cast (congrArg _ (by simp)) (show ty88.own w [.slice A0 c.Cells.length k0, .int .i64 c.Free, .int .i64 c.Root.Tag, .int .i64 c.Root.At, .slice A1 c.Redexes.length k1] c (_) from ⟨_, _, _, _, rfl, rfl, h0, ⟨_, _, _, _, rfl, rfl, ⟨rfl, rfl⟩, ⟨_, _, _, _, rfl, rfl, (ty85_ownI (c := c.Root) rfl), ⟨_, _, _, _, rfl, rfl, h1, ⟨rfl, rfl⟩⟩⟩⟩⟩)
theorem ty88_openS {W w : World} {B : List Res} {cs : List Value} {c : D.Memory} (h : St W w (Own ty88 cs c :: B)) : ∃ A0 k0 A1 k1, cs = [.slice A0 c.Cells.length k0, .int .i64 c.Free, .int .i64 c.Root.Tag, .int .i64 c.Root.At, .slice A1 c.Redexes.length k1] ∧ St W w ([Own ty83 [.slice A0 c.Cells.length k0] c.Cells, Own ty86 [.slice A1 c.Redexes.length k1] c.Redexes] ++ B) := by
  obtain ⟨G, hA, _⟩ := h.sep.head
  obtain ⟨A0, k0, A1, k1, rfl, _⟩ := ty88_own hA
  refine ⟨A0, k0, A1, k1, rfl, St.splitAll (h.conv fun G hG => ?_)⟩
  obtain ⟨X0, Y0, X1, Y1, he, hh⟩ := ty88_own hG
  simp only [List.cons.injEq, Value.slice.injEq, and_true, true_and] at he
  obtain ⟨⟨rfl, rfl⟩, ⟨rfl, rfl⟩⟩ := he
  exact hh
theorem ty88_shutS {W w : World} {B : List Res} {c : D.Memory} {A0 : Option Addr} {k0 : Nat} {A1 : Option Addr} {k1 : Nat} (h : St W w ([Own ty83 [.slice A0 c.Cells.length k0] c.Cells, Own ty86 [.slice A1 c.Redexes.length k1] c.Redexes] ++ B)) : St W w (Own ty88 [.slice A0 c.Cells.length k0, .int .i64 c.Free, .int .i64 c.Root.Tag, .int .i64 c.Root.At, .slice A1 c.Redexes.length k1] c :: B) := (St.fuseAll h).conv fun _ hG => ty88_ownI hG

def ty92 : Ty D.Word := tMap (fun c => (c.Tag, c.At, ())) (tPair tInt (tPair tInt tUnit))
theorem ty92_open {w : World} {cs : List Value} {c : D.Word} (h : ty92.ro w cs c) : cs = [.int .i64 c.Tag, .int .i64 c.At] := by
  obtain ⟨c0, d0, rfl, h0, c1, d1, rfl, h1, hz⟩ := h
  subst hz
  subst h0
  subst h1
  rfl
theorem ty92_shut {w : World} (c : D.Word)   : ty92.ro w [.int .i64 c.Tag, .int .i64 c.At] c :=
  ⟨_, _, rfl, rfl, ⟨_, _, rfl, rfl, rfl⟩⟩
theorem ty92_own {w : World} {cs : List Value} {c : D.Word} {G : List Nat} (h : ty92.own w cs c G) : cs = [.int .i64 c.Tag, .int .i64 c.At] ∧ (All []).A w G := by
  obtain ⟨c0, d0, H0, K0, rfl, rfl, h0, c1, d1, H1, K1, rfl, rfl, h1, hz, hk⟩ := h
  subst hz; subst hk
  obtain ⟨e0, k0⟩ := h0; subst e0; subst k0
  obtain ⟨e1, k1⟩ := h1; subst e1; subst k1
  refine ⟨rfl, ?_⟩
  show (All _).A w _
  exact cast (congrArg _ (by simp)) (show (All _).A w ([]) from rfl)
theorem ty92_ownI {w : World} {c : D.Word}  {G : List Nat} (h : (All []).A w G) : ty92.own w [.int .i64 c.Tag, .int .i64 c.At] c G := by
  have hz : G = [] := h
  subst hz
  exact cast (congrArg _ (by simp)) (show ty92.own w [.int .i64 c.Tag, .int .i64 c.At] c (_) from ⟨_, _, _, _, rfl, rfl, ⟨rfl, rfl⟩, ⟨_, _, _, _, rfl, rfl, ⟨rfl, rfl⟩, ⟨rfl, rfl⟩⟩⟩)
theorem ty92_openS {W w : World} {B : List Res} {cs : List Value} {c : D.Word} (h : St W w (Own ty92 cs c :: B)) : cs = [.int .i64 c.Tag, .int .i64 c.At] ∧ St W w ([] ++ B) := by
  obtain ⟨G, hA, _⟩ := h.sep.head
  obtain ⟨rfl, _⟩ := ty92_own hA
  refine ⟨rfl, St.splitAll (h.conv fun G hG => ?_)⟩
  exact (ty92_own hG).2
theorem ty92_shutS {W w : World} {B : List Res} {c : D.Word}  (h : St W w ([] ++ B)) : St W w (Own ty92 [.int .i64 c.Tag, .int .i64 c.At] c :: B) := (St.fuseAll h).conv fun _ hG => ty92_ownI hG

def ty165 : Ty (List D.Word) := tSl 92 ty92
theorem ty165_form {w : World} {cs : List Value} {xs : (List D.Word)} (h : ty165.ro w cs xs) : ∃ A c, cs = [.slice A xs.length c] := slForm h

def ty167 : Ty D.Cell := tMap (fun c => (c.Kind, c.Level, c.Value, c.Data, c.Words, ())) (tPair tInt (tPair tInt (tPair tInt (tPair ty22 (tPair ty165 tUnit)))))
theorem ty167_open {w : World} {cs : List Value} {c : D.Cell} (h : ty167.ro w cs c) : ∃ A0 k0 A1 k1, cs = [.int .i64 c.Kind, .int .i64 c.Level, .int .i64 c.Value, .slice A0 c.Data.length k0, .slice A1 c.Words.length k1] ∧ ty22.ro w [.slice A0 c.Data.length k0] c.Data ∧ ty165.ro w [.slice A1 c.Words.length k1] c.Words := by
  obtain ⟨c0, d0, rfl, h0, c1, d1, rfl, h1, c2, d2, rfl, h2, c3, d3, rfl, h3, c4, d4, rfl, h4, hz⟩ := h
  subst hz
  subst h0
  subst h1
  subst h2
  obtain ⟨A3_, k3_, e3⟩ := ty22_form h3
  subst e3
  obtain ⟨A4_, k4_, e4⟩ := ty165_form h4
  subst e4
  exact ⟨A3_, k3_, A4_, k4_, rfl, h3, h4⟩
theorem ty167_shut {w : World} (c : D.Cell) {A0 : Option Addr} {k0 : Nat} {A1 : Option Addr} {k1 : Nat} (h0 : ty22.ro w [.slice A0 c.Data.length k0] c.Data) (h1 : ty165.ro w [.slice A1 c.Words.length k1] c.Words) : ty167.ro w [.int .i64 c.Kind, .int .i64 c.Level, .int .i64 c.Value, .slice A0 c.Data.length k0, .slice A1 c.Words.length k1] c :=
  ⟨_, _, rfl, rfl, ⟨_, _, rfl, rfl, ⟨_, _, rfl, rfl, ⟨_, _, rfl, h0, ⟨_, _, rfl, h1, rfl⟩⟩⟩⟩⟩
theorem ty167_own {w : World} {cs : List Value} {c : D.Cell} {G : List Nat} (h : ty167.own w cs c G) : ∃ A0 k0 A1 k1, cs = [.int .i64 c.Kind, .int .i64 c.Level, .int .i64 c.Value, .slice A0 c.Data.length k0, .slice A1 c.Words.length k1] ∧ (All [Own ty22 [.slice A0 c.Data.length k0] c.Data, Own ty165 [.slice A1 c.Words.length k1] c.Words]).A w G := by
  obtain ⟨c0, d0, H0, K0, rfl, rfl, h0, c1, d1, H1, K1, rfl, rfl, h1, c2, d2, H2, K2, rfl, rfl, h2, c3, d3, H3, K3, rfl, rfl, h3, c4, d4, H4, K4, rfl, rfl, h4, hz, hk⟩ := h
  subst hz; subst hk
  obtain ⟨e0, k0⟩ := h0; subst e0; subst k0
  obtain ⟨e1, k1⟩ := h1; subst e1; subst k1
  obtain ⟨e2, k2⟩ := h2; subst e2; subst k2
  obtain ⟨A3_, k3_, e3⟩ := ty22_form (ty22.own_ro h3)
  subst e3
  obtain ⟨A4_, k4_, e4⟩ := ty165_form (ty165.own_ro h4)
  subst e4
  refine ⟨A3_, k3_, A4_, k4_, rfl, ?_⟩
  show (All _).A w _
  exact cast (congrArg _ (by simp)) (show (All _).A w (H3 ++ (H4 ++ ([]))) from ⟨_, _, rfl, h3, ⟨_, _, rfl, h4, rfl⟩⟩)
theorem ty167_ownI {w : World} {c : D.Cell} {A0 : Option Addr} {k0 : Nat} {A1 : Option Addr} {k1 : Nat} {G : List Nat} (h : (All [Own ty22 [.slice A0 c.Data.length k0] c.Data, Own ty165 [.slice A1 c.Words.length k1] c.Words]).A w G) : ty167.own w [.int .i64 c.Kind, .int .i64 c.Level, .int .i64 c.Value, .slice A0 c.Data.length k0, .slice A1 c.Words.length k1] c G := by
  obtain ⟨G0, R0, rfl, h0, G1, R1, rfl, h1, hz⟩ := h
  have hz' : R1 = [] := hz
  subst hz'
  exact cast (congrArg _ (by simp)) (show ty167.own w [.int .i64 c.Kind, .int .i64 c.Level, .int .i64 c.Value, .slice A0 c.Data.length k0, .slice A1 c.Words.length k1] c (_) from ⟨_, _, _, _, rfl, rfl, ⟨rfl, rfl⟩, ⟨_, _, _, _, rfl, rfl, ⟨rfl, rfl⟩, ⟨_, _, _, _, rfl, rfl, ⟨rfl, rfl⟩, ⟨_, _, _, _, rfl, rfl, h0, ⟨_, _, _, _, rfl, rfl, h1, ⟨rfl, rfl⟩⟩⟩⟩⟩⟩)
theorem ty167_openS {W w : World} {B : List Res} {cs : List Value} {c : D.Cell} (h : St W w (Own ty167 cs c :: B)) : ∃ A0 k0 A1 k1, cs = [.int .i64 c.Kind, .int .i64 c.Level, .int .i64 c.Value, .slice A0 c.Data.length k0, .slice A1 c.Words.length k1] ∧ St W w ([Own ty22 [.slice A0 c.Data.length k0] c.Data, Own ty165 [.slice A1 c.Words.length k1] c.Words] ++ B) := by
  obtain ⟨G, hA, _⟩ := h.sep.head
  obtain ⟨A0, k0, A1, k1, rfl, _⟩ := ty167_own hA
  refine ⟨A0, k0, A1, k1, rfl, St.splitAll (h.conv fun G hG => ?_)⟩
  obtain ⟨X0, Y0, X1, Y1, he, hh⟩ := ty167_own hG
  simp only [List.cons.injEq, Value.slice.injEq, and_true, true_and] at he
  obtain ⟨⟨rfl, rfl⟩, ⟨rfl, rfl⟩⟩ := he
  exact hh
theorem ty167_shutS {W w : World} {B : List Res} {c : D.Cell} {A0 : Option Addr} {k0 : Nat} {A1 : Option Addr} {k1 : Nat} (h : St W w ([Own ty22 [.slice A0 c.Data.length k0] c.Data, Own ty165 [.slice A1 c.Words.length k1] c.Words] ++ B)) : St W w (Own ty167 [.int .i64 c.Kind, .int .i64 c.Level, .int .i64 c.Value, .slice A0 c.Data.length k0, .slice A1 c.Words.length k1] c :: B) := (St.fuseAll h).conv fun _ hG => ty167_ownI hG

def ty91 : Ty (List D.Cell) := tSl 167 ty167
theorem ty91_form {w : World} {cs : List Value} {xs : (List D.Cell)} (h : ty91.ro w cs xs) : ∃ A c, cs = [.slice A xs.length c] := slForm h

def ty173 : Ty D.Pair := tMap (fun c => (c.A, c.B, ())) (tPair tInt (tPair tInt tUnit))
theorem ty173_open {w : World} {cs : List Value} {c : D.Pair} (h : ty173.ro w cs c) : cs = [.int .i64 c.A, .int .i64 c.B] := by
  obtain ⟨c0, d0, rfl, h0, c1, d1, rfl, h1, hz⟩ := h
  subst hz
  subst h0
  subst h1
  rfl
theorem ty173_shut {w : World} (c : D.Pair)   : ty173.ro w [.int .i64 c.A, .int .i64 c.B] c :=
  ⟨_, _, rfl, rfl, ⟨_, _, rfl, rfl, rfl⟩⟩
theorem ty173_own {w : World} {cs : List Value} {c : D.Pair} {G : List Nat} (h : ty173.own w cs c G) : cs = [.int .i64 c.A, .int .i64 c.B] ∧ (All []).A w G := by
  obtain ⟨c0, d0, H0, K0, rfl, rfl, h0, c1, d1, H1, K1, rfl, rfl, h1, hz, hk⟩ := h
  subst hz; subst hk
  obtain ⟨e0, k0⟩ := h0; subst e0; subst k0
  obtain ⟨e1, k1⟩ := h1; subst e1; subst k1
  refine ⟨rfl, ?_⟩
  show (All _).A w _
  exact cast (congrArg _ (by simp)) (show (All _).A w ([]) from rfl)
theorem ty173_ownI {w : World} {c : D.Pair}  {G : List Nat} (h : (All []).A w G) : ty173.own w [.int .i64 c.A, .int .i64 c.B] c G := by
  have hz : G = [] := h
  subst hz
  exact cast (congrArg _ (by simp)) (show ty173.own w [.int .i64 c.A, .int .i64 c.B] c (_) from ⟨_, _, _, _, rfl, rfl, ⟨rfl, rfl⟩, ⟨_, _, _, _, rfl, rfl, ⟨rfl, rfl⟩, ⟨rfl, rfl⟩⟩⟩)
theorem ty173_openS {W w : World} {B : List Res} {cs : List Value} {c : D.Pair} (h : St W w (Own ty173 cs c :: B)) : cs = [.int .i64 c.A, .int .i64 c.B] ∧ St W w ([] ++ B) := by
  obtain ⟨G, hA, _⟩ := h.sep.head
  obtain ⟨rfl, _⟩ := ty173_own hA
  refine ⟨rfl, St.splitAll (h.conv fun G hG => ?_)⟩
  exact (ty173_own hG).2
theorem ty173_shutS {W w : World} {B : List Res} {c : D.Pair}  (h : St W w ([] ++ B)) : St W w (Own ty173 [.int .i64 c.A, .int .i64 c.B] c :: B) := (St.fuseAll h).conv fun _ hG => ty173_ownI hG

def ty93 : Ty (List D.Pair) := tSl 173 ty173
theorem ty93_form {w : World} {cs : List Value} {xs : (List D.Pair)} (h : ty93.ro w cs xs) : ∃ A c, cs = [.slice A xs.length c] := slForm h

def ty95 : Ty D.Memory := tMap (fun c => (c.Cells, c.Free, c.Root, c.Redexes, ())) (tPair ty91 (tPair tInt (tPair ty92 (tPair ty93 tUnit))))
theorem ty95_open {w : World} {cs : List Value} {c : D.Memory} (h : ty95.ro w cs c) : ∃ A0 k0 A1 k1, cs = [.slice A0 c.Cells.length k0, .int .i64 c.Free, .int .i64 c.Root.Tag, .int .i64 c.Root.At, .slice A1 c.Redexes.length k1] ∧ ty91.ro w [.slice A0 c.Cells.length k0] c.Cells ∧ ty93.ro w [.slice A1 c.Redexes.length k1] c.Redexes := by
  obtain ⟨c0, d0, rfl, h0, c1, d1, rfl, h1, c2, d2, rfl, h2, c3, d3, rfl, h3, hz⟩ := h
  subst hz
  obtain ⟨A0_, k0_, e0⟩ := ty91_form h0
  subst e0
  subst h1
  have e2 := ty92_open h2
  subst e2
  obtain ⟨A3_, k3_, e3⟩ := ty93_form h3
  subst e3
  exact ⟨A0_, k0_, A3_, k3_, rfl, h0, h3⟩
theorem ty95_shut {w : World} (c : D.Memory) {A0 : Option Addr} {k0 : Nat} {A1 : Option Addr} {k1 : Nat} (h0 : ty91.ro w [.slice A0 c.Cells.length k0] c.Cells) (h1 : ty93.ro w [.slice A1 c.Redexes.length k1] c.Redexes) : ty95.ro w [.slice A0 c.Cells.length k0, .int .i64 c.Free, .int .i64 c.Root.Tag, .int .i64 c.Root.At, .slice A1 c.Redexes.length k1] c :=
  ⟨_, _, rfl, h0, ⟨_, _, rfl, rfl, ⟨_, _, rfl, (ty92_shut c.Root ), ⟨_, _, rfl, h1, rfl⟩⟩⟩⟩
theorem ty95_own {w : World} {cs : List Value} {c : D.Memory} {G : List Nat} (h : ty95.own w cs c G) : ∃ A0 k0 A1 k1, cs = [.slice A0 c.Cells.length k0, .int .i64 c.Free, .int .i64 c.Root.Tag, .int .i64 c.Root.At, .slice A1 c.Redexes.length k1] ∧ (All [Own ty91 [.slice A0 c.Cells.length k0] c.Cells, Own ty93 [.slice A1 c.Redexes.length k1] c.Redexes]).A w G := by
  obtain ⟨c0, d0, H0, K0, rfl, rfl, h0, c1, d1, H1, K1, rfl, rfl, h1, c2, d2, H2, K2, rfl, rfl, h2, c3, d3, H3, K3, rfl, rfl, h3, hz, hk⟩ := h
  subst hz; subst hk
  obtain ⟨A0_, k0_, e0⟩ := ty91_form (ty91.own_ro h0)
  subst e0
  obtain ⟨e1, k1⟩ := h1; subst e1; subst k1
  obtain ⟨e2, g2⟩ := ty92_own h2
  subst e2
  obtain ⟨A3_, k3_, e3⟩ := ty93_form (ty93.own_ro h3)
  subst e3
  refine ⟨A0_, k0_, A3_, k3_, rfl, ?_⟩
  exact cast (congrArg _ (by simp)) (allApp (allOne h0) (allApp g2 (allOne h3)))
theorem ty95_ownI {w : World} {c : D.Memory} {A0 : Option Addr} {k0 : Nat} {A1 : Option Addr} {k1 : Nat} {G : List Nat} (h : (All [Own ty91 [.slice A0 c.Cells.length k0] c.Cells, Own ty93 [.slice A1 c.Redexes.length k1] c.Redexes]).A w G) : ty95.own w [.slice A0 c.Cells.length k0, .int .i64 c.Free, .int .i64 c.Root.Tag, .int .i64 c.Root.At, .slice A1 c.Redexes.length k1] c G := by
  obtain ⟨G0, R0, rfl, h0, G1, R1, rfl, h1, hz⟩ := h
  have hz' : R1 = [] := hz
  subst hz'
  exact cast (congrArg _ (by simp)) (show ty95.own w [.slice A0 c.Cells.length k0, .int .i64 c.Free, .int .i64 c.Root.Tag, .int .i64 c.Root.At, .slice A1 c.Redexes.length k1] c (_) from ⟨_, _, _, _, rfl, rfl, h0, ⟨_, _, _, _, rfl, rfl, ⟨rfl, rfl⟩, ⟨_, _, _, _, rfl, rfl, (ty92_ownI (c := c.Root) rfl), ⟨_, _, _, _, rfl, rfl, h1, ⟨rfl, rfl⟩⟩⟩⟩⟩)
theorem ty95_openS {W w : World} {B : List Res} {cs : List Value} {c : D.Memory} (h : St W w (Own ty95 cs c :: B)) : ∃ A0 k0 A1 k1, cs = [.slice A0 c.Cells.length k0, .int .i64 c.Free, .int .i64 c.Root.Tag, .int .i64 c.Root.At, .slice A1 c.Redexes.length k1] ∧ St W w ([Own ty91 [.slice A0 c.Cells.length k0] c.Cells, Own ty93 [.slice A1 c.Redexes.length k1] c.Redexes] ++ B) := by
  obtain ⟨G, hA, _⟩ := h.sep.head
  obtain ⟨A0, k0, A1, k1, rfl, _⟩ := ty95_own hA
  refine ⟨A0, k0, A1, k1, rfl, St.splitAll (h.conv fun G hG => ?_)⟩
  obtain ⟨X0, Y0, X1, Y1, he, hh⟩ := ty95_own hG
  simp only [List.cons.injEq, Value.slice.injEq, and_true, true_and] at he
  obtain ⟨⟨rfl, rfl⟩, ⟨rfl, rfl⟩⟩ := he
  exact hh
theorem ty95_shutS {W w : World} {B : List Res} {c : D.Memory} {A0 : Option Addr} {k0 : Nat} {A1 : Option Addr} {k1 : Nat} (h : St W w ([Own ty91 [.slice A0 c.Cells.length k0] c.Cells, Own ty93 [.slice A1 c.Redexes.length k1] c.Redexes] ++ B)) : St W w (Own ty95 [.slice A0 c.Cells.length k0, .int .i64 c.Free, .int .i64 c.Root.Tag, .int .i64 c.Root.At, .slice A1 c.Redexes.length k1] c :: B) := (St.fuseAll h).conv fun _ hG => ty95_ownI hG

def ty185 : Ty (List Int) := tSl 5 (tIntK .u8)
theorem ty185_form {w : World} {cs : List Value} {xs : (List Int)} (h : ty185.ro w cs xs) : ∃ A c, cs = [.slice A xs.length c] := slForm h

def ty213 : Ty D.Wire := tMap (fun c => (c.A, c.B, ())) (tPair ty208 (tPair ty208 tUnit))
theorem ty213_open {w : World} {cs : List Value} {c : D.Wire} (h : ty213.ro w cs c) : cs = [.int .i64 c.A.Agent, .int .i64 c.A.Slot, .int .i64 c.B.Agent, .int .i64 c.B.Slot] := by
  obtain ⟨c0, d0, rfl, h0, c1, d1, rfl, h1, hz⟩ := h
  subst hz
  have e0 := ty208_open h0
  subst e0
  have e1 := ty208_open h1
  subst e1
  rfl
theorem ty213_shut {w : World} (c : D.Wire)   : ty213.ro w [.int .i64 c.A.Agent, .int .i64 c.A.Slot, .int .i64 c.B.Agent, .int .i64 c.B.Slot] c :=
  ⟨_, _, rfl, (ty208_shut c.A ), ⟨_, _, rfl, (ty208_shut c.B ), rfl⟩⟩
theorem ty213_own {w : World} {cs : List Value} {c : D.Wire} {G : List Nat} (h : ty213.own w cs c G) : cs = [.int .i64 c.A.Agent, .int .i64 c.A.Slot, .int .i64 c.B.Agent, .int .i64 c.B.Slot] ∧ (All []).A w G := by
  obtain ⟨c0, d0, H0, K0, rfl, rfl, h0, c1, d1, H1, K1, rfl, rfl, h1, hz, hk⟩ := h
  subst hz; subst hk
  obtain ⟨e0, g0⟩ := ty208_own h0
  subst e0
  obtain ⟨e1, g1⟩ := ty208_own h1
  subst e1
  refine ⟨rfl, ?_⟩
  exact cast (congrArg _ (by simp)) (allApp g0 g1)
theorem ty213_ownI {w : World} {c : D.Wire}  {G : List Nat} (h : (All []).A w G) : ty213.own w [.int .i64 c.A.Agent, .int .i64 c.A.Slot, .int .i64 c.B.Agent, .int .i64 c.B.Slot] c G := by
  have hz : G = [] := h
  subst hz
  exact cast (congrArg _ (by simp)) (show ty213.own w [.int .i64 c.A.Agent, .int .i64 c.A.Slot, .int .i64 c.B.Agent, .int .i64 c.B.Slot] c (_) from ⟨_, _, _, _, rfl, rfl, (ty208_ownI (c := c.A) rfl), ⟨_, _, _, _, rfl, rfl, (ty208_ownI (c := c.B) rfl), ⟨rfl, rfl⟩⟩⟩)
theorem ty213_openS {W w : World} {B : List Res} {cs : List Value} {c : D.Wire} (h : St W w (Own ty213 cs c :: B)) : cs = [.int .i64 c.A.Agent, .int .i64 c.A.Slot, .int .i64 c.B.Agent, .int .i64 c.B.Slot] ∧ St W w ([] ++ B) := by
  obtain ⟨G, hA, _⟩ := h.sep.head
  obtain ⟨rfl, _⟩ := ty213_own hA
  refine ⟨rfl, St.splitAll (h.conv fun G hG => ?_)⟩
  exact (ty213_own hG).2
theorem ty213_shutS {W w : World} {B : List Res} {c : D.Wire}  (h : St W w ([] ++ B)) : St W w (Own ty213 [.int .i64 c.A.Agent, .int .i64 c.A.Slot, .int .i64 c.B.Agent, .int .i64 c.B.Slot] c :: B) := (St.fuseAll h).conv fun _ hG => ty213_ownI hG

def ty210 : Ty (List D.Wire) := tSl 213 ty213
theorem ty210_form {w : World} {cs : List Value} {xs : (List D.Wire)} (h : ty210.ro w cs xs) : ∃ A c, cs = [.slice A xs.length c] := slForm h

def ty263 : Ty (List Int) := tSl 3 tInt
theorem ty263_form {w : World} {cs : List Value} {xs : (List Int)} (h : ty263.ro w cs xs) : ∃ A c, cs = [.slice A xs.length c] := slForm h

end Go.E
