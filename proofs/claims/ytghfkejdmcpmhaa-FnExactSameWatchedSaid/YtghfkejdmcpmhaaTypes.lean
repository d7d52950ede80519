/- The types of the data, as tables and as plain Lean types (written by program). Conditions: none. -/
import Derived.Test.YtghfkejdmcpmhaaData
import Derived.Test.YtghfkejdmcpmhaaProg
import Derived.KernelRfl
namespace Go.E
open Go.RowKit Go.Proofs

/-- The types that the code names. -/
def tt : TT := [
  ⟨2, .int .i64, 1, [.int .i64 0], 8⟩,
  ⟨3, .int .i64, 1, [.int .i64 0], 8⟩,
  ⟨4, .bool, 1, [.bool false], 1⟩,
  ⟨22, .slice 204, 1, [.slice none 0 0], 24⟩,
  ⟨23, .slice 209, 1, [.slice none 0 0], 24⟩,
  ⟨24, .slice 212, 1, [.slice none 0 0], 24⟩,
  ⟨26, .struct [(0, 1, false, 22), (1, 1, false, 23), (2, 1, false, 24)], 3, [.slice none 0 0, .slice none 0 0, .slice none 0 0], 72⟩,
  ⟨29, .slice 123, 1, [.slice none 0 0], 24⟩,
  ⟨30, .slice 125, 1, [.slice none 0 0], 24⟩,
  ⟨31, .slice 127, 1, [.slice none 0 0], 24⟩,
  ⟨33, .struct [(0, 1, false, 29), (1, 1, false, 30), (2, 1, false, 31)], 3, [.slice none 0 0, .slice none 0 0, .slice none 0 0], 72⟩,
  ⟨36, .slice 26, 1, [.slice none 0 0], 24⟩,
  ⟨38, .struct [(0, 1, false, 2), (1, 1, false, 2), (2, 1, false, 2)], 3, [.int .i64 0, .int .i64 0, .int .i64 0], 24⟩,
  ⟨40, .struct [(0, 1, false, 36), (1, 3, true, 38)], 4, [.slice none 0 0, .int .i64 0, .int .i64 0, .int .i64 0], 48⟩,
  ⟨43, .slice 33, 1, [.slice none 0 0], 24⟩,
  ⟨44, .struct [(0, 1, false, 2), (1, 1, false, 2), (2, 1, false, 2)], 3, [.int .i64 0, .int .i64 0, .int .i64 0], 24⟩,
  ⟨46, .struct [(0, 1, false, 43), (1, 3, true, 44)], 4, [.slice none 0 0, .int .i64 0, .int .i64 0, .int .i64 0], 48⟩,
  ⟨49, .slice 264, 1, [.slice none 0 0], 24⟩,
  ⟨51, .struct [(0, 1, false, 2), (1, 1, false, 2)], 2, [.int .i64 0, .int .i64 0], 16⟩,
  ⟨52, .slice 270, 1, [.slice none 0 0], 24⟩,
  ⟨54, .struct [(0, 1, false, 49), (1, 1, false, 2), (2, 2, true, 51), (4, 1, false, 52)], 5, [.slice none 0 0, .int .i64 0, .int .i64 0, .int .i64 0, .slice none 0 0], 72⟩,
  ⟨55, .slice 220, 1, [.slice none 0 0], 24⟩,
  ⟨57, .struct [(0, 5, true, 54), (5, 1, false, 55), (6, 1, false, 2)], 7, [.slice none 0 0, .int .i64 0, .int .i64 0, .int .i64 0, .slice none 0 0, .slice none 0 0, .int .i64 0], 104⟩,
  ⟨60, .slice 232, 1, [.slice none 0 0], 24⟩,
  ⟨61, .struct [(0, 1, false, 2), (1, 1, false, 2)], 2, [.int .i64 0, .int .i64 0], 16⟩,
  ⟨62, .slice 155, 1, [.slice none 0 0], 24⟩,
  ⟨64, .struct [(0, 1, false, 60), (1, 1, false, 2), (2, 2, true, 61), (4, 1, false, 62)], 5, [.slice none 0 0, .int .i64 0, .int .i64 0, .int .i64 0, .slice none 0 0], 72⟩,
  ⟨65, .slice 152, 1, [.slice none 0 0], 24⟩,
  ⟨67, .struct [(0, 5, true, 64), (5, 1, false, 65), (6, 1, false, 2)], 7, [.slice none 0 0, .int .i64 0, .int .i64 0, .int .i64 0, .slice none 0 0, .slice none 0 0, .int .i64 0], 104⟩,
  ⟨70, .slice 237, 1, [.slice none 0 0], 24⟩,
  ⟨71, .slice 72, 1, [.slice none 0 0], 24⟩,
  ⟨72, .slice 2, 1, [.slice none 0 0], 24⟩,
  ⟨74, .struct [(0, 4, true, 40), (4, 1, false, 70), (5, 1, false, 71), (6, 1, false, 72), (7, 1, false, 72)], 8, [.slice none 0 0, .int .i64 0, .int .i64 0, .int .i64 0, .slice none 0 0, .slice none 0 0, .slice none 0 0, .slice none 0 0], 144⟩,
  ⟨77, .slice 171, 1, [.slice none 0 0], 24⟩,
  ⟨79, .struct [(0, 4, true, 46), (4, 1, false, 77), (5, 1, false, 71), (6, 1, false, 72), (7, 1, false, 72)], 8, [.slice none 0 0, .int .i64 0, .int .i64 0, .int .i64 0, .slice none 0 0, .slice none 0 0, .slice none 0 0, .slice none 0 0], 144⟩,
  ⟨82, .slice 4, 1, [.slice none 0 0], 24⟩,
  ⟨84, .struct [(0, 8, true, 74), (8, 1, false, 2), (9, 1, false, 2), (10, 1, false, 4), (11, 1, false, 82), (12, 1, false, 2), (13, 1, false, 4)], 14, [.slice none 0 0, .int .i64 0, .int .i64 0, .int .i64 0, .slice none 0 0, .slice none 0 0, .slice none 0 0, .slice none 0 0, .int .i64 0, .int .i64 0, .bool false, .slice none 0 0, .int .i64 0, .bool false], 208⟩,
  ⟨88, .struct [(0, 8, true, 79), (8, 1, false, 2), (9, 1, false, 2), (10, 1, false, 4), (11, 1, false, 82), (12, 1, false, 2), (13, 1, false, 4)], 14, [.slice none 0 0, .int .i64 0, .int .i64 0, .int .i64 0, .slice none 0 0, .slice none 0 0, .slice none 0 0, .slice none 0 0, .int .i64 0, .int .i64 0, .bool false, .slice none 0 0, .int .i64 0, .bool false], 208⟩,
  ⟨92, .struct [(0, 1, false, 82), (1, 1, false, 36), (2, 1, false, 71), (3, 1, false, 82), (4, 1, false, 70)], 5, [.slice none 0 0, .slice none 0 0, .slice none 0 0, .slice none 0 0, .slice none 0 0], 120⟩,
  ⟨94, .struct [(0, 8, true, 74), (8, 5, true, 92)], 13, [.slice none 0 0, .int .i64 0, .int .i64 0, .int .i64 0, .slice none 0 0, .slice none 0 0, .slice none 0 0, .slice none 0 0, .slice none 0 0, .slice none 0 0, .slice none 0 0, .slice none 0 0, .slice none 0 0], 264⟩,
  ⟨98, .struct [(0, 1, false, 82), (1, 1, false, 43), (2, 1, false, 71), (3, 1, false, 82), (4, 1, false, 77)], 5, [.slice none 0 0, .slice none 0 0, .slice none 0 0, .slice none 0 0, .slice none 0 0], 120⟩,
  ⟨100, .struct [(0, 8, true, 79), (8, 5, true, 98)], 13, [.slice none 0 0, .int .i64 0, .int .i64 0, .int .i64 0, .slice none 0 0, .slice none 0 0, .slice none 0 0, .slice none 0 0, .slice none 0 0, .slice none 0 0, .slice none 0 0, .slice none 0 0, .slice none 0 0], 264⟩,
  ⟨103, .slice 246, 1, [.slice none 0 0], 24⟩,
  ⟨104, .slice 252, 1, [.slice none 0 0], 24⟩,
  ⟨106, .struct [(0, 1, false, 2), (1, 1, false, 2), (2, 1, false, 72), (3, 1, false, 103), (4, 1, false, 104), (5, 1, false, 72)], 6, [.int .i64 0, .int .i64 0, .slice none 0 0, .slice none 0 0, .slice none 0 0, .slice none 0 0], 112⟩,
  ⟨109, .slice 191, 1, [.slice none 0 0], 24⟩,
  ⟨110, .slice 196, 1, [.slice none 0 0], 24⟩,
  ⟨112, .struct [(0, 1, false, 2), (1, 1, false, 2), (2, 1, false, 72), (3, 1, false, 109), (4, 1, false, 110), (5, 1, false, 72)], 6, [.int .i64 0, .int .i64 0, .slice none 0 0, .slice none 0 0, .slice none 0 0, .slice none 0 0], 112⟩,
  ⟨120, .ptr 123, 1, [.pointer none], 8⟩,
  ⟨121, .slice 44, 1, [.slice none 0 0], 24⟩,
  ⟨123, .struct [(0, 1, false, 2), (1, 1, false, 2), (2, 1, false, 2), (3, 1, false, 72), (4, 1, false, 121)], 5, [.int .i64 0, .int .i64 0, .int .i64 0, .slice none 0 0, .slice none 0 0], 72⟩,
  ⟨125, .struct [(0, 1, false, 4), (1, 1, false, 4), (2, 3, true, 44)], 5, [.bool false, .bool false, .int .i64 0, .int .i64 0, .int .i64 0], 32⟩,
  ⟨127, .struct [(0, 3, true, 44), (3, 3, true, 44)], 6, [.int .i64 0, .int .i64 0, .int .i64 0, .int .i64 0, .int .i64 0, .int .i64 0], 48⟩,
  ⟨145, .ptr 67, 1, [.pointer none], 8⟩,
  ⟨150, .slice 158, 1, [.slice none 0 0], 24⟩,
  ⟨152, .struct [(0, 1, false, 2), (1, 1, false, 2), (2, 1, false, 62), (3, 1, false, 150), (4, 1, false, 72)], 5, [.int .i64 0, .int .i64 0, .slice none 0 0, .slice none 0 0, .slice none 0 0], 88⟩,
  ⟨155, .struct [(0, 1, false, 2), (1, 1, false, 2)], 2, [.int .i64 0, .int .i64 0], 16⟩,
  ⟨158, .struct [(0, 2, true, 61), (2, 2, true, 61)], 4, [.int .i64 0, .int .i64 0, .int .i64 0, .int .i64 0], 32⟩,
  ⟨171, .slice 241, 1, [.slice none 0 0], 24⟩,
  ⟨179, .ptr 98, 1, [.pointer none], 8⟩,
  ⟨185, .ptr 112, 1, [.pointer none], 8⟩,
  ⟨191, .struct [(0, 1, false, 72), (1, 1, false, 2), (2, 1, false, 2), (3, 1, false, 2), (4, 1, false, 2)], 5, [.slice none 0 0, .int .i64 0, .int .i64 0, .int .i64 0, .int .i64 0], 56⟩,
  ⟨196, .struct [(0, 1, false, 2), (1, 1, false, 2)], 2, [.int .i64 0, .int .i64 0], 16⟩,
  ⟨202, .slice 38, 1, [.slice none 0 0], 24⟩,
  ⟨204, .struct [(0, 1, false, 2), (1, 1, false, 2), (2, 1, false, 2), (3, 1, false, 72), (4, 1, false, 202)], 5, [.int .i64 0, .int .i64 0, .int .i64 0, .slice none 0 0, .slice none 0 0], 72⟩,
  ⟨209, .struct [(0, 1, false, 4), (1, 1, false, 4), (2, 3, true, 38)], 5, [.bool false, .bool false, .int .i64 0, .int .i64 0, .int .i64 0], 32⟩,
  ⟨212, .struct [(0, 3, true, 38), (3, 3, true, 38)], 6, [.int .i64 0, .int .i64 0, .int .i64 0, .int .i64 0, .int .i64 0, .int .i64 0], 48⟩,
  ⟨218, .slice 283, 1, [.slice none 0 0], 24⟩,
  ⟨220, .struct [(0, 1, false, 2), (1, 1, false, 2), (2, 1, false, 52), (3, 1, false, 218), (4, 1, false, 72)], 5, [.int .i64 0, .int .i64 0, .slice none 0 0, .slice none 0 0, .slice none 0 0], 88⟩,
  ⟨222, .ptr 64, 1, [.pointer none], 8⟩,
  ⟨224, .ptr 152, 1, [.pointer none], 8⟩,
  ⟨230, .slice 61, 1, [.slice none 0 0], 24⟩,
  ⟨232, .struct [(0, 1, false, 2), (1, 1, false, 2), (2, 1, false, 2), (3, 1, false, 72), (4, 1, false, 230)], 5, [.int .i64 0, .int .i64 0, .int .i64 0, .slice none 0 0, .slice none 0 0], 72⟩,
  ⟨237, .slice 276, 1, [.slice none 0 0], 24⟩,
  ⟨239, .ptr 241, 1, [.pointer none], 8⟩,
  ⟨241, .struct [(0, 1, false, 2), (1, 5, true, 123), (6, 3, true, 44), (9, 3, true, 44)], 12, [.int .i64 0, .int .i64 0, .int .i64 0, .int .i64 0, .slice none 0 0, .slice none 0 0, .int .i64 0, .int .i64 0, .int .i64 0, .int .i64 0, .int .i64 0, .int .i64 0], 128⟩,
  ⟨246, .struct [(0, 1, false, 72), (1, 1, false, 2), (2, 1, false, 2), (3, 1, false, 2), (4, 1, false, 2)], 5, [.slice none 0 0, .int .i64 0, .int .i64 0, .int .i64 0, .int .i64 0], 56⟩,
  ⟨249, .ptr 191, 1, [.pointer none], 8⟩,
  ⟨252, .struct [(0, 1, false, 2), (1, 1, false, 2)], 2, [.int .i64 0, .int .i64 0], 16⟩,
  ⟨262, .slice 51, 1, [.slice none 0 0], 24⟩,
  ⟨264, .struct [(0, 1, false, 2), (1, 1, false, 2), (2, 1, false, 2), (3, 1, false, 72), (4, 1, false, 262)], 5, [.int .i64 0, .int .i64 0, .int .i64 0, .slice none 0 0, .slice none 0 0], 72⟩,
  ⟨267, .ptr 232, 1, [.pointer none], 8⟩,
  ⟨270, .struct [(0, 1, false, 2), (1, 1, false, 2)], 2, [.int .i64 0, .int .i64 0], 16⟩,
  ⟨276, .struct [(0, 1, false, 2), (1, 5, true, 204), (6, 3, true, 38), (9, 3, true, 38)], 12, [.int .i64 0, .int .i64 0, .int .i64 0, .int .i64 0, .slice none 0 0, .slice none 0 0, .int .i64 0, .int .i64 0, .int .i64 0, .int .i64 0, .int .i64 0, .int .i64 0], 128⟩,
  ⟨283, .struct [(0, 2, true, 51), (2, 2, true, 51)], 4, [.int .i64 0, .int .i64 0, .int .i64 0, .int .i64 0], 32⟩]

def zerosOk (P : Program) : TT → Prop
  | [] => True
  | i :: r => (P.info? i.id).map (fun j => j.zero.map (fun v => v.cells.toList)) = some (some i.zero) ∧ zerosOk P r

theorem zerosOk_mem {P : Program} : ∀ {T : TT}, zerosOk P T → ∀ i, i ∈ T → (P.info? i.id).map (fun j => j.zero.map (fun v => v.cells.toList)) = some (some i.zero)
  | [], _, i, h => by cases h
  | _ :: _, ⟨h1, h2⟩, i, h => by
    rcases List.mem_cons.1 h with rfl | h
    · exact h1
    · exact zerosOk_mem h2 i h

theorem tt_all : tt.all (infoOk Try.prog) = true := by kernel_rfl
theorem tt_zeros : zerosOk Try.prog tt := ⟨by kernel_rfl, by kernel_rfl, by kernel_rfl, by kernel_rfl, by kernel_rfl, by kernel_rfl, by kernel_rfl, by kernel_rfl, by kernel_rfl, by kernel_rfl, by kernel_rfl, by kernel_rfl, by kernel_rfl, by kernel_rfl, by kernel_rfl, by kernel_rfl, by kernel_rfl, by kernel_rfl, by kernel_rfl, by kernel_rfl, by kernel_rfl, by kernel_rfl, by kernel_rfl, by kernel_rfl, by kernel_rfl, by kernel_rfl, by kernel_rfl, by kernel_rfl, by kernel_rfl, by kernel_rfl, by kernel_rfl, by kernel_rfl, by kernel_rfl, by kernel_rfl, by kernel_rfl, by kernel_rfl, by kernel_rfl, by kernel_rfl, by kernel_rfl, by kernel_rfl, by kernel_rfl, by kernel_rfl, by kernel_rfl, by kernel_rfl, by kernel_rfl, by kernel_rfl, by kernel_rfl, by kernel_rfl, by kernel_rfl, by kernel_rfl, by kernel_rfl, by kernel_rfl, by kernel_rfl, by kernel_rfl, by kernel_rfl, by kernel_rfl, by kernel_rfl, by kernel_rfl, by kernel_rfl, by kernel_rfl, by kernel_rfl, by kernel_rfl, by kernel_rfl, by kernel_rfl, by kernel_rfl, by kernel_rfl, by kernel_rfl, by kernel_rfl, by kernel_rfl, by kernel_rfl, by kernel_rfl, by kernel_rfl, by kernel_rfl, by kernel_rfl, by kernel_rfl, by kernel_rfl, by kernel_rfl, by kernel_rfl, by kernel_rfl, by kernel_rfl, by kernel_rfl, by kernel_rfl, by kernel_rfl, by kernel_rfl, by kernel_rfl, trivial⟩
theorem ttok : TTok Try.prog tt := ⟨List.all_eq_true.1 tt_all, zerosOk_mem tt_zeros⟩
theorem mixed : Try.prog.follows .mixedOrders = true := by kernel_rfl

structure D.Address where
  Machine : Int
  Kind : Int
  Index : Int
deriving Inhabited, DecidableEq

structure D.ShardCell where
  Kind : Int
  Level : Int
  Value : Int
  Data : (List Int)
  Aux : (List D.Address)
deriving Inhabited, DecidableEq

structure D.ShardVar where
  Used : Bool
  Full : Bool
  Held : D.Address
deriving Inhabited, DecidableEq

structure D.ShardRedex where
  A : D.Address
  B : D.Address
deriving Inhabited, DecidableEq

structure D.Shard where
  Cells : (List D.ShardCell)
  Vars : (List D.ShardVar)
  Redexes : (List D.ShardRedex)
deriving Inhabited, DecidableEq

structure D.Grid where
  Shards : (List D.Shard)
  Root : D.Address
deriving Inhabited, DecidableEq

structure D.Word where
  Tag : Int
  At : Int
deriving Inhabited, DecidableEq

structure D.Cell where
  Kind : Int
  Level : Int
  Value : Int
  Data : (List Int)
  Words : (List D.Word)
deriving Inhabited, DecidableEq

structure D.Pair where
  A : Int
  B : Int
deriving Inhabited, DecidableEq

structure D.Memory where
  Cells : (List D.Cell)
  Free : Int
  Root : D.Word
  Redexes : (List D.Pair)
deriving Inhabited, DecidableEq

structure D.Link where
  A : D.Word
  B : D.Word
deriving Inhabited, DecidableEq

structure D.Worker where
  Phase : Int
  Victim : Int
  Redexes : (List D.Pair)
  Links : (List D.Link)
  Counts : (List Int)
deriving Inhabited, DecidableEq

structure D.Pool where
  Memory : D.Memory
  Workers : (List D.Worker)
  Active : Int
deriving Inhabited, DecidableEq

structure D.Parcel where
  Kind : Int
  Cell : D.ShardCell
  A : D.Address
  B : D.Address
deriving Inhabited, DecidableEq

structure D.Cluster where
  Grid : D.Grid
  Channels : (List (List D.Parcel))
  Counts : (List (List Int))
  Sent : (List Int)
  Got : (List Int)
deriving Inhabited, DecidableEq

structure D.Detector where
  Cluster : D.Cluster
  Holder : Int
  Count : Int
  Dark : Bool
  Stained : (List Bool)
  Rounds : Int
  Announced : Bool
deriving Inhabited, DecidableEq

structure D.Shot where
  Taken : (List Bool)
  Shards : (List D.Shard)
  Counts : (List (List Int))
  Recording : (List Bool)
  Saved : (List (List D.Parcel))
deriving Inhabited, DecidableEq

structure D.Watched where
  Cluster : D.Cluster
  Shot : D.Shot
deriving Inhabited, DecidableEq

structure D.DequeActor where
  Todo : (List Int)
  Pc : Int
  T : Int
  B : Int
  X : Int
deriving Inhabited, DecidableEq

structure D.Handed where
  Actor : Int
  Value : Int
deriving Inhabited, DecidableEq

structure D.Deque where
  Top : Int
  Bottom : Int
  Buffer : (List Int)
  Actors : (List D.DequeActor)
  Taken : (List D.Handed)
  Refused : (List Int)
deriving Inhabited, DecidableEq

def ty72 : Ty (List Int) := tSl 2 tInt
theorem ty72_form {w : World} {cs : List Value} {xs : (List Int)} (h : ty72.ro w cs xs) : ∃ A c, cs = [.slice A xs.length c] := slForm h

def ty38 : Ty D.Address := tMap (fun c => (c.Machine, c.Kind, c.Index, ())) (tPair tInt (tPair tInt (tPair tInt tUnit)))
theorem ty38_open {w : World} {cs : List Value} {c : D.Address} (h : ty38.ro w cs c) : cs = [.int .i64 c.Machine, .int .i64 c.Kind, .int .i64 c.Index] := by
  obtain ⟨c0, d0, rfl, h0, c1, d1, rfl, h1, c2, d2, rfl, h2, hz⟩ := h
  subst hz
  subst h0
  subst h1
  subst h2
  rfl
theorem ty38_shut {w : World} (c : D.Address)   : ty38.ro w [.int .i64 c.Machine, .int .i64 c.Kind, .int .i64 c.Index] c :=
  ⟨_, _, rfl, rfl, ⟨_, _, rfl, rfl, ⟨_, _, rfl, rfl, rfl⟩⟩⟩
theorem ty38_own {w : World} {cs : List Value} {c : D.Address} {G : List Nat} (h : ty38.own w cs c G) : cs = [.int .i64 c.Machine, .int .i64 c.Kind, .int .i64 c.Index] ∧ (All []).A w G := by
  obtain ⟨c0, d0, H0, K0, rfl, rfl, h0, c1, d1, H1, K1, rfl, rfl, h1, c2, d2, H2, K2, rfl, rfl, h2, hz, hk⟩ := h
  subst hz; subst hk
  obtain ⟨e0, k0⟩ := h0; subst e0; subst k0
  obtain ⟨e1, k1⟩ := h1; subst e1; subst k1
  obtain ⟨e2, k2⟩ := h2; subst e2; subst k2
  refine ⟨rfl, ?_⟩
  show (All _).A w _
  exact cast (congrArg _ (by simp)) (show (All _).A w ([]) from rfl)
theorem ty38_ownI {w : World} {c : D.Address}  {G : List Nat} (h : (All []).A w G) : ty38.own w [.int .i64 c.Machine, .int .i64 c.Kind, .int .i64 c.Index] c G := by
  have hz : G = [] := h
  subst hz
  exact cast (congrArg _ (by simp)) (show ty38.own w [.int .i64 c.Machine, .int .i64 c.Kind, .int .i64 c.Index] c (_) from ⟨_, _, _, _, rfl, rfl, ⟨rfl, rfl⟩, ⟨_, _, _, _, rfl, rfl, ⟨rfl, rfl⟩, ⟨_, _, _, _, rfl, rfl, ⟨rfl, rfl⟩, ⟨rfl, rfl⟩⟩⟩⟩)
theorem ty38_openS {W w : World} {B : List Res} {cs : List Value} {c : D.Address} (h : St W w (Own ty38 cs c :: B)) : cs = [.int .i64 c.Machine, .int .i64 c.Kind, .int .i64 c.Index] ∧ St W w ([] ++ B) := by
  obtain ⟨G, hA, _⟩ := h.sep.head
  obtain ⟨rfl, _⟩ := ty38_own hA
  refine ⟨rfl, St.splitAll (h.conv fun G hG => ?_)⟩
  exact (ty38_own hG).2
theorem ty38_shutS {W w : World} {B : List Res} {c : D.Address}  (h : St W w ([] ++ B)) : St W w (Own ty38 [.int .i64 c.Machine, .int .i64 c.Kind, .int .i64 c.Index] c :: B) := (St.fuseAll h).conv fun _ hG => ty38_ownI hG

def ty202 : Ty (List D.Address) := tSl 38 ty38
theorem ty202_form {w : World} {cs : List Value} {xs : (List D.Address)} (h : ty202.ro w cs xs) : ∃ A c, cs = [.slice A xs.length c] := slForm h

def ty204 : Ty D.ShardCell := tMap (fun c => (c.Kind, c.Level, c.Value, c.Data, c.Aux, ())) (tPair tInt (tPair tInt (tPair tInt (tPair ty72 (tPair ty202 tUnit)))))
theorem ty204_open {w : World} {cs : List Value} {c : D.ShardCell} (h : ty204.ro w cs c) : ∃ A0 k0 A1 k1, cs = [.int .i64 c.Kind, .int .i64 c.Level, .int .i64 c.Value, .slice A0 c.Data.length k0, .slice A1 c.Aux.length k1] ∧ ty72.ro w [.slice A0 c.Data.length k0] c.Data ∧ ty202.ro w [.slice A1 c.Aux.length k1] c.Aux := by
  obtain ⟨c0, d0, rfl, h0, c1, d1, rfl, h1, c2, d2, rfl, h2, c3, d3, rfl, h3, c4, d4, rfl, h4, hz⟩ := h
  subst hz
  subst h0
  subst h1
  subst h2
  obtain ⟨A3_, k3_, e3⟩ := ty72_form h3
  subst e3
  obtain ⟨A4_, k4_, e4⟩ := ty202_form h4
  subst e4
  exact ⟨A3_, k3_, A4_, k4_, rfl, h3, h4⟩
theorem ty204_shut {w : World} (c : D.ShardCell) {A0 : Option Addr} {k0 : Nat} {A1 : Option Addr} {k1 : Nat} (h0 : ty72.ro w [.slice A0 c.Data.length k0] c.Data) (h1 : ty202.ro w [.slice A1 c.Aux.length k1] c.Aux) : ty204.ro w [.int .i64 c.Kind, .int .i64 c.Level, .int .i64 c.Value, .slice A0 c.Data.length k0, .slice A1 c.Aux.length k1] c :=
  ⟨_, _, rfl, rfl, ⟨_, _, rfl, rfl, ⟨_, _, rfl, rfl, ⟨_, _, rfl, h0, ⟨_, _, rfl, h1, rfl⟩⟩⟩⟩⟩
theorem ty204_own {w : World} {cs : List Value} {c : D.ShardCell} {G : List Nat} (h : ty204.own w cs c G) : ∃ A0 k0 A1 k1, cs = [.int .i64 c.Kind, .int .i64 c.Level, .int .i64 c.Value, .slice A0 c.Data.length k0, .slice A1 c.Aux.length k1] ∧ (All [Own ty72 [.slice A0 c.Data.length k0] c.Data, Own ty202 [.slice A1 c.Aux.length k1] c.Aux]).A w G := by
  obtain ⟨c0, d0, H0, K0, rfl, rfl, h0, c1, d1, H1, K1, rfl, rfl, h1, c2, d2, H2, K2, rfl, rfl, h2, c3, d3, H3, K3, rfl, rfl, h3, c4, d4, H4, K4, rfl, rfl, h4, hz, hk⟩ := h
  subst hz; subst hk
  obtain ⟨e0, k0⟩ := h0; subst e0; subst k0
  obtain ⟨e1, k1⟩ := h1; subst e1; subst k1
  obtain ⟨e2, k2⟩ := h2; subst e2; subst k2
  obtain ⟨A3_, k3_, e3⟩ := ty72_form (ty72.own_ro h3)
  subst e3
  obtain ⟨A4_, k4_, e4⟩ := ty202_form (ty202.own_ro h4)
  subst e4
  refine ⟨A3_, k3_, A4_, k4_, rfl, ?_⟩
  show (All _).A w _
  exact cast (congrArg _ (by simp)) (show (All _).A w (H3 ++ (H4 ++ ([]))) from ⟨_, _, rfl, h3, ⟨_, _, rfl, h4, rfl⟩⟩)
theorem ty204_ownI {w : World} {c : D.ShardCell} {A0 : Option Addr} {k0 : Nat} {A1 : Option Addr} {k1 : Nat} {G : List Nat} (h : (All [Own ty72 [.slice A0 c.Data.length k0] c.Data, Own ty202 [.slice A1 c.Aux.length k1] c.Aux]).A w G) : ty204.own w [.int .i64 c.Kind, .int .i64 c.Level, .int .i64 c.Value, .slice A0 c.Data.length k0, .slice A1 c.Aux.length k1] c G := by
  obtain ⟨G0, R0, rfl, h0, G1, R1, rfl, h1, hz⟩ := h
  have hz' : R1 = [] := hz
  subst hz'
  exact cast (congrArg _ (by simp)) (show ty204.own w [.int .i64 c.Kind, .int .i64 c.Level, .int .i64 c.Value, .slice A0 c.Data.length k0, .slice A1 c.Aux.length k1] c (_) from ⟨_, _, _, _, rfl, rfl, ⟨rfl, rfl⟩, ⟨_, _, _, _, rfl, rfl, ⟨rfl, rfl⟩, ⟨_, _, _, _, rfl, rfl, ⟨rfl, rfl⟩, ⟨_, _, _, _, rfl, rfl, h0, ⟨_, _, _, _, rfl, rfl, h1, ⟨rfl, rfl⟩⟩⟩⟩⟩⟩)
theorem ty204_openS {W w : World} {B : List Res} {cs : List Value} {c : D.ShardCell} (h : St W w (Own ty204 cs c :: B)) : ∃ A0 k0 A1 k1, cs = [.int .i64 c.Kind, .int .i64 c.Level, .int .i64 c.Value, .slice A0 c.Data.length k0, .slice A1 c.Aux.length k1] ∧ St W w ([Own ty72 [.slice A0 c.Data.length k0] c.Data, Own ty202 [.slice A1 c.Aux.length k1] c.Aux] ++ B) := by
  obtain ⟨G, hA, _⟩ := h.sep.head
  obtain ⟨A0, k0, A1, k1, rfl, _⟩ := ty204_own hA
  refine ⟨A0, k0, A1, k1, rfl, St.splitAll (h.conv fun G hG => ?_)⟩
  obtain ⟨X0, Y0, X1, Y1, he, hh⟩ := ty204_own hG
  simp only [List.cons.injEq, Value.slice.injEq, and_true, true_and] at he
  obtain ⟨⟨rfl, rfl⟩, ⟨rfl, rfl⟩⟩ := he
  exact hh
theorem ty204_shutS {W w : World} {B : List Res} {c : D.ShardCell} {A0 : Option Addr} {k0 : Nat} {A1 : Option Addr} {k1 : Nat} (h : St W w ([Own ty72 [.slice A0 c.Data.length k0] c.Data, Own ty202 [.slice A1 c.Aux.length k1] c.Aux] ++ B)) : St W w (Own ty204 [.int .i64 c.Kind, .int .i64 c.Level, .int .i64 c.Value, .slice A0 c.Data.length k0, .slice A1 c.Aux.length k1] c :: B) := (St.fuseAll h).conv fun _ hG => ty204_ownI hG

def ty22 : Ty (List D.ShardCell) := tSl 204 ty204
theorem ty22_form {w : World} {cs : List Value} {xs : (List D.ShardCell)} (h : ty22.ro w cs xs) : ∃ A c, cs = [.slice A xs.length c] := slForm h

def ty209 : Ty D.ShardVar := tMap (fun c => (c.Used, c.Full, c.Held, ())) (tPair tBool (tPair tBool (tPair ty38 tUnit)))
theorem ty209_open {w : World} {cs : List Value} {c : D.ShardVar} (h : ty209.ro w cs c) : cs = [.bool c.Used, .bool c.Full, .int .i64 c.Held.Machine, .int .i64 c.Held.Kind, .int .i64 c.Held.Index] := by
  obtain ⟨c0, d0, rfl, h0, c1, d1, rfl, h1, c2, d2, rfl, h2, hz⟩ := h
  subst hz
  subst h0
  subst h1
  have e2 := ty38_open h2
  subst e2
  rfl
theorem ty209_shut {w : World} (c : D.ShardVar)   : ty209.ro w [.bool c.Used, .bool c.Full, .int .i64 c.Held.Machine, .int .i64 c.Held.Kind, .int .i64 c.Held.Index] c :=
  ⟨_, _, rfl, rfl, ⟨_, _, rfl, rfl, ⟨_, _, rfl, (ty38_shut c.Held ), rfl⟩⟩⟩
theorem ty209_own {w : World} {cs : List Value} {c : D.ShardVar} {G : List Nat} (h : ty209.own w cs c G) : cs = [.bool c.Used, .bool c.Full, .int .i64 c.Held.Machine, .int .i64 c.Held.Kind, .int .i64 c.Held.Index] ∧ (All []).A w G := by
  obtain ⟨c0, d0, H0, K0, rfl, rfl, h0, c1, d1, H1, K1, rfl, rfl, h1, c2, d2, H2, K2, rfl, rfl, h2, hz, hk⟩ := h
  subst hz; subst hk
  obtain ⟨e0, k0⟩ := h0; subst e0; subst k0
  obtain ⟨e1, k1⟩ := h1; subst e1; subst k1
  obtain ⟨e2, g2⟩ := ty38_own h2
  subst e2
  refine ⟨rfl, ?_⟩
  exact cast (congrArg _ (by simp)) g2
theorem ty209_ownI {w : World} {c : D.ShardVar}  {G : List Nat} (h : (All []).A w G) : ty209.own w [.bool c.Used, .bool c.Full, .int .i64 c.Held.Machine, .int .i64 c.Held.Kind, .int .i64 c.Held.Index] c G := by
  have hz : G = [] := h
  subst hz
  exact cast (congrArg _ (by simp)) (show ty209.own w [.bool c.Used, .bool c.Full, .int .i64 c.Held.Machine, .int .i64 c.Held.Kind, .int .i64 c.Held.Index] c (_) from ⟨_, _, _, _, rfl, rfl, ⟨rfl, rfl⟩, ⟨_, _, _, _, rfl, rfl, ⟨rfl, rfl⟩, ⟨_, _, _, _, rfl, rfl, (ty38_ownI (c := c.Held) rfl), ⟨rfl, rfl⟩⟩⟩⟩)
theorem ty209_openS {W w : World} {B : List Res} {cs : List Value} {c : D.ShardVar} (h : St W w (Own ty209 cs c :: B)) : cs = [.bool c.Used, .bool c.Full, .int .i64 c.Held.Machine, .int .i64 c.Held.Kind, .int .i64 c.Held.Index] ∧ St W w ([] ++ B) := by
  obtain ⟨G, hA, _⟩ := h.sep.head
  obtain ⟨rfl, _⟩ := ty209_own hA
  refine ⟨rfl, St.splitAll (h.conv fun G hG => ?_)⟩
  exact (ty209_own hG).2
theorem ty209_shutS {W w : World} {B : List Res} {c : D.ShardVar}  (h : St W w ([] ++ B)) : St W w (Own ty209 [.bool c.Used, .bool c.Full, .int .i64 c.Held.Machine, .int .i64 c.Held.Kind, .int .i64 c.Held.Index] c :: B) := (St.fuseAll h).conv fun _ hG => ty209_ownI hG

def ty23 : Ty (List D.ShardVar) := tSl 209 ty209
theorem ty23_form {w : World} {cs : List Value} {xs : (List D.ShardVar)} (h : ty23.ro w cs xs) : ∃ A c, cs = [.slice A xs.length c] := slForm h

def ty212 : Ty D.ShardRedex := tMap (fun c => (c.A, c.B, ())) (tPair ty38 (tPair ty38 tUnit))
theorem ty212_open {w : World} {cs : List Value} {c : D.ShardRedex} (h : ty212.ro w cs c) : cs = [.int .i64 c.A.Machine, .int .i64 c.A.Kind, .int .i64 c.A.Index, .int .i64 c.B.Machine, .int .i64 c.B.Kind, .int .i64 c.B.Index] := by
  obtain ⟨c0, d0, rfl, h0, c1, d1, rfl, h1, hz⟩ := h
  subst hz
  have e0 := ty38_open h0
  subst e0
  have e1 := ty38_open h1
  subst e1
  rfl
theorem ty212_shut {w : World} (c : D.ShardRedex)   : ty212.ro w [.int .i64 c.A.Machine, .int .i64 c.A.Kind, .int .i64 c.A.Index, .int .i64 c.B.Machine, .int .i64 c.B.Kind, .int .i64 c.B.Index] c :=
  ⟨_, _, rfl, (ty38_shut c.A ), ⟨_, _, rfl, (ty38_shut c.B ), rfl⟩⟩
theorem ty212_own {w : World} {cs : List Value} {c : D.ShardRedex} {G : List Nat} (h : ty212.own w cs c G) : cs = [.int .i64 c.A.Machine, .int .i64 c.A.Kind, .int .i64 c.A.Index, .int .i64 c.B.Machine, .int .i64 c.B.Kind, .int .i64 c.B.Index] ∧ (All []).A w G := by
  obtain ⟨c0, d0, H0, K0, rfl, rfl, h0, c1, d1, H1, K1, rfl, rfl, h1, hz, hk⟩ := h
  subst hz; subst hk
  obtain ⟨e0, g0⟩ := ty38_own h0
  subst e0
  obtain ⟨e1, g1⟩ := ty38_own h1
  subst e1
  refine ⟨rfl, ?_⟩
  exact cast (congrArg _ (by simp)) (allApp g0 g1)
theorem ty212_ownI {w : World} {c : D.ShardRedex}  {G : List Nat} (h : (All []).A w G) : ty212.own w [.int .i64 c.A.Machine, .int .i64 c.A.Kind, .int .i64 c.A.Index, .int .i64 c.B.Machine, .int .i64 c.B.Kind, .int .i64 c.B.Index] c G := by
  have hz : G = [] := h
  subst hz
  exact cast (congrArg _ (by simp)) (show ty212.own w [.int .i64 c.A.Machine, .int .i64 c.A.Kind, .int .i64 c.A.Index, .int .i64 c.B.Machine, .int .i64 c.B.Kind, .int .i64 c.B.Index] c (_) from ⟨_, _, _, _, rfl, rfl, (ty38_ownI (c := c.A) rfl), ⟨_, _, _, _, rfl, rfl, (ty38_ownI (c := c.B) rfl), ⟨rfl, rfl⟩⟩⟩)
theorem ty212_openS {W w : World} {B : List Res} {cs : List Value} {c : D.ShardRedex} (h : St W w (Own ty212 cs c :: B)) : cs = [.int .i64 c.A.Machine, .int .i64 c.A.Kind, .int .i64 c.A.Index, .int .i64 c.B.Machine, .int .i64 c.B.Kind, .int .i64 c.B.Index] ∧ St W w ([] ++ B) := by
  obtain ⟨G, hA, _⟩ := h.sep.head
  obtain ⟨rfl, _⟩ := ty212_own hA
  refine ⟨rfl, St.splitAll (h.conv fun G hG => ?_)⟩
  exact (ty212_own hG).2
theorem ty212_shutS {W w : World} {B : List Res} {c : D.ShardRedex}  (h : St W w ([] ++ B)) : St W w (Own ty212 [.int .i64 c.A.Machine, .int .i64 c.A.Kind, .int .i64 c.A.Index, .int .i64 c.B.Machine, .int .i64 c.B.Kind, .int .i64 c.B.Index] c :: B) := (St.fuseAll h).conv fun _ hG => ty212_ownI hG

def ty24 : Ty (List D.ShardRedex) := tSl 212 ty212
theorem ty24_form {w : World} {cs : List Value} {xs : (List D.ShardRedex)} (h : ty24.ro w cs xs) : ∃ A c, cs = [.slice A xs.length c] := slForm h

def ty26 : Ty D.Shard := tMap (fun c => (c.Cells, c.Vars, c.Redexes, ())) (tPair ty22 (tPair ty23 (tPair ty24 tUnit)))
theorem ty26_open {w : World} {cs : List Value} {c : D.Shard} (h : ty26.ro w cs c) : ∃ A0 k0 A1 k1 A2 k2, cs = [.slice A0 c.Cells.length k0, .slice A1 c.Vars.length k1, .slice A2 c.Redexes.length k2] ∧ ty22.ro w [.slice A0 c.Cells.length k0] c.Cells ∧ ty23.ro w [.slice A1 c.Vars.length k1] c.Vars ∧ ty24.ro w [.slice A2 c.Redexes.length k2] c.Redexes := by
  obtain ⟨c0, d0, rfl, h0, c1, d1, rfl, h1, c2, d2, rfl, h2, hz⟩ := h
  subst hz
  obtain ⟨A0_, k0_, e0⟩ := ty22_form h0
  subst e0
  obtain ⟨A1_, k1_, e1⟩ := ty23_form h1
  subst e1
  obtain ⟨A2_, k2_, e2⟩ := ty24_form h2
  subst e2
  exact ⟨A0_, k0_, A1_, k1_, A2_, k2_, rfl, h0, h1, h2⟩
theorem ty26_shut {w : World} (c : D.Shard) {A0 : Option Addr} {k0 : Nat} {A1 : Option Addr} {k1 : Nat} {A2 : Option Addr} {k2 : Nat} (h0 : ty22.ro w [.slice A0 c.Cells.length k0] c.Cells) (h1 : ty23.ro w [.slice A1 c.Vars.length k1] c.Vars) (h2 : ty24.ro w [.slice A2 c.Redexes.length k2] c.Redexes) : ty26.ro w [.slice A0 c.Cells.length k0, .slice A1 c.Vars.length k1, .slice A2 c.Redexes.length k2] c :=
  ⟨_, _, rfl, h0, ⟨_, _, rfl, h1, ⟨_, _, rfl, h2, rfl⟩⟩⟩
theorem ty26_own {w : World} {cs : List Value} {c : D.Shard} {G : List Nat} (h : ty26.own w cs c G) : ∃ A0 k0 A1 k1 A2 k2, cs = [.slice A0 c.Cells.length k0, .slice A1 c.Vars.length k1, .slice A2 c.Redexes.length k2] ∧ (All [Own ty22 [.slice A0 c.Cells.length k0] c.Cells, Own ty23 [.slice A1 c.Vars.length k1] c.Vars, Own ty24 [.slice A2 c.Redexes.length k2] c.Redexes]).A w G := by
  obtain ⟨c0, d0, H0, K0, rfl, rfl, h0, c1, d1, H1, K1, rfl, rfl, h1, c2, d2, H2, K2, rfl, rfl, h2, hz, hk⟩ := h
  subst hz; subst hk
  obtain ⟨A0_, k0_, e0⟩ := ty22_form (ty22.own_ro h0)
  subst e0
  obtain ⟨A1_, k1_, e1⟩ := ty23_form (ty23.own_ro h1)
  subst e1
  obtain ⟨A2_, k2_, e2⟩ := ty24_form (ty24.own_ro h2)
  subst e2
  refine ⟨A0_, k0_, A1_, k1_, A2_, k2_, rfl, ?_⟩
  show (All _).A w _
  exact cast (congrArg _ (by simp)) (show (All _).A w (H0 ++ (H1 ++ (H2 ++ ([])))) from ⟨_, _, rfl, h0, ⟨_, _, rfl, h1, ⟨_, _, rfl, h2, rfl⟩⟩⟩)
theorem ty26_ownI {w : World} {c : D.Shard} {A0 : Option Addr} {k0 : Nat} {A1 : Option Addr} {k1 : Nat} {A2 : Option Addr} {k2 : Nat} {G : List Nat} (h : (All [Own ty22 [.slice A0 c.Cells.length k0] c.Cells, Own ty23 [.slice A1 c.Vars.length k1] c.Vars, Own ty24 [.slice A2 c.Redexes.length k2] c.Redexes]).A w G) : ty26.own w [.slice A0 c.Cells.length k0, .slice A1 c.Vars.length k1, .slice A2 c.Redexes.length k2] c G := by
  obtain ⟨G0, R0, rfl, h0, G1, R1, rfl, h1, G2, R2, rfl, h2, hz⟩ := h
  have hz' : R2 = [] := hz
  subst hz'
  exact cast (congrArg _ (by simp)) (show ty26.own w [.slice A0 c.Cells.length k0, .slice A1 c.Vars.length k1, .slice A2 c.Redexes.length k2] c (_) from ⟨_, _, _, _, rfl, rfl, h0, ⟨_, _, _, _, rfl, rfl, h1, ⟨_, _, _, _, rfl, rfl, h2, ⟨rfl, rfl⟩⟩⟩⟩)
theorem ty26_openS {W w : World} {B : List Res} {cs : List Value} {c : D.Shard} (h : St W w (Own ty26 cs c :: B)) : ∃ A0 k0 A1 k1 A2 k2, cs = [.slice A0 c.Cells.length k0, .slice A1 c.Vars.length k1, .slice A2 c.Redexes.length k2] ∧ St W w ([Own ty22 [.slice A0 c.Cells.length k0] c.Cells, Own ty23 [.slice A1 c.Vars.length k1] c.Vars, Own ty24 [.slice A2 c.Redexes.length k2] c.Redexes] ++ B) := by
  obtain ⟨G, hA, _⟩ := h.sep.head
  obtain ⟨A0, k0, A1, k1, A2, k2, rfl, _⟩ := ty26_own hA
  refine ⟨A0, k0, A1, k1, A2, k2, rfl, St.splitAll (h.conv fun G hG => ?_)⟩
  obtain ⟨X0, Y0, X1, Y1, X2, Y2, he, hh⟩ := ty26_own hG
  simp only [List.cons.injEq, Value.slice.injEq, and_true, true_and] at he
  obtain ⟨⟨rfl, rfl⟩, ⟨rfl, rfl⟩, ⟨rfl, rfl⟩⟩ := he
  exact hh
theorem ty26_shutS {W w : World} {B : List Res} {c : D.Shard} {A0 : Option Addr} {k0 : Nat} {A1 : Option Addr} {k1 : Nat} {A2 : Option Addr} {k2 : Nat} (h : St W w ([Own ty22 [.slice A0 c.Cells.length k0] c.Cells, Own ty23 [.slice A1 c.Vars.length k1] c.Vars, Own ty24 [.slice A2 c.Redexes.length k2] c.Redexes] ++ B)) : St W w (Own ty26 [.slice A0 c.Cells.length k0, .slice A1 c.Vars.length k1, .slice A2 c.Redexes.length k2] c :: B) := (St.fuseAll h).conv fun _ hG => ty26_ownI hG

def ty44 : Ty D.Address := tMap (fun c => (c.Machine, c.Kind, c.Index, ())) (tPair tInt (tPair tInt (tPair tInt tUnit)))
theorem ty44_open {w : World} {cs : List Value} {c : D.Address} (h : ty44.ro w cs c) : cs = [.int .i64 c.Machine, .int .i64 c.Kind, .int .i64 c.Index] := by
  obtain ⟨c0, d0, rfl, h0, c1, d1, rfl, h1, c2, d2, rfl, h2, hz⟩ := h
  subst hz
  subst h0
  subst h1
  subst h2
  rfl
theorem ty44_shut {w : World} (c : D.Address)   : ty44.ro w [.int .i64 c.Machine, .int .i64 c.Kind, .int .i64 c.Index] c :=
  ⟨_, _, rfl, rfl, ⟨_, _, rfl, rfl, ⟨_, _, rfl, rfl, rfl⟩⟩⟩
theorem ty44_own {w : World} {cs : List Value} {c : D.Address} {G : List Nat} (h : ty44.own w cs c G) : cs = [.int .i64 c.Machine, .int .i64 c.Kind, .int .i64 c.Index] ∧ (All []).A w G := by
  obtain ⟨c0, d0, H0, K0, rfl, rfl, h0, c1, d1, H1, K1, rfl, rfl, h1, c2, d2, H2, K2, rfl, rfl, h2, hz, hk⟩ := h
  subst hz; subst hk
  obtain ⟨e0, k0⟩ := h0; subst e0; subst k0
  obtain ⟨e1, k1⟩ := h1; subst e1; subst k1
  obtain ⟨e2, k2⟩ := h2; subst e2; subst k2
  refine ⟨rfl, ?_⟩
  show (All _).A w _
  exact cast (congrArg _ (by simp)) (show (All _).A w ([]) from rfl)
theorem ty44_ownI {w : World} {c : D.Address}  {G : List Nat} (h : (All []).A w G) : ty44.own w [.int .i64 c.Machine, .int .i64 c.Kind, .int .i64 c.Index] c G := by
  have hz : G = [] := h
  subst hz
  exact cast (congrArg _ (by simp)) (show ty44.own w [.int .i64 c.Machine, .int .i64 c.Kind, .int .i64 c.Index] c (_) from ⟨_, _, _, _, rfl, rfl, ⟨rfl, rfl⟩, ⟨_, _, _, _, rfl, rfl, ⟨rfl, rfl⟩, ⟨_, _, _, _, rfl, rfl, ⟨rfl, rfl⟩, ⟨rfl, rfl⟩⟩⟩⟩)
theorem ty44_openS {W w : World} {B : List Res} {cs : List Value} {c : D.Address} (h : St W w (Own ty44 cs c :: B)) : cs = [.int .i64 c.Machine, .int .i64 c.Kind, .int .i64 c.Index] ∧ St W w ([] ++ B) := by
  obtain ⟨G, hA, _⟩ := h.sep.head
  obtain ⟨rfl, _⟩ := ty44_own hA
  refine ⟨rfl, St.splitAll (h.conv fun G hG => ?_)⟩
  exact (ty44_own hG).2
theorem ty44_shutS {W w : World} {B : List Res} {c : D.Address}  (h : St W w ([] ++ B)) : St W w (Own ty44 [.int .i64 c.Machine, .int .i64 c.Kind, .int .i64 c.Index] c :: B) := (St.fuseAll h).conv fun _ hG => ty44_ownI hG

def ty121 : Ty (List D.Address) := tSl 44 ty44
theorem ty121_form {w : World} {cs : List Value} {xs : (List D.Address)} (h : ty121.ro w cs xs) : ∃ A c, cs = [.slice A xs.length c] := slForm h

def ty123 : Ty D.ShardCell := tMap (fun c => (c.Kind, c.Level, c.Value, c.Data, c.Aux, ())) (tPair tInt (tPair tInt (tPair tInt (tPair ty72 (tPair ty121 tUnit)))))
theorem ty123_open {w : World} {cs : List Value} {c : D.ShardCell} (h : ty123.ro w cs c) : ∃ A0 k0 A1 k1, cs = [.int .i64 c.Kind, .int .i64 c.Level, .int .i64 c.Value, .slice A0 c.Data.length k0, .slice A1 c.Aux.length k1] ∧ ty72.ro w [.slice A0 c.Data.length k0] c.Data ∧ ty121.ro w [.slice A1 c.Aux.length k1] c.Aux := by
  obtain ⟨c0, d0, rfl, h0, c1, d1, rfl, h1, c2, d2, rfl, h2, c3, d3, rfl, h3, c4, d4, rfl, h4, hz⟩ := h
  subst hz
  subst h0
  subst h1
  subst h2
  obtain ⟨A3_, k3_, e3⟩ := ty72_form h3
  subst e3
  obtain ⟨A4_, k4_, e4⟩ := ty121_form h4
  subst e4
  exact ⟨A3_, k3_, A4_, k4_, rfl, h3, h4⟩
theorem ty123_shut {w : World} (c : D.ShardCell) {A0 : Option Addr} {k0 : Nat} {A1 : Option Addr} {k1 : Nat} (h0 : ty72.ro w [.slice A0 c.Data.length k0] c.Data) (h1 : ty121.ro w [.slice A1 c.Aux.length k1] c.Aux) : ty123.ro w [.int .i64 c.Kind, .int .i64 c.Level, .int .i64 c.Value, .slice A0 c.Data.length k0, .slice A1 c.Aux.length k1] c :=
  ⟨_, _, rfl, rfl, ⟨_, _, rfl, rfl, ⟨_, _, rfl, rfl, ⟨_, _, rfl, h0, ⟨_, _, rfl, h1, rfl⟩⟩⟩⟩⟩
theorem ty123_own {w : World} {cs : List Value} {c : D.ShardCell} {G : List Nat} (h : ty123.own w cs c G) : ∃ A0 k0 A1 k1, cs = [.int .i64 c.Kind, .int .i64 c.Level, .int .i64 c.Value, .slice A0 c.Data.length k0, .slice A1 c.Aux.length k1] ∧ (All [Own ty72 [.slice A0 c.Data.length k0] c.Data, Own ty121 [.slice A1 c.Aux.length k1] c.Aux]).A w G := by
  obtain ⟨c0, d0, H0, K0, rfl, rfl, h0, c1, d1, H1, K1, rfl, rfl, h1, c2, d2, H2, K2, rfl, rfl, h2, c3, d3, H3, K3, rfl, rfl, h3, c4, d4, H4, K4, rfl, rfl, h4, hz, hk⟩ := h
  subst hz; subst hk
  obtain ⟨e0, k0⟩ := h0; subst e0; subst k0
  obtain ⟨e1, k1⟩ := h1; subst e1; subst k1
  obtain ⟨e2, k2⟩ := h2; subst e2; subst k2
  obtain ⟨A3_, k3_, e3⟩ := ty72_form (ty72.own_ro h3)
  subst e3
  obtain ⟨A4_, k4_, e4⟩ := ty121_form (ty121.own_ro h4)
  subst e4
  refine ⟨A3_, k3_, A4_, k4_, rfl, ?_⟩
  show (All _).A w _
  exact cast (congrArg _ (by simp)) (show (All _).A w (H3 ++ (H4 ++ ([]))) from ⟨_, _, rfl, h3, ⟨_, _, rfl, h4, rfl⟩⟩)
theorem ty123_ownI {w : World} {c : D.ShardCell} {A0 : Option Addr} {k0 : Nat} {A1 : Option Addr} {k1 : Nat} {G : List Nat} (h : (All [Own ty72 [.slice A0 c.Data.length k0] c.Data, Own ty121 [.slice A1 c.Aux.length k1] c.Aux]).A w G) : ty123.own w [.int .i64 c.Kind, .int .i64 c.Level, .int .i64 c.Value, .slice A0 c.Data.length k0, .slice A1 c.Aux.length k1] c G := by
  obtain ⟨G0, R0, rfl, h0, G1, R1, rfl, h1, hz⟩ := h
  have hz' : R1 = [] := hz
  subst hz'
  exact cast (congrArg _ (by simp)) (show ty123.own w [.int .i64 c.Kind, .int .i64 c.Level, .int .i64 c.Value, .slice A0 c.Data.length k0, .slice A1 c.Aux.length k1] c (_) from ⟨_, _, _, _, rfl, rfl, ⟨rfl, rfl⟩, ⟨_, _, _, _, rfl, rfl, ⟨rfl, rfl⟩, ⟨_, _, _, _, rfl, rfl, ⟨rfl, rfl⟩, ⟨_, _, _, _, rfl, rfl, h0, ⟨_, _, _, _, rfl, rfl, h1, ⟨rfl, rfl⟩⟩⟩⟩⟩⟩)
theorem ty123_openS {W w : World} {B : List Res} {cs : List Value} {c : D.ShardCell} (h : St W w (Own ty123 cs c :: B)) : ∃ A0 k0 A1 k1, cs = [.int .i64 c.Kind, .int .i64 c.Level, .int .i64 c.Value, .slice A0 c.Data.length k0, .slice A1 c.Aux.length k1] ∧ St W w ([Own ty72 [.slice A0 c.Data.length k0] c.Data, Own ty121 [.slice A1 c.Aux.length k1] c.Aux] ++ B) := by
  obtain ⟨G, hA, _⟩ := h.sep.head
  obtain ⟨A0, k0, A1, k1, rfl, _⟩ := ty123_own hA
  refine ⟨A0, k0, A1, k1, rfl, St.splitAll (h.conv fun G hG => ?_)⟩
  obtain ⟨X0, Y0, X1, Y1, he, hh⟩ := ty123_own hG
  simp only [List.cons.injEq, Value.slice.injEq, and_true, true_and] at he
  obtain ⟨⟨rfl, rfl⟩, ⟨rfl, rfl⟩⟩ := he
  exact hh
theorem ty123_shutS {W w : World} {B : List Res} {c : D.ShardCell} {A0 : Option Addr} {k0 : Nat} {A1 : Option Addr} {k1 : Nat} (h : St W w ([Own ty72 [.slice A0 c.Data.length k0] c.Data, Own ty121 [.slice A1 c.Aux.length k1] c.Aux] ++ B)) : St W w (Own ty123 [.int .i64 c.Kind, .int .i64 c.Level, .int .i64 c.Value, .slice A0 c.Data.length k0, .slice A1 c.Aux.length k1] c :: B) := (St.fuseAll h).conv fun _ hG => ty123_ownI hG

def ty29 : Ty (List D.ShardCell) := tSl 123 ty123
theorem ty29_form {w : World} {cs : List Value} {xs : (List D.ShardCell)} (h : ty29.ro w cs xs) : ∃ A c, cs = [.slice A xs.length c] := slForm h

def ty125 : Ty D.ShardVar := tMap (fun c => (c.Used, c.Full, c.Held, ())) (tPair tBool (tPair tBool (tPair ty44 tUnit)))
theorem ty125_open {w : World} {cs : List Value} {c : D.ShardVar} (h : ty125.ro w cs c) : cs = [.bool c.Used, .bool c.Full, .int .i64 c.Held.Machine, .int .i64 c.Held.Kind, .int .i64 c.Held.Index] := by
  obtain ⟨c0, d0, rfl, h0, c1, d1, rfl, h1, c2, d2, rfl, h2, hz⟩ := h
  subst hz
  subst h0
  subst h1
  have e2 := ty44_open h2
  subst e2
  rfl
theorem ty125_shut {w : World} (c : D.ShardVar)   : ty125.ro w [.bool c.Used, .bool c.Full, .int .i64 c.Held.Machine, .int .i64 c.Held.Kind, .int .i64 c.Held.Index] c :=
  ⟨_, _, rfl, rfl, ⟨_, _, rfl, rfl, ⟨_, _, rfl, (ty44_shut c.Held ), rfl⟩⟩⟩
theorem ty125_own {w : World} {cs : List Value} {c : D.ShardVar} {G : List Nat} (h : ty125.own w cs c G) : cs = [.bool c.Used, .bool c.Full, .int .i64 c.Held.Machine, .int .i64 c.Held.Kind, .int .i64 c.Held.Index] ∧ (All []).A w G := by
  obtain ⟨c0, d0, H0, K0, rfl, rfl, h0, c1, d1, H1, K1, rfl, rfl, h1, c2, d2, H2, K2, rfl, rfl, h2, hz, hk⟩ := h
  subst hz; subst hk
  obtain ⟨e0, k0⟩ := h0; subst e0; subst k0
  obtain ⟨e1, k1⟩ := h1; subst e1; subst k1
  obtain ⟨e2, g2⟩ := ty44_own h2
  subst e2
  refine ⟨rfl, ?_⟩
  exact cast (congrArg _ (by simp)) g2
theorem ty125_ownI {w : World} {c : D.ShardVar}  {G : List Nat} (h : (All []).A w G) : ty125.own w [.bool c.Used, .bool c.Full, .int .i64 c.Held.Machine, .int .i64 c.Held.Kind, .int .i64 c.Held.Index] c G := by
  have hz : G = [] := h
  subst hz
  exact cast (congrArg _ (by simp)) (show ty125.own w [.bool c.Used, .bool c.Full, .int .i64 c.Held.Machine, .int .i64 c.Held.Kind, .int .i64 c.Held.Index] c (_) from ⟨_, _, _, _, rfl, rfl, ⟨rfl, rfl⟩, ⟨_, _, _, _, rfl, rfl, ⟨rfl, rfl⟩, ⟨_, _, _, _, rfl, rfl, (ty44_ownI (c := c.Held) rfl), ⟨rfl, rfl⟩⟩⟩⟩)
theorem ty125_openS {W w : World} {B : List Res} {cs : List Value} {c : D.ShardVar} (h : St W w (Own ty125 cs c :: B)) : cs = [.bool c.Used, .bool c.Full, .int .i64 c.Held.Machine, .int .i64 c.Held.Kind, .int .i64 c.Held.Index] ∧ St W w ([] ++ B) := by
  obtain ⟨G, hA, _⟩ := h.sep.head
  obtain ⟨rfl, _⟩ := ty125_own hA
  refine ⟨rfl, St.splitAll (h.conv fun G hG => ?_)⟩
  exact (ty125_own hG).2
theorem ty125_shutS {W w : World} {B : List Res} {c : D.ShardVar}  (h : St W w ([] ++ B)) : St W w (Own ty125 [.bool c.Used, .bool c.Full, .int .i64 c.Held.Machine, .int .i64 c.Held.Kind, .int .i64 c.Held.Index] c :: B) := (St.fuseAll h).conv fun _ hG => ty125_ownI hG

def ty30 : Ty (List D.ShardVar) := tSl 125 ty125
theorem ty30_form {w : World} {cs : List Value} {xs : (List D.ShardVar)} (h : ty30.ro w cs xs) : ∃ A c, cs = [.slice A xs.length c] := slForm h

def ty127 : Ty D.ShardRedex := tMap (fun c => (c.A, c.B, ())) (tPair ty44 (tPair ty44 tUnit))
theorem ty127_open {w : World} {cs : List Value} {c : D.ShardRedex} (h : ty127.ro w cs c) : cs = [.int .i64 c.A.Machine, .int .i64 c.A.Kind, .int .i64 c.A.Index, .int .i64 c.B.Machine, .int .i64 c.B.Kind, .int .i64 c.B.Index] := by
  obtain ⟨c0, d0, rfl, h0, c1, d1, rfl, h1, hz⟩ := h
  subst hz
  have e0 := ty44_open h0
  subst e0
  have e1 := ty44_open h1
  subst e1
  rfl
theorem ty127_shut {w : World} (c : D.ShardRedex)   : ty127.ro w [.int .i64 c.A.Machine, .int .i64 c.A.Kind, .int .i64 c.A.Index, .int .i64 c.B.Machine, .int .i64 c.B.Kind, .int .i64 c.B.Index] c :=
  ⟨_, _, rfl, (ty44_shut c.A ), ⟨_, _, rfl, (ty44_shut c.B ), rfl⟩⟩
theorem ty127_own {w : World} {cs : List Value} {c : D.ShardRedex} {G : List Nat} (h : ty127.own w cs c G) : cs = [.int .i64 c.A.Machine, .int .i64 c.A.Kind, .int .i64 c.A.Index, .int .i64 c.B.Machine, .int .i64 c.B.Kind, .int .i64 c.B.Index] ∧ (All []).A w G := by
  obtain ⟨c0, d0, H0, K0, rfl, rfl, h0, c1, d1, H1, K1, rfl, rfl, h1, hz, hk⟩ := h
  subst hz; subst hk
  obtain ⟨e0, g0⟩ := ty44_own h0
  subst e0
  obtain ⟨e1, g1⟩ := ty44_own h1
  subst e1
  refine ⟨rfl, ?_⟩
  exact cast (congrArg _ (by simp)) (allApp g0 g1)
theorem ty127_ownI {w : World} {c : D.ShardRedex}  {G : List Nat} (h : (All []).A w G) : ty127.own w [.int .i64 c.A.Machine, .int .i64 c.A.Kind, .int .i64 c.A.Index, .int .i64 c.B.Machine, .int .i64 c.B.Kind, .int .i64 c.B.Index] c G := by
  have hz : G = [] := h
  subst hz
  exact cast (congrArg _ (by simp)) (show ty127.own w [.int .i64 c.A.Machine, .int .i64 c.A.Kind, .int .i64 c.A.Index, .int .i64 c.B.Machine, .int .i64 c.B.Kind, .int .i64 c.B.Index] c (_) from ⟨_, _, _, _, rfl, rfl, (ty44_ownI (c := c.A) rfl), ⟨_, _, _, _, rfl, rfl, (ty44_ownI (c := c.B) rfl), ⟨rfl, rfl⟩⟩⟩)
theorem ty127_openS {W w : World} {B : List Res} {cs : List Value} {c : D.ShardRedex} (h : St W w (Own ty127 cs c :: B)) : cs = [.int .i64 c.A.Machine, .int .i64 c.A.Kind, .int .i64 c.A.Index, .int .i64 c.B.Machine, .int .i64 c.B.Kind, .int .i64 c.B.Index] ∧ St W w ([] ++ B) := by
  obtain ⟨G, hA, _⟩ := h.sep.head
  obtain ⟨rfl, _⟩ := ty127_own hA
  refine ⟨rfl, St.splitAll (h.conv fun G hG => ?_)⟩
  exact (ty127_own hG).2
theorem ty127_shutS {W w : World} {B : List Res} {c : D.ShardRedex}  (h : St W w ([] ++ B)) : St W w (Own ty127 [.int .i64 c.A.Machine, .int .i64 c.A.Kind, .int .i64 c.A.Index, .int .i64 c.B.Machine, .int .i64 c.B.Kind, .int .i64 c.B.Index] c :: B) := (St.fuseAll h).conv fun _ hG => ty127_ownI hG

def ty31 : Ty (List D.ShardRedex) := tSl 127 ty127
theorem ty31_form {w : World} {cs : List Value} {xs : (List D.ShardRedex)} (h : ty31.ro w cs xs) : ∃ A c, cs = [.slice A xs.length c] := slForm h

def ty33 : Ty D.Shard := tMap (fun c => (c.Cells, c.Vars, c.Redexes, ())) (tPair ty29 (tPair ty30 (tPair ty31 tUnit)))
theorem ty33_open {w : World} {cs : List Value} {c : D.Shard} (h : ty33.ro w cs c) : ∃ A0 k0 A1 k1 A2 k2, cs = [.slice A0 c.Cells.length k0, .slice A1 c.Vars.length k1, .slice A2 c.Redexes.length k2] ∧ ty29.ro w [.slice A0 c.Cells.length k0] c.Cells ∧ ty30.ro w [.slice A1 c.Vars.length k1] c.Vars ∧ ty31.ro w [.slice A2 c.Redexes.length k2] c.Redexes := by
  obtain ⟨c0, d0, rfl, h0, c1, d1, rfl, h1, c2, d2, rfl, h2, hz⟩ := h
  subst hz
  obtain ⟨A0_, k0_, e0⟩ := ty29_form h0
  subst e0
  obtain ⟨A1_, k1_, e1⟩ := ty30_form h1
  subst e1
  obtain ⟨A2_, k2_, e2⟩ := ty31_form h2
  subst e2
  exact ⟨A0_, k0_, A1_, k1_, A2_, k2_, rfl, h0, h1, h2⟩
theorem ty33_shut {w : World} (c : D.Shard) {A0 : Option Addr} {k0 : Nat} {A1 : Option Addr} {k1 : Nat} {A2 : Option Addr} {k2 : Nat} (h0 : ty29.ro w [.slice A0 c.Cells.length k0] c.Cells) (h1 : ty30.ro w [.slice A1 c.Vars.length k1] c.Vars) (h2 : ty31.ro w [.slice A2 c.Redexes.length k2] c.Redexes) : ty33.ro w [.slice A0 c.Cells.length k0, .slice A1 c.Vars.length k1, .slice A2 c.Redexes.length k2] c :=
  ⟨_, _, rfl, h0, ⟨_, _, rfl, h1, ⟨_, _, rfl, h2, rfl⟩⟩⟩
theorem ty33_own {w : World} {cs : List Value} {c : D.Shard} {G : List Nat} (h : ty33.own w cs c G) : ∃ A0 k0 A1 k1 A2 k2, cs = [.slice A0 c.Cells.length k0, .slice A1 c.Vars.length k1, .slice A2 c.Redexes.length k2] ∧ (All [Own ty29 [.slice A0 c.Cells.length k0] c.Cells, Own ty30 [.slice A1 c.Vars.length k1] c.Vars, Own ty31 [.slice A2 c.Redexes.length k2] c.Redexes]).A w G := by
  obtain ⟨c0, d0, H0, K0, rfl, rfl, h0, c1, d1, H1, K1, rfl, rfl, h1, c2, d2, H2, K2, rfl, rfl, h2, hz, hk⟩ := h
  subst hz; subst hk
  obtain ⟨A0_, k0_, e0⟩ := ty29_form (ty29.own_ro h0)
  subst e0
  obtain ⟨A1_, k1_, e1⟩ := ty30_form (ty30.own_ro h1)
  subst e1
  obtain ⟨A2_, k2_, e2⟩ := ty31_form (ty31.own_ro h2)
  subst e2
  refine ⟨A0_, k0_, A1_, k1_, A2_, k2_, rfl, ?_⟩
  show (All _).A w _
  exact cast (congrArg _ (by simp)) (show (All _).A w (H0 ++ (H1 ++ (H2 ++ ([])))) from ⟨_, _, rfl, h0, ⟨_, _, rfl, h1, ⟨_, _, rfl, h2, rfl⟩⟩⟩)
theorem ty33_ownI {w : World} {c : D.Shard} {A0 : Option Addr} {k0 : Nat} {A1 : Option Addr} {k1 : Nat} {A2 : Option Addr} {k2 : Nat} {G : List Nat} (h : (All [Own ty29 [.slice A0 c.Cells.length k0] c.Cells, Own ty30 [.slice A1 c.Vars.length k1] c.Vars, Own ty31 [.slice A2 c.Redexes.length k2] c.Redexes]).A w G) : ty33.own w [.slice A0 c.Cells.length k0, .slice A1 c.Vars.length k1, .slice A2 c.Redexes.length k2] c G := by
  obtain ⟨G0, R0, rfl, h0, G1, R1, rfl, h1, G2, R2, rfl, h2, hz⟩ := h
  have hz' : R2 = [] := hz
  subst hz'
  exact cast (congrArg _ (by simp)) (show ty33.own w [.slice A0 c.Cells.length k0, .slice A1 c.Vars.length k1, .slice A2 c.Redexes.length k2] c (_) from ⟨_, _, _, _, rfl, rfl, h0, ⟨_, _, _, _, rfl, rfl, h1, ⟨_, _, _, _, rfl, rfl, h2, ⟨rfl, rfl⟩⟩⟩⟩)
theorem ty33_openS {W w : World} {B : List Res} {cs : List Value} {c : D.Shard} (h : St W w (Own ty33 cs c :: B)) : ∃ A0 k0 A1 k1 A2 k2, cs = [.slice A0 c.Cells.length k0, .slice A1 c.Vars.length k1, .slice A2 c.Redexes.length k2] ∧ St W w ([Own ty29 [.slice A0 c.Cells.length k0] c.Cells, Own ty30 [.slice A1 c.Vars.length k1] c.Vars, Own ty31 [.slice A2 c.Redexes.length k2] c.Redexes] ++ B) := by
  obtain ⟨G, hA, _⟩ := h.sep.head
  obtain ⟨A0, k0, A1, k1, A2, k2, rfl, _⟩ := ty33_own hA
  refine ⟨A0, k0, A1, k1, A2, k2, rfl, St.splitAll (h.conv fun G hG => ?_)⟩
  obtain ⟨X0, Y0, X1, Y1, X2, Y2, he, hh⟩ := ty33_own hG
  simp only [List.cons.injEq, Value.slice.injEq, and_true, true_and] at he
  obtain ⟨⟨rfl, rfl⟩, ⟨rfl, rfl⟩, ⟨rfl, rfl⟩⟩ := he
  exact hh
theorem ty33_shutS {W w : World} {B : List Res} {c : D.Shard} {A0 : Option Addr} {k0 : Nat} {A1 : Option Addr} {k1 : Nat} {A2 : Option Addr} {k2 : Nat} (h : St W w ([Own ty29 [.slice A0 c.Cells.length k0] c.Cells, Own ty30 [.slice A1 c.Vars.length k1] c.Vars, Own ty31 [.slice A2 c.Redexes.length k2] c.Redexes] ++ B)) : St W w (Own ty33 [.slice A0 c.Cells.length k0, .slice A1 c.Vars.length k1, .slice A2 c.Redexes.length k2] c :: B) := (St.fuseAll h).conv fun _ hG => ty33_ownI hG

def ty36 : Ty (List D.Shard) := tSl 26 ty26
theorem ty36_form {w : World} {cs : List Value} {xs : (List D.Shard)} (h : ty36.ro w cs xs) : ∃ A c, cs = [.slice A xs.length c] := slForm h

def ty40 : Ty D.Grid := tMap (fun c => (c.Shards, c.Root, ())) (tPair ty36 (tPair ty38 tUnit))
theorem ty40_open {w : World} {cs : List Value} {c : D.Grid} (h : ty40.ro w cs c) : ∃ A0 k0, cs = [.slice A0 c.Shards.length k0, .int .i64 c.Root.Machine, .int .i64 c.Root.Kind, .int .i64 c.Root.Index] ∧ ty36.ro w [.slice A0 c.Shards.length k0] c.Shards := by
  obtain ⟨c0, d0, rfl, h0, c1, d1, rfl, h1, hz⟩ := h
  subst hz
  obtain ⟨A0_, k0_, e0⟩ := ty36_form h0
  subst e0
  have e1 := ty38_open h1
  subst e1
  exact ⟨A0_, k0_, rfl, h0⟩
theorem ty40_shut {w : World} (c : D.Grid) {A0 : Option Addr} {k0 : Nat} (h0 : ty36.ro w [.slice A0 c.Shards.length k0] c.Shards) : ty40.ro w [.slice A0 c.Shards.length k0, .int .i64 c.Root.Machine, .int .i64 c.Root.Kind, .int .i64 c.Root.Index] c :=
  ⟨_, _, rfl, h0, ⟨_, _, rfl, (ty38_shut c.Root ), rfl⟩⟩
theorem ty40_own {w : World} {cs : List Value} {c : D.Grid} {G : List Nat} (h : ty40.own w cs c G) : ∃ A0 k0, cs = [.slice A0 c.Shards.length k0, .int .i64 c.Root.Machine, .int .i64 c.Root.Kind, .int .i64 c.Root.Index] ∧ (All [Own ty36 [.slice A0 c.Shards.length k0] c.Shards]).A w G := by
  obtain ⟨c0, d0, H0, K0, rfl, rfl, h0, c1, d1, H1, K1, rfl, rfl, h1, hz, hk⟩ := h
  subst hz; subst hk
  obtain ⟨A0_, k0_, e0⟩ := ty36_form (ty36.own_ro h0)
  subst e0
  obtain ⟨e1, g1⟩ := ty38_own h1
  subst e1
  refine ⟨A0_, k0_, rfl, ?_⟩
  exact cast (congrArg _ (by simp)) (allApp (allOne h0) g1)
theorem ty40_ownI {w : World} {c : D.Grid} {A0 : Option Addr} {k0 : Nat} {G : List Nat} (h : (All [Own ty36 [.slice A0 c.Shards.length k0] c.Shards]).A w G) : ty40.own w [.slice A0 c.Shards.length k0, .int .i64 c.Root.Machine, .int .i64 c.Root.Kind, .int .i64 c.Root.Index] c G := by
  obtain ⟨G0, R0, rfl, h0, hz⟩ := h
  have hz' : R0 = [] := hz
  subst hz'
  exact cast (congrArg _ (by simp)) (show ty40.own w [.slice A0 c.Shards.length k0, .int .i64 c.Root.Machine, .int .i64 c.Root.Kind, .int .i64 c.Root.Index] c (_) from ⟨_, _, _, _, rfl, rfl, h0, ⟨_, _, _, _, rfl, rfl, (ty38_ownI (c := c.Root) rfl), ⟨rfl, rfl⟩⟩⟩)
theorem ty40_openS {W w : World} {B : List Res} {cs : List Value} {c : D.Grid} (h : St W w (Own ty40 cs c :: B)) : ∃ A0 k0, cs = [.slice A0 c.Shards.length k0, .int .i64 c.Root.Machine, .int .i64 c.Root.Kind, .int .i64 c.Root.Index] ∧ St W w ([Own ty36 [.slice A0 c.Shards.length k0] c.Shards] ++ B) := by
  obtain ⟨G, hA, _⟩ := h.sep.head
  obtain ⟨A0, k0, rfl, _⟩ := ty40_own hA
  refine ⟨A0, k0, rfl, St.splitAll (h.conv fun G hG => ?_)⟩
  obtain ⟨X0, Y0, he, hh⟩ := ty40_own hG
  simp only [List.cons.injEq, Value.slice.injEq, and_true, true_and] at he
  obtain ⟨rfl, rfl⟩ := he
  exact hh
theorem ty40_shutS {W w : World} {B : List Res} {c : D.Grid} {A0 : Option Addr} {k0 : Nat} (h : St W w ([Own ty36 [.slice A0 c.Shards.length k0] c.Shards] ++ B)) : St W w (Own ty40 [.slice A0 c.Shards.length k0, .int .i64 c.Root.Machine, .int .i64 c.Root.Kind, .int .i64 c.Root.Index] c :: B) := (St.fuseAll h).conv fun _ hG => ty40_ownI hG

def ty43 : Ty (List D.Shard) := tSl 33 ty33
theorem ty43_form {w : World} {cs : List Value} {xs : (List D.Shard)} (h : ty43.ro w cs xs) : ∃ A c, cs = [.slice A xs.length c] := slForm h

def ty46 : Ty D.Grid := tMap (fun c => (c.Shards, c.Root, ())) (tPair ty43 (tPair ty44 tUnit))
theorem ty46_open {w : World} {cs : List Value} {c : D.Grid} (h : ty46.ro w cs c) : ∃ A0 k0, cs = [.slice A0 c.Shards.length k0, .int .i64 c.Root.Machine, .int .i64 c.Root.Kind, .int .i64 c.Root.Index] ∧ ty43.ro w [.slice A0 c.Shards.length k0] c.Shards := by
  obtain ⟨c0, d0, rfl, h0, c1, d1, rfl, h1, hz⟩ := h
  subst hz
  obtain ⟨A0_, k0_, e0⟩ := ty43_form h0
  subst e0
  have e1 := ty44_open h1
  subst e1
  exact ⟨A0_, k0_, rfl, h0⟩
theorem ty46_shut {w : World} (c : D.Grid) {A0 : Option Addr} {k0 : Nat} (h0 : ty43.ro w [.slice A0 c.Shards.length k0] c.Shards) : ty46.ro w [.slice A0 c.Shards.length k0, .int .i64 c.Root.Machine, .int .i64 c.Root.Kind, .int .i64 c.Root.Index] c :=
  ⟨_, _, rfl, h0, ⟨_, _, rfl, (ty44_shut c.Root ), rfl⟩⟩
theorem ty46_own {w : World} {cs : List Value} {c : D.Grid} {G : List Nat} (h : ty46.own w cs c G) : ∃ A0 k0, cs = [.slice A0 c.Shards.length k0, .int .i64 c.Root.Machine, .int .i64 c.Root.Kind, .int .i64 c.Root.Index] ∧ (All [Own ty43 [.slice A0 c.Shards.length k0] c.Shards]).A w G := by
  obtain ⟨c0, d0, H0, K0, rfl, rfl, h0, c1, d1, H1, K1, rfl, rfl, h1, hz, hk⟩ := h
  subst hz; subst hk
  obtain ⟨A0_, k0_, e0⟩ := ty43_form (ty43.own_ro h0)
  subst e0
  obtain ⟨e1, g1⟩ := ty44_own h1
  subst e1
  refine ⟨A0_, k0_, rfl, ?_⟩
  exact cast (congrArg _ (by simp)) (allApp (allOne h0) g1)
theorem ty46_ownI {w : World} {c : D.Grid} {A0 : Option Addr} {k0 : Nat} {G : List Nat} (h : (All [Own ty43 [.slice A0 c.Shards.length k0] c.Shards]).A w G) : ty46.own w [.slice A0 c.Shards.length k0, .int .i64 c.Root.Machine, .int .i64 c.Root.Kind, .int .i64 c.Root.Index] c G := by
  obtain ⟨G0, R0, rfl, h0, hz⟩ := h
  have hz' : R0 = [] := hz
  subst hz'
  exact cast (congrArg _ (by simp)) (show ty46.own w [.slice A0 c.Shards.length k0, .int .i64 c.Root.Machine, .int .i64 c.Root.Kind, .int .i64 c.Root.Index] c (_) from ⟨_, _, _, _, rfl, rfl, h0, ⟨_, _, _, _, rfl, rfl, (ty44_ownI (c := c.Root) rfl), ⟨rfl, rfl⟩⟩⟩)
theorem ty46_openS {W w : World} {B : List Res} {cs : List Value} {c : D.Grid} (h : St W w (Own ty46 cs c :: B)) : ∃ A0 k0, cs = [.slice A0 c.Shards.length k0, .int .i64 c.Root.Machine, .int .i64 c.Root.Kind, .int .i64 c.Root.Index] ∧ St W w ([Own ty43 [.slice A0 c.Shards.length k0] c.Shards] ++ B) := by
  obtain ⟨G, hA, _⟩ := h.sep.head
  obtain ⟨A0, k0, rfl, _⟩ := ty46_own hA
  refine ⟨A0, k0, rfl, St.splitAll (h.conv fun G hG => ?_)⟩
  obtain ⟨X0, Y0, he, hh⟩ := ty46_own hG
  simp only [List.cons.injEq, Value.slice.injEq, and_true, true_and] at he
  obtain ⟨rfl, rfl⟩ := he
  exact hh
theorem ty46_shutS {W w : World} {B : List Res} {c : D.Grid} {A0 : Option Addr} {k0 : Nat} (h : St W w ([Own ty43 [.slice A0 c.Shards.length k0] c.Shards] ++ B)) : St W w (Own ty46 [.slice A0 c.Shards.length k0, .int .i64 c.Root.Machine, .int .i64 c.Root.Kind, .int .i64 c.Root.Index] c :: B) := (St.fuseAll h).conv fun _ hG => ty46_ownI hG

def ty51 : Ty D.Word := tMap (fun c => (c.Tag, c.At, ())) (tPair tInt (tPair tInt tUnit))
theorem ty51_open {w : World} {cs : List Value} {c : D.Word} (h : ty51.ro w cs c) : cs = [.int .i64 c.Tag, .int .i64 c.At] := by
  obtain ⟨c0, d0, rfl, h0, c1, d1, rfl, h1, hz⟩ := h
  subst hz
  subst h0
  subst h1
  rfl
theorem ty51_shut {w : World} (c : D.Word)   : ty51.ro w [.int .i64 c.Tag, .int .i64 c.At] c :=
  ⟨_, _, rfl, rfl, ⟨_, _, rfl, rfl, rfl⟩⟩
theorem ty51_own {w : World} {cs : List Value} {c : D.Word} {G : List Nat} (h : ty51.own w cs c G) : cs = [.int .i64 c.Tag, .int .i64 c.At] ∧ (All []).A w G := by
  obtain ⟨c0, d0, H0, K0, rfl, rfl, h0, c1, d1, H1, K1, rfl, rfl, h1, hz, hk⟩ := h
  subst hz; subst hk
  obtain ⟨e0, k0⟩ := h0; subst e0; subst k0
  obtain ⟨e1, k1⟩ := h1; subst e1; subst k1
  refine ⟨rfl, ?_⟩
  show (All _).A w _
  exact cast (congrArg _ (by simp)) (show (All _).A w ([]) from rfl)
theorem ty51_ownI {w : World} {c : D.Word}  {G : List Nat} (h : (All []).A w G) : ty51.own w [.int .i64 c.Tag, .int .i64 c.At] c G := by
  have hz : G = [] := h
  subst hz
  exact cast (congrArg _ (by simp)) (show ty51.own w [.int .i64 c.Tag, .int .i64 c.At] c (_) from ⟨_, _, _, _, rfl, rfl, ⟨rfl, rfl⟩, ⟨_, _, _, _, rfl, rfl, ⟨rfl, rfl⟩, ⟨rfl, rfl⟩⟩⟩)
theorem ty51_openS {W w : World} {B : List Res} {cs : List Value} {c : D.Word} (h : St W w (Own ty51 cs c :: B)) : cs = [.int .i64 c.Tag, .int .i64 c.At] ∧ St W w ([] ++ B) := by
  obtain ⟨G, hA, _⟩ := h.sep.head
  obtain ⟨rfl, _⟩ := ty51_own hA
  refine ⟨rfl, St.splitAll (h.conv fun G hG => ?_)⟩
  exact (ty51_own hG).2
theorem ty51_shutS {W w : World} {B : List Res} {c : D.Word}  (h : St W w ([] ++ B)) : St W w (Own ty51 [.int .i64 c.Tag, .int .i64 c.At] c :: B) := (St.fuseAll h).conv fun _ hG => ty51_ownI hG

def ty262 : Ty (List D.Word) := tSl 51 ty51
theorem ty262_form {w : World} {cs : List Value} {xs : (List D.Word)} (h : ty262.ro w cs xs) : ∃ A c, cs = [.slice A xs.length c] := slForm h

def ty264 : Ty D.Cell := tMap (fun c => (c.Kind, c.Level, c.Value, c.Data, c.Words, ())) (tPair tInt (tPair tInt (tPair tInt (tPair ty72 (tPair ty262 tUnit)))))
theorem ty264_open {w : World} {cs : List Value} {c : D.Cell} (h : ty264.ro w cs c) : ∃ A0 k0 A1 k1, cs = [.int .i64 c.Kind, .int .i64 c.Level, .int .i64 c.Value, .slice A0 c.Data.length k0, .slice A1 c.Words.length k1] ∧ ty72.ro w [.slice A0 c.Data.length k0] c.Data ∧ ty262.ro w [.slice A1 c.Words.length k1] c.Words := by
  obtain ⟨c0, d0, rfl, h0, c1, d1, rfl, h1, c2, d2, rfl, h2, c3, d3, rfl, h3, c4, d4, rfl, h4, hz⟩ := h
  subst hz
  subst h0
  subst h1
  subst h2
  obtain ⟨A3_, k3_, e3⟩ := ty72_form h3
  subst e3
  obtain ⟨A4_, k4_, e4⟩ := ty262_form h4
  subst e4
  exact ⟨A3_, k3_, A4_, k4_, rfl, h3, h4⟩
theorem ty264_shut {w : World} (c : D.Cell) {A0 : Option Addr} {k0 : Nat} {A1 : Option Addr} {k1 : Nat} (h0 : ty72.ro w [.slice A0 c.Data.length k0] c.Data) (h1 : ty262.ro w [.slice A1 c.Words.length k1] c.Words) : ty264.ro w [.int .i64 c.Kind, .int .i64 c.Level, .int .i64 c.Value, .slice A0 c.Data.length k0, .slice A1 c.Words.length k1] c :=
  ⟨_, _, rfl, rfl, ⟨_, _, rfl, rfl, ⟨_, _, rfl, rfl, ⟨_, _, rfl, h0, ⟨_, _, rfl, h1, rfl⟩⟩⟩⟩⟩
theorem ty264_own {w : World} {cs : List Value} {c : D.Cell} {G : List Nat} (h : ty264.own w cs c G) : ∃ A0 k0 A1 k1, cs = [.int .i64 c.Kind, .int .i64 c.Level, .int .i64 c.Value, .slice A0 c.Data.length k0, .slice A1 c.Words.length k1] ∧ (All [Own ty72 [.slice A0 c.Data.length k0] c.Data, Own ty262 [.slice A1 c.Words.length k1] c.Words]).A w G := by
  obtain ⟨c0, d0, H0, K0, rfl, rfl, h0, c1, d1, H1, K1, rfl, rfl, h1, c2, d2, H2, K2, rfl, rfl, h2, c3, d3, H3, K3, rfl, rfl, h3, c4, d4, H4, K4, rfl, rfl, h4, hz, hk⟩ := h
  subst hz; subst hk
  obtain ⟨e0, k0⟩ := h0; subst e0; subst k0
  obtain ⟨e1, k1⟩ := h1; subst e1; subst k1
  obtain ⟨e2, k2⟩ := h2; subst e2; subst k2
  obtain ⟨A3_, k3_, e3⟩ := ty72_form (ty72.own_ro h3)
  subst e3
  obtain ⟨A4_, k4_, e4⟩ := ty262_form (ty262.own_ro h4)
  subst e4
  refine ⟨A3_, k3_, A4_, k4_, rfl, ?_⟩
  show (All _).A w _
  exact cast (congrArg _ (by simp)) (show (All _).A w (H3 ++ (H4 ++ ([]))) from ⟨_, _, rfl, h3, ⟨_, _, rfl, h4, rfl⟩⟩)
theorem ty264_ownI {w : World} {c : D.Cell} {A0 : Option Addr} {k0 : Nat} {A1 : Option Addr} {k1 : Nat} {G : List Nat} (h : (All [Own ty72 [.slice A0 c.Data.length k0] c.Data, Own ty262 [.slice A1 c.Words.length k1] c.Words]).A w G) : ty264.own w [.int .i64 c.Kind, .int .i64 c.Level, .int .i64 c.Value, .slice A0 c.Data.length k0, .slice A1 c.Words.length k1] c G := by
  obtain ⟨G0, R0, rfl, h0, G1, R1, rfl, h1, hz⟩ := h
  have hz' : R1 = [] := hz
  subst hz'
  exact cast (congrArg _ (by simp)) (show ty264.own w [.int .i64 c.Kind, .int .i64 c.Level, .int .i64 c.Value, .slice A0 c.Data.length k0, .slice A1 c.Words.length k1] c (_) from ⟨_, _, _, _, rfl, rfl, ⟨rfl, rfl⟩, ⟨_, _, _, _, rfl, rfl, ⟨rfl, rfl⟩, ⟨_, _, _, _, rfl, rfl, ⟨rfl, rfl⟩, ⟨_, _, _, _, rfl, rfl, h0, ⟨_, _, _, _, rfl, rfl, h1, ⟨rfl, rfl⟩⟩⟩⟩⟩⟩)
theorem ty264_openS {W w : World} {B : List Res} {cs : List Value} {c : D.Cell} (h : St W w (Own ty264 cs c :: B)) : ∃ A0 k0 A1 k1, cs = [.int .i64 c.Kind, .int .i64 c.Level, .int .i64 c.Value, .slice A0 c.Data.length k0, .slice A1 c.Words.length k1] ∧ St W w ([Own ty72 [.slice A0 c.Data.length k0] c.Data, Own ty262 [.slice A1 c.Words.length k1] c.Words] ++ B) := by
  obtain ⟨G, hA, _⟩ := h.sep.head
  obtain ⟨A0, k0, A1, k1, rfl, _⟩ := ty264_own hA
  refine ⟨A0, k0, A1, k1, rfl, St.splitAll (h.conv fun G hG => ?_)⟩
  obtain ⟨X0, Y0, X1, Y1, he, hh⟩ := ty264_own hG
  simp only [List.cons.injEq, Value.slice.injEq, and_true, true_and] at he
  obtain ⟨⟨rfl, rfl⟩, ⟨rfl, rfl⟩⟩ := he
  exact hh
theorem ty264_shutS {W w : World} {B : List Res} {c : D.Cell} {A0 : Option Addr} {k0 : Nat} {A1 : Option Addr} {k1 : Nat} (h : St W w ([Own ty72 [.slice A0 c.Data.length k0] c.Data, Own ty262 [.slice A1 c.Words.length k1] c.Words] ++ B)) : St W w (Own ty264 [.int .i64 c.Kind, .int .i64 c.Level, .int .i64 c.Value, .slice A0 c.Data.length k0, .slice A1 c.Words.length k1] c :: B) := (St.fuseAll h).conv fun _ hG => ty264_ownI hG

def ty49 : Ty (List D.Cell) := tSl 264 ty264
theorem ty49_form {w : World} {cs : List Value} {xs : (List D.Cell)} (h : ty49.ro w cs xs) : ∃ A c, cs = [.slice A xs.length c] := slForm h

def ty270 : Ty D.Pair := tMap (fun c => (c.A, c.B, ())) (tPair tInt (tPair tInt tUnit))
theorem ty270_open {w : World} {cs : List Value} {c : D.Pair} (h : ty270.ro w cs c) : cs = [.int .i64 c.A, .int .i64 c.B] := by
  obtain ⟨c0, d0, rfl, h0, c1, d1, rfl, h1, hz⟩ := h
  subst hz
  subst h0
  subst h1
  rfl
theorem ty270_shut {w : World} (c : D.Pair)   : ty270.ro w [.int .i64 c.A, .int .i64 c.B] c :=
  ⟨_, _, rfl, rfl, ⟨_, _, rfl, rfl, rfl⟩⟩
theorem ty270_own {w : World} {cs : List Value} {c : D.Pair} {G : List Nat} (h : ty270.own w cs c G) : cs = [.int .i64 c.A, .int .i64 c.B] ∧ (All []).A w G := by
  obtain ⟨c0, d0, H0, K0, rfl, rfl, h0, c1, d1, H1, K1, rfl, rfl, h1, hz, hk⟩ := h
  subst hz; subst hk
  obtain ⟨e0, k0⟩ := h0; subst e0; subst k0
  obtain ⟨e1, k1⟩ := h1; subst e1; subst k1
  refine ⟨rfl, ?_⟩
  show (All _).A w _
  exact cast (congrArg _ (by simp)) (show (All _).A w ([]) from rfl)
theorem ty270_ownI {w : World} {c : D.Pair}  {G : List Nat} (h : (All []).A w G) : ty270.own w [.int .i64 c.A, .int .i64 c.B] c G := by
  have hz : G = [] := h
  subst hz
  exact cast (congrArg _ (by simp)) (show ty270.own w [.int .i64 c.A, .int .i64 c.B] c (_) from ⟨_, _, _, _, rfl, rfl, ⟨rfl, rfl⟩, ⟨_, _, _, _, rfl, rfl, ⟨rfl, rfl⟩, ⟨rfl, rfl⟩⟩⟩)
theorem ty270_openS {W w : World} {B : List Res} {cs : List Value} {c : D.Pair} (h : St W w (Own ty270 cs c :: B)) : cs = [.int .i64 c.A, .int .i64 c.B] ∧ St W w ([] ++ B) := by
  obtain ⟨G, hA, _⟩ := h.sep.head
  obtain ⟨rfl, _⟩ := ty270_own hA
  refine ⟨rfl, St.splitAll (h.conv fun G hG => ?_)⟩
  exact (ty270_own hG).2
theorem ty270_shutS {W w : World} {B : List Res} {c : D.Pair}  (h : St W w ([] ++ B)) : St W w (Own ty270 [.int .i64 c.A, .int .i64 c.B] c :: B) := (St.fuseAll h).conv fun _ hG => ty270_ownI hG

def ty52 : Ty (List D.Pair) := tSl 270 ty270
theorem ty52_form {w : World} {cs : List Value} {xs : (List D.Pair)} (h : ty52.ro w cs xs) : ∃ A c, cs = [.slice A xs.length c] := slForm h

def ty54 : Ty D.Memory := tMap (fun c => (c.Cells, c.Free, c.Root, c.Redexes, ())) (tPair ty49 (tPair tInt (tPair ty51 (tPair ty52 tUnit))))
theorem ty54_open {w : World} {cs : List Value} {c : D.Memory} (h : ty54.ro w cs c) : ∃ A0 k0 A1 k1, cs = [.slice A0 c.Cells.length k0, .int .i64 c.Free, .int .i64 c.Root.Tag, .int .i64 c.Root.At, .slice A1 c.Redexes.length k1] ∧ ty49.ro w [.slice A0 c.Cells.length k0] c.Cells ∧ ty52.ro w [.slice A1 c.Redexes.length k1] c.Redexes := by
  obtain ⟨c0, d0, rfl, h0, c1, d1, rfl, h1, c2, d2, rfl, h2, c3, d3, rfl, h3, hz⟩ := h
  subst hz
  obtain ⟨A0_, k0_, e0⟩ := ty49_form h0
  subst e0
  subst h1
  have e2 := ty51_open h2
  subst e2
  obtain ⟨A3_, k3_, e3⟩ := ty52_form h3
  subst e3
  exact ⟨A0_, k0_, A3_, k3_, rfl, h0, h3⟩
theorem ty54_shut {w : World} (c : D.Memory) {A0 : Option Addr} {k0 : Nat} {A1 : Option Addr} {k1 : Nat} (h0 : ty49.ro w [.slice A0 c.Cells.length k0] c.Cells) (h1 : ty52.ro w [.slice A1 c.Redexes.length k1] c.Redexes) : ty54.ro w [.slice A0 c.Cells.length k0, .int .i64 c.Free, .int .i64 c.Root.Tag, .int .i64 c.Root.At, .slice A1 c.Redexes.length k1] c :=
  ⟨_, _, rfl, h0, ⟨_, _, rfl, rfl, ⟨_, _, rfl, (ty51_shut c.Root ), ⟨_, _, rfl, h1, rfl⟩⟩⟩⟩
theorem ty54_own {w : World} {cs : List Value} {c : D.Memory} {G : List Nat} (h : ty54.own w cs c G) : ∃ A0 k0 A1 k1, cs = [.slice A0 c.Cells.length k0, .int .i64 c.Free, .int .i64 c.Root.Tag, .int .i64 c.Root.At, .slice A1 c.Redexes.length k1] ∧ (All [Own ty49 [.slice A0 c.Cells.length k0] c.Cells, Own ty52 [.slice A1 c.Redexes.length k1] c.Redexes]).A w G := by
  obtain ⟨c0, d0, H0, K0, rfl, rfl, h0, c1, d1, H1, K1, rfl, rfl, h1, c2, d2, H2, K2, rfl, rfl, h2, c3, d3, H3, K3, rfl, rfl, h3, hz, hk⟩ := h
  subst hz; subst hk
  obtain ⟨A0_, k0_, e0⟩ := ty49_form (ty49.own_ro h0)
  subst e0
  obtain ⟨e1, k1⟩ := h1; subst e1; subst k1
  obtain ⟨e2, g2⟩ := ty51_own h2
  subst e2
  obtain ⟨A3_, k3_, e3⟩ := ty52_form (ty52.own_ro h3)
  subst e3
  refine ⟨A0_, k0_, A3_, k3_, rfl, ?_⟩
  exact cast (congrArg _ (by simp)) (allApp (allOne h0) (allApp g2 (allOne h3)))
theorem ty54_ownI {w : World} {c : D.Memory} {A0 : Option Addr} {k0 : Nat} {A1 : Option Addr} {k1 : Nat} {G : List Nat} (h : (All [Own ty49 [.slice A0 c.Cells.length k0] c.Cells, Own ty52 [.slice A1 c.Redexes.length k1] c.Redexes]).A w G) : ty54.own w [.slice A0 c.Cells.length k0, .int .i64 c.Free, .int .i64 c.Root.Tag, .int .i64 c.Root.At, .slice A1 c.Redexes.length k1] c G := by
  obtain ⟨G0, R0, rfl, h0, G1, R1, rfl, h1, hz⟩ := h
  have hz' : R1 = [] := hz
  subst hz'
  exact cast (congrArg _ (by simp)) (show ty54.own w [.slice A0 c.Cells.length k0, .int .i64 c.Free, .int .i64 c.Root.Tag, .int .i64 c.Root.At, .slice A1 c.Redexes.length k1] c (_) from ⟨_, _, _, _, rfl, rfl, h0, ⟨_, _, _, _, rfl, rfl, ⟨rfl, rfl⟩, ⟨_, _, _, _, rfl, rfl, (ty51_ownI (c := c.Root) rfl), ⟨_, _, _, _, rfl, rfl, h1, ⟨rfl, rfl⟩⟩⟩⟩⟩)
theorem ty54_openS {W w : World} {B : List Res} {cs : List Value} {c : D.Memory} (h : St W w (Own ty54 cs c :: B)) : ∃ A0 k0 A1 k1, cs = [.slice A0 c.Cells.length k0, .int .i64 c.Free, .int .i64 c.Root.Tag, .int .i64 c.Root.At, .slice A1 c.Redexes.length k1] ∧ St W w ([Own ty49 [.slice A0 c.Cells.length k0] c.Cells, Own ty52 [.slice A1 c.Redexes.length k1] c.Redexes] ++ B) := by
  obtain ⟨G, hA, _⟩ := h.sep.head
  obtain ⟨A0, k0, A1, k1, rfl, _⟩ := ty54_own hA
  refine ⟨A0, k0, A1, k1, rfl, St.splitAll (h.conv fun G hG => ?_)⟩
  obtain ⟨X0, Y0, X1, Y1, he, hh⟩ := ty54_own hG
  simp only [List.cons.injEq, Value.slice.injEq, and_true, true_and] at he
  obtain ⟨⟨rfl, rfl⟩, ⟨rfl, rfl⟩⟩ := he
  exact hh
theorem ty54_shutS {W w : World} {B : List Res} {c : D.Memory} {A0 : Option Addr} {k0 : Nat} {A1 : Option Addr} {k1 : Nat} (h : St W w ([Own ty49 [.slice A0 c.Cells.length k0] c.Cells, Own ty52 [.slice A1 c.Redexes.length k1] c.Redexes] ++ B)) : St W w (Own ty54 [.slice A0 c.Cells.length k0, .int .i64 c.Free, .int .i64 c.Root.Tag, .int .i64 c.Root.At, .slice A1 c.Redexes.length k1] c :: B) := (St.fuseAll h).conv fun _ hG => ty54_ownI hG

def ty283 : Ty D.Link := tMap (fun c => (c.A, c.B, ())) (tPair ty51 (tPair ty51 tUnit))
theorem ty283_open {w : World} {cs : List Value} {c : D.Link} (h : ty283.ro w cs c) : cs = [.int .i64 c.A.Tag, .int .i64 c.A.At, .int .i64 c.B.Tag, .int .i64 c.B.At] := by
  obtain ⟨c0, d0, rfl, h0, c1, d1, rfl, h1, hz⟩ := h
  subst hz
  have e0 := ty51_open h0
  subst e0
  have e1 := ty51_open h1
  subst e1
  rfl
theorem ty283_shut {w : World} (c : D.Link)   : ty283.ro w [.int .i64 c.A.Tag, .int .i64 c.A.At, .int .i64 c.B.Tag, .int .i64 c.B.At] c :=
  ⟨_, _, rfl, (ty51_shut c.A ), ⟨_, _, rfl, (ty51_shut c.B ), rfl⟩⟩
theorem ty283_own {w : World} {cs : List Value} {c : D.Link} {G : List Nat} (h : ty283.own w cs c G) : cs = [.int .i64 c.A.Tag, .int .i64 c.A.At, .int .i64 c.B.Tag, .int .i64 c.B.At] ∧ (All []).A w G := by
  obtain ⟨c0, d0, H0, K0, rfl, rfl, h0, c1, d1, H1, K1, rfl, rfl, h1, hz, hk⟩ := h
  subst hz; subst hk
  obtain ⟨e0, g0⟩ := ty51_own h0
  subst e0
  obtain ⟨e1, g1⟩ := ty51_own h1
  subst e1
  refine ⟨rfl, ?_⟩
  exact cast (congrArg _ (by simp)) (allApp g0 g1)
theorem ty283_ownI {w : World} {c : D.Link}  {G : List Nat} (h : (All []).A w G) : ty283.own w [.int .i64 c.A.Tag, .int .i64 c.A.At, .int .i64 c.B.Tag, .int .i64 c.B.At] c G := by
  have hz : G = [] := h
  subst hz
  exact cast (congrArg _ (by simp)) (show ty283.own w [.int .i64 c.A.Tag, .int .i64 c.A.At, .int .i64 c.B.Tag, .int .i64 c.B.At] c (_) from ⟨_, _, _, _, rfl, rfl, (ty51_ownI (c := c.A) rfl), ⟨_, _, _, _, rfl, rfl, (ty51_ownI (c := c.B) rfl), ⟨rfl, rfl⟩⟩⟩)
theorem ty283_openS {W w : World} {B : List Res} {cs : List Value} {c : D.Link} (h : St W w (Own ty283 cs c :: B)) : cs = [.int .i64 c.A.Tag, .int .i64 c.A.At, .int .i64 c.B.Tag, .int .i64 c.B.At] ∧ St W w ([] ++ B) := by
  obtain ⟨G, hA, _⟩ := h.sep.head
  obtain ⟨rfl, _⟩ := ty283_own hA
  refine ⟨rfl, St.splitAll (h.conv fun G hG => ?_)⟩
  exact (ty283_own hG).2
theorem ty283_shutS {W w : World} {B : List Res} {c : D.Link}  (h : St W w ([] ++ B)) : St W w (Own ty283 [.int .i64 c.A.Tag, .int .i64 c.A.At, .int .i64 c.B.Tag, .int .i64 c.B.At] c :: B) := (St.fuseAll h).conv fun _ hG => ty283_ownI hG

def ty218 : Ty (List D.Link) := tSl 283 ty283
theorem ty218_form {w : World} {cs : List Value} {xs : (List D.Link)} (h : ty218.ro w cs xs) : ∃ A c, cs = [.slice A xs.length c] := slForm h

def ty220 : Ty D.Worker := tMap (fun c => (c.Phase, c.Victim, c.Redexes, c.Links, c.Counts, ())) (tPair tInt (tPair tInt (tPair ty52 (tPair ty218 (tPair ty72 tUnit)))))
theorem ty220_open {w : World} {cs : List Value} {c : D.Worker} (h : ty220.ro w cs c) : ∃ A0 k0 A1 k1 A2 k2, cs = [.int .i64 c.Phase, .int .i64 c.Victim, .slice A0 c.Redexes.length k0, .slice A1 c.Links.length k1, .slice A2 c.Counts.length k2] ∧ ty52.ro w [.slice A0 c.Redexes.length k0] c.Redexes ∧ ty218.ro w [.slice A1 c.Links.length k1] c.Links ∧ ty72.ro w [.slice A2 c.Counts.length k2] c.Counts := by
  obtain ⟨c0, d0, rfl, h0, c1, d1, rfl, h1, c2, d2, rfl, h2, c3, d3, rfl, h3, c4, d4, rfl, h4, hz⟩ := h
  subst hz
  subst h0
  subst h1
  obtain ⟨A2_, k2_, e2⟩ := ty52_form h2
  subst e2
  obtain ⟨A3_, k3_, e3⟩ := ty218_form h3
  subst e3
  obtain ⟨A4_, k4_, e4⟩ := ty72_form h4
  subst e4
  exact ⟨A2_, k2_, A3_, k3_, A4_, k4_, rfl, h2, h3, h4⟩
theorem ty220_shut {w : World} (c : D.Worker) {A0 : Option Addr} {k0 : Nat} {A1 : Option Addr} {k1 : Nat} {A2 : Option Addr} {k2 : Nat} (h0 : ty52.ro w [.slice A0 c.Redexes.length k0] c.Redexes) (h1 : ty218.ro w [.slice A1 c.Links.length k1] c.Links) (h2 : ty72.ro w [.slice A2 c.Counts.length k2] c.Counts) : ty220.ro w [.int .i64 c.Phase, .int .i64 c.Victim, .slice A0 c.Redexes.length k0, .slice A1 c.Links.length k1, .slice A2 c.Counts.length k2] c :=
  ⟨_, _, rfl, rfl, ⟨_, _, rfl, rfl, ⟨_, _, rfl, h0, ⟨_, _, rfl, h1, ⟨_, _, rfl, h2, rfl⟩⟩⟩⟩⟩
theorem ty220_own {w : World} {cs : List Value} {c : D.Worker} {G : List Nat} (h : ty220.own w cs c G) : ∃ A0 k0 A1 k1 A2 k2, cs = [.int .i64 c.Phase, .int .i64 c.Victim, .slice A0 c.Redexes.length k0, .slice A1 c.Links.length k1, .slice A2 c.Counts.length k2] ∧ (All [Own ty52 [.slice A0 c.Redexes.length k0] c.Redexes, Own ty218 [.slice A1 c.Links.length k1] c.Links, Own ty72 [.slice A2 c.Counts.length k2] c.Counts]).A w G := by
  obtain ⟨c0, d0, H0, K0, rfl, rfl, h0, c1, d1, H1, K1, rfl, rfl, h1, c2, d2, H2, K2, rfl, rfl, h2, c3, d3, H3, K3, rfl, rfl, h3, c4, d4, H4, K4, rfl, rfl, h4, hz, hk⟩ := h
  subst hz; subst hk
  obtain ⟨e0, k0⟩ := h0; subst e0; subst k0
  obtain ⟨e1, k1⟩ := h1; subst e1; subst k1
  obtain ⟨A2_, k2_, e2⟩ := ty52_form (ty52.own_ro h2)
  subst e2
  obtain ⟨A3_, k3_, e3⟩ := ty218_form (ty218.own_ro h3)
  subst e3
  obtain ⟨A4_, k4_, e4⟩ := ty72_form (ty72.own_ro h4)
  subst e4
  refine ⟨A2_, k2_, A3_, k3_, A4_, k4_, rfl, ?_⟩
  show (All _).A w _
  exact cast (congrArg _ (by simp)) (show (All _).A w (H2 ++ (H3 ++ (H4 ++ ([])))) from ⟨_, _, rfl, h2, ⟨_, _, rfl, h3, ⟨_, _, rfl, h4, rfl⟩⟩⟩)
theorem ty220_ownI {w : World} {c : D.Worker} {A0 : Option Addr} {k0 : Nat} {A1 : Option Addr} {k1 : Nat} {A2 : Option Addr} {k2 : Nat} {G : List Nat} (h : (All [Own ty52 [.slice A0 c.Redexes.length k0] c.Redexes, Own ty218 [.slice A1 c.Links.length k1] c.Links, Own ty72 [.slice A2 c.Counts.length k2] c.Counts]).A w G) : ty220.own w [.int .i64 c.Phase, .int .i64 c.Victim, .slice A0 c.Redexes.length k0, .slice A1 c.Links.length k1, .slice A2 c.Counts.length k2] c G := by
  obtain ⟨G0, R0, rfl, h0, G1, R1, rfl, h1, G2, R2, rfl, h2, hz⟩ := h
  have hz' : R2 = [] := hz
  subst hz'
  exact cast (congrArg _ (by simp)) (show ty220.own w [.int .i64 c.Phase, .int .i64 c.Victim, .slice A0 c.Redexes.length k0, .slice A1 c.Links.length k1, .slice A2 c.Counts.length k2] c (_) from ⟨_, _, _, _, rfl, rfl, ⟨rfl, rfl⟩, ⟨_, _, _, _, rfl, rfl, ⟨rfl, rfl⟩, ⟨_, _, _, _, rfl, rfl, h0, ⟨_, _, _, _, rfl, rfl, h1, ⟨_, _, _, _, rfl, rfl, h2, ⟨rfl, rfl⟩⟩⟩⟩⟩⟩)
theorem ty220_openS {W w : World} {B : List Res} {cs : List Value} {c : D.Worker} (h : St W w (Own ty220 cs c :: B)) : ∃ A0 k0 A1 k1 A2 k2, cs = [.int .i64 c.Phase, .int .i64 c.Victim, .slice A0 c.Redexes.length k0, .slice A1 c.Links.length k1, .slice A2 c.Counts.length k2] ∧ St W w ([Own ty52 [.slice A0 c.Redexes.length k0] c.Redexes, Own ty218 [.slice A1 c.Links.length k1] c.Links, Own ty72 [.slice A2 c.Counts.length k2] c.Counts] ++ B) := by
  obtain ⟨G, hA, _⟩ := h.sep.head
  obtain ⟨A0, k0, A1, k1, A2, k2, rfl, _⟩ := ty220_own hA
  refine ⟨A0, k0, A1, k1, A2, k2, rfl, St.splitAll (h.conv fun G hG => ?_)⟩
  obtain ⟨X0, Y0, X1, Y1, X2, Y2, he, hh⟩ := ty220_own hG
  simp only [List.cons.injEq, Value.slice.injEq, and_true, true_and] at he
  obtain ⟨⟨rfl, rfl⟩, ⟨rfl, rfl⟩, ⟨rfl, rfl⟩⟩ := he
  exact hh
theorem ty220_shutS {W w : World} {B : List Res} {c : D.Worker} {A0 : Option Addr} {k0 : Nat} {A1 : Option Addr} {k1 : Nat} {A2 : Option Addr} {k2 : Nat} (h : St W w ([Own ty52 [.slice A0 c.Redexes.length k0] c.Redexes, Own ty218 [.slice A1 c.Links.length k1] c.Links, Own ty72 [.slice A2 c.Counts.length k2] c.Counts] ++ B)) : St W w (Own ty220 [.int .i64 c.Phase, .int .i64 c.Victim, .slice A0 c.Redexes.length k0, .slice A1 c.Links.length k1, .slice A2 c.Counts.length k2] c :: B) := (St.fuseAll h).conv fun _ hG => ty220_ownI hG

def ty55 : Ty (List D.Worker) := tSl 220 ty220
theorem ty55_form {w : World} {cs : List Value} {xs : (List D.Worker)} (h : ty55.ro w cs xs) : ∃ A c, cs = [.slice A xs.length c] := slForm h

def ty57 : Ty D.Pool := tMap (fun c => (c.Memory, c.Workers, c.Active, ())) (tPair ty54 (tPair ty55 (tPair tInt tUnit)))
theorem ty57_open {w : World} {cs : List Value} {c : D.Pool} (h : ty57.ro w cs c) : ∃ A0 k0 A1 k1 A2 k2, cs = [.slice A0 c.Memory.Cells.length k0, .int .i64 c.Memory.Free, .int .i64 c.Memory.Root.Tag, .int .i64 c.Memory.Root.At, .slice A1 c.Memory.Redexes.length k1, .slice A2 c.Workers.length k2, .int .i64 c.Active] ∧ ty49.ro w [.slice A0 c.Memory.Cells.length k0] c.Memory.Cells ∧ ty52.ro w [.slice A1 c.Memory.Redexes.length k1] c.Memory.Redexes ∧ ty55.ro w [.slice A2 c.Workers.length k2] c.Workers := by
  obtain ⟨c0, d0, rfl, h0, c1, d1, rfl, h1, c2, d2, rfl, h2, hz⟩ := h
  subst hz
  obtain ⟨A0_0, k0_0, A0_1, k0_1, e0, g0_0, g0_1⟩ := ty54_open h0
  subst e0
  obtain ⟨A1_, k1_, e1⟩ := ty55_form h1
  subst e1
  subst h2
  exact ⟨A0_0, k0_0, A0_1, k0_1, A1_, k1_, rfl, g0_0, g0_1, h1⟩
theorem ty57_shut {w : World} (c : D.Pool) {A0 : Option Addr} {k0 : Nat} {A1 : Option Addr} {k1 : Nat} {A2 : Option Addr} {k2 : Nat} (h0 : ty49.ro w [.slice A0 c.Memory.Cells.length k0] c.Memory.Cells) (h1 : ty52.ro w [.slice A1 c.Memory.Redexes.length k1] c.Memory.Redexes) (h2 : ty55.ro w [.slice A2 c.Workers.length k2] c.Workers) : ty57.ro w [.slice A0 c.Memory.Cells.length k0, .int .i64 c.Memory.Free, .int .i64 c.Memory.Root.Tag, .int .i64 c.Memory.Root.At, .slice A1 c.Memory.Redexes.length k1, .slice A2 c.Workers.length k2, .int .i64 c.Active] c :=
  ⟨_, _, rfl, (ty54_shut c.Memory h0 h1), ⟨_, _, rfl, h2, ⟨_, _, rfl, rfl, rfl⟩⟩⟩
theorem ty57_own {w : World} {cs : List Value} {c : D.Pool} {G : List Nat} (h : ty57.own w cs c G) : ∃ A0 k0 A1 k1 A2 k2, cs = [.slice A0 c.Memory.Cells.length k0, .int .i64 c.Memory.Free, .int .i64 c.Memory.Root.Tag, .int .i64 c.Memory.Root.At, .slice A1 c.Memory.Redexes.length k1, .slice A2 c.Workers.length k2, .int .i64 c.Active] ∧ (All [Own ty49 [.slice A0 c.Memory.Cells.length k0] c.Memory.Cells, Own ty52 [.slice A1 c.Memory.Redexes.length k1] c.Memory.Redexes, Own ty55 [.slice A2 c.Workers.length k2] c.Workers]).A w G := by
  obtain ⟨c0, d0, H0, K0, rfl, rfl, h0, c1, d1, H1, K1, rfl, rfl, h1, c2, d2, H2, K2, rfl, rfl, h2, hz, hk⟩ := h
  subst hz; subst hk
  obtain ⟨A0_0, k0_0, A0_1, k0_1, e0, g0⟩ := ty54_own h0
  subst e0
  obtain ⟨A1_, k1_, e1⟩ := ty55_form (ty55.own_ro h1)
  subst e1
  obtain ⟨e2, k2⟩ := h2; subst e2; subst k2
  refine ⟨A0_0, k0_0, A0_1, k0_1, A1_, k1_, rfl, ?_⟩
  exact cast (congrArg _ (by simp)) (allApp g0 (allOne h1))
theorem ty57_ownI {w : World} {c : D.Pool} {A0 : Option Addr} {k0 : Nat} {A1 : Option Addr} {k1 : Nat} {A2 : Option Addr} {k2 : Nat} {G : List Nat} (h : (All [Own ty49 [.slice A0 c.Memory.Cells.length k0] c.Memory.Cells, Own ty52 [.slice A1 c.Memory.Redexes.length k1] c.Memory.Redexes, Own ty55 [.slice A2 c.Workers.length k2] c.Workers]).A w G) : ty57.own w [.slice A0 c.Memory.Cells.length k0, .int .i64 c.Memory.Free, .int .i64 c.Memory.Root.Tag, .int .i64 c.Memory.Root.At, .slice A1 c.Memory.Redexes.length k1, .slice A2 c.Workers.length k2, .int .i64 c.Active] c G := by
  obtain ⟨G0, R0, rfl, h0, G1, R1, rfl, h1, G2, R2, rfl, h2, hz⟩ := h
  have hz' : R2 = [] := hz
  subst hz'
  exact cast (congrArg _ (by simp)) (show ty57.own w [.slice A0 c.Memory.Cells.length k0, .int .i64 c.Memory.Free, .int .i64 c.Memory.Root.Tag, .int .i64 c.Memory.Root.At, .slice A1 c.Memory.Redexes.length k1, .slice A2 c.Workers.length k2, .int .i64 c.Active] c (_) from ⟨_, _, _, _, rfl, rfl, (ty54_ownI (c := c.Memory) ⟨_, _, rfl, h0, ⟨_, _, rfl, h1, rfl⟩⟩), ⟨_, _, _, _, rfl, rfl, h2, ⟨_, _, _, _, rfl, rfl, ⟨rfl, rfl⟩, ⟨rfl, rfl⟩⟩⟩⟩)
theorem ty57_openS {W w : World} {B : List Res} {cs : List Value} {c : D.Pool} (h : St W w (Own ty57 cs c :: B)) : ∃ A0 k0 A1 k1 A2 k2, cs = [.slice A0 c.Memory.Cells.length k0, .int .i64 c.Memory.Free, .int .i64 c.Memory.Root.Tag, .int .i64 c.Memory.Root.At, .slice A1 c.Memory.Redexes.length k1, .slice A2 c.Workers.length k2, .int .i64 c.Active] ∧ St W w ([Own ty49 [.slice A0 c.Memory.Cells.length k0] c.Memory.Cells, Own ty52 [.slice A1 c.Memory.Redexes.length k1] c.Memory.Redexes, Own ty55 [.slice A2 c.Workers.length k2] c.Workers] ++ B) := by
  obtain ⟨G, hA, _⟩ := h.sep.head
  obtain ⟨A0, k0, A1, k1, A2, k2, rfl, _⟩ := ty57_own hA
  refine ⟨A0, k0, A1, k1, A2, k2, rfl, St.splitAll (h.conv fun G hG => ?_)⟩
  obtain ⟨X0, Y0, X1, Y1, X2, Y2, he, hh⟩ := ty57_own hG
  simp only [List.cons.injEq, Value.slice.injEq, and_true, true_and] at he
  obtain ⟨⟨rfl, rfl⟩, ⟨rfl, rfl⟩, ⟨rfl, rfl⟩⟩ := he
  exact hh
theorem ty57_shutS {W w : World} {B : List Res} {c : D.Pool} {A0 : Option Addr} {k0 : Nat} {A1 : Option Addr} {k1 : Nat} {A2 : Option Addr} {k2 : Nat} (h : St W w ([Own ty49 [.slice A0 c.Memory.Cells.length k0] c.Memory.Cells, Own ty52 [.slice A1 c.Memory.Redexes.length k1] c.Memory.Redexes, Own ty55 [.slice A2 c.Workers.length k2] c.Workers] ++ B)) : St W w (Own ty57 [.slice A0 c.Memory.Cells.length k0, .int .i64 c.Memory.Free, .int .i64 c.Memory.Root.Tag, .int .i64 c.Memory.Root.At, .slice A1 c.Memory.Redexes.length k1, .slice A2 c.Workers.length k2, .int .i64 c.Active] c :: B) := (St.fuseAll h).conv fun _ hG => ty57_ownI hG

def ty61 : Ty D.Word := tMap (fun c => (c.Tag, c.At, ())) (tPair tInt (tPair tInt tUnit))
theorem ty61_open {w : World} {cs : List Value} {c : D.Word} (h : ty61.ro w cs c) : cs = [.int .i64 c.Tag, .int .i64 c.At] := by
  obtain ⟨c0, d0, rfl, h0, c1, d1, rfl, h1, hz⟩ := h
  subst hz
  subst h0
  subst h1
  rfl
theorem ty61_shut {w : World} (c : D.Word)   : ty61.ro w [.int .i64 c.Tag, .int .i64 c.At] c :=
  ⟨_, _, rfl, rfl, ⟨_, _, rfl, rfl, rfl⟩⟩
theorem ty61_own {w : World} {cs : List Value} {c : D.Word} {G : List Nat} (h : ty61.own w cs c G) : cs = [.int .i64 c.Tag, .int .i64 c.At] ∧ (All []).A w G := by
  obtain ⟨c0, d0, H0, K0, rfl, rfl, h0, c1, d1, H1, K1, rfl, rfl, h1, hz, hk⟩ := h
  subst hz; subst hk
  obtain ⟨e0, k0⟩ := h0; subst e0; subst k0
  obtain ⟨e1, k1⟩ := h1; subst e1; subst k1
  refine ⟨rfl, ?_⟩
  show (All _).A w _
  exact cast (congrArg _ (by simp)) (show (All _).A w ([]) from rfl)
theorem ty61_ownI {w : World} {c : D.Word}  {G : List Nat} (h : (All []).A w G) : ty61.own w [.int .i64 c.Tag, .int .i64 c.At] c G := by
  have hz : G = [] := h
  subst hz
  exact cast (congrArg _ (by simp)) (show ty61.own w [.int .i64 c.Tag, .int .i64 c.At] c (_) from ⟨_, _, _, _, rfl, rfl, ⟨rfl, rfl⟩, ⟨_, _, _, _, rfl, rfl, ⟨rfl, rfl⟩, ⟨rfl, rfl⟩⟩⟩)
theorem ty61_openS {W w : World} {B : List Res} {cs : List Value} {c : D.Word} (h : St W w (Own ty61 cs c :: B)) : cs = [.int .i64 c.Tag, .int .i64 c.At] ∧ St W w ([] ++ B) := by
  obtain ⟨G, hA, _⟩ := h.sep.head
  obtain ⟨rfl, _⟩ := ty61_own hA
  refine ⟨rfl, St.splitAll (h.conv fun G hG => ?_)⟩
  exact (ty61_own hG).2
theorem ty61_shutS {W w : World} {B : List Res} {c : D.Word}  (h : St W w ([] ++ B)) : St W w (Own ty61 [.int .i64 c.Tag, .int .i64 c.At] c :: B) := (St.fuseAll h).conv fun _ hG => ty61_ownI hG

def ty230 : Ty (List D.Word) := tSl 61 ty61
theorem ty230_form {w : World} {cs : List Value} {xs : (List D.Word)} (h : ty230.ro w cs xs) : ∃ A c, cs = [.slice A xs.length c] := slForm h

def ty232 : Ty D.Cell := tMap (fun c => (c.Kind, c.Level, c.Value, c.Data, c.Words, ())) (tPair tInt (tPair tInt (tPair tInt (tPair ty72 (tPair ty230 tUnit)))))
theorem ty232_open {w : World} {cs : List Value} {c : D.Cell} (h : ty232.ro w cs c) : ∃ A0 k0 A1 k1, cs = [.int .i64 c.Kind, .int .i64 c.Level, .int .i64 c.Value, .slice A0 c.Data.length k0, .slice A1 c.Words.length k1] ∧ ty72.ro w [.slice A0 c.Data.length k0] c.Data ∧ ty230.ro w [.slice A1 c.Words.length k1] c.Words := by
  obtain ⟨c0, d0, rfl, h0, c1, d1, rfl, h1, c2, d2, rfl, h2, c3, d3, rfl, h3, c4, d4, rfl, h4, hz⟩ := h
  subst hz
  subst h0
  subst h1
  subst h2
  obtain ⟨A3_, k3_, e3⟩ := ty72_form h3
  subst e3
  obtain ⟨A4_, k4_, e4⟩ := ty230_form h4
  subst e4
  exact ⟨A3_, k3_, A4_, k4_, rfl, h3, h4⟩
theorem ty232_shut {w : World} (c : D.Cell) {A0 : Option Addr} {k0 : Nat} {A1 : Option Addr} {k1 : Nat} (h0 : ty72.ro w [.slice A0 c.Data.length k0] c.Data) (h1 : ty230.ro w [.slice A1 c.Words.length k1] c.Words) : ty232.ro w [.int .i64 c.Kind, .int .i64 c.Level, .int .i64 c.Value, .slice A0 c.Data.length k0, .slice A1 c.Words.length k1] c :=
  ⟨_, _, rfl, rfl, ⟨_, _, rfl, rfl, ⟨_, _, rfl, rfl, ⟨_, _, rfl, h0, ⟨_, _, rfl, h1, rfl⟩⟩⟩⟩⟩
theorem ty232_own {w : World} {cs : List Value} {c : D.Cell} {G : List Nat} (h : ty232.own w cs c G) : ∃ A0 k0 A1 k1, cs = [.int .i64 c.Kind, .int .i64 c.Level, .int .i64 c.Value, .slice A0 c.Data.length k0, .slice A1 c.Words.length k1] ∧ (All [Own ty72 [.slice A0 c.Data.length k0] c.Data, Own ty230 [.slice A1 c.Words.length k1] c.Words]).A w G := by
  obtain ⟨c0, d0, H0, K0, rfl, rfl, h0, c1, d1, H1, K1, rfl, rfl, h1, c2, d2, H2, K2, rfl, rfl, h2, c3, d3, H3, K3, rfl, rfl, h3, c4, d4, H4, K4, rfl, rfl, h4, hz, hk⟩ := h
  subst hz; subst hk
  obtain ⟨e0, k0⟩ := h0; subst e0; subst k0
  obtain ⟨e1, k1⟩ := h1; subst e1; subst k1
  obtain ⟨e2, k2⟩ := h2; subst e2; subst k2
  obtain ⟨A3_, k3_, e3⟩ := ty72_form (ty72.own_ro h3)
  subst e3
  obtain ⟨A4_, k4_, e4⟩ := ty230_form (ty230.own_ro h4)
  subst e4
  refine ⟨A3_, k3_, A4_, k4_, rfl, ?_⟩
  show (All _).A w _
  exact cast (congrArg _ (by simp)) (show (All _).A w (H3 ++ (H4 ++ ([]))) from ⟨_, _, rfl, h3, ⟨_, _, rfl, h4, rfl⟩⟩)
theorem ty232_ownI {w : World} {c : D.Cell} {A0 : Option Addr} {k0 : Nat} {A1 : Option Addr} {k1 : Nat} {G : List Nat} (h : (All [Own ty72 [.slice A0 c.Data.length k0] c.Data, Own ty230 [.slice A1 c.Words.length k1] c.Words]).A w G) : ty232.own w [.int .i64 c.Kind, .int .i64 c.Level, .int .i64 c.Value, .slice A0 c.Data.length k0, .slice A1 c.Words.length k1] c G := by
  obtain ⟨G0, R0, rfl, h0, G1, R1, rfl, h1, hz⟩ := h
  have hz' : R1 = [] := hz
  subst hz'
  exact cast (congrArg _ (by simp)) (show ty232.own w [.int .i64 c.Kind, .int .i64 c.Level, .int .i64 c.Value, .slice A0 c.Data.length k0, .slice A1 c.Words.length k1] c (_) from ⟨_, _, _, _, rfl, rfl, ⟨rfl, rfl⟩, ⟨_, _, _, _, rfl, rfl, ⟨rfl, rfl⟩, ⟨_, _, _, _, rfl, rfl, ⟨rfl, rfl⟩, ⟨_, _, _, _, rfl, rfl, h0, ⟨_, _, _, _, rfl, rfl, h1, ⟨rfl, rfl⟩⟩⟩⟩⟩⟩)
theorem ty232_openS {W w : World} {B : List Res} {cs : List Value} {c : D.Cell} (h : St W w (Own ty232 cs c :: B)) : ∃ A0 k0 A1 k1, cs = [.int .i64 c.Kind, .int .i64 c.Level, .int .i64 c.Value, .slice A0 c.Data.length k0, .slice A1 c.Words.length k1] ∧ St W w ([Own ty72 [.slice A0 c.Data.length k0] c.Data, Own ty230 [.slice A1 c.Words.length k1] c.Words] ++ B) := by
  obtain ⟨G, hA, _⟩ := h.sep.head
  obtain ⟨A0, k0, A1, k1, rfl, _⟩ := ty232_own hA
  refine ⟨A0, k0, A1, k1, rfl, St.splitAll (h.conv fun G hG => ?_)⟩
  obtain ⟨X0, Y0, X1, Y1, he, hh⟩ := ty232_own hG
  simp only [List.cons.injEq, Value.slice.injEq, and_true, true_and] at he
  obtain ⟨⟨rfl, rfl⟩, ⟨rfl, rfl⟩⟩ := he
  exact hh
theorem ty232_shutS {W w : World} {B : List Res} {c : D.Cell} {A0 : Option Addr} {k0 : Nat} {A1 : Option Addr} {k1 : Nat} (h : St W w ([Own ty72 [.slice A0 c.Data.length k0] c.Data, Own ty230 [.slice A1 c.Words.length k1] c.Words] ++ B)) : St W w (Own ty232 [.int .i64 c.Kind, .int .i64 c.Level, .int .i64 c.Value, .slice A0 c.Data.length k0, .slice A1 c.Words.length k1] c :: B) := (St.fuseAll h).conv fun _ hG => ty232_ownI hG

def ty60 : Ty (List D.Cell) := tSl 232 ty232
theorem ty60_form {w : World} {cs : List Value} {xs : (List D.Cell)} (h : ty60.ro w cs xs) : ∃ A c, cs = [.slice A xs.length c] := slForm h

def ty155 : Ty D.Pair := tMap (fun c => (c.A, c.B, ())) (tPair tInt (tPair tInt tUnit))
theorem ty155_open {w : World} {cs : List Value} {c : D.Pair} (h : ty155.ro w cs c) : cs = [.int .i64 c.A, .int .i64 c.B] := by
  obtain ⟨c0, d0, rfl, h0, c1, d1, rfl, h1, hz⟩ := h
  subst hz
  subst h0
  subst h1
  rfl
theorem ty155_shut {w : World} (c : D.Pair)   : ty155.ro w [.int .i64 c.A, .int .i64 c.B] c :=
  ⟨_, _, rfl, rfl, ⟨_, _, rfl, rfl, rfl⟩⟩
theorem ty155_own {w : World} {cs : List Value} {c : D.Pair} {G : List Nat} (h : ty155.own w cs c G) : cs = [.int .i64 c.A, .int .i64 c.B] ∧ (All []).A w G := by
  obtain ⟨c0, d0, H0, K0, rfl, rfl, h0, c1, d1, H1, K1, rfl, rfl, h1, hz, hk⟩ := h
  subst hz; subst hk
  obtain ⟨e0, k0⟩ := h0; subst e0; subst k0
  obtain ⟨e1, k1⟩ := h1; subst e1; subst k1
  refine ⟨rfl, ?_⟩
  show (All _).A w _
  exact cast (congrArg _ (by simp)) (show (All _).A w ([]) from rfl)
theorem ty155_ownI {w : World} {c : D.Pair}  {G : List Nat} (h : (All []).A w G) : ty155.own w [.int .i64 c.A, .int .i64 c.B] c G := by
  have hz : G = [] := h
  subst hz
  exact cast (congrArg _ (by simp)) (show ty155.own w [.int .i64 c.A, .int .i64 c.B] c (_) from ⟨_, _, _, _, rfl, rfl, ⟨rfl, rfl⟩, ⟨_, _, _, _, rfl, rfl, ⟨rfl, rfl⟩, ⟨rfl, rfl⟩⟩⟩)
theorem ty155_openS {W w : World} {B : List Res} {cs : List Value} {c : D.Pair} (h : St W w (Own ty155 cs c :: B)) : cs = [.int .i64 c.A, .int .i64 c.B] ∧ St W w ([] ++ B) := by
  obtain ⟨G, hA, _⟩ := h.sep.head
  obtain ⟨rfl, _⟩ := ty155_own hA
  refine ⟨rfl, St.splitAll (h.conv fun G hG => ?_)⟩
  exact (ty155_own hG).2
theorem ty155_shutS {W w : World} {B : List Res} {c : D.Pair}  (h : St W w ([] ++ B)) : St W w (Own ty155 [.int .i64 c.A, .int .i64 c.B] c :: B) := (St.fuseAll h).conv fun _ hG => ty155_ownI hG

def ty62 : Ty (List D.Pair) := tSl 155 ty155
theorem ty62_form {w : World} {cs : List Value} {xs : (List D.Pair)} (h : ty62.ro w cs xs) : ∃ A c, cs = [.slice A xs.length c] := slForm h

def ty64 : Ty D.Memory := tMap (fun c => (c.Cells, c.Free, c.Root, c.Redexes, ())) (tPair ty60 (tPair tInt (tPair ty61 (tPair ty62 tUnit))))
theorem ty64_open {w : World} {cs : List Value} {c : D.Memory} (h : ty64.ro w cs c) : ∃ A0 k0 A1 k1, cs = [.slice A0 c.Cells.length k0, .int .i64 c.Free, .int .i64 c.Root.Tag, .int .i64 c.Root.At, .slice A1 c.Redexes.length k1] ∧ ty60.ro w [.slice A0 c.Cells.length k0] c.Cells ∧ ty62.ro w [.slice A1 c.Redexes.length k1] c.Redexes := by
  obtain ⟨c0, d0, rfl, h0, c1, d1, rfl, h1, c2, d2, rfl, h2, c3, d3, rfl, h3, hz⟩ := h
  subst hz
  obtain ⟨A0_, k0_, e0⟩ := ty60_form h0
  subst e0
  subst h1
  have e2 := ty61_open h2
  subst e2
  obtain ⟨A3_, k3_, e3⟩ := ty62_form h3
  subst e3
  exact ⟨A0_, k0_, A3_, k3_, rfl, h0, h3⟩
theorem ty64_shut {w : World} (c : D.Memory) {A0 : Option Addr} {k0 : Nat} {A1 : Option Addr} {k1 : Nat} (h0 : ty60.ro w [.slice A0 c.Cells.length k0] c.Cells) (h1 : ty62.ro w [.slice A1 c.Redexes.length k1] c.Redexes) : ty64.ro w [.slice A0 c.Cells.length k0, .int .i64 c.Free, .int .i64 c.Root.Tag, .int .i64 c.Root.At, .slice A1 c.Redexes.length k1] c :=
  ⟨_, _, rfl, h0, ⟨_, _, rfl, rfl, ⟨_, _, rfl, (ty61_shut c.Root ), ⟨_, _, rfl, h1, rfl⟩⟩⟩⟩
theorem ty64_own {w : World} {cs : List Value} {c : D.Memory} {G : List Nat} (h : ty64.own w cs c G) : ∃ A0 k0 A1 k1, cs = [.slice A0 c.Cells.length k0, .int .i64 c.Free, .int .i64 c.Root.Tag, .int .i64 c.Root.At, .slice A1 c.Redexes.length k1] ∧ (All [Own ty60 [.slice A0 c.Cells.length k0] c.Cells, Own ty62 [.slice A1 c.Redexes.length k1] c.Redexes]).A w G := by
  obtain ⟨c0, d0, H0, K0, rfl, rfl, h0, c1, d1, H1, K1, rfl, rfl, h1, c2, d2, H2, K2, rfl, rfl, h2, c3, d3, H3, K3, rfl, rfl, h3, hz, hk⟩ := h
  subst hz; subst hk
  obtain ⟨A0_, k0_, e0⟩ := ty60_form (ty60.own_ro h0)
  subst e0
  obtain ⟨e1, k1⟩ := h1; subst e1; subst k1
  obtain ⟨e2, g2⟩ := ty61_own h2
  subst e2
  obtain ⟨A3_, k3_, e3⟩ := ty62_form (ty62.own_ro h3)
  subst e3
  refine ⟨A0_, k0_, A3_, k3_, rfl, ?_⟩
  exact cast (congrArg _ (by simp)) (allApp (allOne h0) (allApp g2 (allOne h3)))
theorem ty64_ownI {w : World} {c : D.Memory} {A0 : Option Addr} {k0 : Nat} {A1 : Option Addr} {k1 : Nat} {G : List Nat} (h : (All [Own ty60 [.slice A0 c.Cells.length k0] c.Cells, Own ty62 [.slice A1 c.Redexes.length k1] c.Redexes]).A w G) : ty64.own w [.slice A0 c.Cells.length k0, .int .i64 c.Free, .int .i64 c.Root.Tag, .int .i64 c.Root.At, .slice A1 c.Redexes.length k1] c G := by
  obtain ⟨G0, R0, rfl, h0, G1, R1, rfl, h1, hz⟩ := h
  have hz' : R1 = [] := hz
  subst hz'
  exact cast (congrArg _ (by simp)) (show ty64.own w [.slice A0 c.Cells.length k0, .int .i64 c.Free, .int .i64 c.Root.Tag, .int .i64 c.Root.At, .slice A1 c.Redexes.length k1] c (_) from ⟨_, _, _, _, rfl, rfl, h0, ⟨_, _, _, _, rfl, rfl, ⟨rfl, rfl⟩, ⟨_, _, _, _, rfl, rfl, (ty61_ownI (c := c.Root) rfl), ⟨_, _, _, _, rfl, rfl, h1, ⟨rfl, rfl⟩⟩⟩⟩⟩)
theorem ty64_openS {W w : World} {B : List Res} {cs : List Value} {c : D.Memory} (h : St W w (Own ty64 cs c :: B)) : ∃ A0 k0 A1 k1, cs = [.slice A0 c.Cells.length k0, .int .i64 c.Free, .int .i64 c.Root.Tag, .int .i64 c.Root.At, .slice A1 c.Redexes.length k1] ∧ St W w ([Own ty60 [.slice A0 c.Cells.length k0] c.Cells, Own ty62 [.slice A1 c.Redexes.length k1] c.Redexes] ++ B) := by
  obtain ⟨G, hA, _⟩ := h.sep.head
  obtain ⟨A0, k0, A1, k1, rfl, _⟩ := ty64_own hA
  refine ⟨A0, k0, A1, k1, rfl, St.splitAll (h.conv fun G hG => ?_)⟩
  obtain ⟨X0, Y0, X1, Y1, he, hh⟩ := ty64_own hG
  simp only [List.cons.injEq, Value.slice.injEq, and_true, true_and] at he
  obtain ⟨⟨rfl, rfl⟩, ⟨rfl, rfl⟩⟩ := he
  exact hh
theorem ty64_shutS {W w : World} {B : List Res} {c : D.Memory} {A0 : Option Addr} {k0 : Nat} {A1 : Option Addr} {k1 : Nat} (h : St W w ([Own ty60 [.slice A0 c.Cells.length k0] c.Cells, Own ty62 [.slice A1 c.Redexes.length k1] c.Redexes] ++ B)) : St W w (Own ty64 [.slice A0 c.Cells.length k0, .int .i64 c.Free, .int .i64 c.Root.Tag, .int .i64 c.Root.At, .slice A1 c.Redexes.length k1] c :: B) := (St.fuseAll h).conv fun _ hG => ty64_ownI hG

def ty158 : Ty D.Link := tMap (fun c => (c.A, c.B, ())) (tPair ty61 (tPair ty61 tUnit))
theorem ty158_open {w : World} {cs : List Value} {c : D.Link} (h : ty158.ro w cs c) : cs = [.int .i64 c.A.Tag, .int .i64 c.A.At, .int .i64 c.B.Tag, .int .i64 c.B.At] := by
  obtain ⟨c0, d0, rfl, h0, c1, d1, rfl, h1, hz⟩ := h
  subst hz
  have e0 := ty61_open h0
  subst e0
  have e1 := ty61_open h1
  subst e1
  rfl
theorem ty158_shut {w : World} (c : D.Link)   : ty158.ro w [.int .i64 c.A.Tag, .int .i64 c.A.At, .int .i64 c.B.Tag, .int .i64 c.B.At] c :=
  ⟨_, _, rfl, (ty61_shut c.A ), ⟨_, _, rfl, (ty61_shut c.B ), rfl⟩⟩
theorem ty158_own {w : World} {cs : List Value} {c : D.Link} {G : List Nat} (h : ty158.own w cs c G) : cs = [.int .i64 c.A.Tag, .int .i64 c.A.At, .int .i64 c.B.Tag, .int .i64 c.B.At] ∧ (All []).A w G := by
  obtain ⟨c0, d0, H0, K0, rfl, rfl, h0, c1, d1, H1, K1, rfl, rfl, h1, hz, hk⟩ := h
  subst hz; subst hk
  obtain ⟨e0, g0⟩ := ty61_own h0
  subst e0
  obtain ⟨e1, g1⟩ := ty61_own h1
  subst e1
  refine ⟨rfl, ?_⟩
  exact cast (congrArg _ (by simp)) (allApp g0 g1)
theorem ty158_ownI {w : World} {c : D.Link}  {G : List Nat} (h : (All []).A w G) : ty158.own w [.int .i64 c.A.Tag, .int .i64 c.A.At, .int .i64 c.B.Tag, .int .i64 c.B.At] c G := by
  have hz : G = [] := h
  subst hz
  exact cast (congrArg _ (by simp)) (show ty158.own w [.int .i64 c.A.Tag, .int .i64 c.A.At, .int .i64 c.B.Tag, .int .i64 c.B.At] c (_) from ⟨_, _, _, _, rfl, rfl, (ty61_ownI (c := c.A) rfl), ⟨_, _, _, _, rfl, rfl, (ty61_ownI (c := c.B) rfl), ⟨rfl, rfl⟩⟩⟩)
theorem ty158_openS {W w : World} {B : List Res} {cs : List Value} {c : D.Link} (h : St W w (Own ty158 cs c :: B)) : cs = [.int .i64 c.A.Tag, .int .i64 c.A.At, .int .i64 c.B.Tag, .int .i64 c.B.At] ∧ St W w ([] ++ B) := by
  obtain ⟨G, hA, _⟩ := h.sep.head
  obtain ⟨rfl, _⟩ := ty158_own hA
  refine ⟨rfl, St.splitAll (h.conv fun G hG => ?_)⟩
  exact (ty158_own hG).2
theorem ty158_shutS {W w : World} {B : List Res} {c : D.Link}  (h : St W w ([] ++ B)) : St W w (Own ty158 [.int .i64 c.A.Tag, .int .i64 c.A.At, .int .i64 c.B.Tag, .int .i64 c.B.At] c :: B) := (St.fuseAll h).conv fun _ hG => ty158_ownI hG

def ty150 : Ty (List D.Link) := tSl 158 ty158
theorem ty150_form {w : World} {cs : List Value} {xs : (List D.Link)} (h : ty150.ro w cs xs) : ∃ A c, cs = [.slice A xs.length c] := slForm h

def ty152 : Ty D.Worker := tMap (fun c => (c.Phase, c.Victim, c.Redexes, c.Links, c.Counts, ())) (tPair tInt (tPair tInt (tPair ty62 (tPair ty150 (tPair ty72 tUnit)))))
theorem ty152_open {w : World} {cs : List Value} {c : D.Worker} (h : ty152.ro w cs c) : ∃ A0 k0 A1 k1 A2 k2, cs = [.int .i64 c.Phase, .int .i64 c.Victim, .slice A0 c.Redexes.length k0, .slice A1 c.Links.length k1, .slice A2 c.Counts.length k2] ∧ ty62.ro w [.slice A0 c.Redexes.length k0] c.Redexes ∧ ty150.ro w [.slice A1 c.Links.length k1] c.Links ∧ ty72.ro w [.slice A2 c.Counts.length k2] c.Counts := by
  obtain ⟨c0, d0, rfl, h0, c1, d1, rfl, h1, c2, d2, rfl, h2, c3, d3, rfl, h3, c4, d4, rfl, h4, hz⟩ := h
  subst hz
  subst h0
  subst h1
  obtain ⟨A2_, k2_, e2⟩ := ty62_form h2
  subst e2
  obtain ⟨A3_, k3_, e3⟩ := ty150_form h3
  subst e3
  obtain ⟨A4_, k4_, e4⟩ := ty72_form h4
  subst e4
  exact ⟨A2_, k2_, A3_, k3_, A4_, k4_, rfl, h2, h3, h4⟩
theorem ty152_shut {w : World} (c : D.Worker) {A0 : Option Addr} {k0 : Nat} {A1 : Option Addr} {k1 : Nat} {A2 : Option Addr} {k2 : Nat} (h0 : ty62.ro w [.slice A0 c.Redexes.length k0] c.Redexes) (h1 : ty150.ro w [.slice A1 c.Links.length k1] c.Links) (h2 : ty72.ro w [.slice A2 c.Counts.length k2] c.Counts) : ty152.ro w [.int .i64 c.Phase, .int .i64 c.Victim, .slice A0 c.Redexes.length k0, .slice A1 c.Links.length k1, .slice A2 c.Counts.length k2] c :=
  ⟨_, _, rfl, rfl, ⟨_, _, rfl, rfl, ⟨_, _, rfl, h0, ⟨_, _, rfl, h1, ⟨_, _, rfl, h2, rfl⟩⟩⟩⟩⟩
theorem ty152_own {w : World} {cs : List Value} {c : D.Worker} {G : List Nat} (h : ty152.own w cs c G) : ∃ A0 k0 A1 k1 A2 k2, cs = [.int .i64 c.Phase, .int .i64 c.Victim, .slice A0 c.Redexes.length k0, .slice A1 c.Links.length k1, .slice A2 c.Counts.length k2] ∧ (All [Own ty62 [.slice A0 c.Redexes.length k0] c.Redexes, Own ty150 [.slice A1 c.Links.length k1] c.Links, Own ty72 [.slice A2 c.Counts.length k2] c.Counts]).A w G := by
  obtain ⟨c0, d0, H0, K0, rfl, rfl, h0, c1, d1, H1, K1, rfl, rfl, h1, c2, d2, H2, K2, rfl, rfl, h2, c3, d3, H3, K3, rfl, rfl, h3, c4, d4, H4, K4, rfl, rfl, h4, hz, hk⟩ := h
  subst hz; subst hk
  obtain ⟨e0, k0⟩ := h0; subst e0; subst k0
  obtain ⟨e1, k1⟩ := h1; subst e1; subst k1
  obtain ⟨A2_, k2_, e2⟩ := ty62_form (ty62.own_ro h2)
  subst e2
  obtain ⟨A3_, k3_, e3⟩ := ty150_form (ty150.own_ro h3)
  subst e3
  obtain ⟨A4_, k4_, e4⟩ := ty72_form (ty72.own_ro h4)
  subst e4
  refine ⟨A2_, k2_, A3_, k3_, A4_, k4_, rfl, ?_⟩
  show (All _).A w _
  exact cast (congrArg _ (by simp)) (show (All _).A w (H2 ++ (H3 ++ (H4 ++ ([])))) from ⟨_, _, rfl, h2, ⟨_, _, rfl, h3, ⟨_, _, rfl, h4, rfl⟩⟩⟩)
theorem ty152_ownI {w : World} {c : D.Worker} {A0 : Option Addr} {k0 : Nat} {A1 : Option Addr} {k1 : Nat} {A2 : Option Addr} {k2 : Nat} {G : List Nat} (h : (All [Own ty62 [.slice A0 c.Redexes.length k0] c.Redexes, Own ty150 [.slice A1 c.Links.length k1] c.Links, Own ty72 [.slice A2 c.Counts.length k2] c.Counts]).A w G) : ty152.own w [.int .i64 c.Phase, .int .i64 c.Victim, .slice A0 c.Redexes.length k0, .slice A1 c.Links.length k1, .slice A2 c.Counts.length k2] c G := by
  obtain ⟨G0, R0, rfl, h0, G1, R1, rfl, h1, G2, R2, rfl, h2, hz⟩ := h
  have hz' : R2 = [] := hz
  subst hz'
  exact cast (congrArg _ (by simp)) (show ty152.own w [.int .i64 c.Phase, .int .i64 c.Victim, .slice A0 c.Redexes.length k0, .slice A1 c.Links.length k1, .slice A2 c.Counts.length k2] c (_) from ⟨_, _, _, _, rfl, rfl, ⟨rfl, rfl⟩, ⟨_, _, _, _, rfl, rfl, ⟨rfl, rfl⟩, ⟨_, _, _, _, rfl, rfl, h0, ⟨_, _, _, _, rfl, rfl, h1, ⟨_, _, _, _, rfl, rfl, h2, ⟨rfl, rfl⟩⟩⟩⟩⟩⟩)
theorem ty152_openS {W w : World} {B : List Res} {cs : List Value} {c : D.Worker} (h : St W w (Own ty152 cs c :: B)) : ∃ A0 k0 A1 k1 A2 k2, cs = [.int .i64 c.Phase, .int .i64 c.Victim, .slice A0 c.Redexes.length k0, .slice A1 c.Links.length k1, .slice A2 c.Counts.length k2] ∧ St W w ([Own ty62 [.slice A0 c.Redexes.length k0] c.Redexes, Own ty150 [.slice A1 c.Links.length k1] c.Links, Own ty72 [.slice A2 c.Counts.length k2] c.Counts] ++ B) := by
  obtain ⟨G, hA, _⟩ := h.sep.head
  obtain ⟨A0, k0, A1, k1, A2, k2, rfl, _⟩ := ty152_own hA
  refine ⟨A0, k0, A1, k1, A2, k2, rfl, St.splitAll (h.conv fun G hG => ?_)⟩
  obtain ⟨X0, Y0, X1, Y1, X2, Y2, he, hh⟩ := ty152_own hG
  simp only [List.cons.injEq, Value.slice.injEq, and_true, true_and] at he
  obtain ⟨⟨rfl, rfl⟩, ⟨rfl, rfl⟩, ⟨rfl, rfl⟩⟩ := he
  exact hh
theorem ty152_shutS {W w : World} {B : List Res} {c : D.Worker} {A0 : Option Addr} {k0 : Nat} {A1 : Option Addr} {k1 : Nat} {A2 : Option Addr} {k2 : Nat} (h : St W w ([Own ty62 [.slice A0 c.Redexes.length k0] c.Redexes, Own ty150 [.slice A1 c.Links.length k1] c.Links, Own ty72 [.slice A2 c.Counts.length k2] c.Counts] ++ B)) : St W w (Own ty152 [.int .i64 c.Phase, .int .i64 c.Victim, .slice A0 c.Redexes.length k0, .slice A1 c.Links.length k1, .slice A2 c.Counts.length k2] c :: B) := (St.fuseAll h).conv fun _ hG => ty152_ownI hG

def ty65 : Ty (List D.Worker) := tSl 152 ty152
theorem ty65_form {w : World} {cs : List Value} {xs : (List D.Worker)} (h : ty65.ro w cs xs) : ∃ A c, cs = [.slice A xs.length c] := slForm h

def ty67 : Ty D.Pool := tMap (fun c => (c.Memory, c.Workers, c.Active, ())) (tPair ty64 (tPair ty65 (tPair tInt tUnit)))
theorem ty67_open {w : World} {cs : List Value} {c : D.Pool} (h : ty67.ro w cs c) : ∃ A0 k0 A1 k1 A2 k2, cs = [.slice A0 c.Memory.Cells.length k0, .int .i64 c.Memory.Free, .int .i64 c.Memory.Root.Tag, .int .i64 c.Memory.Root.At, .slice A1 c.Memory.Redexes.length k1, .slice A2 c.Workers.length k2, .int .i64 c.Active] ∧ ty60.ro w [.slice A0 c.Memory.Cells.length k0] c.Memory.Cells ∧ ty62.ro w [.slice A1 c.Memory.Redexes.length k1] c.Memory.Redexes ∧ ty65.ro w [.slice A2 c.Workers.length k2] c.Workers := by
  obtain ⟨c0, d0, rfl, h0, c1, d1, rfl, h1, c2, d2, rfl, h2, hz⟩ := h
  subst hz
  obtain ⟨A0_0, k0_0, A0_1, k0_1, e0, g0_0, g0_1⟩ := ty64_open h0
  subst e0
  obtain ⟨A1_, k1_, e1⟩ := ty65_form h1
  subst e1
  subst h2
  exact ⟨A0_0, k0_0, A0_1, k0_1, A1_, k1_, rfl, g0_0, g0_1, h1⟩
theorem ty67_shut {w : World} (c : D.Pool) {A0 : Option Addr} {k0 : Nat} {A1 : Option Addr} {k1 : Nat} {A2 : Option Addr} {k2 : Nat} (h0 : ty60.ro w [.slice A0 c.Memory.Cells.length k0] c.Memory.Cells) (h1 : ty62.ro w [.slice A1 c.Memory.Redexes.length k1] c.Memory.Redexes) (h2 : ty65.ro w [.slice A2 c.Workers.length k2] c.Workers) : ty67.ro w [.slice A0 c.Memory.Cells.length k0, .int .i64 c.Memory.Free, .int .i64 c.Memory.Root.Tag, .int .i64 c.Memory.Root.At, .slice A1 c.Memory.Redexes.length k1, .slice A2 c.Workers.length k2, .int .i64 c.Active] c :=
  ⟨_, _, rfl, (ty64_shut c.Memory h0 h1), ⟨_, _, rfl, h2, ⟨_, _, rfl, rfl, rfl⟩⟩⟩
theorem ty67_own {w : World} {cs : List Value} {c : D.Pool} {G : List Nat} (h : ty67.own w cs c G) : ∃ A0 k0 A1 k1 A2 k2, cs = [.slice A0 c.Memory.Cells.length k0, .int .i64 c.Memory.Free, .int .i64 c.Memory.Root.Tag, .int .i64 c.Memory.Root.At, .slice A1 c.Memory.Redexes.length k1, .slice A2 c.Workers.length k2, .int .i64 c.Active] ∧ (All [Own ty60 [.slice A0 c.Memory.Cells.length k0] c.Memory.Cells, Own ty62 [.slice A1 c.Memory.Redexes.length k1] c.Memory.Redexes, Own ty65 [.slice A2 c.Workers.length k2] c.Workers]).A w G := by
  obtain ⟨c0, d0, H0, K0, rfl, rfl, h0, c1, d1, H1, K1, rfl, rfl, h1, c2, d2, H2, K2, rfl, rfl, h2, hz, hk⟩ := h
  subst hz; subst hk
  obtain ⟨A0_0, k0_0, A0_1, k0_1, e0, g0⟩ := ty64_own h0
  subst e0
  obtain ⟨A1_, k1_, e1⟩ := ty65_form (ty65.own_ro h1)
  subst e1
  obtain ⟨e2, k2⟩ := h2; subst e2; subst k2
  refine ⟨A0_0, k0_0, A0_1, k0_1, A1_, k1_, rfl, ?_⟩
  exact cast (congrArg _ (by simp)) (allApp g0 (allOne h1))
theorem ty67_ownI {w : World} {c : D.Pool} {A0 : Option Addr} {k0 : Nat} {A1 : Option Addr} {k1 : Nat} {A2 : Option Addr} {k2 : Nat} {G : List Nat} (h : (All [Own ty60 [.slice A0 c.Memory.Cells.length k0] c.Memory.Cells, Own ty62 [.slice A1 c.Memory.Redexes.length k1] c.Memory.Redexes, Own ty65 [.slice A2 c.Workers.length k2] c.Workers]).A w G) : ty67.own w [.slice A0 c.Memory.Cells.length k0, .int .i64 c.Memory.Free, .int .i64 c.Memory.Root.Tag, .int .i64 c.Memory.Root.At, .slice A1 c.Memory.Redexes.length k1, .slice A2 c.Workers.length k2, .int .i64 c.Active] c G := by
  obtain ⟨G0, R0, rfl, h0, G1, R1, rfl, h1, G2, R2, rfl, h2, hz⟩ := h
  have hz' : R2 = [] := hz
  subst hz'
  exact cast (congrArg _ (by simp)) (show ty67.own w [.slice A0 c.Memory.Cells.length k0, .int .i64 c.Memory.Free, .int .i64 c.Memory.Root.Tag, .int .i64 c.Memory.Root.At, .slice A1 c.Memory.Redexes.length k1, .slice A2 c.Workers.length k2, .int .i64 c.Active] c (_) from ⟨_, _, _, _, rfl, rfl, (ty64_ownI (c := c.Memory) ⟨_, _, rfl, h0, ⟨_, _, rfl, h1, rfl⟩⟩), ⟨_, _, _, _, rfl, rfl, h2, ⟨_, _, _, _, rfl, rfl, ⟨rfl, rfl⟩, ⟨rfl, rfl⟩⟩⟩⟩)
theorem ty67_openS {W w : World} {B : List Res} {cs : List Value} {c : D.Pool} (h : St W w (Own ty67 cs c :: B)) : ∃ A0 k0 A1 k1 A2 k2, cs = [.slice A0 c.Memory.Cells.length k0, .int .i64 c.Memory.Free, .int .i64 c.Memory.Root.Tag, .int .i64 c.Memory.Root.At, .slice A1 c.Memory.Redexes.length k1, .slice A2 c.Workers.length k2, .int .i64 c.Active] ∧ St W w ([Own ty60 [.slice A0 c.Memory.Cells.length k0] c.Memory.Cells, Own ty62 [.slice A1 c.Memory.Redexes.length k1] c.Memory.Redexes, Own ty65 [.slice A2 c.Workers.length k2] c.Workers] ++ B) := by
  obtain ⟨G, hA, _⟩ := h.sep.head
  obtain ⟨A0, k0, A1, k1, A2, k2, rfl, _⟩ := ty67_own hA
  refine ⟨A0, k0, A1, k1, A2, k2, rfl, St.splitAll (h.conv fun G hG => ?_)⟩
  obtain ⟨X0, Y0, X1, Y1, X2, Y2, he, hh⟩ := ty67_own hG
  simp only [List.cons.injEq, Value.slice.injEq, and_true, true_and] at he
  obtain ⟨⟨rfl, rfl⟩, ⟨rfl, rfl⟩, ⟨rfl, rfl⟩⟩ := he
  exact hh
theorem ty67_shutS {W w : World} {B : List Res} {c : D.Pool} {A0 : Option Addr} {k0 : Nat} {A1 : Option Addr} {k1 : Nat} {A2 : Option Addr} {k2 : Nat} (h : St W w ([Own ty60 [.slice A0 c.Memory.Cells.length k0] c.Memory.Cells, Own ty62 [.slice A1 c.Memory.Redexes.length k1] c.Memory.Redexes, Own ty65 [.slice A2 c.Workers.length k2] c.Workers] ++ B)) : St W w (Own ty67 [.slice A0 c.Memory.Cells.length k0, .int .i64 c.Memory.Free, .int .i64 c.Memory.Root.Tag, .int .i64 c.Memory.Root.At, .slice A1 c.Memory.Redexes.length k1, .slice A2 c.Workers.length k2, .int .i64 c.Active] c :: B) := (St.fuseAll h).conv fun _ hG => ty67_ownI hG

def ty276 : Ty D.Parcel := tMap (fun c => (c.Kind, c.Cell, c.A, c.B, ())) (tPair tInt (tPair ty204 (tPair ty38 (tPair ty38 tUnit))))
theorem ty276_open {w : World} {cs : List Value} {c : D.Parcel} (h : ty276.ro w cs c) : ∃ A0 k0 A1 k1, cs = [.int .i64 c.Kind, .int .i64 c.Cell.Kind, .int .i64 c.Cell.Level, .int .i64 c.Cell.Value, .slice A0 c.Cell.Data.length k0, .slice A1 c.Cell.Aux.length k1, .int .i64 c.A.Machine, .int .i64 c.A.Kind, .int .i64 c.A.Index, .int .i64 c.B.Machine, .int .i64 c.B.Kind, .int .i64 c.B.Index] ∧ ty72.ro w [.slice A0 c.Cell.Data.length k0] c.Cell.Data ∧ ty202.ro w [.slice A1 c.Cell.Aux.length k1] c.Cell.Aux := by
  obtain ⟨c0, d0, rfl, h0, c1, d1, rfl, h1, c2, d2, rfl, h2, c3, d3, rfl, h3, hz⟩ := h
  subst hz
  subst h0
  obtain ⟨A1_0, k1_0, A1_1, k1_1, e1, g1_0, g1_1⟩ := ty204_open h1
  subst e1
  have e2 := ty38_open h2
  subst e2
  have e3 := ty38_open h3
  subst e3
  exact ⟨A1_0, k1_0, A1_1, k1_1, rfl, g1_0, g1_1⟩
theorem ty276_shut {w : World} (c : D.Parcel) {A0 : Option Addr} {k0 : Nat} {A1 : Option Addr} {k1 : Nat} (h0 : ty72.ro w [.slice A0 c.Cell.Data.length k0] c.Cell.Data) (h1 : ty202.ro w [.slice A1 c.Cell.Aux.length k1] c.Cell.Aux) : ty276.ro w [.int .i64 c.Kind, .int .i64 c.Cell.Kind, .int .i64 c.Cell.Level, .int .i64 c.Cell.Value, .slice A0 c.Cell.Data.length k0, .slice A1 c.Cell.Aux.length k1, .int .i64 c.A.Machine, .int .i64 c.A.Kind, .int .i64 c.A.Index, .int .i64 c.B.Machine, .int .i64 c.B.Kind, .int .i64 c.B.Index] c :=
  ⟨_, _, rfl, rfl, ⟨_, _, rfl, (ty204_shut c.Cell h0 h1), ⟨_, _, rfl, (ty38_shut c.A ), ⟨_, _, rfl, (ty38_shut c.B ), rfl⟩⟩⟩⟩
theorem ty276_own {w : World} {cs : List Value} {c : D.Parcel} {G : List Nat} (h : ty276.own w cs c G) : ∃ A0 k0 A1 k1, cs = [.int .i64 c.Kind, .int .i64 c.Cell.Kind, .int .i64 c.Cell.Level, .int .i64 c.Cell.Value, .slice A0 c.Cell.Data.length k0, .slice A1 c.Cell.Aux.length k1, .int .i64 c.A.Machine, .int .i64 c.A.Kind, .int .i64 c.A.Index, .int .i64 c.B.Machine, .int .i64 c.B.Kind, .int .i64 c.B.Index] ∧ (All [Own ty72 [.slice A0 c.Cell.Data.length k0] c.Cell.Data, Own ty202 [.slice A1 c.Cell.Aux.length k1] c.Cell.Aux]).A w G := by
  obtain ⟨c0, d0, H0, K0, rfl, rfl, h0, c1, d1, H1, K1, rfl, rfl, h1, c2, d2, H2, K2, rfl, rfl, h2, c3, d3, H3, K3, rfl, rfl, h3, hz, hk⟩ := h
  subst hz; subst hk
  obtain ⟨e0, k0⟩ := h0; subst e0; subst k0
  obtain ⟨A1_0, k1_0, A1_1, k1_1, e1, g1⟩ := ty204_own h1
  subst e1
  obtain ⟨e2, g2⟩ := ty38_own h2
  subst e2
  obtain ⟨e3, g3⟩ := ty38_own h3
  subst e3
  refine ⟨A1_0, k1_0, A1_1, k1_1, rfl, ?_⟩
  exact cast (congrArg _ (by simp)) (allApp g1 (allApp g2 g3))
theorem ty276_ownI {w : World} {c : D.Parcel} {A0 : Option Addr} {k0 : Nat} {A1 : Option Addr} {k1 : Nat} {G : List Nat} (h : (All [Own ty72 [.slice A0 c.Cell.Data.length k0] c.Cell.Data, Own ty202 [.slice A1 c.Cell.Aux.length k1] c.Cell.Aux]).A w G) : ty276.own w [.int .i64 c.Kind, .int .i64 c.Cell.Kind, .int .i64 c.Cell.Level, .int .i64 c.Cell.Value, .slice A0 c.Cell.Data.length k0, .slice A1 c.Cell.Aux.length k1, .int .i64 c.A.Machine, .int .i64 c.A.Kind, .int .i64 c.A.Index, .int .i64 c.B.Machine, .int .i64 c.B.Kind, .int .i64 c.B.Index] c G := by
  obtain ⟨G0, R0, rfl, h0, G1, R1, rfl, h1, hz⟩ := h
  have hz' : R1 = [] := hz
  subst hz'
  exact cast (congrArg _ (by simp)) (show ty276.own w [.int .i64 c.Kind, .int .i64 c.Cell.Kind, .int .i64 c.Cell.Level, .int .i64 c.Cell.Value, .slice A0 c.Cell.Data.length k0, .slice A1 c.Cell.Aux.length k1, .int .i64 c.A.Machine, .int .i64 c.A.Kind, .int .i64 c.A.Index, .int .i64 c.B.Machine, .int .i64 c.B.Kind, .int .i64 c.B.Index] c (_) from ⟨_, _, _, _, rfl, rfl, ⟨rfl, rfl⟩, ⟨_, _, _, _, rfl, rfl, (ty204_ownI (c := c.Cell) ⟨_, _, rfl, h0, ⟨_, _, rfl, h1, rfl⟩⟩), ⟨_, _, _, _, rfl, rfl, (ty38_ownI (c := c.A) rfl), ⟨_, _, _, _, rfl, rfl, (ty38_ownI (c := c.B) rfl), ⟨rfl, rfl⟩⟩⟩⟩⟩)
theorem ty276_openS {W w : World} {B : List Res} {cs : List Value} {c : D.Parcel} (h : St W w (Own ty276 cs c :: B)) : ∃ A0 k0 A1 k1, cs = [.int .i64 c.Kind, .int .i64 c.Cell.Kind, .int .i64 c.Cell.Level, .int .i64 c.Cell.Value, .slice A0 c.Cell.Data.length k0, .slice A1 c.Cell.Aux.length k1, .int .i64 c.A.Machine, .int .i64 c.A.Kind, .int .i64 c.A.Index, .int .i64 c.B.Machine, .int .i64 c.B.Kind, .int .i64 c.B.Index] ∧ St W w ([Own ty72 [.slice A0 c.Cell.Data.length k0] c.Cell.Data, Own ty202 [.slice A1 c.Cell.Aux.length k1] c.Cell.Aux] ++ B) := by
  obtain ⟨G, hA, _⟩ := h.sep.head
  obtain ⟨A0, k0, A1, k1, rfl, _⟩ := ty276_own hA
  refine ⟨A0, k0, A1, k1, rfl, St.splitAll (h.conv fun G hG => ?_)⟩
  obtain ⟨X0, Y0, X1, Y1, he, hh⟩ := ty276_own hG
  simp only [List.cons.injEq, Value.slice.injEq, and_true, true_and] at he
  obtain ⟨⟨rfl, rfl⟩, ⟨rfl, rfl⟩⟩ := he
  exact hh
theorem ty276_shutS {W w : World} {B : List Res} {c : D.Parcel} {A0 : Option Addr} {k0 : Nat} {A1 : Option Addr} {k1 : Nat} (h : St W w ([Own ty72 [.slice A0 c.Cell.Data.length k0] c.Cell.Data, Own ty202 [.slice A1 c.Cell.Aux.length k1] c.Cell.Aux] ++ B)) : St W w (Own ty276 [.int .i64 c.Kind, .int .i64 c.Cell.Kind, .int .i64 c.Cell.Level, .int .i64 c.Cell.Value, .slice A0 c.Cell.Data.length k0, .slice A1 c.Cell.Aux.length k1, .int .i64 c.A.Machine, .int .i64 c.A.Kind, .int .i64 c.A.Index, .int .i64 c.B.Machine, .int .i64 c.B.Kind, .int .i64 c.B.Index] c :: B) := (St.fuseAll h).conv fun _ hG => ty276_ownI hG

def ty237 : Ty (List D.Parcel) := tSl 276 ty276
theorem ty237_form {w : World} {cs : List Value} {xs : (List D.Parcel)} (h : ty237.ro w cs xs) : ∃ A c, cs = [.slice A xs.length c] := slForm h

def ty70 : Ty (List (List D.Parcel)) := tSl 237 ty237
theorem ty70_form {w : World} {cs : List Value} {xs : (List (List D.Parcel))} (h : ty70.ro w cs xs) : ∃ A c, cs = [.slice A xs.length c] := slForm h

def ty71 : Ty (List (List Int)) := tSl 72 ty72
theorem ty71_form {w : World} {cs : List Value} {xs : (List (List Int))} (h : ty71.ro w cs xs) : ∃ A c, cs = [.slice A xs.length c] := slForm h

def ty74 : Ty D.Cluster := tMap (fun c => (c.Grid, c.Channels, c.Counts, c.Sent, c.Got, ())) (tPair ty40 (tPair ty70 (tPair ty71 (tPair ty72 (tPair ty72 tUnit)))))
theorem ty74_open {w : World} {cs : List Value} {c : D.Cluster} (h : ty74.ro w cs c) : ∃ A0 k0 A1 k1 A2 k2 A3 k3 A4 k4, cs = [.slice A0 c.Grid.Shards.length k0, .int .i64 c.Grid.Root.Machine, .int .i64 c.Grid.Root.Kind, .int .i64 c.Grid.Root.Index, .slice A1 c.Channels.length k1, .slice A2 c.Counts.length k2, .slice A3 c.Sent.length k3, .slice A4 c.Got.length k4] ∧ ty36.ro w [.slice A0 c.Grid.Shards.length k0] c.Grid.Shards ∧ ty70.ro w [.slice A1 c.Channels.length k1] c.Channels ∧ ty71.ro w [.slice A2 c.Counts.length k2] c.Counts ∧ ty72.ro w [.slice A3 c.Sent.length k3] c.Sent ∧ ty72.ro w [.slice A4 c.Got.length k4] c.Got := by
  obtain ⟨c0, d0, rfl, h0, c1, d1, rfl, h1, c2, d2, rfl, h2, c3, d3, rfl, h3, c4, d4, rfl, h4, hz⟩ := h
  subst hz
  obtain ⟨A0_0, k0_0, e0, g0_0⟩ := ty40_open h0
  subst e0
  obtain ⟨A1_, k1_, e1⟩ := ty70_form h1
  subst e1
  obtain ⟨A2_, k2_, e2⟩ := ty71_form h2
  subst e2
  obtain ⟨A3_, k3_, e3⟩ := ty72_form h3
  subst e3
  obtain ⟨A4_, k4_, e4⟩ := ty72_form h4
  subst e4
  exact ⟨A0_0, k0_0, A1_, k1_, A2_, k2_, A3_, k3_, A4_, k4_, rfl, g0_0, h1, h2, h3, h4⟩
theorem ty74_shut {w : World} (c : D.Cluster) {A0 : Option Addr} {k0 : Nat} {A1 : Option Addr} {k1 : Nat} {A2 : Option Addr} {k2 : Nat} {A3 : Option Addr} {k3 : Nat} {A4 : Option Addr} {k4 : Nat} (h0 : ty36.ro w [.slice A0 c.Grid.Shards.length k0] c.Grid.Shards) (h1 : ty70.ro w [.slice A1 c.Channels.length k1] c.Channels) (h2 : ty71.ro w [.slice A2 c.Counts.length k2] c.Counts) (h3 : ty72.ro w [.slice A3 c.Sent.length k3] c.Sent) (h4 : ty72.ro w [.slice A4 c.Got.length k4] c.Got) : ty74.ro w [.slice A0 c.Grid.Shards.length k0, .int .i64 c.Grid.Root.Machine, .int .i64 c.Grid.Root.Kind, .int .i64 c.Grid.Root.Index, .slice A1 c.Channels.length k1, .slice A2 c.Counts.length k2, .slice A3 c.Sent.length k3, .slice A4 c.Got.length k4] c :=
  ⟨_, _, rfl, (ty40_shut c.Grid h0), ⟨_, _, rfl, h1, ⟨_, _, rfl, h2, ⟨_, _, rfl, h3, ⟨_, _, rfl, h4, rfl⟩⟩⟩⟩⟩
theorem ty74_own {w : World} {cs : List Value} {c : D.Cluster} {G : List Nat} (h : ty74.own w cs c G) : ∃ A0 k0 A1 k1 A2 k2 A3 k3 A4 k4, cs = [.slice A0 c.Grid.Shards.length k0, .int .i64 c.Grid.Root.Machine, .int .i64 c.Grid.Root.Kind, .int .i64 c.Grid.Root.Index, .slice A1 c.Channels.length k1, .slice A2 c.Counts.length k2, .slice A3 c.Sent.length k3, .slice A4 c.Got.length k4] ∧ (All [Own ty36 [.slice A0 c.Grid.Shards.length k0] c.Grid.Shards, Own ty70 [.slice A1 c.Channels.length k1] c.Channels, Own ty71 [.slice A2 c.Counts.length k2] c.Counts, Own ty72 [.slice A3 c.Sent.length k3] c.Sent, Own ty72 [.slice A4 c.Got.length k4] c.Got]).A w G := by
  obtain ⟨c0, d0, H0, K0, rfl, rfl, h0, c1, d1, H1, K1, rfl, rfl, h1, c2, d2, H2, K2, rfl, rfl, h2, c3, d3, H3, K3, rfl, rfl, h3, c4, d4, H4, K4, rfl, rfl, h4, hz, hk⟩ := h
  subst hz; subst hk
  obtain ⟨A0_0, k0_0, e0, g0⟩ := ty40_own h0
  subst e0
  obtain ⟨A1_, k1_, e1⟩ := ty70_form (ty70.own_ro h1)
  subst e1
  obtain ⟨A2_, k2_, e2⟩ := ty71_form (ty71.own_ro h2)
  subst e2
  obtain ⟨A3_, k3_, e3⟩ := ty72_form (ty72.own_ro h3)
  subst e3
  obtain ⟨A4_, k4_, e4⟩ := ty72_form (ty72.own_ro h4)
  subst e4
  refine ⟨A0_0, k0_0, A1_, k1_, A2_, k2_, A3_, k3_, A4_, k4_, rfl, ?_⟩
  exact cast (congrArg _ (by simp)) (allApp g0 (allApp (allOne h1) (allApp (allOne h2) (allApp (allOne h3) (allOne h4)))))
theorem ty74_ownI {w : World} {c : D.Cluster} {A0 : Option Addr} {k0 : Nat} {A1 : Option Addr} {k1 : Nat} {A2 : Option Addr} {k2 : Nat} {A3 : Option Addr} {k3 : Nat} {A4 : Option Addr} {k4 : Nat} {G : List Nat} (h : (All [Own ty36 [.slice A0 c.Grid.Shards.length k0] c.Grid.Shards, Own ty70 [.slice A1 c.Channels.length k1] c.Channels, Own ty71 [.slice A2 c.Counts.length k2] c.Counts, Own ty72 [.slice A3 c.Sent.length k3] c.Sent, Own ty72 [.slice A4 c.Got.length k4] c.Got]).A w G) : ty74.own w [.slice A0 c.Grid.Shards.length k0, .int .i64 c.Grid.Root.Machine, .int .i64 c.Grid.Root.Kind, .int .i64 c.Grid.Root.Index, .slice A1 c.Channels.length k1, .slice A2 c.Counts.length k2, .slice A3 c.Sent.length k3, .slice A4 c.Got.length k4] c G := by
  obtain ⟨G0, R0, rfl, h0, G1, R1, rfl, h1, G2, R2, rfl, h2, G3, R3, rfl, h3, G4, R4, rfl, h4, hz⟩ := h
  have hz' : R4 = [] := hz
  subst hz'
  exact cast (congrArg _ (by simp)) (show ty74.own w [.slice A0 c.Grid.Shards.length k0, .int .i64 c.Grid.Root.Machine, .int .i64 c.Grid.Root.Kind, .int .i64 c.Grid.Root.Index, .slice A1 c.Channels.length k1, .slice A2 c.Counts.length k2, .slice A3 c.Sent.length k3, .slice A4 c.Got.length k4] c (_) from ⟨_, _, _, _, rfl, rfl, (ty40_ownI (c := c.Grid) ⟨_, _, rfl, h0, rfl⟩), ⟨_, _, _, _, rfl, rfl, h1, ⟨_, _, _, _, rfl, rfl, h2, ⟨_, _, _, _, rfl, rfl, h3, ⟨_, _, _, _, rfl, rfl, h4, ⟨rfl, rfl⟩⟩⟩⟩⟩⟩)
theorem ty74_openS {W w : World} {B : List Res} {cs : List Value} {c : D.Cluster} (h : St W w (Own ty74 cs c :: B)) : ∃ A0 k0 A1 k1 A2 k2 A3 k3 A4 k4, cs = [.slice A0 c.Grid.Shards.length k0, .int .i64 c.Grid.Root.Machine, .int .i64 c.Grid.Root.Kind, .int .i64 c.Grid.Root.Index, .slice A1 c.Channels.length k1, .slice A2 c.Counts.length k2, .slice A3 c.Sent.length k3, .slice A4 c.Got.length k4] ∧ St W w ([Own ty36 [.slice A0 c.Grid.Shards.length k0] c.Grid.Shards, Own ty70 [.slice A1 c.Channels.length k1] c.Channels, Own ty71 [.slice A2 c.Counts.length k2] c.Counts, Own ty72 [.slice A3 c.Sent.length k3] c.Sent, Own ty72 [.slice A4 c.Got.length k4] c.Got] ++ B) := by
  obtain ⟨G, hA, _⟩ := h.sep.head
  obtain ⟨A0, k0, A1, k1, A2, k2, A3, k3, A4, k4, rfl, _⟩ := ty74_own hA
  refine ⟨A0, k0, A1, k1, A2, k2, A3, k3, A4, k4, rfl, St.splitAll (h.conv fun G hG => ?_)⟩
  obtain ⟨X0, Y0, X1, Y1, X2, Y2, X3, Y3, X4, Y4, he, hh⟩ := ty74_own hG
  simp only [List.cons.injEq, Value.slice.injEq, and_true, true_and] at he
  obtain ⟨⟨rfl, rfl⟩, ⟨rfl, rfl⟩, ⟨rfl, rfl⟩, ⟨rfl, rfl⟩, ⟨rfl, rfl⟩⟩ := he
  exact hh
theorem ty74_shutS {W w : World} {B : List Res} {c : D.Cluster} {A0 : Option Addr} {k0 : Nat} {A1 : Option Addr} {k1 : Nat} {A2 : Option Addr} {k2 : Nat} {A3 : Option Addr} {k3 : Nat} {A4 : Option Addr} {k4 : Nat} (h : St W w ([Own ty36 [.slice A0 c.Grid.Shards.length k0] c.Grid.Shards, Own ty70 [.slice A1 c.Channels.length k1] c.Channels, Own ty71 [.slice A2 c.Counts.length k2] c.Counts, Own ty72 [.slice A3 c.Sent.length k3] c.Sent, Own ty72 [.slice A4 c.Got.length k4] c.Got] ++ B)) : St W w (Own ty74 [.slice A0 c.Grid.Shards.length k0, .int .i64 c.Grid.Root.Machine, .int .i64 c.Grid.Root.Kind, .int .i64 c.Grid.Root.Index, .slice A1 c.Channels.length k1, .slice A2 c.Counts.length k2, .slice A3 c.Sent.length k3, .slice A4 c.Got.length k4] c :: B) := (St.fuseAll h).conv fun _ hG => ty74_ownI hG

def ty241 : Ty D.Parcel := tMap (fun c => (c.Kind, c.Cell, c.A, c.B, ())) (tPair tInt (tPair ty123 (tPair ty44 (tPair ty44 tUnit))))
theorem ty241_open {w : World} {cs : List Value} {c : D.Parcel} (h : ty241.ro w cs c) : ∃ A0 k0 A1 k1, cs = [.int .i64 c.Kind, .int .i64 c.Cell.Kind, .int .i64 c.Cell.Level, .int .i64 c.Cell.Value, .slice A0 c.Cell.Data.length k0, .slice A1 c.Cell.Aux.length k1, .int .i64 c.A.Machine, .int .i64 c.A.Kind, .int .i64 c.A.Index, .int .i64 c.B.Machine, .int .i64 c.B.Kind, .int .i64 c.B.Index] ∧ ty72.ro w [.slice A0 c.Cell.Data.length k0] c.Cell.Data ∧ ty121.ro w [.slice A1 c.Cell.Aux.length k1] c.Cell.Aux := by
  obtain ⟨c0, d0, rfl, h0, c1, d1, rfl, h1, c2, d2, rfl, h2, c3, d3, rfl, h3, hz⟩ := h
  subst hz
  subst h0
  obtain ⟨A1_0, k1_0, A1_1, k1_1, e1, g1_0, g1_1⟩ := ty123_open h1
  subst e1
  have e2 := ty44_open h2
  subst e2
  have e3 := ty44_open h3
  subst e3
  exact ⟨A1_0, k1_0, A1_1, k1_1, rfl, g1_0, g1_1⟩
theorem ty241_shut {w : World} (c : D.Parcel) {A0 : Option Addr} {k0 : Nat} {A1 : Option Addr} {k1 : Nat} (h0 : ty72.ro w [.slice A0 c.Cell.Data.length k0] c.Cell.Data) (h1 : ty121.ro w [.slice A1 c.Cell.Aux.length k1] c.Cell.Aux) : ty241.ro w [.int .i64 c.Kind, .int .i64 c.Cell.Kind, .int .i64 c.Cell.Level, .int .i64 c.Cell.Value, .slice A0 c.Cell.Data.length k0, .slice A1 c.Cell.Aux.length k1, .int .i64 c.A.Machine, .int .i64 c.A.Kind, .int .i64 c.A.Index, .int .i64 c.B.Machine, .int .i64 c.B.Kind, .int .i64 c.B.Index] c :=
  ⟨_, _, rfl, rfl, ⟨_, _, rfl, (ty123_shut c.Cell h0 h1), ⟨_, _, rfl, (ty44_shut c.A ), ⟨_, _, rfl, (ty44_shut c.B ), rfl⟩⟩⟩⟩
theorem ty241_own {w : World} {cs : List Value} {c : D.Parcel} {G : List Nat} (h : ty241.own w cs c G) : ∃ A0 k0 A1 k1, cs = [.int .i64 c.Kind, .int .i64 c.Cell.Kind, .int .i64 c.Cell.Level, .int .i64 c.Cell.Value, .slice A0 c.Cell.Data.length k0, .slice A1 c.Cell.Aux.length k1, .int .i64 c.A.Machine, .int .i64 c.A.Kind, .int .i64 c.A.Index, .int .i64 c.B.Machine, .int .i64 c.B.Kind, .int .i64 c.B.Index] ∧ (All [Own ty72 [.slice A0 c.Cell.Data.length k0] c.Cell.Data, Own ty121 [.slice A1 c.Cell.Aux.length k1] c.Cell.Aux]).A w G := by
  obtain ⟨c0, d0, H0, K0, rfl, rfl, h0, c1, d1, H1, K1, rfl, rfl, h1, c2, d2, H2, K2, rfl, rfl, h2, c3, d3, H3, K3, rfl, rfl, h3, hz, hk⟩ := h
  subst hz; subst hk
  obtain ⟨e0, k0⟩ := h0; subst e0; subst k0
  obtain ⟨A1_0, k1_0, A1_1, k1_1, e1, g1⟩ := ty123_own h1
  subst e1
  obtain ⟨e2, g2⟩ := ty44_own h2
  subst e2
  obtain ⟨e3, g3⟩ := ty44_own h3
  subst e3
  refine ⟨A1_0, k1_0, A1_1, k1_1, rfl, ?_⟩
  exact cast (congrArg _ (by simp)) (allApp g1 (allApp g2 g3))
theorem ty241_ownI {w : World} {c : D.Parcel} {A0 : Option Addr} {k0 : Nat} {A1 : Option Addr} {k1 : Nat} {G : List Nat} (h : (All [Own ty72 [.slice A0 c.Cell.Data.length k0] c.Cell.Data, Own ty121 [.slice A1 c.Cell.Aux.length k1] c.Cell.Aux]).A w G) : ty241.own w [.int .i64 c.Kind, .int .i64 c.Cell.Kind, .int .i64 c.Cell.Level, .int .i64 c.Cell.Value, .slice A0 c.Cell.Data.length k0, .slice A1 c.Cell.Aux.length k1, .int .i64 c.A.Machine, .int .i64 c.A.Kind, .int .i64 c.A.Index, .int .i64 c.B.Machine, .int .i64 c.B.Kind, .int .i64 c.B.Index] c G := by
  obtain ⟨G0, R0, rfl, h0, G1, R1, rfl, h1, hz⟩ := h
  have hz' : R1 = [] := hz
  subst hz'
  exact cast (congrArg _ (by simp)) (show ty241.own w [.int .i64 c.Kind, .int .i64 c.Cell.Kind, .int .i64 c.Cell.Level, .int .i64 c.Cell.Value, .slice A0 c.Cell.Data.length k0, .slice A1 c.Cell.Aux.length k1, .int .i64 c.A.Machine, .int .i64 c.A.Kind, .int .i64 c.A.Index, .int .i64 c.B.Machine, .int .i64 c.B.Kind, .int .i64 c.B.Index] c (_) from ⟨_, _, _, _, rfl, rfl, ⟨rfl, rfl⟩, ⟨_, _, _, _, rfl, rfl, (ty123_ownI (c := c.Cell) ⟨_, _, rfl, h0, ⟨_, _, rfl, h1, rfl⟩⟩), ⟨_, _, _, _, rfl, rfl, (ty44_ownI (c := c.A) rfl), ⟨_, _, _, _, rfl, rfl, (ty44_ownI (c := c.B) rfl), ⟨rfl, rfl⟩⟩⟩⟩⟩)
theorem ty241_openS {W w : World} {B : List Res} {cs : List Value} {c : D.Parcel} (h : St W w (Own ty241 cs c :: B)) : ∃ A0 k0 A1 k1, cs = [.int .i64 c.Kind, .int .i64 c.Cell.Kind, .int .i64 c.Cell.Level, .int .i64 c.Cell.Value, .slice A0 c.Cell.Data.length k0, .slice A1 c.Cell.Aux.length k1, .int .i64 c.A.Machine, .int .i64 c.A.Kind, .int .i64 c.A.Index, .int .i64 c.B.Machine, .int .i64 c.B.Kind, .int .i64 c.B.Index] ∧ St W w ([Own ty72 [.slice A0 c.Cell.Data.length k0] c.Cell.Data, Own ty121 [.slice A1 c.Cell.Aux.length k1] c.Cell.Aux] ++ B) := by
  obtain ⟨G, hA, _⟩ := h.sep.head
  obtain ⟨A0, k0, A1, k1, rfl, _⟩ := ty241_own hA
  refine ⟨A0, k0, A1, k1, rfl, St.splitAll (h.conv fun G hG => ?_)⟩
  obtain ⟨X0, Y0, X1, Y1, he, hh⟩ := ty241_own hG
  simp only [List.cons.injEq, Value.slice.injEq, and_true, true_and] at he
  obtain ⟨⟨rfl, rfl⟩, ⟨rfl, rfl⟩⟩ := he
  exact hh
theorem ty241_shutS {W w : World} {B : List Res} {c : D.Parcel} {A0 : Option Addr} {k0 : Nat} {A1 : Option Addr} {k1 : Nat} (h : St W w ([Own ty72 [.slice A0 c.Cell.Data.length k0] c.Cell.Data, Own ty121 [.slice A1 c.Cell.Aux.length k1] c.Cell.Aux] ++ B)) : St W w (Own ty241 [.int .i64 c.Kind, .int .i64 c.Cell.Kind, .int .i64 c.Cell.Level, .int .i64 c.Cell.Value, .slice A0 c.Cell.Data.length k0, .slice A1 c.Cell.Aux.length k1, .int .i64 c.A.Machine, .int .i64 c.A.Kind, .int .i64 c.A.Index, .int .i64 c.B.Machine, .int .i64 c.B.Kind, .int .i64 c.B.Index] c :: B) := (St.fuseAll h).conv fun _ hG => ty241_ownI hG

def ty171 : Ty (List D.Parcel) := tSl 241 ty241
theorem ty171_form {w : World} {cs : List Value} {xs : (List D.Parcel)} (h : ty171.ro w cs xs) : ∃ A c, cs = [.slice A xs.length c] := slForm h

def ty77 : Ty (List (List D.Parcel)) := tSl 171 ty171
theorem ty77_form {w : World} {cs : List Value} {xs : (List (List D.Parcel))} (h : ty77.ro w cs xs) : ∃ A c, cs = [.slice A xs.length c] := slForm h

def ty79 : Ty D.Cluster := tMap (fun c => (c.Grid, c.Channels, c.Counts, c.Sent, c.Got, ())) (tPair ty46 (tPair ty77 (tPair ty71 (tPair ty72 (tPair ty72 tUnit)))))
theorem ty79_open {w : World} {cs : List Value} {c : D.Cluster} (h : ty79.ro w cs c) : ∃ A0 k0 A1 k1 A2 k2 A3 k3 A4 k4, cs = [.slice A0 c.Grid.Shards.length k0, .int .i64 c.Grid.Root.Machine, .int .i64 c.Grid.Root.Kind, .int .i64 c.Grid.Root.Index, .slice A1 c.Channels.length k1, .slice A2 c.Counts.length k2, .slice A3 c.Sent.length k3, .slice A4 c.Got.length k4] ∧ ty43.ro w [.slice A0 c.Grid.Shards.length k0] c.Grid.Shards ∧ ty77.ro w [.slice A1 c.Channels.length k1] c.Channels ∧ ty71.ro w [.slice A2 c.Counts.length k2] c.Counts ∧ ty72.ro w [.slice A3 c.Sent.length k3] c.Sent ∧ ty72.ro w [.slice A4 c.Got.length k4] c.Got := by
  obtain ⟨c0, d0, rfl, h0, c1, d1, rfl, h1, c2, d2, rfl, h2, c3, d3, rfl, h3, c4, d4, rfl, h4, hz⟩ := h
  subst hz
  obtain ⟨A0_0, k0_0, e0, g0_0⟩ := ty46_open h0
  subst e0
  obtain ⟨A1_, k1_, e1⟩ := ty77_form h1
  subst e1
  obtain ⟨A2_, k2_, e2⟩ := ty71_form h2
  subst e2
  obtain ⟨A3_, k3_, e3⟩ := ty72_form h3
  subst e3
  obtain ⟨A4_, k4_, e4⟩ := ty72_form h4
  subst e4
  exact ⟨A0_0, k0_0, A1_, k1_, A2_, k2_, A3_, k3_, A4_, k4_, rfl, g0_0, h1, h2, h3, h4⟩
theorem ty79_shut {w : World} (c : D.Cluster) {A0 : Option Addr} {k0 : Nat} {A1 : Option Addr} {k1 : Nat} {A2 : Option Addr} {k2 : Nat} {A3 : Option Addr} {k3 : Nat} {A4 : Option Addr} {k4 : Nat} (h0 : ty43.ro w [.slice A0 c.Grid.Shards.length k0] c.Grid.Shards) (h1 : ty77.ro w [.slice A1 c.Channels.length k1] c.Channels) (h2 : ty71.ro w [.slice A2 c.Counts.length k2] c.Counts) (h3 : ty72.ro w [.slice A3 c.Sent.length k3] c.Sent) (h4 : ty72.ro w [.slice A4 c.Got.length k4] c.Got) : ty79.ro w [.slice A0 c.Grid.Shards.length k0, .int .i64 c.Grid.Root.Machine, .int .i64 c.Grid.Root.Kind, .int .i64 c.Grid.Root.Index, .slice A1 c.Channels.length k1, .slice A2 c.Counts.length k2, .slice A3 c.Sent.length k3, .slice A4 c.Got.length k4] c :=
  ⟨_, _, rfl, (ty46_shut c.Grid h0), ⟨_, _, rfl, h1, ⟨_, _, rfl, h2, ⟨_, _, rfl, h3, ⟨_, _, rfl, h4, rfl⟩⟩⟩⟩⟩
theorem ty79_own {w : World} {cs : List Value} {c : D.Cluster} {G : List Nat} (h : ty79.own w cs c G) : ∃ A0 k0 A1 k1 A2 k2 A3 k3 A4 k4, cs = [.slice A0 c.Grid.Shards.length k0, .int .i64 c.Grid.Root.Machine, .int .i64 c.Grid.Root.Kind, .int .i64 c.Grid.Root.Index, .slice A1 c.Channels.length k1, .slice A2 c.Counts.length k2, .slice A3 c.Sent.length k3, .slice A4 c.Got.length k4] ∧ (All [Own ty43 [.slice A0 c.Grid.Shards.length k0] c.Grid.Shards, Own ty77 [.slice A1 c.Channels.length k1] c.Channels, Own ty71 [.slice A2 c.Counts.length k2] c.Counts, Own ty72 [.slice A3 c.Sent.length k3] c.Sent, Own ty72 [.slice A4 c.Got.length k4] c.Got]).A w G := by
  obtain ⟨c0, d0, H0, K0, rfl, rfl, h0, c1, d1, H1, K1, rfl, rfl, h1, c2, d2, H2, K2, rfl, rfl, h2, c3, d3, H3, K3, rfl, rfl, h3, c4, d4, H4, K4, rfl, rfl, h4, hz, hk⟩ := h
  subst hz; subst hk
  obtain ⟨A0_0, k0_0, e0, g0⟩ := ty46_own h0
  subst e0
  obtain ⟨A1_, k1_, e1⟩ := ty77_form (ty77.own_ro h1)
  subst e1
  obtain ⟨A2_, k2_, e2⟩ := ty71_form (ty71.own_ro h2)
  subst e2
  obtain ⟨A3_, k3_, e3⟩ := ty72_form (ty72.own_ro h3)
  subst e3
  obtain ⟨A4_, k4_, e4⟩ := ty72_form (ty72.own_ro h4)
  subst e4
  refine ⟨A0_0, k0_0, A1_, k1_, A2_, k2_, A3_, k3_, A4_, k4_, rfl, ?_⟩
  exact cast (congrArg _ (by simp)) (allApp g0 (allApp (allOne h1) (allApp (allOne h2) (allApp (allOne h3) (allOne h4)))))
theorem ty79_ownI {w : World} {c : D.Cluster} {A0 : Option Addr} {k0 : Nat} {A1 : Option Addr} {k1 : Nat} {A2 : Option Addr} {k2 : Nat} {A3 : Option Addr} {k3 : Nat} {A4 : Option Addr} {k4 : Nat} {G : List Nat} (h : (All [Own ty43 [.slice A0 c.Grid.Shards.length k0] c.Grid.Shards, Own ty77 [.slice A1 c.Channels.length k1] c.Channels, Own ty71 [.slice A2 c.Counts.length k2] c.Counts, Own ty72 [.slice A3 c.Sent.length k3] c.Sent, Own ty72 [.slice A4 c.Got.length k4] c.Got]).A w G) : ty79.own w [.slice A0 c.Grid.Shards.length k0, .int .i64 c.Grid.Root.Machine, .int .i64 c.Grid.Root.Kind, .int .i64 c.Grid.Root.Index, .slice A1 c.Channels.length k1, .slice A2 c.Counts.length k2, .slice A3 c.Sent.length k3, .slice A4 c.Got.length k4] c G := by
  obtain ⟨G0, R0, rfl, h0, G1, R1, rfl, h1, G2, R2, rfl, h2, G3, R3, rfl, h3, G4, R4, rfl, h4, hz⟩ := h
  have hz' : R4 = [] := hz
  subst hz'
  exact cast (congrArg _ (by simp)) (show ty79.own w [.slice A0 c.Grid.Shards.length k0, .int .i64 c.Grid.Root.Machine, .int .i64 c.Grid.Root.Kind, .int .i64 c.Grid.Root.Index, .slice A1 c.Channels.length k1, .slice A2 c.Counts.length k2, .slice A3 c.Sent.length k3, .slice A4 c.Got.length k4] c (_) from ⟨_, _, _, _, rfl, rfl, (ty46_ownI (c := c.Grid) ⟨_, _, rfl, h0, rfl⟩), ⟨_, _, _, _, rfl, rfl, h1, ⟨_, _, _, _, rfl, rfl, h2, ⟨_, _, _, _, rfl, rfl, h3, ⟨_, _, _, _, rfl, rfl, h4, ⟨rfl, rfl⟩⟩⟩⟩⟩⟩)
theorem ty79_openS {W w : World} {B : List Res} {cs : List Value} {c : D.Cluster} (h : St W w (Own ty79 cs c :: B)) : ∃ A0 k0 A1 k1 A2 k2 A3 k3 A4 k4, cs = [.slice A0 c.Grid.Shards.length k0, .int .i64 c.Grid.Root.Machine, .int .i64 c.Grid.Root.Kind, .int .i64 c.Grid.Root.Index, .slice A1 c.Channels.length k1, .slice A2 c.Counts.length k2, .slice A3 c.Sent.length k3, .slice A4 c.Got.length k4] ∧ St W w ([Own ty43 [.slice A0 c.Grid.Shards.length k0] c.Grid.Shards, Own ty77 [.slice A1 c.Channels.length k1] c.Channels, Own ty71 [.slice A2 c.Counts.length k2] c.Counts, Own ty72 [.slice A3 c.Sent.length k3] c.Sent, Own ty72 [.slice A4 c.Got.length k4] c.Got] ++ B) := by
  obtain ⟨G, hA, _⟩ := h.sep.head
  obtain ⟨A0, k0, A1, k1, A2, k2, A3, k3, A4, k4, rfl, _⟩ := ty79_own hA
  refine ⟨A0, k0, A1, k1, A2, k2, A3, k3, A4, k4, rfl, St.splitAll (h.conv fun G hG => ?_)⟩
  obtain ⟨X0, Y0, X1, Y1, X2, Y2, X3, Y3, X4, Y4, he, hh⟩ := ty79_own hG
  simp only [List.cons.injEq, Value.slice.injEq, and_true, true_and] at he
  obtain ⟨⟨rfl, rfl⟩, ⟨rfl, rfl⟩, ⟨rfl, rfl⟩, ⟨rfl, rfl⟩, ⟨rfl, rfl⟩⟩ := he
  exact hh
theorem ty79_shutS {W w : World} {B : List Res} {c : D.Cluster} {A0 : Option Addr} {k0 : Nat} {A1 : Option Addr} {k1 : Nat} {A2 : Option Addr} {k2 : Nat} {A3 : Option Addr} {k3 : Nat} {A4 : Option Addr} {k4 : Nat} (h : St W w ([Own ty43 [.slice A0 c.Grid.Shards.length k0] c.Grid.Shards, Own ty77 [.slice A1 c.Channels.length k1] c.Channels, Own ty71 [.slice A2 c.Counts.length k2] c.Counts, Own ty72 [.slice A3 c.Sent.length k3] c.Sent, Own ty72 [.slice A4 c.Got.length k4] c.Got] ++ B)) : St W w (Own ty79 [.slice A0 c.Grid.Shards.length k0, .int .i64 c.Grid.Root.Machine, .int .i64 c.Grid.Root.Kind, .int .i64 c.Grid.Root.Index, .slice A1 c.Channels.length k1, .slice A2 c.Counts.length k2, .slice A3 c.Sent.length k3, .slice A4 c.Got.length k4] c :: B) := (St.fuseAll h).conv fun _ hG => ty79_ownI hG

def ty82 : Ty (List Bool) := tSl 4 tBool
theorem ty82_form {w : World} {cs : List Value} {xs : (List Bool)} (h : ty82.ro w cs xs) : ∃ A c, cs = [.slice A xs.length c] := slForm h

def ty84 : Ty D.Detector := tMap (fun c => (c.Cluster, c.Holder, c.Count, c.Dark, c.Stained, c.Rounds, c.Announced, ())) (tPair ty74 (tPair tInt (tPair tInt (tPair tBool (tPair ty82 (tPair tInt (tPair tBool tUnit)))))))
theorem ty84_open {w : World} {cs : List Value} {c : D.Detector} (h : ty84.ro w cs c) : ∃ A0 k0 A1 k1 A2 k2 A3 k3 A4 k4 A5 k5, cs = [.slice A0 c.Cluster.Grid.Shards.length k0, .int .i64 c.Cluster.Grid.Root.Machine, .int .i64 c.Cluster.Grid.Root.Kind, .int .i64 c.Cluster.Grid.Root.Index, .slice A1 c.Cluster.Channels.length k1, .slice A2 c.Cluster.Counts.length k2, .slice A3 c.Cluster.Sent.length k3, .slice A4 c.Cluster.Got.length k4, .int .i64 c.Holder, .int .i64 c.Count, .bool c.Dark, .slice A5 c.Stained.length k5, .int .i64 c.Rounds, .bool c.Announced] ∧ ty36.ro w [.slice A0 c.Cluster.Grid.Shards.length k0] c.Cluster.Grid.Shards ∧ ty70.ro w [.slice A1 c.Cluster.Channels.length k1] c.Cluster.Channels ∧ ty71.ro w [.slice A2 c.Cluster.Counts.length k2] c.Cluster.Counts ∧ ty72.ro w [.slice A3 c.Cluster.Sent.length k3] c.Cluster.Sent ∧ ty72.ro w [.slice A4 c.Cluster.Got.length k4] c.Cluster.Got ∧ ty82.ro w [.slice A5 c.Stained.length k5] c.Stained := by
  obtain ⟨c0, d0, rfl, h0, c1, d1, rfl, h1, c2, d2, rfl, h2, c3, d3, rfl, h3, c4, d4, rfl, h4, c5, d5, rfl, h5, c6, d6, rfl, h6, hz⟩ := h
  subst hz
  obtain ⟨A0_0, k0_0, A0_1, k0_1, A0_2, k0_2, A0_3, k0_3, A0_4, k0_4, e0, g0_0, g0_1, g0_2, g0_3, g0_4⟩ := ty74_open h0
  subst e0
  subst h1
  subst h2
  subst h3
  obtain ⟨A4_, k4_, e4⟩ := ty82_form h4
  subst e4
  subst h5
  subst h6
  exact ⟨A0_0, k0_0, A0_1, k0_1, A0_2, k0_2, A0_3, k0_3, A0_4, k0_4, A4_, k4_, rfl, g0_0, g0_1, g0_2, g0_3, g0_4, h4⟩
theorem ty84_shut {w : World} (c : D.Detector) {A0 : Option Addr} {k0 : Nat} {A1 : Option Addr} {k1 : Nat} {A2 : Option Addr} {k2 : Nat} {A3 : Option Addr} {k3 : Nat} {A4 : Option Addr} {k4 : Nat} {A5 : Option Addr} {k5 : Nat} (h0 : ty36.ro w [.slice A0 c.Cluster.Grid.Shards.length k0] c.Cluster.Grid.Shards) (h1 : ty70.ro w [.slice A1 c.Cluster.Channels.length k1] c.Cluster.Channels) (h2 : ty71.ro w [.slice A2 c.Cluster.Counts.length k2] c.Cluster.Counts) (h3 : ty72.ro w [.slice A3 c.Cluster.Sent.length k3] c.Cluster.Sent) (h4 : ty72.ro w [.slice A4 c.Cluster.Got.length k4] c.Cluster.Got) (h5 : ty82.ro w [.slice A5 c.Stained.length k5] c.Stained) : ty84.ro w [.slice A0 c.Cluster.Grid.Shards.length k0, .int .i64 c.Cluster.Grid.Root.Machine, .int .i64 c.Cluster.Grid.Root.Kind, .int .i64 c.Cluster.Grid.Root.Index, .slice A1 c.Cluster.Channels.length k1, .slice A2 c.Cluster.Counts.length k2, .slice A3 c.Cluster.Sent.length k3, .slice A4 c.Cluster.Got.length k4, .int .i64 c.Holder, .int .i64 c.Count, .bool c.Dark, .slice A5 c.Stained.length k5, .int .i64 c.Rounds, .bool c.Announced] c :=
  ⟨_, _, rfl, (ty74_shut c.Cluster h0 h1 h2 h3 h4), ⟨_, _, rfl, rfl, ⟨_, _, rfl, rfl, ⟨_, _, rfl, rfl, ⟨_, _, rfl, h5, ⟨_, _, rfl, rfl, ⟨_, _, rfl, rfl, rfl⟩⟩⟩⟩⟩⟩⟩
theorem ty84_own {w : World} {cs : List Value} {c : D.Detector} {G : List Nat} (h : ty84.own w cs c G) : ∃ A0 k0 A1 k1 A2 k2 A3 k3 A4 k4 A5 k5, cs = [.slice A0 c.Cluster.Grid.Shards.length k0, .int .i64 c.Cluster.Grid.Root.Machine, .int .i64 c.Cluster.Grid.Root.Kind, .int .i64 c.Cluster.Grid.Root.Index, .slice A1 c.Cluster.Channels.length k1, .slice A2 c.Cluster.Counts.length k2, .slice A3 c.Cluster.Sent.length k3, .slice A4 c.Cluster.Got.length k4, .int .i64 c.Holder, .int .i64 c.Count, .bool c.Dark, .slice A5 c.Stained.length k5, .int .i64 c.Rounds, .bool c.Announced] ∧ (All [Own ty36 [.slice A0 c.Cluster.Grid.Shards.length k0] c.Cluster.Grid.Shards, Own ty70 [.slice A1 c.Cluster.Channels.length k1] c.Cluster.Channels, Own ty71 [.slice A2 c.Cluster.Counts.length k2] c.Cluster.Counts, Own ty72 [.slice A3 c.Cluster.Sent.length k3] c.Cluster.Sent, Own ty72 [.slice A4 c.Cluster.Got.length k4] c.Cluster.Got, Own ty82 [.slice A5 c.Stained.length k5] c.Stained]).A w G := by
  obtain ⟨c0, d0, H0, K0, rfl, rfl, h0, c1, d1, H1, K1, rfl, rfl, h1, c2, d2, H2, K2, rfl, rfl, h2, c3, d3, H3, K3, rfl, rfl, h3, c4, d4, H4, K4, rfl, rfl, h4, c5, d5, H5, K5, rfl, rfl, h5, c6, d6, H6, K6, rfl, rfl, h6, hz, hk⟩ := h
  subst hz; subst hk
  obtain ⟨A0_0, k0_0, A0_1, k0_1, A0_2, k0_2, A0_3, k0_3, A0_4, k0_4, e0, g0⟩ := ty74_own h0
  subst e0
  obtain ⟨e1, k1⟩ := h1; subst e1; subst k1
  obtain ⟨e2, k2⟩ := h2; subst e2; subst k2
  obtain ⟨e3, k3⟩ := h3; subst e3; subst k3
  obtain ⟨A4_, k4_, e4⟩ := ty82_form (ty82.own_ro h4)
  subst e4
  obtain ⟨e5, k5⟩ := h5; subst e5; subst k5
  obtain ⟨e6, k6⟩ := h6; subst e6; subst k6
  refine ⟨A0_0, k0_0, A0_1, k0_1, A0_2, k0_2, A0_3, k0_3, A0_4, k0_4, A4_, k4_, rfl, ?_⟩
  exact cast (congrArg _ (by simp)) (allApp g0 (allOne h4))
theorem ty84_ownI {w : World} {c : D.Detector} {A0 : Option Addr} {k0 : Nat} {A1 : Option Addr} {k1 : Nat} {A2 : Option Addr} {k2 : Nat} {A3 : Option Addr} {k3 : Nat} {A4 : Option Addr} {k4 : Nat} {A5 : Option Addr} {k5 : Nat} {G : List Nat} (h : (All [Own ty36 [.slice A0 c.Cluster.Grid.Shards.length k0] c.Cluster.Grid.Shards, Own ty70 [.slice A1 c.Cluster.Channels.length k1] c.Cluster.Channels, Own ty71 [.slice A2 c.Cluster.Counts.length k2] c.Cluster.Counts, Own ty72 [.slice A3 c.Cluster.Sent.length k3] c.Cluster.Sent, Own ty72 [.slice A4 c.Cluster.Got.length k4] c.Cluster.Got, Own ty82 [.slice A5 c.Stained.length k5] c.Stained]).A w G) : ty84.own w [.slice A0 c.Cluster.Grid.Shards.length k0, .int .i64 c.Cluster.Grid.Root.Machine, .int .i64 c.Cluster.Grid.Root.Kind, .int .i64 c.Cluster.Grid.Root.Index, .slice A1 c.Cluster.Channels.length k1, .slice A2 c.Cluster.Counts.length k2, .slice A3 c.Cluster.Sent.length k3, .slice A4 c.Cluster.Got.length k4, .int .i64 c.Holder, .int .i64 c.Count, .bool c.Dark, .slice A5 c.Stained.length k5, .int .i64 c.Rounds, .bool c.Announced] c G := by
  obtain ⟨G0, R0, rfl, h0, G1, R1, rfl, h1, G2, R2, rfl, h2, G3, R3, rfl, h3, G4, R4, rfl, h4, G5, R5, rfl, h5, hz⟩ := h
  have hz' : R5 = [] := hz
  subst hz'
  exact cast (congrArg _ (by simp)) (show ty84.own w [.slice A0 c.Cluster.Grid.Shards.length k0, .int .i64 c.Cluster.Grid.Root.Machine, .int .i64 c.Cluster.Grid.Root.Kind, .int .i64 c.Cluster.Grid.Root.Index, .slice A1 c.Cluster.Channels.length k1, .slice A2 c.Cluster.Counts.length k2, .slice A3 c.Cluster.Sent.length k3, .slice A4 c.Cluster.Got.length k4, .int .i64 c.Holder, .int .i64 c.Count, .bool c.Dark, .slice A5 c.Stained.length k5, .int .i64 c.Rounds, .bool c.Announced] c (_) from ⟨_, _, _, _, rfl, rfl, (ty74_ownI (c := c.Cluster) ⟨_, _, rfl, h0, ⟨_, _, rfl, h1, ⟨_, _, rfl, h2, ⟨_, _, rfl, h3, ⟨_, _, rfl, h4, rfl⟩⟩⟩⟩⟩), ⟨_, _, _, _, rfl, rfl, ⟨rfl, rfl⟩, ⟨_, _, _, _, rfl, rfl, ⟨rfl, rfl⟩, ⟨_, _, _, _, rfl, rfl, ⟨rfl, rfl⟩, ⟨_, _, _, _, rfl, rfl, h5, ⟨_, _, _, _, rfl, rfl, ⟨rfl, rfl⟩, ⟨_, _, _, _, rfl, rfl, ⟨rfl, rfl⟩, ⟨rfl, rfl⟩⟩⟩⟩⟩⟩⟩⟩)
theorem ty84_openS {W w : World} {B : List Res} {cs : List Value} {c : D.Detector} (h : St W w (Own ty84 cs c :: B)) : ∃ A0 k0 A1 k1 A2 k2 A3 k3 A4 k4 A5 k5, cs = [.slice A0 c.Cluster.Grid.Shards.length k0, .int .i64 c.Cluster.Grid.Root.Machine, .int .i64 c.Cluster.Grid.Root.Kind, .int .i64 c.Cluster.Grid.Root.Index, .slice A1 c.Cluster.Channels.length k1, .slice A2 c.Cluster.Counts.length k2, .slice A3 c.Cluster.Sent.length k3, .slice A4 c.Cluster.Got.length k4, .int .i64 c.Holder, .int .i64 c.Count, .bool c.Dark, .slice A5 c.Stained.length k5, .int .i64 c.Rounds, .bool c.Announced] ∧ St W w ([Own ty36 [.slice A0 c.Cluster.Grid.Shards.length k0] c.Cluster.Grid.Shards, Own ty70 [.slice A1 c.Cluster.Channels.length k1] c.Cluster.Channels, Own ty71 [.slice A2 c.Cluster.Counts.length k2] c.Cluster.Counts, Own ty72 [.slice A3 c.Cluster.Sent.length k3] c.Cluster.Sent, Own ty72 [.slice A4 c.Cluster.Got.length k4] c.Cluster.Got, Own ty82 [.slice A5 c.Stained.length k5] c.Stained] ++ B) := by
  obtain ⟨G, hA, _⟩ := h.sep.head
  obtain ⟨A0, k0, A1, k1, A2, k2, A3, k3, A4, k4, A5, k5, rfl, _⟩ := ty84_own hA
  refine ⟨A0, k0, A1, k1, A2, k2, A3, k3, A4, k4, A5, k5, rfl, St.splitAll (h.conv fun G hG => ?_)⟩
  obtain ⟨X0, Y0, X1, Y1, X2, Y2, X3, Y3, X4, Y4, X5, Y5, he, hh⟩ := ty84_own hG
  simp only [List.cons.injEq, Value.slice.injEq, and_true, true_and] at he
  obtain ⟨⟨rfl, rfl⟩, ⟨rfl, rfl⟩, ⟨rfl, rfl⟩, ⟨rfl, rfl⟩, ⟨rfl, rfl⟩, ⟨rfl, rfl⟩⟩ := he
  exact hh
theorem ty84_shutS {W w : World} {B : List Res} {c : D.Detector} {A0 : Option Addr} {k0 : Nat} {A1 : Option Addr} {k1 : Nat} {A2 : Option Addr} {k2 : Nat} {A3 : Option Addr} {k3 : Nat} {A4 : Option Addr} {k4 : Nat} {A5 : Option Addr} {k5 : Nat} (h : St W w ([Own ty36 [.slice A0 c.Cluster.Grid.Shards.length k0] c.Cluster.Grid.Shards, Own ty70 [.slice A1 c.Cluster.Channels.length k1] c.Cluster.Channels, Own ty71 [.slice A2 c.Cluster.Counts.length k2] c.Cluster.Counts, Own ty72 [.slice A3 c.Cluster.Sent.length k3] c.Cluster.Sent, Own ty72 [.slice A4 c.Cluster.Got.length k4] c.Cluster.Got, Own ty82 [.slice A5 c.Stained.length k5] c.Stained] ++ B)) : St W w (Own ty84 [.slice A0 c.Cluster.Grid.Shards.length k0, .int .i64 c.Cluster.Grid.Root.Machine, .int .i64 c.Cluster.Grid.Root.Kind, .int .i64 c.Cluster.Grid.Root.Index, .slice A1 c.Cluster.Channels.length k1, .slice A2 c.Cluster.Counts.length k2, .slice A3 c.Cluster.Sent.length k3, .slice A4 c.Cluster.Got.length k4, .int .i64 c.Holder, .int .i64 c.Count, .bool c.Dark, .slice A5 c.Stained.length k5, .int .i64 c.Rounds, .bool c.Announced] c :: B) := (St.fuseAll h).conv fun _ hG => ty84_ownI hG

def ty88 : Ty D.Detector := tMap (fun c => (c.Cluster, c.Holder, c.Count, c.Dark, c.Stained, c.Rounds, c.Announced, ())) (tPair ty79 (tPair tInt (tPair tInt (tPair tBool (tPair ty82 (tPair tInt (tPair tBool tUnit)))))))
theorem ty88_open {w : World} {cs : List Value} {c : D.Detector} (h : ty88.ro w cs c) : ∃ A0 k0 A1 k1 A2 k2 A3 k3 A4 k4 A5 k5, cs = [.slice A0 c.Cluster.Grid.Shards.length k0, .int .i64 c.Cluster.Grid.Root.Machine, .int .i64 c.Cluster.Grid.Root.Kind, .int .i64 c.Cluster.Grid.Root.Index, .slice A1 c.Cluster.Channels.length k1, .slice A2 c.Cluster.Counts.length k2, .slice A3 c.Cluster.Sent.length k3, .slice A4 c.Cluster.Got.length k4, .int .i64 c.Holder, .int .i64 c.Count, .bool c.Dark, .slice A5 c.Stained.length k5, .int .i64 c.Rounds, .bool c.Announced] ∧ ty43.ro w [.slice A0 c.Cluster.Grid.Shards.length k0] c.Cluster.Grid.Shards ∧ ty77.ro w [.slice A1 c.Cluster.Channels.length k1] c.Cluster.Channels ∧ ty71.ro w [.slice A2 c.Cluster.Counts.length k2] c.Cluster.Counts ∧ ty72.ro w [.slice A3 c.Cluster.Sent.length k3] c.Cluster.Sent ∧ ty72.ro w [.slice A4 c.Cluster.Got.length k4] c.Cluster.Got ∧ ty82.ro w [.slice A5 c.Stained.length k5] c.Stained := by
  obtain ⟨c0, d0, rfl, h0, c1, d1, rfl, h1, c2, d2, rfl, h2, c3, d3, rfl, h3, c4, d4, rfl, h4, c5, d5, rfl, h5, c6, d6, rfl, h6, hz⟩ := h
  subst hz
  obtain ⟨A0_0, k0_0, A0_1, k0_1, A0_2, k0_2, A0_3, k0_3, A0_4, k0_4, e0, g0_0, g0_1, g0_2, g0_3, g0_4⟩ := ty79_open h0
  subst e0
  subst h1
  subst h2
  subst h3
  obtain ⟨A4_, k4_, e4⟩ := ty82_form h4
  subst e4
  subst h5
  subst h6
  exact ⟨A0_0, k0_0, A0_1, k0_1, A0_2, k0_2, A0_3, k0_3, A0_4, k0_4, A4_, k4_, rfl, g0_0, g0_1, g0_2, g0_3, g0_4, h4⟩
theorem ty88_shut {w : World} (c : D.Detector) {A0 : Option Addr} {k0 : Nat} {A1 : Option Addr} {k1 : Nat} {A2 : Option Addr} {k2 : Nat} {A3 : Option Addr} {k3 : Nat} {A4 : Option Addr} {k4 : Nat} {A5 : Option Addr} {k5 : Nat} (h0 : ty43.ro w [.slice A0 c.Cluster.Grid.Shards.length k0] c.Cluster.Grid.Shards) (h1 : ty77.ro w [.slice A1 c.Cluster.Channels.length k1] c.Cluster.Channels) (h2 : ty71.ro w [.slice A2 c.Cluster.Counts.length k2] c.Cluster.Counts) (h3 : ty72.ro w [.slice A3 c.Cluster.Sent.length k3] c.Cluster.Sent) (h4 : ty72.ro w [.slice A4 c.Cluster.Got.length k4] c.Cluster.Got) (h5 : ty82.ro w [.slice A5 c.Stained.length k5] c.Stained) : ty88.ro w [.slice A0 c.Cluster.Grid.Shards.length k0, .int .i64 c.Cluster.Grid.Root.Machine, .int .i64 c.Cluster.Grid.Root.Kind, .int .i64 c.Cluster.Grid.Root.Index, .slice A1 c.Cluster.Channels.length k1, .slice A2 c.Cluster.Counts.length k2, .slice A3 c.Cluster.Sent.length k3, .slice A4 c.Cluster.Got.length k4, .int .i64 c.Holder, .int .i64 c.Count, .bool c.Dark, .slice A5 c.Stained.length k5, .int .i64 c.Rounds, .bool c.Announced] c :=
  ⟨_, _, rfl, (ty79_shut c.Cluster h0 h1 h2 h3 h4), ⟨_, _, rfl, rfl, ⟨_, _, rfl, rfl, ⟨_, _, rfl, rfl, ⟨_, _, rfl, h5, ⟨_, _, rfl, rfl, ⟨_, _, rfl, rfl, rfl⟩⟩⟩⟩⟩⟩⟩
theorem ty88_own {w : World} {cs : List Value} {c : D.Detector} {G : List Nat} (h : ty88.own w cs c G) : ∃ A0 k0 A1 k1 A2 k2 A3 k3 A4 k4 A5 k5, cs = [.slice A0 c.Cluster.Grid.Shards.length k0, .int .i64 c.Cluster.Grid.Root.Machine, .int .i64 c.Cluster.Grid.Root.Kind, .int .i64 c.Cluster.Grid.Root.Index, .slice A1 c.Cluster.Channels.length k1, .slice A2 c.Cluster.Counts.length k2, .slice A3 c.Cluster.Sent.length k3, .slice A4 c.Cluster.Got.length k4, .int .i64 c.Holder, .int .i64 c.Count, .bool c.Dark, .slice A5 c.Stained.length k5, .int .i64 c.Rounds, .bool c.Announced] ∧ (All [Own ty43 [.slice A0 c.Cluster.Grid.Shards.length k0] c.Cluster.Grid.Shards, Own ty77 [.slice A1 c.Cluster.Channels.length k1] c.Cluster.Channels, Own ty71 [.slice A2 c.Cluster.Counts.length k2] c.Cluster.Counts, Own ty72 [.slice A3 c.Cluster.Sent.length k3] c.Cluster.Sent, Own ty72 [.slice A4 c.Cluster.Got.length k4] c.Cluster.Got, Own ty82 [.slice A5 c.Stained.length k5] c.Stained]).A w G := by
  obtain ⟨c0, d0, H0, K0, rfl, rfl, h0, c1, d1, H1, K1, rfl, rfl, h1, c2, d2, H2, K2, rfl, rfl, h2, c3, d3, H3, K3, rfl, rfl, h3, c4, d4, H4, K4, rfl, rfl, h4, c5, d5, H5, K5, rfl, rfl, h5, c6, d6, H6, K6, rfl, rfl, h6, hz, hk⟩ := h
  subst hz; subst hk
  obtain ⟨A0_0, k0_0, A0_1, k0_1, A0_2, k0_2, A0_3, k0_3, A0_4, k0_4, e0, g0⟩ := ty79_own h0
  subst e0
  obtain ⟨e1, k1⟩ := h1; subst e1; subst k1
  obtain ⟨e2, k2⟩ := h2; subst e2; subst k2
  obtain ⟨e3, k3⟩ := h3; subst e3; subst k3
  obtain ⟨A4_, k4_, e4⟩ := ty82_form (ty82.own_ro h4)
  subst e4
  obtain ⟨e5, k5⟩ := h5; subst e5; subst k5
  obtain ⟨e6, k6⟩ := h6; subst e6; subst k6
  refine ⟨A0_0, k0_0, A0_1, k0_1, A0_2, k0_2, A0_3, k0_3, A0_4, k0_4, A4_, k4_, rfl, ?_⟩
  exact cast (congrArg _ (by simp)) (allApp g0 (allOne h4))
theorem ty88_ownI {w : World} {c : D.Detector} {A0 : Option Addr} {k0 : Nat} {A1 : Option Addr} {k1 : Nat} {A2 : Option Addr} {k2 : Nat} {A3 : Option Addr} {k3 : Nat} {A4 : Option Addr} {k4 : Nat} {A5 : Option Addr} {k5 : Nat} {G : List Nat} (h : (All [Own ty43 [.slice A0 c.Cluster.Grid.Shards.length k0] c.Cluster.Grid.Shards, Own ty77 [.slice A1 c.Cluster.Channels.length k1] c.Cluster.Channels, Own ty71 [.slice A2 c.Cluster.Counts.length k2] c.Cluster.Counts, Own ty72 [.slice A3 c.Cluster.Sent.length k3] c.Cluster.Sent, Own ty72 [.slice A4 c.Cluster.Got.length k4] c.Cluster.Got, Own ty82 [.slice A5 c.Stained.length k5] c.Stained]).A w G) : ty88.own w [.slice A0 c.Cluster.Grid.Shards.length k0, .int .i64 c.Cluster.Grid.Root.Machine, .int .i64 c.Cluster.Grid.Root.Kind, .int .i64 c.Cluster.Grid.Root.Index, .slice A1 c.Cluster.Channels.length k1, .slice A2 c.Cluster.Counts.length k2, .slice A3 c.Cluster.Sent.length k3, .slice A4 c.Cluster.Got.length k4, .int .i64 c.Holder, .int .i64 c.Count, .bool c.Dark, .slice A5 c.Stained.length k5, .int .i64 c.Rounds, .bool c.Announced] c G := by
  obtain ⟨G0, R0, rfl, h0, G1, R1, rfl, h1, G2, R2, rfl, h2, G3, R3, rfl, h3, G4, R4, rfl, h4, G5, R5, rfl, h5, hz⟩ := h
  have hz' : R5 = [] := hz
  subst hz'
  exact cast (congrArg _ (by simp)) (show ty88.own w [.slice A0 c.Cluster.Grid.Shards.length k0, .int .i64 c.Cluster.Grid.Root.Machine, .int .i64 c.Cluster.Grid.Root.Kind, .int .i64 c.Cluster.Grid.Root.Index, .slice A1 c.Cluster.Channels.length k1, .slice A2 c.Cluster.Counts.length k2, .slice A3 c.Cluster.Sent.length k3, .slice A4 c.Cluster.Got.length k4, .int .i64 c.Holder, .int .i64 c.Count, .bool c.Dark, .slice A5 c.Stained.length k5, .int .i64 c.Rounds, .bool c.Announced] c (_) from ⟨_, _, _, _, rfl, rfl, (ty79_ownI (c := c.Cluster) ⟨_, _, rfl, h0, ⟨_, _, rfl, h1, ⟨_, _, rfl, h2, ⟨_, _, rfl, h3, ⟨_, _, rfl, h4, rfl⟩⟩⟩⟩⟩), ⟨_, _, _, _, rfl, rfl, ⟨rfl, rfl⟩, ⟨_, _, _, _, rfl, rfl, ⟨rfl, rfl⟩, ⟨_, _, _, _, rfl, rfl, ⟨rfl, rfl⟩, ⟨_, _, _, _, rfl, rfl, h5, ⟨_, _, _, _, rfl, rfl, ⟨rfl, rfl⟩, ⟨_, _, _, _, rfl, rfl, ⟨rfl, rfl⟩, ⟨rfl, rfl⟩⟩⟩⟩⟩⟩⟩⟩)
theorem ty88_openS {W w : World} {B : List Res} {cs : List Value} {c : D.Detector} (h : St W w (Own ty88 cs c :: B)) : ∃ A0 k0 A1 k1 A2 k2 A3 k3 A4 k4 A5 k5, cs = [.slice A0 c.Cluster.Grid.Shards.length k0, .int .i64 c.Cluster.Grid.Root.Machine, .int .i64 c.Cluster.Grid.Root.Kind, .int .i64 c.Cluster.Grid.Root.Index, .slice A1 c.Cluster.Channels.length k1, .slice A2 c.Cluster.Counts.length k2, .slice A3 c.Cluster.Sent.length k3, .slice A4 c.Cluster.Got.length k4, .int .i64 c.Holder, .int .i64 c.Count, .bool c.Dark, .slice A5 c.Stained.length k5, .int .i64 c.Rounds, .bool c.Announced] ∧ St W w ([Own ty43 [.slice A0 c.Cluster.Grid.Shards.length k0] c.Cluster.Grid.Shards, Own ty77 [.slice A1 c.Cluster.Channels.length k1] c.Cluster.Channels, Own ty71 [.slice A2 c.Cluster.Counts.length k2] c.Cluster.Counts, Own ty72 [.slice A3 c.Cluster.Sent.length k3] c.Cluster.Sent, Own ty72 [.slice A4 c.Cluster.Got.length k4] c.Cluster.Got, Own ty82 [.slice A5 c.Stained.length k5] c.Stained] ++ B) := by
  obtain ⟨G, hA, _⟩ := h.sep.head
  obtain ⟨A0, k0, A1, k1, A2, k2, A3, k3, A4, k4, A5, k5, rfl, _⟩ := ty88_own hA
  refine ⟨A0, k0, A1, k1, A2, k2, A3, k3, A4, k4, A5, k5, rfl, St.splitAll (h.conv fun G hG => ?_)⟩
  obtain ⟨X0, Y0, X1, Y1, X2, Y2, X3, Y3, X4, Y4, X5, Y5, he, hh⟩ := ty88_own hG
  simp only [List.cons.injEq, Value.slice.injEq, and_true, true_and] at he
  obtain ⟨⟨rfl, rfl⟩, ⟨rfl, rfl⟩, ⟨rfl, rfl⟩, ⟨rfl, rfl⟩, ⟨rfl, rfl⟩, ⟨rfl, rfl⟩⟩ := he
  exact hh
theorem ty88_shutS {W w : World} {B : List Res} {c : D.Detector} {A0 : Option Addr} {k0 : Nat} {A1 : Option Addr} {k1 : Nat} {A2 : Option Addr} {k2 : Nat} {A3 : Option Addr} {k3 : Nat} {A4 : Option Addr} {k4 : Nat} {A5 : Option Addr} {k5 : Nat} (h : St W w ([Own ty43 [.slice A0 c.Cluster.Grid.Shards.length k0] c.Cluster.Grid.Shards, Own ty77 [.slice A1 c.Cluster.Channels.length k1] c.Cluster.Channels, Own ty71 [.slice A2 c.Cluster.Counts.length k2] c.Cluster.Counts, Own ty72 [.slice A3 c.Cluster.Sent.length k3] c.Cluster.Sent, Own ty72 [.slice A4 c.Cluster.Got.length k4] c.Cluster.Got, Own ty82 [.slice A5 c.Stained.length k5] c.Stained] ++ B)) : St W w (Own ty88 [.slice A0 c.Cluster.Grid.Shards.length k0, .int .i64 c.Cluster.Grid.Root.Machine, .int .i64 c.Cluster.Grid.Root.Kind, .int .i64 c.Cluster.Grid.Root.Index, .slice A1 c.Cluster.Channels.length k1, .slice A2 c.Cluster.Counts.length k2, .slice A3 c.Cluster.Sent.length k3, .slice A4 c.Cluster.Got.length k4, .int .i64 c.Holder, .int .i64 c.Count, .bool c.Dark, .slice A5 c.Stained.length k5, .int .i64 c.Rounds, .bool c.Announced] c :: B) := (St.fuseAll h).conv fun _ hG => ty88_ownI hG

def ty92 : Ty D.Shot := tMap (fun c => (c.Taken, c.Shards, c.Counts, c.Recording, c.Saved, ())) (tPair ty82 (tPair ty36 (tPair ty71 (tPair ty82 (tPair ty70 tUnit)))))
theorem ty92_open {w : World} {cs : List Value} {c : D.Shot} (h : ty92.ro w cs c) : ∃ A0 k0 A1 k1 A2 k2 A3 k3 A4 k4, cs = [.slice A0 c.Taken.length k0, .slice A1 c.Shards.length k1, .slice A2 c.Counts.length k2, .slice A3 c.Recording.length k3, .slice A4 c.Saved.length k4] ∧ ty82.ro w [.slice A0 c.Taken.length k0] c.Taken ∧ ty36.ro w [.slice A1 c.Shards.length k1] c.Shards ∧ ty71.ro w [.slice A2 c.Counts.length k2] c.Counts ∧ ty82.ro w [.slice A3 c.Recording.length k3] c.Recording ∧ ty70.ro w [.slice A4 c.Saved.length k4] c.Saved := by
  obtain ⟨c0, d0, rfl, h0, c1, d1, rfl, h1, c2, d2, rfl, h2, c3, d3, rfl, h3, c4, d4, rfl, h4, hz⟩ := h
  subst hz
  obtain ⟨A0_, k0_, e0⟩ := ty82_form h0
  subst e0
  obtain ⟨A1_, k1_, e1⟩ := ty36_form h1
  subst e1
  obtain ⟨A2_, k2_, e2⟩ := ty71_form h2
  subst e2
  obtain ⟨A3_, k3_, e3⟩ := ty82_form h3
  subst e3
  obtain ⟨A4_, k4_, e4⟩ := ty70_form h4
  subst e4
  exact ⟨A0_, k0_, A1_, k1_, A2_, k2_, A3_, k3_, A4_, k4_, rfl, h0, h1, h2, h3, h4⟩
theorem ty92_shut {w : World} (c : D.Shot) {A0 : Option Addr} {k0 : Nat} {A1 : Option Addr} {k1 : Nat} {A2 : Option Addr} {k2 : Nat} {A3 : Option Addr} {k3 : Nat} {A4 : Option Addr} {k4 : Nat} (h0 : ty82.ro w [.slice A0 c.Taken.length k0] c.Taken) (h1 : ty36.ro w [.slice A1 c.Shards.length k1] c.Shards) (h2 : ty71.ro w [.slice A2 c.Counts.length k2] c.Counts) (h3 : ty82.ro w [.slice A3 c.Recording.length k3] c.Recording) (h4 : ty70.ro w [.slice A4 c.Saved.length k4] c.Saved) : ty92.ro w [.slice A0 c.Taken.length k0, .slice A1 c.Shards.length k1, .slice A2 c.Counts.length k2, .slice A3 c.Recording.length k3, .slice A4 c.Saved.length k4] c :=
  ⟨_, _, rfl, h0, ⟨_, _, rfl, h1, ⟨_, _, rfl, h2, ⟨_, _, rfl, h3, ⟨_, _, rfl, h4, rfl⟩⟩⟩⟩⟩
theorem ty92_own {w : World} {cs : List Value} {c : D.Shot} {G : List Nat} (h : ty92.own w cs c G) : ∃ A0 k0 A1 k1 A2 k2 A3 k3 A4 k4, cs = [.slice A0 c.Taken.length k0, .slice A1 c.Shards.length k1, .slice A2 c.Counts.length k2, .slice A3 c.Recording.length k3, .slice A4 c.Saved.length k4] ∧ (All [Own ty82 [.slice A0 c.Taken.length k0] c.Taken, Own ty36 [.slice A1 c.Shards.length k1] c.Shards, Own ty71 [.slice A2 c.Counts.length k2] c.Counts, Own ty82 [.slice A3 c.Recording.length k3] c.Recording, Own ty70 [.slice A4 c.Saved.length k4] c.Saved]).A w G := by
  obtain ⟨c0, d0, H0, K0, rfl, rfl, h0, c1, d1, H1, K1, rfl, rfl, h1, c2, d2, H2, K2, rfl, rfl, h2, c3, d3, H3, K3, rfl, rfl, h3, c4, d4, H4, K4, rfl, rfl, h4, hz, hk⟩ := h
  subst hz; subst hk
  obtain ⟨A0_, k0_, e0⟩ := ty82_form (ty82.own_ro h0)
  subst e0
  obtain ⟨A1_, k1_, e1⟩ := ty36_form (ty36.own_ro h1)
  subst e1
  obtain ⟨A2_, k2_, e2⟩ := ty71_form (ty71.own_ro h2)
  subst e2
  obtain ⟨A3_, k3_, e3⟩ := ty82_form (ty82.own_ro h3)
  subst e3
  obtain ⟨A4_, k4_, e4⟩ := ty70_form (ty70.own_ro h4)
  subst e4
  refine ⟨A0_, k0_, A1_, k1_, A2_, k2_, A3_, k3_, A4_, k4_, rfl, ?_⟩
  show (All _).A w _
  exact cast (congrArg _ (by simp)) (show (All _).A w (H0 ++ (H1 ++ (H2 ++ (H3 ++ (H4 ++ ([])))))) from ⟨_, _, rfl, h0, ⟨_, _, rfl, h1, ⟨_, _, rfl, h2, ⟨_, _, rfl, h3, ⟨_, _, rfl, h4, rfl⟩⟩⟩⟩⟩)
theorem ty92_ownI {w : World} {c : D.Shot} {A0 : Option Addr} {k0 : Nat} {A1 : Option Addr} {k1 : Nat} {A2 : Option Addr} {k2 : Nat} {A3 : Option Addr} {k3 : Nat} {A4 : Option Addr} {k4 : Nat} {G : List Nat} (h : (All [Own ty82 [.slice A0 c.Taken.length k0] c.Taken, Own ty36 [.slice A1 c.Shards.length k1] c.Shards, Own ty71 [.slice A2 c.Counts.length k2] c.Counts, Own ty82 [.slice A3 c.Recording.length k3] c.Recording, Own ty70 [.slice A4 c.Saved.length k4] c.Saved]).A w G) : ty92.own w [.slice A0 c.Taken.length k0, .slice A1 c.Shards.length k1, .slice A2 c.Counts.length k2, .slice A3 c.Recording.length k3, .slice A4 c.Saved.length k4] c G := by
  obtain ⟨G0, R0, rfl, h0, G1, R1, rfl, h1, G2, R2, rfl, h2, G3, R3, rfl, h3, G4, R4, rfl, h4, hz⟩ := h
  have hz' : R4 = [] := hz
  subst hz'
  exact cast (congrArg _ (by simp)) (show ty92.own w [.slice A0 c.Taken.length k0, .slice A1 c.Shards.length k1, .slice A2 c.Counts.length k2, .slice A3 c.Recording.length k3, .slice A4 c.Saved.length k4] c (_) from ⟨_, _, _, _, rfl, rfl, h0, ⟨_, _, _, _, rfl, rfl, h1, ⟨_, _, _, _, rfl, rfl, h2, ⟨_, _, _, _, rfl, rfl, h3, ⟨_, _, _, _, rfl, rfl, h4, ⟨rfl, rfl⟩⟩⟩⟩⟩⟩)
theorem ty92_openS {W w : World} {B : List Res} {cs : List Value} {c : D.Shot} (h : St W w (Own ty92 cs c :: B)) : ∃ A0 k0 A1 k1 A2 k2 A3 k3 A4 k4, cs = [.slice A0 c.Taken.length k0, .slice A1 c.Shards.length k1, .slice A2 c.Counts.length k2, .slice A3 c.Recording.length k3, .slice A4 c.Saved.length k4] ∧ St W w ([Own ty82 [.slice A0 c.Taken.length k0] c.Taken, Own ty36 [.slice A1 c.Shards.length k1] c.Shards, Own ty71 [.slice A2 c.Counts.length k2] c.Counts, Own ty82 [.slice A3 c.Recording.length k3] c.Recording, Own ty70 [.slice A4 c.Saved.length k4] c.Saved] ++ B) := by
  obtain ⟨G, hA, _⟩ := h.sep.head
  obtain ⟨A0, k0, A1, k1, A2, k2, A3, k3, A4, k4, rfl, _⟩ := ty92_own hA
  refine ⟨A0, k0, A1, k1, A2, k2, A3, k3, A4, k4, rfl, St.splitAll (h.conv fun G hG => ?_)⟩
  obtain ⟨X0, Y0, X1, Y1, X2, Y2, X3, Y3, X4, Y4, he, hh⟩ := ty92_own hG
  simp only [List.cons.injEq, Value.slice.injEq, and_true, true_and] at he
  obtain ⟨⟨rfl, rfl⟩, ⟨rfl, rfl⟩, ⟨rfl, rfl⟩, ⟨rfl, rfl⟩, ⟨rfl, rfl⟩⟩ := he
  exact hh
theorem ty92_shutS {W w : World} {B : List Res} {c : D.Shot} {A0 : Option Addr} {k0 : Nat} {A1 : Option Addr} {k1 : Nat} {A2 : Option Addr} {k2 : Nat} {A3 : Option Addr} {k3 : Nat} {A4 : Option Addr} {k4 : Nat} (h : St W w ([Own ty82 [.slice A0 c.Taken.length k0] c.Taken, Own ty36 [.slice A1 c.Shards.length k1] c.Shards, Own ty71 [.slice A2 c.Counts.length k2] c.Counts, Own ty82 [.slice A3 c.Recording.length k3] c.Recording, Own ty70 [.slice A4 c.Saved.length k4] c.Saved] ++ B)) : St W w (Own ty92 [.slice A0 c.Taken.length k0, .slice A1 c.Shards.length k1, .slice A2 c.Counts.length k2, .slice A3 c.Recording.length k3, .slice A4 c.Saved.length k4] c :: B) := (St.fuseAll h).conv fun _ hG => ty92_ownI hG

def ty94 : Ty D.Watched := tMap (fun c => (c.Cluster, c.Shot, ())) (tPair ty74 (tPair ty92 tUnit))
theorem ty94_open {w : World} {cs : List Value} {c : D.Watched} (h : ty94.ro w cs c) : ∃ A0 k0 A1 k1 A2 k2 A3 k3 A4 k4 A5 k5 A6 k6 A7 k7 A8 k8 A9 k9, cs = [.slice A0 c.Cluster.Grid.Shards.length k0, .int .i64 c.Cluster.Grid.Root.Machine, .int .i64 c.Cluster.Grid.Root.Kind, .int .i64 c.Cluster.Grid.Root.Index, .slice A1 c.Cluster.Channels.length k1, .slice A2 c.Cluster.Counts.length k2, .slice A3 c.Cluster.Sent.length k3, .slice A4 c.Cluster.Got.length k4, .slice A5 c.Shot.Taken.length k5, .slice A6 c.Shot.Shards.length k6, .slice A7 c.Shot.Counts.length k7, .slice A8 c.Shot.Recording.length k8, .slice A9 c.Shot.Saved.length k9] ∧ ty36.ro w [.slice A0 c.Cluster.Grid.Shards.length k0] c.Cluster.Grid.Shards ∧ ty70.ro w [.slice A1 c.Cluster.Channels.length k1] c.Cluster.Channels ∧ ty71.ro w [.slice A2 c.Cluster.Counts.length k2] c.Cluster.Counts ∧ ty72.ro w [.slice A3 c.Cluster.Sent.length k3] c.Cluster.Sent ∧ ty72.ro w [.slice A4 c.Cluster.Got.length k4] c.Cluster.Got ∧ ty82.ro w [.slice A5 c.Shot.Taken.length k5] c.Shot.Taken ∧ ty36.ro w [.slice A6 c.Shot.Shards.length k6] c.Shot.Shards ∧ ty71.ro w [.slice A7 c.Shot.Counts.length k7] c.Shot.Counts ∧ ty82.ro w [.slice A8 c.Shot.Recording.length k8] c.Shot.Recording ∧ ty70.ro w [.slice A9 c.Shot.Saved.length k9] c.Shot.Saved := by
  obtain ⟨c0, d0, rfl, h0, c1, d1, rfl, h1, hz⟩ := h
  subst hz
  obtain ⟨A0_0, k0_0, A0_1, k0_1, A0_2, k0_2, A0_3, k0_3, A0_4, k0_4, e0, g0_0, g0_1, g0_2, g0_3, g0_4⟩ := ty74_open h0
  subst e0
  obtain ⟨A1_0, k1_0, A1_1, k1_1, A1_2, k1_2, A1_3, k1_3, A1_4, k1_4, e1, g1_0, g1_1, g1_2, g1_3, g1_4⟩ := ty92_open h1
  subst e1
  exact ⟨A0_0, k0_0, A0_1, k0_1, A0_2, k0_2, A0_3, k0_3, A0_4, k0_4, A1_0, k1_0, A1_1, k1_1, A1_2, k1_2, A1_3, k1_3, A1_4, k1_4, rfl, g0_0, g0_1, g0_2, g0_3, g0_4, g1_0, g1_1, g1_2, g1_3, g1_4⟩
theorem ty94_shut {w : World} (c : D.Watched) {A0 : Option Addr} {k0 : Nat} {A1 : Option Addr} {k1 : Nat} {A2 : Option Addr} {k2 : Nat} {A3 : Option Addr} {k3 : Nat} {A4 : Option Addr} {k4 : Nat} {A5 : Option Addr} {k5 : Nat} {A6 : Option Addr} {k6 : Nat} {A7 : Option Addr} {k7 : Nat} {A8 : Option Addr} {k8 : Nat} {A9 : Option Addr} {k9 : Nat} (h0 : ty36.ro w [.slice A0 c.Cluster.Grid.Shards.length k0] c.Cluster.Grid.Shards) (h1 : ty70.ro w [.slice A1 c.Cluster.Channels.length k1] c.Cluster.Channels) (h2 : ty71.ro w [.slice A2 c.Cluster.Counts.length k2] c.Cluster.Counts) (h3 : ty72.ro w [.slice A3 c.Cluster.Sent.length k3] c.Cluster.Sent) (h4 : ty72.ro w [.slice A4 c.Cluster.Got.length k4] c.Cluster.Got) (h5 : ty82.ro w [.slice A5 c.Shot.Taken.length k5] c.Shot.Taken) (h6 : ty36.ro w [.slice A6 c.Shot.Shards.length k6] c.Shot.Shards) (h7 : ty71.ro w [.slice A7 c.Shot.Counts.length k7] c.Shot.Counts) (h8 : ty82.ro w [.slice A8 c.Shot.Recording.length k8] c.Shot.Recording) (h9 : ty70.ro w [.slice A9 c.Shot.Saved.length k9] c.Shot.Saved) : ty94.ro w [.slice A0 c.Cluster.Grid.Shards.length k0, .int .i64 c.Cluster.Grid.Root.Machine, .int .i64 c.Cluster.Grid.Root.Kind, .int .i64 c.Cluster.Grid.Root.Index, .slice A1 c.Cluster.Channels.length k1, .slice A2 c.Cluster.Counts.length k2, .slice A3 c.Cluster.Sent.length k3, .slice A4 c.Cluster.Got.length k4, .slice A5 c.Shot.Taken.length k5, .slice A6 c.Shot.Shards.length k6, .slice A7 c.Shot.Counts.length k7, .slice A8 c.Shot.Recording.length k8, .slice A9 c.Shot.Saved.length k9] c :=
  ⟨_, _, rfl, (ty74_shut c.Cluster h0 h1 h2 h3 h4), ⟨_, _, rfl, (ty92_shut c.Shot h5 h6 h7 h8 h9), rfl⟩⟩
theorem ty94_own {w : World} {cs : List Value} {c : D.Watched} {G : List Nat} (h : ty94.own w cs c G) : ∃ A0 k0 A1 k1 A2 k2 A3 k3 A4 k4 A5 k5 A6 k6 A7 k7 A8 k8 A9 k9, cs = [.slice A0 c.Cluster.Grid.Shards.length k0, .int .i64 c.Cluster.Grid.Root.Machine, .int .i64 c.Cluster.Grid.Root.Kind, .int .i64 c.Cluster.Grid.Root.Index, .slice A1 c.Cluster.Channels.length k1, .slice A2 c.Cluster.Counts.length k2, .slice A3 c.Cluster.Sent.length k3, .slice A4 c.Cluster.Got.length k4, .slice A5 c.Shot.Taken.length k5, .slice A6 c.Shot.Shards.length k6, .slice A7 c.Shot.Counts.length k7, .slice A8 c.Shot.Recording.length k8, .slice A9 c.Shot.Saved.length k9] ∧ (All [Own ty36 [.slice A0 c.Cluster.Grid.Shards.length k0] c.Cluster.Grid.Shards, Own ty70 [.slice A1 c.Cluster.Channels.length k1] c.Cluster.Channels, Own ty71 [.slice A2 c.Cluster.Counts.length k2] c.Cluster.Counts, Own ty72 [.slice A3 c.Cluster.Sent.length k3] c.Cluster.Sent, Own ty72 [.slice A4 c.Cluster.Got.length k4] c.Cluster.Got, Own ty82 [.slice A5 c.Shot.Taken.length k5] c.Shot.Taken, Own ty36 [.slice A6 c.Shot.Shards.length k6] c.Shot.Shards, Own ty71 [.slice A7 c.Shot.Counts.length k7] c.Shot.Counts, Own ty82 [.slice A8 c.Shot.Recording.length k8] c.Shot.Recording, Own ty70 [.slice A9 c.Shot.Saved.length k9] c.Shot.Saved]).A w G := by
  obtain ⟨c0, d0, H0, K0, rfl, rfl, h0, c1, d1, H1, K1, rfl, rfl, h1, hz, hk⟩ := h
  subst hz; subst hk
  obtain ⟨A0_0, k0_0, A0_1, k0_1, A0_2, k0_2, A0_3, k0_3, A0_4, k0_4, e0, g0⟩ := ty74_own h0
  subst e0
  obtain ⟨A1_0, k1_0, A1_1, k1_1, A1_2, k1_2, A1_3, k1_3, A1_4, k1_4, e1, g1⟩ := ty92_own h1
  subst e1
  refine ⟨A0_0, k0_0, A0_1, k0_1, A0_2, k0_2, A0_3, k0_3, A0_4, k0_4, A1_0, k1_0, A1_1, k1_1, A1_2, k1_2, A1_3, k1_3, A1_4, k1_4, rfl, ?_⟩
  exact cast (congrArg _ (by simp)) (allApp g0 g1)
theorem ty94_ownI {w : World} {c : D.Watched} {A0 : Option Addr} {k0 : Nat} {A1 : Option Addr} {k1 : Nat} {A2 : Option Addr} {k2 : Nat} {A3 : Option Addr} {k3 : Nat} {A4 : Option Addr} {k4 : Nat} {A5 : Option Addr} {k5 : Nat} {A6 : Option Addr} {k6 : Nat} {A7 : Option Addr} {k7 : Nat} {A8 : Option Addr} {k8 : Nat} {A9 : Option Addr} {k9 : Nat} {G : List Nat} (h : (All [Own ty36 [.slice A0 c.Cluster.Grid.Shards.length k0] c.Cluster.Grid.Shards, Own ty70 [.slice A1 c.Cluster.Channels.length k1] c.Cluster.Channels, Own ty71 [.slice A2 c.Cluster.Counts.length k2] c.Cluster.Counts, Own ty72 [.slice A3 c.Cluster.Sent.length k3] c.Cluster.Sent, Own ty72 [.slice A4 c.Cluster.Got.length k4] c.Cluster.Got, Own ty82 [.slice A5 c.Shot.Taken.length k5] c.Shot.Taken, Own ty36 [.slice A6 c.Shot.Shards.length k6] c.Shot.Shards, Own ty71 [.slice A7 c.Shot.Counts.length k7] c.Shot.Counts, Own ty82 [.slice A8 c.Shot.Recording.length k8] c.Shot.Recording, Own ty70 [.slice A9 c.Shot.Saved.length k9] c.Shot.Saved]).A w G) : ty94.own w [.slice A0 c.Cluster.Grid.Shards.length k0, .int .i64 c.Cluster.Grid.Root.Machine, .int .i64 c.Cluster.Grid.Root.Kind, .int .i64 c.Cluster.Grid.Root.Index, .slice A1 c.Cluster.Channels.length k1, .slice A2 c.Cluster.Counts.length k2, .slice A3 c.Cluster.Sent.length k3, .slice A4 c.Cluster.Got.length k4, .slice A5 c.Shot.Taken.length k5, .slice A6 c.Shot.Shards.length k6, .slice A7 c.Shot.Counts.length k7, .slice A8 c.Shot.Recording.length k8, .slice A9 c.Shot.Saved.length k9] c G := by
  obtain ⟨G0, R0, rfl, h0, G1, R1, rfl, h1, G2, R2, rfl, h2, G3, R3, rfl, h3, G4, R4, rfl, h4, G5, R5, rfl, h5, G6, R6, rfl, h6, G7, R7, rfl, h7, G8, R8, rfl, h8, G9, R9, rfl, h9, hz⟩ := h
  have hz' : R9 = [] := hz
  subst hz'
  exact cast (congrArg _ (by simp)) (show ty94.own w [.slice A0 c.Cluster.Grid.Shards.length k0, .int .i64 c.Cluster.Grid.Root.Machine, .int .i64 c.Cluster.Grid.Root.Kind, .int .i64 c.Cluster.Grid.Root.Index, .slice A1 c.Cluster.Channels.length k1, .slice A2 c.Cluster.Counts.length k2, .slice A3 c.Cluster.Sent.length k3, .slice A4 c.Cluster.Got.length k4, .slice A5 c.Shot.Taken.length k5, .slice A6 c.Shot.Shards.length k6, .slice A7 c.Shot.Counts.length k7, .slice A8 c.Shot.Recording.length k8, .slice A9 c.Shot.Saved.length k9] c (_) from ⟨_, _, _, _, rfl, rfl, (ty74_ownI (c := c.Cluster) ⟨_, _, rfl, h0, ⟨_, _, rfl, h1, ⟨_, _, rfl, h2, ⟨_, _, rfl, h3, ⟨_, _, rfl, h4, rfl⟩⟩⟩⟩⟩), ⟨_, _, _, _, rfl, rfl, (ty92_ownI (c := c.Shot) ⟨_, _, rfl, h5, ⟨_, _, rfl, h6, ⟨_, _, rfl, h7, ⟨_, _, rfl, h8, ⟨_, _, rfl, h9, rfl⟩⟩⟩⟩⟩), ⟨rfl, rfl⟩⟩⟩)
theorem ty94_openS {W w : World} {B : List Res} {cs : List Value} {c : D.Watched} (h : St W w (Own ty94 cs c :: B)) : ∃ A0 k0 A1 k1 A2 k2 A3 k3 A4 k4 A5 k5 A6 k6 A7 k7 A8 k8 A9 k9, cs = [.slice A0 c.Cluster.Grid.Shards.length k0, .int .i64 c.Cluster.Grid.Root.Machine, .int .i64 c.Cluster.Grid.Root.Kind, .int .i64 c.Cluster.Grid.Root.Index, .slice A1 c.Cluster.Channels.length k1, .slice A2 c.Cluster.Counts.length k2, .slice A3 c.Cluster.Sent.length k3, .slice A4 c.Cluster.Got.length k4, .slice A5 c.Shot.Taken.length k5, .slice A6 c.Shot.Shards.length k6, .slice A7 c.Shot.Counts.length k7, .slice A8 c.Shot.Recording.length k8, .slice A9 c.Shot.Saved.length k9] ∧ St W w ([Own ty36 [.slice A0 c.Cluster.Grid.Shards.length k0] c.Cluster.Grid.Shards, Own ty70 [.slice A1 c.Cluster.Channels.length k1] c.Cluster.Channels, Own ty71 [.slice A2 c.Cluster.Counts.length k2] c.Cluster.Counts, Own ty72 [.slice A3 c.Cluster.Sent.length k3] c.Cluster.Sent, Own ty72 [.slice A4 c.Cluster.Got.length k4] c.Cluster.Got, Own ty82 [.slice A5 c.Shot.Taken.length k5] c.Shot.Taken, Own ty36 [.slice A6 c.Shot.Shards.length k6] c.Shot.Shards, Own ty71 [.slice A7 c.Shot.Counts.length k7] c.Shot.Counts, Own ty82 [.slice A8 c.Shot.Recording.length k8] c.Shot.Recording, Own ty70 [.slice A9 c.Shot.Saved.length k9] c.Shot.Saved] ++ B) := by
  obtain ⟨G, hA, _⟩ := h.sep.head
  obtain ⟨A0, k0, A1, k1, A2, k2, A3, k3, A4, k4, A5, k5, A6, k6, A7, k7, A8, k8, A9, k9, rfl, _⟩ := ty94_own hA
  refine ⟨A0, k0, A1, k1, A2, k2, A3, k3, A4, k4, A5, k5, A6, k6, A7, k7, A8, k8, A9, k9, rfl, St.splitAll (h.conv fun G hG => ?_)⟩
  obtain ⟨X0, Y0, X1, Y1, X2, Y2, X3, Y3, X4, Y4, X5, Y5, X6, Y6, X7, Y7, X8, Y8, X9, Y9, he, hh⟩ := ty94_own hG
  simp only [List.cons.injEq, Value.slice.injEq, and_true, true_and] at he
  obtain ⟨⟨rfl, rfl⟩, ⟨rfl, rfl⟩, ⟨rfl, rfl⟩, ⟨rfl, rfl⟩, ⟨rfl, rfl⟩, ⟨rfl, rfl⟩, ⟨rfl, rfl⟩, ⟨rfl, rfl⟩, ⟨rfl, rfl⟩, ⟨rfl, rfl⟩⟩ := he
  exact hh
theorem ty94_shutS {W w : World} {B : List Res} {c : D.Watched} {A0 : Option Addr} {k0 : Nat} {A1 : Option Addr} {k1 : Nat} {A2 : Option Addr} {k2 : Nat} {A3 : Option Addr} {k3 : Nat} {A4 : Option Addr} {k4 : Nat} {A5 : Option Addr} {k5 : Nat} {A6 : Option Addr} {k6 : Nat} {A7 : Option Addr} {k7 : Nat} {A8 : Option Addr} {k8 : Nat} {A9 : Option Addr} {k9 : Nat} (h : St W w ([Own ty36 [.slice A0 c.Cluster.Grid.Shards.length k0] c.Cluster.Grid.Shards, Own ty70 [.slice A1 c.Cluster.Channels.length k1] c.Cluster.Channels, Own ty71 [.slice A2 c.Cluster.Counts.length k2] c.Cluster.Counts, Own ty72 [.slice A3 c.Cluster.Sent.length k3] c.Cluster.Sent, Own ty72 [.slice A4 c.Cluster.Got.length k4] c.Cluster.Got, Own ty82 [.slice A5 c.Shot.Taken.length k5] c.Shot.Taken, Own ty36 [.slice A6 c.Shot.Shards.length k6] c.Shot.Shards, Own ty71 [.slice A7 c.Shot.Counts.length k7] c.Shot.Counts, Own ty82 [.slice A8 c.Shot.Recording.length k8] c.Shot.Recording, Own ty70 [.slice A9 c.Shot.Saved.length k9] c.Shot.Saved] ++ B)) : St W w (Own ty94 [.slice A0 c.Cluster.Grid.Shards.length k0, .int .i64 c.Cluster.Grid.Root.Machine, .int .i64 c.Cluster.Grid.Root.Kind, .int .i64 c.Cluster.Grid.Root.Index, .slice A1 c.Cluster.Channels.length k1, .slice A2 c.Cluster.Counts.length k2, .slice A3 c.Cluster.Sent.length k3, .slice A4 c.Cluster.Got.length k4, .slice A5 c.Shot.Taken.length k5, .slice A6 c.Shot.Shards.length k6, .slice A7 c.Shot.Counts.length k7, .slice A8 c.Shot.Recording.length k8, .slice A9 c.Shot.Saved.length k9] c :: B) := (St.fuseAll h).conv fun _ hG => ty94_ownI hG

def ty98 : Ty D.Shot := tMap (fun c => (c.Taken, c.Shards, c.Counts, c.Recording, c.Saved, ())) (tPair ty82 (tPair ty43 (tPair ty71 (tPair ty82 (tPair ty77 tUnit)))))
theorem ty98_open {w : World} {cs : List Value} {c : D.Shot} (h : ty98.ro w cs c) : ∃ A0 k0 A1 k1 A2 k2 A3 k3 A4 k4, cs = [.slice A0 c.Taken.length k0, .slice A1 c.Shards.length k1, .slice A2 c.Counts.length k2, .slice A3 c.Recording.length k3, .slice A4 c.Saved.length k4] ∧ ty82.ro w [.slice A0 c.Taken.length k0] c.Taken ∧ ty43.ro w [.slice A1 c.Shards.length k1] c.Shards ∧ ty71.ro w [.slice A2 c.Counts.length k2] c.Counts ∧ ty82.ro w [.slice A3 c.Recording.length k3] c.Recording ∧ ty77.ro w [.slice A4 c.Saved.length k4] c.Saved := by
  obtain ⟨c0, d0, rfl, h0, c1, d1, rfl, h1, c2, d2, rfl, h2, c3, d3, rfl, h3, c4, d4, rfl, h4, hz⟩ := h
  subst hz
  obtain ⟨A0_, k0_, e0⟩ := ty82_form h0
  subst e0
  obtain ⟨A1_, k1_, e1⟩ := ty43_form h1
  subst e1
  obtain ⟨A2_, k2_, e2⟩ := ty71_form h2
  subst e2
  obtain ⟨A3_, k3_, e3⟩ := ty82_form h3
  subst e3
  obtain ⟨A4_, k4_, e4⟩ := ty77_form h4
  subst e4
  exact ⟨A0_, k0_, A1_, k1_, A2_, k2_, A3_, k3_, A4_, k4_, rfl, h0, h1, h2, h3, h4⟩
theorem ty98_shut {w : World} (c : D.Shot) {A0 : Option Addr} {k0 : Nat} {A1 : Option Addr} {k1 : Nat} {A2 : Option Addr} {k2 : Nat} {A3 : Option Addr} {k3 : Nat} {A4 : Option Addr} {k4 : Nat} (h0 : ty82.ro w [.slice A0 c.Taken.length k0] c.Taken) (h1 : ty43.ro w [.slice A1 c.Shards.length k1] c.Shards) (h2 : ty71.ro w [.slice A2 c.Counts.length k2] c.Counts) (h3 : ty82.ro w [.slice A3 c.Recording.length k3] c.Recording) (h4 : ty77.ro w [.slice A4 c.Saved.length k4] c.Saved) : ty98.ro w [.slice A0 c.Taken.length k0, .slice A1 c.Shards.length k1, .slice A2 c.Counts.length k2, .slice A3 c.Recording.length k3, .slice A4 c.Saved.length k4] c :=
  ⟨_, _, rfl, h0, ⟨_, _, rfl, h1, ⟨_, _, rfl, h2, ⟨_, _, rfl, h3, ⟨_, _, rfl, h4, rfl⟩⟩⟩⟩⟩
theorem ty98_own {w : World} {cs : List Value} {c : D.Shot} {G : List Nat} (h : ty98.own w cs c G) : ∃ A0 k0 A1 k1 A2 k2 A3 k3 A4 k4, cs = [.slice A0 c.Taken.length k0, .slice A1 c.Shards.length k1, .slice A2 c.Counts.length k2, .slice A3 c.Recording.length k3, .slice A4 c.Saved.length k4] ∧ (All [Own ty82 [.slice A0 c.Taken.length k0] c.Taken, Own ty43 [.slice A1 c.Shards.length k1] c.Shards, Own ty71 [.slice A2 c.Counts.length k2] c.Counts, Own ty82 [.slice A3 c.Recording.length k3] c.Recording, Own ty77 [.slice A4 c.Saved.length k4] c.Saved]).A w G := by
  obtain ⟨c0, d0, H0, K0, rfl, rfl, h0, c1, d1, H1, K1, rfl, rfl, h1, c2, d2, H2, K2, rfl, rfl, h2, c3, d3, H3, K3, rfl, rfl, h3, c4, d4, H4, K4, rfl, rfl, h4, hz, hk⟩ := h
  subst hz; subst hk
  obtain ⟨A0_, k0_, e0⟩ := ty82_form (ty82.own_ro h0)
  subst e0
  obtain ⟨A1_, k1_, e1⟩ := ty43_form (ty43.own_ro h1)
  subst e1
  obtain ⟨A2_, k2_, e2⟩ := ty71_form (ty71.own_ro h2)
  subst e2
  obtain ⟨A3_, k3_, e3⟩ := ty82_form (ty82.own_ro h3)
  subst e3
  obtain ⟨A4_, k4_, e4⟩ := ty77_form (ty77.own_ro h4)
  subst e4
  refine ⟨A0_, k0_, A1_, k1_, A2_, k2_, A3_, k3_, A4_, k4_, rfl, ?_⟩
  show (All _).A w _
  exact cast (congrArg _ (by simp)) (show (All _).A w (H0 ++ (H1 ++ (H2 ++ (H3 ++ (H4 ++ ([])))))) from ⟨_, _, rfl, h0, ⟨_, _, rfl, h1, ⟨_, _, rfl, h2, ⟨_, _, rfl, h3, ⟨_, _, rfl, h4, rfl⟩⟩⟩⟩⟩)
theorem ty98_ownI {w : World} {c : D.Shot} {A0 : Option Addr} {k0 : Nat} {A1 : Option Addr} {k1 : Nat} {A2 : Option Addr} {k2 : Nat} {A3 : Option Addr} {k3 : Nat} {A4 : Option Addr} {k4 : Nat} {G : List Nat} (h : (All [Own ty82 [.slice A0 c.Taken.length k0] c.Taken, Own ty43 [.slice A1 c.Shards.length k1] c.Shards, Own ty71 [.slice A2 c.Counts.length k2] c.Counts, Own ty82 [.slice A3 c.Recording.length k3] c.Recording, Own ty77 [.slice A4 c.Saved.length k4] c.Saved]).A w G) : ty98.own w [.slice A0 c.Taken.length k0, .slice A1 c.Shards.length k1, .slice A2 c.Counts.length k2, .slice A3 c.Recording.length k3, .slice A4 c.Saved.length k4] c G := by
  obtain ⟨G0, R0, rfl, h0, G1, R1, rfl, h1, G2, R2, rfl, h2, G3, R3, rfl, h3, G4, R4, rfl, h4, hz⟩ := h
  have hz' : R4 = [] := hz
  subst hz'
  exact cast (congrArg _ (by simp)) (show ty98.own w [.slice A0 c.Taken.length k0, .slice A1 c.Shards.length k1, .slice A2 c.Counts.length k2, .slice A3 c.Recording.length k3, .slice A4 c.Saved.length k4] c (_) from ⟨_, _, _, _, rfl, rfl, h0, ⟨_, _, _, _, rfl, rfl, h1, ⟨_, _, _, _, rfl, rfl, h2, ⟨_, _, _, _, rfl, rfl, h3, ⟨_, _, _, _, rfl, rfl, h4, ⟨rfl, rfl⟩⟩⟩⟩⟩⟩)
theorem ty98_openS {W w : World} {B : List Res} {cs : List Value} {c : D.Shot} (h : St W w (Own ty98 cs c :: B)) : ∃ A0 k0 A1 k1 A2 k2 A3 k3 A4 k4, cs = [.slice A0 c.Taken.length k0, .slice A1 c.Shards.length k1, .slice A2 c.Counts.length k2, .slice A3 c.Recording.length k3, .slice A4 c.Saved.length k4] ∧ St W w ([Own ty82 [.slice A0 c.Taken.length k0] c.Taken, Own ty43 [.slice A1 c.Shards.length k1] c.Shards, Own ty71 [.slice A2 c.Counts.length k2] c.Counts, Own ty82 [.slice A3 c.Recording.length k3] c.Recording, Own ty77 [.slice A4 c.Saved.length k4] c.Saved] ++ B) := by
  obtain ⟨G, hA, _⟩ := h.sep.head
  obtain ⟨A0, k0, A1, k1, A2, k2, A3, k3, A4, k4, rfl, _⟩ := ty98_own hA
  refine ⟨A0, k0, A1, k1, A2, k2, A3, k3, A4, k4, rfl, St.splitAll (h.conv fun G hG => ?_)⟩
  obtain ⟨X0, Y0, X1, Y1, X2, Y2, X3, Y3, X4, Y4, he, hh⟩ := ty98_own hG
  simp only [List.cons.injEq, Value.slice.injEq, and_true, true_and] at he
  obtain ⟨⟨rfl, rfl⟩, ⟨rfl, rfl⟩, ⟨rfl, rfl⟩, ⟨rfl, rfl⟩, ⟨rfl, rfl⟩⟩ := he
  exact hh
theorem ty98_shutS {W w : World} {B : List Res} {c : D.Shot} {A0 : Option Addr} {k0 : Nat} {A1 : Option Addr} {k1 : Nat} {A2 : Option Addr} {k2 : Nat} {A3 : Option Addr} {k3 : Nat} {A4 : Option Addr} {k4 : Nat} (h : St W w ([Own ty82 [.slice A0 c.Taken.length k0] c.Taken, Own ty43 [.slice A1 c.Shards.length k1] c.Shards, Own ty71 [.slice A2 c.Counts.length k2] c.Counts, Own ty82 [.slice A3 c.Recording.length k3] c.Recording, Own ty77 [.slice A4 c.Saved.length k4] c.Saved] ++ B)) : St W w (Own ty98 [.slice A0 c.Taken.length k0, .slice A1 c.Shards.length k1, .slice A2 c.Counts.length k2, .slice A3 c.Recording.length k3, .slice A4 c.Saved.length k4] c :: B) := (St.fuseAll h).conv fun _ hG => ty98_ownI hG

def ty100 : Ty D.Watched := tMap (fun c => (c.Cluster, c.Shot, ())) (tPair ty79 (tPair ty98 tUnit))
theorem ty100_open {w : World} {cs : List Value} {c : D.Watched} (h : ty100.ro w cs c) : ∃ A0 k0 A1 k1 A2 k2 A3 k3 A4 k4 A5 k5 A6 k6 A7 k7 A8 k8 A9 k9, cs = [.slice A0 c.Cluster.Grid.Shards.length k0, .int .i64 c.Cluster.Grid.Root.Machine, .int .i64 c.Cluster.Grid.Root.Kind, .int .i64 c.Cluster.Grid.Root.Index, .slice A1 c.Cluster.Channels.length k1, .slice A2 c.Cluster.Counts.length k2, .slice A3 c.Cluster.Sent.length k3, .slice A4 c.Cluster.Got.length k4, .slice A5 c.Shot.Taken.length k5, .slice A6 c.Shot.Shards.length k6, .slice A7 c.Shot.Counts.length k7, .slice A8 c.Shot.Recording.length k8, .slice A9 c.Shot.Saved.length k9] ∧ ty43.ro w [.slice A0 c.Cluster.Grid.Shards.length k0] c.Cluster.Grid.Shards ∧ ty77.ro w [.slice A1 c.Cluster.Channels.length k1] c.Cluster.Channels ∧ ty71.ro w [.slice A2 c.Cluster.Counts.length k2] c.Cluster.Counts ∧ ty72.ro w [.slice A3 c.Cluster.Sent.length k3] c.Cluster.Sent ∧ ty72.ro w [.slice A4 c.Cluster.Got.length k4] c.Cluster.Got ∧ ty82.ro w [.slice A5 c.Shot.Taken.length k5] c.Shot.Taken ∧ ty43.ro w [.slice A6 c.Shot.Shards.length k6] c.Shot.Shards ∧ ty71.ro w [.slice A7 c.Shot.Counts.length k7] c.Shot.Counts ∧ ty82.ro w [.slice A8 c.Shot.Recording.length k8] c.Shot.Recording ∧ ty77.ro w [.slice A9 c.Shot.Saved.length k9] c.Shot.Saved := by
  obtain ⟨c0, d0, rfl, h0, c1, d1, rfl, h1, hz⟩ := h
  subst hz
  obtain ⟨A0_0, k0_0, A0_1, k0_1, A0_2, k0_2, A0_3, k0_3, A0_4, k0_4, e0, g0_0, g0_1, g0_2, g0_3, g0_4⟩ := ty79_open h0
  subst e0
  obtain ⟨A1_0, k1_0, A1_1, k1_1, A1_2, k1_2, A1_3, k1_3, A1_4, k1_4, e1, g1_0, g1_1, g1_2, g1_3, g1_4⟩ := ty98_open h1
  subst e1
  exact ⟨A0_0, k0_0, A0_1, k0_1, A0_2, k0_2, A0_3, k0_3, A0_4, k0_4, A1_0, k1_0, A1_1, k1_1, A1_2, k1_2, A1_3, k1_3, A1_4, k1_4, rfl, g0_0, g0_1, g0_2, g0_3, g0_4, g1_0, g1_1, g1_2, g1_3, g1_4⟩
theorem ty100_shut {w : World} (c : D.Watched) {A0 : Option Addr} {k0 : Nat} {A1 : Option Addr} {k1 : Nat} {A2 : Option Addr} {k2 : Nat} {A3 : Option Addr} {k3 : Nat} {A4 : Option Addr} {k4 : Nat} {A5 : Option Addr} {k5 : Nat} {A6 : Option Addr} {k6 : Nat} {A7 : Option Addr} {k7 : Nat} {A8 : Option Addr} {k8 : Nat} {A9 : Option Addr} {k9 : Nat} (h0 : ty43.ro w [.slice A0 c.Cluster.Grid.Shards.length k0] c.Cluster.Grid.Shards) (h1 : ty77.ro w [.slice A1 c.Cluster.Channels.length k1] c.Cluster.Channels) (h2 : ty71.ro w [.slice A2 c.Cluster.Counts.length k2] c.Cluster.Counts) (h3 : ty72.ro w [.slice A3 c.Cluster.Sent.length k3] c.Cluster.Sent) (h4 : ty72.ro w [.slice A4 c.Cluster.Got.length k4] c.Cluster.Got) (h5 : ty82.ro w [.slice A5 c.Shot.Taken.length k5] c.Shot.Taken) (h6 : ty43.ro w [.slice A6 c.Shot.Shards.length k6] c.Shot.Shards) (h7 : ty71.ro w [.slice A7 c.Shot.Counts.length k7] c.Shot.Counts) (h8 : ty82.ro w [.slice A8 c.Shot.Recording.length k8] c.Shot.Recording) (h9 : ty77.ro w [.slice A9 c.Shot.Saved.length k9] c.Shot.Saved) : ty100.ro w [.slice A0 c.Cluster.Grid.Shards.length k0, .int .i64 c.Cluster.Grid.Root.Machine, .int .i64 c.Cluster.Grid.Root.Kind, .int .i64 c.Cluster.Grid.Root.Index, .slice A1 c.Cluster.Channels.length k1, .slice A2 c.Cluster.Counts.length k2, .slice A3 c.Cluster.Sent.length k3, .slice A4 c.Cluster.Got.length k4, .slice A5 c.Shot.Taken.length k5, .slice A6 c.Shot.Shards.length k6, .slice A7 c.Shot.Counts.length k7, .slice A8 c.Shot.Recording.length k8, .slice A9 c.Shot.Saved.length k9] c :=
  ⟨_, _, rfl, (ty79_shut c.Cluster h0 h1 h2 h3 h4), ⟨_, _, rfl, (ty98_shut c.Shot h5 h6 h7 h8 h9), rfl⟩⟩
theorem ty100_own {w : World} {cs : List Value} {c : D.Watched} {G : List Nat} (h : ty100.own w cs c G) : ∃ A0 k0 A1 k1 A2 k2 A3 k3 A4 k4 A5 k5 A6 k6 A7 k7 A8 k8 A9 k9, cs = [.slice A0 c.Cluster.Grid.Shards.length k0, .int .i64 c.Cluster.Grid.Root.Machine, .int .i64 c.Cluster.Grid.Root.Kind, .int .i64 c.Cluster.Grid.Root.Index, .slice A1 c.Cluster.Channels.length k1, .slice A2 c.Cluster.Counts.length k2, .slice A3 c.Cluster.Sent.length k3, .slice A4 c.Cluster.Got.length k4, .slice A5 c.Shot.Taken.length k5, .slice A6 c.Shot.Shards.length k6, .slice A7 c.Shot.Counts.length k7, .slice A8 c.Shot.Recording.length k8, .slice A9 c.Shot.Saved.length k9] ∧ (All [Own ty43 [.slice A0 c.Cluster.Grid.Shards.length k0] c.Cluster.Grid.Shards, Own ty77 [.slice A1 c.Cluster.Channels.length k1] c.Cluster.Channels, Own ty71 [.slice A2 c.Cluster.Counts.length k2] c.Cluster.Counts, Own ty72 [.slice A3 c.Cluster.Sent.length k3] c.Cluster.Sent, Own ty72 [.slice A4 c.Cluster.Got.length k4] c.Cluster.Got, Own ty82 [.slice A5 c.Shot.Taken.length k5] c.Shot.Taken, Own ty43 [.slice A6 c.Shot.Shards.length k6] c.Shot.Shards, Own ty71 [.slice A7 c.Shot.Counts.length k7] c.Shot.Counts, Own ty82 [.slice A8 c.Shot.Recording.length k8] c.Shot.Recording, Own ty77 [.slice A9 c.Shot.Saved.length k9] c.Shot.Saved]).A w G := by
  obtain ⟨c0, d0, H0, K0, rfl, rfl, h0, c1, d1, H1, K1, rfl, rfl, h1, hz, hk⟩ := h
  subst hz; subst hk
  obtain ⟨A0_0, k0_0, A0_1, k0_1, A0_2, k0_2, A0_3, k0_3, A0_4, k0_4, e0, g0⟩ := ty79_own h0
  subst e0
  obtain ⟨A1_0, k1_0, A1_1, k1_1, A1_2, k1_2, A1_3, k1_3, A1_4, k1_4, e1, g1⟩ := ty98_own h1
  subst e1
  refine ⟨A0_0, k0_0, A0_1, k0_1, A0_2, k0_2, A0_3, k0_3, A0_4, k0_4, A1_0, k1_0, A1_1, k1_1, A1_2, k1_2, A1_3, k1_3, A1_4, k1_4, rfl, ?_⟩
  exact cast (congrArg _ (by simp)) (allApp g0 g1)
theorem ty100_ownI {w : World} {c : D.Watched} {A0 : Option Addr} {k0 : Nat} {A1 : Option Addr} {k1 : Nat} {A2 : Option Addr} {k2 : Nat} {A3 : Option Addr} {k3 : Nat} {A4 : Option Addr} {k4 : Nat} {A5 : Option Addr} {k5 : Nat} {A6 : Option Addr} {k6 : Nat} {A7 : Option Addr} {k7 : Nat} {A8 : Option Addr} {k8 : Nat} {A9 : Option Addr} {k9 : Nat} {G : List Nat} (h : (All [Own ty43 [.slice A0 c.Cluster.Grid.Shards.length k0] c.Cluster.Grid.Shards, Own ty77 [.slice A1 c.Cluster.Channels.length k1] c.Cluster.Channels, Own ty71 [.slice A2 c.Cluster.Counts.length k2] c.Cluster.Counts, Own ty72 [.slice A3 c.Cluster.Sent.length k3] c.Cluster.Sent, Own ty72 [.slice A4 c.Cluster.Got.length k4] c.Cluster.Got, Own ty82 [.slice A5 c.Shot.Taken.length k5] c.Shot.Taken, Own ty43 [.slice A6 c.Shot.Shards.length k6] c.Shot.Shards, Own ty71 [.slice A7 c.Shot.Counts.length k7] c.Shot.Counts, Own ty82 [.slice A8 c.Shot.Recording.length k8] c.Shot.Recording, Own ty77 [.slice A9 c.Shot.Saved.length k9] c.Shot.Saved]).A w G) : ty100.own w [.slice A0 c.Cluster.Grid.Shards.length k0, .int .i64 c.Cluster.Grid.Root.Machine, .int .i64 c.Cluster.Grid.Root.Kind, .int .i64 c.Cluster.Grid.Root.Index, .slice A1 c.Cluster.Channels.length k1, .slice A2 c.Cluster.Counts.length k2, .slice A3 c.Cluster.Sent.length k3, .slice A4 c.Cluster.Got.length k4, .slice A5 c.Shot.Taken.length k5, .slice A6 c.Shot.Shards.length k6, .slice A7 c.Shot.Counts.length k7, .slice A8 c.Shot.Recording.length k8, .slice A9 c.Shot.Saved.length k9] c G := by
  obtain ⟨G0, R0, rfl, h0, G1, R1, rfl, h1, G2, R2, rfl, h2, G3, R3, rfl, h3, G4, R4, rfl, h4, G5, R5, rfl, h5, G6, R6, rfl, h6, G7, R7, rfl, h7, G8, R8, rfl, h8, G9, R9, rfl, h9, hz⟩ := h
  have hz' : R9 = [] := hz
  subst hz'
  exact cast (congrArg _ (by simp)) (show ty100.own w [.slice A0 c.Cluster.Grid.Shards.length k0, .int .i64 c.Cluster.Grid.Root.Machine, .int .i64 c.Cluster.Grid.Root.Kind, .int .i64 c.Cluster.Grid.Root.Index, .slice A1 c.Cluster.Channels.length k1, .slice A2 c.Cluster.Counts.length k2, .slice A3 c.Cluster.Sent.length k3, .slice A4 c.Cluster.Got.length k4, .slice A5 c.Shot.Taken.length k5, .slice A6 c.Shot.Shards.length k6, .slice A7 c.Shot.Counts.length k7, .slice A8 c.Shot.Recording.length k8, .slice A9 c.Shot.Saved.length k9] c (_) from ⟨_, _, _, _, rfl, rfl, (ty79_ownI (c := c.Cluster) ⟨_, _, rfl, h0, ⟨_, _, rfl, h1, ⟨_, _, rfl, h2, ⟨_, _, rfl, h3, ⟨_, _, rfl, h4, rfl⟩⟩⟩⟩⟩), ⟨_, _, _, _, rfl, rfl, (ty98_ownI (c := c.Shot) ⟨_, _, rfl, h5, ⟨_, _, rfl, h6, ⟨_, _, rfl, h7, ⟨_, _, rfl, h8, ⟨_, _, rfl, h9, rfl⟩⟩⟩⟩⟩), ⟨rfl, rfl⟩⟩⟩)
theorem ty100_openS {W w : World} {B : List Res} {cs : List Value} {c : D.Watched} (h : St W w (Own ty100 cs c :: B)) : ∃ A0 k0 A1 k1 A2 k2 A3 k3 A4 k4 A5 k5 A6 k6 A7 k7 A8 k8 A9 k9, cs = [.slice A0 c.Cluster.Grid.Shards.length k0, .int .i64 c.Cluster.Grid.Root.Machine, .int .i64 c.Cluster.Grid.Root.Kind, .int .i64 c.Cluster.Grid.Root.Index, .slice A1 c.Cluster.Channels.length k1, .slice A2 c.Cluster.Counts.length k2, .slice A3 c.Cluster.Sent.length k3, .slice A4 c.Cluster.Got.length k4, .slice A5 c.Shot.Taken.length k5, .slice A6 c.Shot.Shards.length k6, .slice A7 c.Shot.Counts.length k7, .slice A8 c.Shot.Recording.length k8, .slice A9 c.Shot.Saved.length k9] ∧ St W w ([Own ty43 [.slice A0 c.Cluster.Grid.Shards.length k0] c.Cluster.Grid.Shards, Own ty77 [.slice A1 c.Cluster.Channels.length k1] c.Cluster.Channels, Own ty71 [.slice A2 c.Cluster.Counts.length k2] c.Cluster.Counts, Own ty72 [.slice A3 c.Cluster.Sent.length k3] c.Cluster.Sent, Own ty72 [.slice A4 c.Cluster.Got.length k4] c.Cluster.Got, Own ty82 [.slice A5 c.Shot.Taken.length k5] c.Shot.Taken, Own ty43 [.slice A6 c.Shot.Shards.length k6] c.Shot.Shards, Own ty71 [.slice A7 c.Shot.Counts.length k7] c.Shot.Counts, Own ty82 [.slice A8 c.Shot.Recording.length k8] c.Shot.Recording, Own ty77 [.slice A9 c.Shot.Saved.length k9] c.Shot.Saved] ++ B) := by
  obtain ⟨G, hA, _⟩ := h.sep.head
  obtain ⟨A0, k0, A1, k1, A2, k2, A3, k3, A4, k4, A5, k5, A6, k6, A7, k7, A8, k8, A9, k9, rfl, _⟩ := ty100_own hA
  refine ⟨A0, k0, A1, k1, A2, k2, A3, k3, A4, k4, A5, k5, A6, k6, A7, k7, A8, k8, A9, k9, rfl, St.splitAll (h.conv fun G hG => ?_)⟩
  obtain ⟨X0, Y0, X1, Y1, X2, Y2, X3, Y3, X4, Y4, X5, Y5, X6, Y6, X7, Y7, X8, Y8, X9, Y9, he, hh⟩ := ty100_own hG
  simp only [List.cons.injEq, Value.slice.injEq, and_true, true_and] at he
  obtain ⟨⟨rfl, rfl⟩, ⟨rfl, rfl⟩, ⟨rfl, rfl⟩, ⟨rfl, rfl⟩, ⟨rfl, rfl⟩, ⟨rfl, rfl⟩, ⟨rfl, rfl⟩, ⟨rfl, rfl⟩, ⟨rfl, rfl⟩, ⟨rfl, rfl⟩⟩ := he
  exact hh
theorem ty100_shutS {W w : World} {B : List Res} {c : D.Watched} {A0 : Option Addr} {k0 : Nat} {A1 : Option Addr} {k1 : Nat} {A2 : Option Addr} {k2 : Nat} {A3 : Option Addr} {k3 : Nat} {A4 : Option Addr} {k4 : Nat} {A5 : Option Addr} {k5 : Nat} {A6 : Option Addr} {k6 : Nat} {A7 : Option Addr} {k7 : Nat} {A8 : Option Addr} {k8 : Nat} {A9 : Option Addr} {k9 : Nat} (h : St W w ([Own ty43 [.slice A0 c.Cluster.Grid.Shards.length k0] c.Cluster.Grid.Shards, Own ty77 [.slice A1 c.Cluster.Channels.length k1] c.Cluster.Channels, Own ty71 [.slice A2 c.Cluster.Counts.length k2] c.Cluster.Counts, Own ty72 [.slice A3 c.Cluster.Sent.length k3] c.Cluster.Sent, Own ty72 [.slice A4 c.Cluster.Got.length k4] c.Cluster.Got, Own ty82 [.slice A5 c.Shot.Taken.length k5] c.Shot.Taken, Own ty43 [.slice A6 c.Shot.Shards.length k6] c.Shot.Shards, Own ty71 [.slice A7 c.Shot.Counts.length k7] c.Shot.Counts, Own ty82 [.slice A8 c.Shot.Recording.length k8] c.Shot.Recording, Own ty77 [.slice A9 c.Shot.Saved.length k9] c.Shot.Saved] ++ B)) : St W w (Own ty100 [.slice A0 c.Cluster.Grid.Shards.length k0, .int .i64 c.Cluster.Grid.Root.Machine, .int .i64 c.Cluster.Grid.Root.Kind, .int .i64 c.Cluster.Grid.Root.Index, .slice A1 c.Cluster.Channels.length k1, .slice A2 c.Cluster.Counts.length k2, .slice A3 c.Cluster.Sent.length k3, .slice A4 c.Cluster.Got.length k4, .slice A5 c.Shot.Taken.length k5, .slice A6 c.Shot.Shards.length k6, .slice A7 c.Shot.Counts.length k7, .slice A8 c.Shot.Recording.length k8, .slice A9 c.Shot.Saved.length k9] c :: B) := (St.fuseAll h).conv fun _ hG => ty100_ownI hG

def ty246 : Ty D.DequeActor := tMap (fun c => (c.Todo, c.Pc, c.T, c.B, c.X, ())) (tPair ty72 (tPair tInt (tPair tInt (tPair tInt (tPair tInt tUnit)))))
theorem ty246_open {w : World} {cs : List Value} {c : D.DequeActor} (h : ty246.ro w cs c) : ∃ A0 k0, cs = [.slice A0 c.Todo.length k0, .int .i64 c.Pc, .int .i64 c.T, .int .i64 c.B, .int .i64 c.X] ∧ ty72.ro w [.slice A0 c.Todo.length k0] c.Todo := by
  obtain ⟨c0, d0, rfl, h0, c1, d1, rfl, h1, c2, d2, rfl, h2, c3, d3, rfl, h3, c4, d4, rfl, h4, hz⟩ := h
  subst hz
  obtain ⟨A0_, k0_, e0⟩ := ty72_form h0
  subst e0
  subst h1
  subst h2
  subst h3
  subst h4
  exact ⟨A0_, k0_, rfl, h0⟩
theorem ty246_shut {w : World} (c : D.DequeActor) {A0 : Option Addr} {k0 : Nat} (h0 : ty72.ro w [.slice A0 c.Todo.length k0] c.Todo) : ty246.ro w [.slice A0 c.Todo.length k0, .int .i64 c.Pc, .int .i64 c.T, .int .i64 c.B, .int .i64 c.X] c :=
  ⟨_, _, rfl, h0, ⟨_, _, rfl, rfl, ⟨_, _, rfl, rfl, ⟨_, _, rfl, rfl, ⟨_, _, rfl, rfl, rfl⟩⟩⟩⟩⟩
theorem ty246_own {w : World} {cs : List Value} {c : D.DequeActor} {G : List Nat} (h : ty246.own w cs c G) : ∃ A0 k0, cs = [.slice A0 c.Todo.length k0, .int .i64 c.Pc, .int .i64 c.T, .int .i64 c.B, .int .i64 c.X] ∧ (All [Own ty72 [.slice A0 c.Todo.length k0] c.Todo]).A w G := by
  obtain ⟨c0, d0, H0, K0, rfl, rfl, h0, c1, d1, H1, K1, rfl, rfl, h1, c2, d2, H2, K2, rfl, rfl, h2, c3, d3, H3, K3, rfl, rfl, h3, c4, d4, H4, K4, rfl, rfl, h4, hz, hk⟩ := h
  subst hz; subst hk
  obtain ⟨A0_, k0_, e0⟩ := ty72_form (ty72.own_ro h0)
  subst e0
  obtain ⟨e1, k1⟩ := h1; subst e1; subst k1
  obtain ⟨e2, k2⟩ := h2; subst e2; subst k2
  obtain ⟨e3, k3⟩ := h3; subst e3; subst k3
  obtain ⟨e4, k4⟩ := h4; subst e4; subst k4
  refine ⟨A0_, k0_, rfl, ?_⟩
  show (All _).A w _
  exact cast (congrArg _ (by simp)) (show (All _).A w (H0 ++ ([])) from ⟨_, _, rfl, h0, rfl⟩)
theorem ty246_ownI {w : World} {c : D.DequeActor} {A0 : Option Addr} {k0 : Nat} {G : List Nat} (h : (All [Own ty72 [.slice A0 c.Todo.length k0] c.Todo]).A w G) : ty246.own w [.slice A0 c.Todo.length k0, .int .i64 c.Pc, .int .i64 c.T, .int .i64 c.B, .int .i64 c.X] c G := by
  obtain ⟨G0, R0, rfl, h0, hz⟩ := h
  have hz' : R0 = [] := hz
  subst hz'
  exact cast (congrArg _ (by simp)) (show ty246.own w [.slice A0 c.Todo.length k0, .int .i64 c.Pc, .int .i64 c.T, .int .i64 c.B, .int .i64 c.X] c (_) from ⟨_, _, _, _, rfl, rfl, h0, ⟨_, _, _, _, rfl, rfl, ⟨rfl, rfl⟩, ⟨_, _, _, _, rfl, rfl, ⟨rfl, rfl⟩, ⟨_, _, _, _, rfl, rfl, ⟨rfl, rfl⟩, ⟨_, _, _, _, rfl, rfl, ⟨rfl, rfl⟩, ⟨rfl, rfl⟩⟩⟩⟩⟩⟩)
theorem ty246_openS {W w : World} {B : List Res} {cs : List Value} {c : D.DequeActor} (h : St W w (Own ty246 cs c :: B)) : ∃ A0 k0, cs = [.slice A0 c.Todo.length k0, .int .i64 c.Pc, .int .i64 c.T, .int .i64 c.B, .int .i64 c.X] ∧ St W w ([Own ty72 [.slice A0 c.Todo.length k0] c.Todo] ++ B) := by
  obtain ⟨G, hA, _⟩ := h.sep.head
  obtain ⟨A0, k0, rfl, _⟩ := ty246_own hA
  refine ⟨A0, k0, rfl, St.splitAll (h.conv fun G hG => ?_)⟩
  obtain ⟨X0, Y0, he, hh⟩ := ty246_own hG
  simp only [List.cons.injEq, Value.slice.injEq, and_true, true_and] at he
  obtain ⟨rfl, rfl⟩ := he
  exact hh
theorem ty246_shutS {W w : World} {B : List Res} {c : D.DequeActor} {A0 : Option Addr} {k0 : Nat} (h : St W w ([Own ty72 [.slice A0 c.Todo.length k0] c.Todo] ++ B)) : St W w (Own ty246 [.slice A0 c.Todo.length k0, .int .i64 c.Pc, .int .i64 c.T, .int .i64 c.B, .int .i64 c.X] c :: B) := (St.fuseAll h).conv fun _ hG => ty246_ownI hG

def ty103 : Ty (List D.DequeActor) := tSl 246 ty246
theorem ty103_form {w : World} {cs : List Value} {xs : (List D.DequeActor)} (h : ty103.ro w cs xs) : ∃ A c, cs = [.slice A xs.length c] := slForm h

def ty252 : Ty D.Handed := tMap (fun c => (c.Actor, c.Value, ())) (tPair tInt (tPair tInt tUnit))
theorem ty252_open {w : World} {cs : List Value} {c : D.Handed} (h : ty252.ro w cs c) : cs = [.int .i64 c.Actor, .int .i64 c.Value] := by
  obtain ⟨c0, d0, rfl, h0, c1, d1, rfl, h1, hz⟩ := h
  subst hz
  subst h0
  subst h1
  rfl
theorem ty252_shut {w : World} (c : D.Handed)   : ty252.ro w [.int .i64 c.Actor, .int .i64 c.Value] c :=
  ⟨_, _, rfl, rfl, ⟨_, _, rfl, rfl, rfl⟩⟩
theorem ty252_own {w : World} {cs : List Value} {c : D.Handed} {G : List Nat} (h : ty252.own w cs c G) : cs = [.int .i64 c.Actor, .int .i64 c.Value] ∧ (All []).A w G := by
  obtain ⟨c0, d0, H0, K0, rfl, rfl, h0, c1, d1, H1, K1, rfl, rfl, h1, hz, hk⟩ := h
  subst hz; subst hk
  obtain ⟨e0, k0⟩ := h0; subst e0; subst k0
  obtain ⟨e1, k1⟩ := h1; subst e1; subst k1
  refine ⟨rfl, ?_⟩
  show (All _).A w _
  exact cast (congrArg _ (by simp)) (show (All _).A w ([]) from rfl)
theorem ty252_ownI {w : World} {c : D.Handed}  {G : List Nat} (h : (All []).A w G) : ty252.own w [.int .i64 c.Actor, .int .i64 c.Value] c G := by
  have hz : G = [] := h
  subst hz
  exact cast (congrArg _ (by simp)) (show ty252.own w [.int .i64 c.Actor, .int .i64 c.Value] c (_) from ⟨_, _, _, _, rfl, rfl, ⟨rfl, rfl⟩, ⟨_, _, _, _, rfl, rfl, ⟨rfl, rfl⟩, ⟨rfl, rfl⟩⟩⟩)
theorem ty252_openS {W w : World} {B : List Res} {cs : List Value} {c : D.Handed} (h : St W w (Own ty252 cs c :: B)) : cs = [.int .i64 c.Actor, .int .i64 c.Value] ∧ St W w ([] ++ B) := by
  obtain ⟨G, hA, _⟩ := h.sep.head
  obtain ⟨rfl, _⟩ := ty252_own hA
  refine ⟨rfl, St.splitAll (h.conv fun G hG => ?_)⟩
  exact (ty252_own hG).2
theorem ty252_shutS {W w : World} {B : List Res} {c : D.Handed}  (h : St W w ([] ++ B)) : St W w (Own ty252 [.int .i64 c.Actor, .int .i64 c.Value] c :: B) := (St.fuseAll h).conv fun _ hG => ty252_ownI hG

def ty104 : Ty (List D.Handed) := tSl 252 ty252
theorem ty104_form {w : World} {cs : List Value} {xs : (List D.Handed)} (h : ty104.ro w cs xs) : ∃ A c, cs = [.slice A xs.length c] := slForm h

def ty106 : Ty D.Deque := tMap (fun c => (c.Top, c.Bottom, c.Buffer, c.Actors, c.Taken, c.Refused, ())) (tPair tInt (tPair tInt (tPair ty72 (tPair ty103 (tPair ty104 (tPair ty72 tUnit))))))
theorem ty106_open {w : World} {cs : List Value} {c : D.Deque} (h : ty106.ro w cs c) : ∃ A0 k0 A1 k1 A2 k2 A3 k3, cs = [.int .i64 c.Top, .int .i64 c.Bottom, .slice A0 c.Buffer.length k0, .slice A1 c.Actors.length k1, .slice A2 c.Taken.length k2, .slice A3 c.Refused.length k3] ∧ ty72.ro w [.slice A0 c.Buffer.length k0] c.Buffer ∧ ty103.ro w [.slice A1 c.Actors.length k1] c.Actors ∧ ty104.ro w [.slice A2 c.Taken.length k2] c.Taken ∧ ty72.ro w [.slice A3 c.Refused.length k3] c.Refused := by
  obtain ⟨c0, d0, rfl, h0, c1, d1, rfl, h1, c2, d2, rfl, h2, c3, d3, rfl, h3, c4, d4, rfl, h4, c5, d5, rfl, h5, hz⟩ := h
  subst hz
  subst h0
  subst h1
  obtain ⟨A2_, k2_, e2⟩ := ty72_form h2
  subst e2
  obtain ⟨A3_, k3_, e3⟩ := ty103_form h3
  subst e3
  obtain ⟨A4_, k4_, e4⟩ := ty104_form h4
  subst e4
  obtain ⟨A5_, k5_, e5⟩ := ty72_form h5
  subst e5
  exact ⟨A2_, k2_, A3_, k3_, A4_, k4_, A5_, k5_, rfl, h2, h3, h4, h5⟩
theorem ty106_shut {w : World} (c : D.Deque) {A0 : Option Addr} {k0 : Nat} {A1 : Option Addr} {k1 : Nat} {A2 : Option Addr} {k2 : Nat} {A3 : Option Addr} {k3 : Nat} (h0 : ty72.ro w [.slice A0 c.Buffer.length k0] c.Buffer) (h1 : ty103.ro w [.slice A1 c.Actors.length k1] c.Actors) (h2 : ty104.ro w [.slice A2 c.Taken.length k2] c.Taken) (h3 : ty72.ro w [.slice A3 c.Refused.length k3] c.Refused) : ty106.ro w [.int .i64 c.Top, .int .i64 c.Bottom, .slice A0 c.Buffer.length k0, .slice A1 c.Actors.length k1, .slice A2 c.Taken.length k2, .slice A3 c.Refused.length k3] c :=
  ⟨_, _, rfl, rfl, ⟨_, _, rfl, rfl, ⟨_, _, rfl, h0, ⟨_, _, rfl, h1, ⟨_, _, rfl, h2, ⟨_, _, rfl, h3, rfl⟩⟩⟩⟩⟩⟩
theorem ty106_own {w : World} {cs : List Value} {c : D.Deque} {G : List Nat} (h : ty106.own w cs c G) : ∃ A0 k0 A1 k1 A2 k2 A3 k3, cs = [.int .i64 c.Top, .int .i64 c.Bottom, .slice A0 c.Buffer.length k0, .slice A1 c.Actors.length k1, .slice A2 c.Taken.length k2, .slice A3 c.Refused.length k3] ∧ (All [Own ty72 [.slice A0 c.Buffer.length k0] c.Buffer, Own ty103 [.slice A1 c.Actors.length k1] c.Actors, Own ty104 [.slice A2 c.Taken.length k2] c.Taken, Own ty72 [.slice A3 c.Refused.length k3] c.Refused]).A w G := by
  obtain ⟨c0, d0, H0, K0, rfl, rfl, h0, c1, d1, H1, K1, rfl, rfl, h1, c2, d2, H2, K2, rfl, rfl, h2, c3, d3, H3, K3, rfl, rfl, h3, c4, d4, H4, K4, rfl, rfl, h4, c5, d5, H5, K5, rfl, rfl, h5, hz, hk⟩ := h
  subst hz; subst hk
  obtain ⟨e0, k0⟩ := h0; subst e0; subst k0
  obtain ⟨e1, k1⟩ := h1; subst e1; subst k1
  obtain ⟨A2_, k2_, e2⟩ := ty72_form (ty72.own_ro h2)
  subst e2
  obtain ⟨A3_, k3_, e3⟩ := ty103_form (ty103.own_ro h3)
  subst e3
  obtain ⟨A4_, k4_, e4⟩ := ty104_form (ty104.own_ro h4)
  subst e4
  obtain ⟨A5_, k5_, e5⟩ := ty72_form (ty72.own_ro h5)
  subst e5
  refine ⟨A2_, k2_, A3_, k3_, A4_, k4_, A5_, k5_, rfl, ?_⟩
  show (All _).A w _
  exact cast (congrArg _ (by simp)) (show (All _).A w (H2 ++ (H3 ++ (H4 ++ (H5 ++ ([]))))) from ⟨_, _, rfl, h2, ⟨_, _, rfl, h3, ⟨_, _, rfl, h4, ⟨_, _, rfl, h5, rfl⟩⟩⟩⟩)
theorem ty106_ownI {w : World} {c : D.Deque} {A0 : Option Addr} {k0 : Nat} {A1 : Option Addr} {k1 : Nat} {A2 : Option Addr} {k2 : Nat} {A3 : Option Addr} {k3 : Nat} {G : List Nat} (h : (All [Own ty72 [.slice A0 c.Buffer.length k0] c.Buffer, Own ty103 [.slice A1 c.Actors.length k1] c.Actors, Own ty104 [.slice A2 c.Taken.length k2] c.Taken, Own ty72 [.slice A3 c.Refused.length k3] c.Refused]).A w G) : ty106.own w [.int .i64 c.Top, .int .i64 c.Bottom, .slice A0 c.Buffer.length k0, .slice A1 c.Actors.length k1, .slice A2 c.Taken.length k2, .slice A3 c.Refused.length k3] c G := by
  obtain ⟨G0, R0, rfl, h0, G1, R1, rfl, h1, G2, R2, rfl, h2, G3, R3, rfl, h3, hz⟩ := h
  have hz' : R3 = [] := hz
  subst hz'
  exact cast (congrArg _ (by simp)) (show ty106.own w [.int .i64 c.Top, .int .i64 c.Bottom, .slice A0 c.Buffer.length k0, .slice A1 c.Actors.length k1, .slice A2 c.Taken.length k2, .slice A3 c.Refused.length k3] c (_) from ⟨_, _, _, _, rfl, rfl, ⟨rfl, rfl⟩, ⟨_, _, _, _, rfl, rfl, ⟨rfl, rfl⟩, ⟨_, _, _, _, rfl, rfl, h0, ⟨_, _, _, _, rfl, rfl, h1, ⟨_, _, _, _, rfl, rfl, h2, ⟨_, _, _, _, rfl, rfl, h3, ⟨rfl, rfl⟩⟩⟩⟩⟩⟩⟩)
theorem ty106_openS {W w : World} {B : List Res} {cs : List Value} {c : D.Deque} (h : St W w (Own ty106 cs c :: B)) : ∃ A0 k0 A1 k1 A2 k2 A3 k3, cs = [.int .i64 c.Top, .int .i64 c.Bottom, .slice A0 c.Buffer.length k0, .slice A1 c.Actors.length k1, .slice A2 c.Taken.length k2, .slice A3 c.Refused.length k3] ∧ St W w ([Own ty72 [.slice A0 c.Buffer.length k0] c.Buffer, Own ty103 [.slice A1 c.Actors.length k1] c.Actors, Own ty104 [.slice A2 c.Taken.length k2] c.Taken, Own ty72 [.slice A3 c.Refused.length k3] c.Refused] ++ B) := by
  obtain ⟨G, hA, _⟩ := h.sep.head
  obtain ⟨A0, k0, A1, k1, A2, k2, A3, k3, rfl, _⟩ := ty106_own hA
  refine ⟨A0, k0, A1, k1, A2, k2, A3, k3, rfl, St.splitAll (h.conv fun G hG => ?_)⟩
  obtain ⟨X0, Y0, X1, Y1, X2, Y2, X3, Y3, he, hh⟩ := ty106_own hG
  simp only [List.cons.injEq, Value.slice.injEq, and_true, true_and] at he
  obtain ⟨⟨rfl, rfl⟩, ⟨rfl, rfl⟩, ⟨rfl, rfl⟩, ⟨rfl, rfl⟩⟩ := he
  exact hh
theorem ty106_shutS {W w : World} {B : List Res} {c : D.Deque} {A0 : Option Addr} {k0 : Nat} {A1 : Option Addr} {k1 : Nat} {A2 : Option Addr} {k2 : Nat} {A3 : Option Addr} {k3 : Nat} (h : St W w ([Own ty72 [.slice A0 c.Buffer.length k0] c.Buffer, Own ty103 [.slice A1 c.Actors.length k1] c.Actors, Own ty104 [.slice A2 c.Taken.length k2] c.Taken, Own ty72 [.slice A3 c.Refused.length k3] c.Refused] ++ B)) : St W w (Own ty106 [.int .i64 c.Top, .int .i64 c.Bottom, .slice A0 c.Buffer.length k0, .slice A1 c.Actors.length k1, .slice A2 c.Taken.length k2, .slice A3 c.Refused.length k3] c :: B) := (St.fuseAll h).conv fun _ hG => ty106_ownI hG

def ty191 : Ty D.DequeActor := tMap (fun c => (c.Todo, c.Pc, c.T, c.B, c.X, ())) (tPair ty72 (tPair tInt (tPair tInt (tPair tInt (tPair tInt tUnit)))))
theorem ty191_open {w : World} {cs : List Value} {c : D.DequeActor} (h : ty191.ro w cs c) : ∃ A0 k0, cs = [.slice A0 c.Todo.length k0, .int .i64 c.Pc, .int .i64 c.T, .int .i64 c.B, .int .i64 c.X] ∧ ty72.ro w [.slice A0 c.Todo.length k0] c.Todo := by
  obtain ⟨c0, d0, rfl, h0, c1, d1, rfl, h1, c2, d2, rfl, h2, c3, d3, rfl, h3, c4, d4, rfl, h4, hz⟩ := h
  subst hz
  obtain ⟨A0_, k0_, e0⟩ := ty72_form h0
  subst e0
  subst h1
  subst h2
  subst h3
  subst h4
  exact ⟨A0_, k0_, rfl, h0⟩
theorem ty191_shut {w : World} (c : D.DequeActor) {A0 : Option Addr} {k0 : Nat} (h0 : ty72.ro w [.slice A0 c.Todo.length k0] c.Todo) : ty191.ro w [.slice A0 c.Todo.length k0, .int .i64 c.Pc, .int .i64 c.T, .int .i64 c.B, .int .i64 c.X] c :=
  ⟨_, _, rfl, h0, ⟨_, _, rfl, rfl, ⟨_, _, rfl, rfl, ⟨_, _, rfl, rfl, ⟨_, _, rfl, rfl, rfl⟩⟩⟩⟩⟩
theorem ty191_own {w : World} {cs : List Value} {c : D.DequeActor} {G : List Nat} (h : ty191.own w cs c G) : ∃ A0 k0, cs = [.slice A0 c.Todo.length k0, .int .i64 c.Pc, .int .i64 c.T, .int .i64 c.B, .int .i64 c.X] ∧ (All [Own ty72 [.slice A0 c.Todo.length k0] c.Todo]).A w G := by
  obtain ⟨c0, d0, H0, K0, rfl, rfl, h0, c1, d1, H1, K1, rfl, rfl, h1, c2, d2, H2, K2, rfl, rfl, h2, c3, d3, H3, K3, rfl, rfl, h3, c4, d4, H4, K4, rfl, rfl, h4, hz, hk⟩ := h
  subst hz; subst hk
  obtain ⟨A0_, k0_, e0⟩ := ty72_form (ty72.own_ro h0)
  subst e0
  obtain ⟨e1, k1⟩ := h1; subst e1; subst k1
  obtain ⟨e2, k2⟩ := h2; subst e2; subst k2
  obtain ⟨e3, k3⟩ := h3; subst e3; subst k3
  obtain ⟨e4, k4⟩ := h4; subst e4; subst k4
  refine ⟨A0_, k0_, rfl, ?_⟩
  show (All _).A w _
  exact cast (congrArg _ (by simp)) (show (All _).A w (H0 ++ ([])) from ⟨_, _, rfl, h0, rfl⟩)
theorem ty191_ownI {w : World} {c : D.DequeActor} {A0 : Option Addr} {k0 : Nat} {G : List Nat} (h : (All [Own ty72 [.slice A0 c.Todo.length k0] c.Todo]).A w G) : ty191.own w [.slice A0 c.Todo.length k0, .int .i64 c.Pc, .int .i64 c.T, .int .i64 c.B, .int .i64 c.X] c G := by
  obtain ⟨G0, R0, rfl, h0, hz⟩ := h
  have hz' : R0 = [] := hz
  subst hz'
  exact cast (congrArg _ (by simp)) (show ty191.own w [.slice A0 c.Todo.length k0, .int .i64 c.Pc, .int .i64 c.T, .int .i64 c.B, .int .i64 c.X] c (_) from ⟨_, _, _, _, rfl, rfl, h0, ⟨_, _, _, _, rfl, rfl, ⟨rfl, rfl⟩, ⟨_, _, _, _, rfl, rfl, ⟨rfl, rfl⟩, ⟨_, _, _, _, rfl, rfl, ⟨rfl, rfl⟩, ⟨_, _, _, _, rfl, rfl, ⟨rfl, rfl⟩, ⟨rfl, rfl⟩⟩⟩⟩⟩⟩)
theorem ty191_openS {W w : World} {B : List Res} {cs : List Value} {c : D.DequeActor} (h : St W w (Own ty191 cs c :: B)) : ∃ A0 k0, cs = [.slice A0 c.Todo.length k0, .int .i64 c.Pc, .int .i64 c.T, .int .i64 c.B, .int .i64 c.X] ∧ St W w ([Own ty72 [.slice A0 c.Todo.length k0] c.Todo] ++ B) := by
  obtain ⟨G, hA, _⟩ := h.sep.head
  obtain ⟨A0, k0, rfl, _⟩ := ty191_own hA
  refine ⟨A0, k0, rfl, St.splitAll (h.conv fun G hG => ?_)⟩
  obtain ⟨X0, Y0, he, hh⟩ := ty191_own hG
  simp only [List.cons.injEq, Value.slice.injEq, and_true, true_and] at he
  obtain ⟨rfl, rfl⟩ := he
  exact hh
theorem ty191_shutS {W w : World} {B : List Res} {c : D.DequeActor} {A0 : Option Addr} {k0 : Nat} (h : St W w ([Own ty72 [.slice A0 c.Todo.length k0] c.Todo] ++ B)) : St W w (Own ty191 [.slice A0 c.Todo.length k0, .int .i64 c.Pc, .int .i64 c.T, .int .i64 c.B, .int .i64 c.X] c :: B) := (St.fuseAll h).conv fun _ hG => ty191_ownI hG

def ty109 : Ty (List D.DequeActor) := tSl 191 ty191
theorem ty109_form {w : World} {cs : List Value} {xs : (List D.DequeActor)} (h : ty109.ro w cs xs) : ∃ A c, cs = [.slice A xs.length c] := slForm h

def ty196 : Ty D.Handed := tMap (fun c => (c.Actor, c.Value, ())) (tPair tInt (tPair tInt tUnit))
theorem ty196_open {w : World} {cs : List Value} {c : D.Handed} (h : ty196.ro w cs c) : cs = [.int .i64 c.Actor, .int .i64 c.Value] := by
  obtain ⟨c0, d0, rfl, h0, c1, d1, rfl, h1, hz⟩ := h
  subst hz
  subst h0
  subst h1
  rfl
theorem ty196_shut {w : World} (c : D.Handed)   : ty196.ro w [.int .i64 c.Actor, .int .i64 c.Value] c :=
  ⟨_, _, rfl, rfl, ⟨_, _, rfl, rfl, rfl⟩⟩
theorem ty196_own {w : World} {cs : List Value} {c : D.Handed} {G : List Nat} (h : ty196.own w cs c G) : cs = [.int .i64 c.Actor, .int .i64 c.Value] ∧ (All []).A w G := by
  obtain ⟨c0, d0, H0, K0, rfl, rfl, h0, c1, d1, H1, K1, rfl, rfl, h1, hz, hk⟩ := h
  subst hz; subst hk
  obtain ⟨e0, k0⟩ := h0; subst e0; subst k0
  obtain ⟨e1, k1⟩ := h1; subst e1; subst k1
  refine ⟨rfl, ?_⟩
  show (All _).A w _
  exact cast (congrArg _ (by simp)) (show (All _).A w ([]) from rfl)
theorem ty196_ownI {w : World} {c : D.Handed}  {G : List Nat} (h : (All []).A w G) : ty196.own w [.int .i64 c.Actor, .int .i64 c.Value] c G := by
  have hz : G = [] := h
  subst hz
  exact cast (congrArg _ (by simp)) (show ty196.own w [.int .i64 c.Actor, .int .i64 c.Value] c (_) from ⟨_, _, _, _, rfl, rfl, ⟨rfl, rfl⟩, ⟨_, _, _, _, rfl, rfl, ⟨rfl, rfl⟩, ⟨rfl, rfl⟩⟩⟩)
theorem ty196_openS {W w : World} {B : List Res} {cs : List Value} {c : D.Handed} (h : St W w (Own ty196 cs c :: B)) : cs = [.int .i64 c.Actor, .int .i64 c.Value] ∧ St W w ([] ++ B) := by
  obtain ⟨G, hA, _⟩ := h.sep.head
  obtain ⟨rfl, _⟩ := ty196_own hA
  refine ⟨rfl, St.splitAll (h.conv fun G hG => ?_)⟩
  exact (ty196_own hG).2
theorem ty196_shutS {W w : World} {B : List Res} {c : D.Handed}  (h : St W w ([] ++ B)) : St W w (Own ty196 [.int .i64 c.Actor, .int .i64 c.Value] c :: B) := (St.fuseAll h).conv fun _ hG => ty196_ownI hG

def ty110 : Ty (List D.Handed) := tSl 196 ty196
theorem ty110_form {w : World} {cs : List Value} {xs : (List D.Handed)} (h : ty110.ro w cs xs) : ∃ A c, cs = [.slice A xs.length c] := slForm h

def ty112 : Ty D.Deque := tMap (fun c => (c.Top, c.Bottom, c.Buffer, c.Actors, c.Taken, c.Refused, ())) (tPair tInt (tPair tInt (tPair ty72 (tPair ty109 (tPair ty110 (tPair ty72 tUnit))))))
theorem ty112_open {w : World} {cs : List Value} {c : D.Deque} (h : ty112.ro w cs c) : ∃ A0 k0 A1 k1 A2 k2 A3 k3, cs = [.int .i64 c.Top, .int .i64 c.Bottom, .slice A0 c.Buffer.length k0, .slice A1 c.Actors.length k1, .slice A2 c.Taken.length k2, .slice A3 c.Refused.length k3] ∧ ty72.ro w [.slice A0 c.Buffer.length k0] c.Buffer ∧ ty109.ro w [.slice A1 c.Actors.length k1] c.Actors ∧ ty110.ro w [.slice A2 c.Taken.length k2] c.Taken ∧ ty72.ro w [.slice A3 c.Refused.length k3] c.Refused := by
  obtain ⟨c0, d0, rfl, h0, c1, d1, rfl, h1, c2, d2, rfl, h2, c3, d3, rfl, h3, c4, d4, rfl, h4, c5, d5, rfl, h5, hz⟩ := h
  subst hz
  subst h0
  subst h1
  obtain ⟨A2_, k2_, e2⟩ := ty72_form h2
  subst e2
  obtain ⟨A3_, k3_, e3⟩ := ty109_form h3
  subst e3
  obtain ⟨A4_, k4_, e4⟩ := ty110_form h4
  subst e4
  obtain ⟨A5_, k5_, e5⟩ := ty72_form h5
  subst e5
  exact ⟨A2_, k2_, A3_, k3_, A4_, k4_, A5_, k5_, rfl, h2, h3, h4, h5⟩
theorem ty112_shut {w : World} (c : D.Deque) {A0 : Option Addr} {k0 : Nat} {A1 : Option Addr} {k1 : Nat} {A2 : Option Addr} {k2 : Nat} {A3 : Option Addr} {k3 : Nat} (h0 : ty72.ro w [.slice A0 c.Buffer.length k0] c.Buffer) (h1 : ty109.ro w [.slice A1 c.Actors.length k1] c.Actors) (h2 : ty110.ro w [.slice A2 c.Taken.length k2] c.Taken) (h3 : ty72.ro w [.slice A3 c.Refused.length k3] c.Refused) : ty112.ro w [.int .i64 c.Top, .int .i64 c.Bottom, .slice A0 c.Buffer.length k0, .slice A1 c.Actors.length k1, .slice A2 c.Taken.length k2, .slice A3 c.Refused.length k3] c :=
  ⟨_, _, rfl, rfl, ⟨_, _, rfl, rfl, ⟨_, _, rfl, h0, ⟨_, _, rfl, h1, ⟨_, _, rfl, h2, ⟨_, _, rfl, h3, rfl⟩⟩⟩⟩⟩⟩
theorem ty112_own {w : World} {cs : List Value} {c : D.Deque} {G : List Nat} (h : ty112.own w cs c G) : ∃ A0 k0 A1 k1 A2 k2 A3 k3, cs = [.int .i64 c.Top, .int .i64 c.Bottom, .slice A0 c.Buffer.length k0, .slice A1 c.Actors.length k1, .slice A2 c.Taken.length k2, .slice A3 c.Refused.length k3] ∧ (All [Own ty72 [.slice A0 c.Buffer.length k0] c.Buffer, Own ty109 [.slice A1 c.Actors.length k1] c.Actors, Own ty110 [.slice A2 c.Taken.length k2] c.Taken, Own ty72 [.slice A3 c.Refused.length k3] c.Refused]).A w G := by
  obtain ⟨c0, d0, H0, K0, rfl, rfl, h0, c1, d1, H1, K1, rfl, rfl, h1, c2, d2, H2, K2, rfl, rfl, h2, c3, d3, H3, K3, rfl, rfl, h3, c4, d4, H4, K4, rfl, rfl, h4, c5, d5, H5, K5, rfl, rfl, h5, hz, hk⟩ := h
  subst hz; subst hk
  obtain ⟨e0, k0⟩ := h0; subst e0; subst k0
  obtain ⟨e1, k1⟩ := h1; subst e1; subst k1
  obtain ⟨A2_, k2_, e2⟩ := ty72_form (ty72.own_ro h2)
  subst e2
  obtain ⟨A3_, k3_, e3⟩ := ty109_form (ty109.own_ro h3)
  subst e3
  obtain ⟨A4_, k4_, e4⟩ := ty110_form (ty110.own_ro h4)
  subst e4
  obtain ⟨A5_, k5_, e5⟩ := ty72_form (ty72.own_ro h5)
  subst e5
  refine ⟨A2_, k2_, A3_, k3_, A4_, k4_, A5_, k5_, rfl, ?_⟩
  show (All _).A w _
  exact cast (congrArg _ (by simp)) (show (All _).A w (H2 ++ (H3 ++ (H4 ++ (H5 ++ ([]))))) from ⟨_, _, rfl, h2, ⟨_, _, rfl, h3, ⟨_, _, rfl, h4, ⟨_, _, rfl, h5, rfl⟩⟩⟩⟩)
theorem ty112_ownI {w : World} {c : D.Deque} {A0 : Option Addr} {k0 : Nat} {A1 : Option Addr} {k1 : Nat} {A2 : Option Addr} {k2 : Nat} {A3 : Option Addr} {k3 : Nat} {G : List Nat} (h : (All [Own ty72 [.slice A0 c.Buffer.length k0] c.Buffer, Own ty109 [.slice A1 c.Actors.length k1] c.Actors, Own ty110 [.slice A2 c.Taken.length k2] c.Taken, Own ty72 [.slice A3 c.Refused.length k3] c.Refused]).A w G) : ty112.own w [.int .i64 c.Top, .int .i64 c.Bottom, .slice A0 c.Buffer.length k0, .slice A1 c.Actors.length k1, .slice A2 c.Taken.length k2, .slice A3 c.Refused.length k3] c G := by
  obtain ⟨G0, R0, rfl, h0, G1, R1, rfl, h1, G2, R2, rfl, h2, G3, R3, rfl, h3, hz⟩ := h
  have hz' : R3 = [] := hz
  subst hz'
  exact cast (congrArg _ (by simp)) (show ty112.own w [.int .i64 c.Top, .int .i64 c.Bottom, .slice A0 c.Buffer.length k0, .slice A1 c.Actors.length k1, .slice A2 c.Taken.length k2, .slice A3 c.Refused.length k3] c (_) from ⟨_, _, _, _, rfl, rfl, ⟨rfl, rfl⟩, ⟨_, _, _, _, rfl, rfl, ⟨rfl, rfl⟩, ⟨_, _, _, _, rfl, rfl, h0, ⟨_, _, _, _, rfl, rfl, h1, ⟨_, _, _, _, rfl, rfl, h2, ⟨_, _, _, _, rfl, rfl, h3, ⟨rfl, rfl⟩⟩⟩⟩⟩⟩⟩)
theorem ty112_openS {W w : World} {B : List Res} {cs : List Value} {c : D.Deque} (h : St W w (Own ty112 cs c :: B)) : ∃ A0 k0 A1 k1 A2 k2 A3 k3, cs = [.int .i64 c.Top, .int .i64 c.Bottom, .slice A0 c.Buffer.length k0, .slice A1 c.Actors.length k1, .slice A2 c.Taken.length k2, .slice A3 c.Refused.length k3] ∧ St W w ([Own ty72 [.slice A0 c.Buffer.length k0] c.Buffer, Own ty109 [.slice A1 c.Actors.length k1] c.Actors, Own ty110 [.slice A2 c.Taken.length k2] c.Taken, Own ty72 [.slice A3 c.Refused.length k3] c.Refused] ++ B) := by
  obtain ⟨G, hA, _⟩ := h.sep.head
  obtain ⟨A0, k0, A1, k1, A2, k2, A3, k3, rfl, _⟩ := ty112_own hA
  refine ⟨A0, k0, A1, k1, A2, k2, A3, k3, rfl, St.splitAll (h.conv fun G hG => ?_)⟩
  obtain ⟨X0, Y0, X1, Y1, X2, Y2, X3, Y3, he, hh⟩ := ty112_own hG
  simp only [List.cons.injEq, Value.slice.injEq, and_true, true_and] at he
  obtain ⟨⟨rfl, rfl⟩, ⟨rfl, rfl⟩, ⟨rfl, rfl⟩, ⟨rfl, rfl⟩⟩ := he
  exact hh
theorem ty112_shutS {W w : World} {B : List Res} {c : D.Deque} {A0 : Option Addr} {k0 : Nat} {A1 : Option Addr} {k1 : Nat} {A2 : Option Addr} {k2 : Nat} {A3 : Option Addr} {k3 : Nat} (h : St W w ([Own ty72 [.slice A0 c.Buffer.length k0] c.Buffer, Own ty109 [.slice A1 c.Actors.length k1] c.Actors, Own ty110 [.slice A2 c.Taken.length k2] c.Taken, Own ty72 [.slice A3 c.Refused.length k3] c.Refused] ++ B)) : St W w (Own ty112 [.int .i64 c.Top, .int .i64 c.Bottom, .slice A0 c.Buffer.length k0, .slice A1 c.Actors.length k1, .slice A2 c.Taken.length k2, .slice A3 c.Refused.length k3] c :: B) := (St.fuseAll h).conv fun _ hG => ty112_ownI hG

end Go.E
