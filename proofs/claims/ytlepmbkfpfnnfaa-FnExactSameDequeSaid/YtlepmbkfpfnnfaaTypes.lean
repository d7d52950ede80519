/- The types of the data, as tables and as plain Lean types (written by program). Conditions: none. -/
import Derived.Test.YtlepmbkfpfnnfaaData
import Derived.Test.YtlepmbkfpfnnfaaProg
import Derived.KernelRfl
namespace Go.E
open Go.RowKit Go.Proofs

/-- The types that the code names. -/
def tt : TT := [
  ⟨2, .int .i64, 1, [.int .i64 0], 8⟩,
  ⟨3, .int .i64, 1, [.int .i64 0], 8⟩,
  ⟨4, .bool, 1, [.bool false], 1⟩,
  ⟨5, .int .u8, 1, [.int .u8 0], 1⟩,
  ⟨9, .str, 1, [.string ⟨#[]⟩], 16⟩,
  ⟨22, .slice 9, 1, [.slice none 0 0], 24⟩,
  ⟨23, .slice 97, 1, [.slice none 0 0], 24⟩,
  ⟨25, .struct [(0, 1, false, 2), (1, 1, false, 22), (2, 1, false, 2), (3, 1, false, 2), (4, 1, false, 2), (5, 1, false, 23), (6, 1, false, 22), (7, 1, false, 23)], 8, [.int .i64 0, .slice none 0 0, .int .i64 0, .int .i64 0, .int .i64 0, .slice none 0 0, .slice none 0 0, .slice none 0 0], 128⟩,
  ⟨28, .slice 66, 1, [.slice none 0 0], 24⟩,
  ⟨30, .struct [(0, 1, false, 2), (1, 1, false, 22), (2, 1, false, 2), (3, 1, false, 2), (4, 1, false, 2), (5, 1, false, 28), (6, 1, false, 22), (7, 1, false, 28)], 8, [.int .i64 0, .slice none 0 0, .int .i64 0, .int .i64 0, .int .i64 0, .slice none 0 0, .slice none 0 0, .slice none 0 0], 128⟩,
  ⟨35, .slice 2, 1, [.slice none 0 0], 24⟩,
  ⟨36, .slice 105, 1, [.slice none 0 0], 24⟩,
  ⟨37, .slice 109, 1, [.slice none 0 0], 24⟩,
  ⟨39, .struct [(0, 1, false, 2), (1, 1, false, 2), (2, 1, false, 35), (3, 1, false, 36), (4, 1, false, 37), (5, 1, false, 35)], 6, [.int .i64 0, .int .i64 0, .slice none 0 0, .slice none 0 0, .slice none 0 0, .slice none 0 0], 112⟩,
  ⟨42, .slice 85, 1, [.slice none 0 0], 24⟩,
  ⟨43, .slice 82, 1, [.slice none 0 0], 24⟩,
  ⟨45, .struct [(0, 1, false, 2), (1, 1, false, 2), (2, 1, false, 35), (3, 1, false, 42), (4, 1, false, 43), (5, 1, false, 35)], 6, [.int .i64 0, .int .i64 0, .slice none 0 0, .slice none 0 0, .slice none 0 0, .slice none 0 0], 112⟩,
  ⟨66, .struct [(0, 1, false, 4), (1, 1, false, 2), (2, 1, false, 9)], 3, [.bool false, .int .i64 0, .string ⟨#[]⟩], 32⟩,
  ⟨68, .ptr 30, 1, [.pointer none], 8⟩,
  ⟨77, .ptr 45, 1, [.pointer none], 8⟩,
  ⟨82, .struct [(0, 1, false, 2), (1, 1, false, 2)], 2, [.int .i64 0, .int .i64 0], 16⟩,
  ⟨85, .struct [(0, 1, false, 35), (1, 1, false, 2), (2, 1, false, 2), (3, 1, false, 2), (4, 1, false, 2)], 5, [.slice none 0 0, .int .i64 0, .int .i64 0, .int .i64 0, .int .i64 0], 56⟩,
  ⟨97, .struct [(0, 1, false, 4), (1, 1, false, 2), (2, 1, false, 9)], 3, [.bool false, .int .i64 0, .string ⟨#[]⟩], 32⟩,
  ⟨100, .ptr 66, 1, [.pointer none], 8⟩,
  ⟨105, .struct [(0, 1, false, 35), (1, 1, false, 2), (2, 1, false, 2), (3, 1, false, 2), (4, 1, false, 2)], 5, [.slice none 0 0, .int .i64 0, .int .i64 0, .int .i64 0, .int .i64 0], 56⟩,
  ⟨106, .ptr 85, 1, [.pointer none], 8⟩,
  ⟨109, .struct [(0, 1, false, 2), (1, 1, false, 2)], 2, [.int .i64 0, .int .i64 0], 16⟩,
  ⟨112, .slice 5, 1, [.slice none 0 0], 24⟩]

def zerosOk (P : Program) : TT → Prop
  | [] => True
  | i :: r => (P.info? i.id).map (fun j => j.zero.map (fun v => v.cells.toList)) = some (some i.zero) ∧ zerosOk P r

theorem zerosOk_mem {P : Program} : ∀ {T : TT}, zerosOk P T → ∀ i, i ∈ T → (P.info? i.id).map (fun j => j.zero.map (fun v => v.cells.toList)) = some (some i.zero)
  | [], _, i, h => by cases h
  | _ :: _, ⟨h1, h2⟩, i, h => by
    rcases List.mem_cons.1 h with rfl | h
    · exact h1
    · exact zerosOk_mem h2 i h

theorem tt_all : tt.all (infoOk Try.prog) = true := by kernel_rfl
theorem tt_zeros : zerosOk Try.prog tt := ⟨by kernel_rfl, by kernel_rfl, by kernel_rfl, by kernel_rfl, by kernel_rfl, by kernel_rfl, by kernel_rfl, by kernel_rfl, by kernel_rfl, by kernel_rfl, by kernel_rfl, by kernel_rfl, by kernel_rfl, by kernel_rfl, by kernel_rfl, by kernel_rfl, by kernel_rfl, by kernel_rfl, by kernel_rfl, by kernel_rfl, by kernel_rfl, by kernel_rfl, by kernel_rfl, by kernel_rfl, by kernel_rfl, by kernel_rfl, by kernel_rfl, by kernel_rfl, trivial⟩
theorem ttok : TTok Try.prog tt := ⟨List.all_eq_true.1 tt_all, zerosOk_mem tt_zeros⟩
theorem mixed : Try.prog.follows .mixedOrders = true := by kernel_rfl

structure D.Packet where
  Ack : Bool
  Number : Int
  Text : ByteArray
deriving Inhabited

structure D.Channel where
  Window : Int
  Messages : (List ByteArray)
  Base : Int
  Next : Int
  Expected : Int
  Early : (List D.Packet)
  Delivered : (List ByteArray)
  Flight : (List D.Packet)
deriving Inhabited

structure D.DequeActor where
  Todo : (List Int)
  Pc : Int
  T : Int
  B : Int
  X : Int
deriving Inhabited

structure D.Handed where
  Actor : Int
  Value : Int
deriving Inhabited

structure D.Deque where
  Top : Int
  Bottom : Int
  Buffer : (List Int)
  Actors : (List D.DequeActor)
  Taken : (List D.Handed)
  Refused : (List Int)
deriving Inhabited

def ty22 : Ty (List ByteArray) := tSl 9 tStr
theorem ty22_form {w : World} {cs : List Value} {xs : (List ByteArray)} (h : ty22.ro w cs xs) : ∃ A c, cs = [.slice A xs.length c] := slForm h

def ty97 : Ty D.Packet := tMap (fun c => (c.Ack, c.Number, c.Text, ())) (tPair tBool (tPair tInt (tPair tStr tUnit)))
theorem ty97_open {w : World} {cs : List Value} {c : D.Packet} (h : ty97.ro w cs c) : cs = [.bool c.Ack, .int .i64 c.Number, .string c.Text] := by
  obtain ⟨c0, d0, rfl, h0, c1, d1, rfl, h1, c2, d2, rfl, h2, hz⟩ := h
  subst hz
  subst h0
  subst h1
  subst h2
  rfl
theorem ty97_shut {w : World} (c : D.Packet)   : ty97.ro w [.bool c.Ack, .int .i64 c.Number, .string c.Text] c :=
  ⟨_, _, rfl, rfl, ⟨_, _, rfl, rfl, ⟨_, _, rfl, rfl, rfl⟩⟩⟩
theorem ty97_own {w : World} {cs : List Value} {c : D.Packet} {G : List Nat} (h : ty97.own w cs c G) : cs = [.bool c.Ack, .int .i64 c.Number, .string c.Text] ∧ (All []).A w G := by
  obtain ⟨c0, d0, H0, K0, rfl, rfl, h0, c1, d1, H1, K1, rfl, rfl, h1, c2, d2, H2, K2, rfl, rfl, h2, hz, hk⟩ := h
  subst hz; subst hk
  obtain ⟨e0, k0⟩ := h0; subst e0; subst k0
  obtain ⟨e1, k1⟩ := h1; subst e1; subst k1
  obtain ⟨e2, k2⟩ := h2; subst e2; subst k2
  refine ⟨rfl, ?_⟩
  show (All _).A w _
  exact cast (congrArg _ (by simp)) (show (All _).A w ([]) from rfl)
theorem ty97_ownI {w : World} {c : D.Packet}  {G : List Nat} (h : (All []).A w G) : ty97.own w [.bool c.Ack, .int .i64 c.Number, .string c.Text] c G := by
  have hz : G = [] := h
  subst hz
  exact cast (congrArg _ (by simp)) (show ty97.own w [.bool c.Ack, .int .i64 c.Number, .string c.Text] c (_) from ⟨_, _, _, _, rfl, rfl, ⟨rfl, rfl⟩, ⟨_, _, _, _, rfl, rfl, ⟨rfl, rfl⟩, ⟨_, _, _, _, rfl, rfl, ⟨rfl, rfl⟩, ⟨rfl, rfl⟩⟩⟩⟩)
theorem ty97_openS {W w : World} {B : List Res} {cs : List Value} {c : D.Packet} (h : St W w (Own ty97 cs c :: B)) : cs = [.bool c.Ack, .int .i64 c.Number, .string c.Text] ∧ St W w ([] ++ B) := by
  obtain ⟨G, hA, _⟩ := h.sep.head
  obtain ⟨rfl, _⟩ := ty97_own hA
  refine ⟨rfl, St.splitAll (h.conv fun G hG => ?_)⟩
  exact (ty97_own hG).2
theorem ty97_shutS {W w : World} {B : List Res} {c : D.Packet}  (h : St W w ([] ++ B)) : St W w (Own ty97 [.bool c.Ack, .int .i64 c.Number, .string c.Text] c :: B) := (St.fuseAll h).conv fun _ hG => ty97_ownI hG

def ty23 : Ty (List D.Packet) := tSl 97 ty97
theorem ty23_form {w : World} {cs : List Value} {xs : (List D.Packet)} (h : ty23.ro w cs xs) : ∃ A c, cs = [.slice A xs.length c] := slForm h

def ty25 : Ty D.Channel := tMap (fun c => (c.Window, c.Messages, c.Base, c.Next, c.Expected, c.Early, c.Delivered, c.Flight, ())) (tPair tInt (tPair ty22 (tPair tInt (tPair tInt (tPair tInt (tPair ty23 (tPair ty22 (tPair ty23 tUnit))))))))
theorem ty25_open {w : World} {cs : List Value} {c : D.Channel} (h : ty25.ro w cs c) : ∃ A0 k0 A1 k1 A2 k2 A3 k3, cs = [.int .i64 c.Window, .slice A0 c.Messages.length k0, .int .i64 c.Base, .int .i64 c.Next, .int .i64 c.Expected, .slice A1 c.Early.length k1, .slice A2 c.Delivered.length k2, .slice A3 c.Flight.length k3] ∧ ty22.ro w [.slice A0 c.Messages.length k0] c.Messages ∧ ty23.ro w [.slice A1 c.Early.length k1] c.Early ∧ ty22.ro w [.slice A2 c.Delivered.length k2] c.Delivered ∧ ty23.ro w [.slice A3 c.Flight.length k3] c.Flight := by
  obtain ⟨c0, d0, rfl, h0, c1, d1, rfl, h1, c2, d2, rfl, h2, c3, d3, rfl, h3, c4, d4, rfl, h4, c5, d5, rfl, h5, c6, d6, rfl, h6, c7, d7, rfl, h7, hz⟩ := h
  subst hz
  subst h0
  obtain ⟨A1_, k1_, e1⟩ := ty22_form h1
  subst e1
  subst h2
  subst h3
  subst h4
  obtain ⟨A5_, k5_, e5⟩ := ty23_form h5
  subst e5
  obtain ⟨A6_, k6_, e6⟩ := ty22_form h6
  subst e6
  obtain ⟨A7_, k7_, e7⟩ := ty23_form h7
  subst e7
  exact ⟨A1_, k1_, A5_, k5_, A6_, k6_, A7_, k7_, rfl, h1, h5, h6, h7⟩
theorem ty25_shut {w : World} (c : D.Channel) {A0 : Option Addr} {k0 : Nat} {A1 : Option Addr} {k1 : Nat} {A2 : Option Addr} {k2 : Nat} {A3 : Option Addr} {k3 : Nat} (h0 : ty22.ro w [.slice A0 c.Messages.length k0] c.Messages) (h1 : ty23.ro w [.slice A1 c.Early.length k1] c.Early) (h2 : ty22.ro w [.slice A2 c.Delivered.length k2] c.Delivered) (h3 : ty23.ro w [.slice A3 c.Flight.length k3] c.Flight) : ty25.ro w [.int .i64 c.Window, .slice A0 c.Messages.length k0, .int .i64 c.Base, .int .i64 c.Next, .int .i64 c.Expected, .slice A1 c.Early.length k1, .slice A2 c.Delivered.length k2, .slice A3 c.Flight.length k3] c :=
  ⟨_, _, rfl, rfl, ⟨_, _, rfl, h0, ⟨_, _, rfl, rfl, ⟨_, _, rfl, rfl, ⟨_, _, rfl, rfl, ⟨_, _, rfl, h1, ⟨_, _, rfl, h2, ⟨_, _, rfl, h3, rfl⟩⟩⟩⟩⟩⟩⟩⟩
theorem ty25_own {w : World} {cs : List Value} {c : D.Channel} {G : List Nat} (h : ty25.own w cs c G) : ∃ A0 k0 A1 k1 A2 k2 A3 k3, cs = [.int .i64 c.Window, .slice A0 c.Messages.length k0, .int .i64 c.Base, .int .i64 c.Next, .int .i64 c.Expected, .slice A1 c.Early.length k1, .slice A2 c.Delivered.length k2, .slice A3 c.Flight.length k3] ∧ (All [Own ty22 [.slice A0 c.Messages.length k0] c.Messages, Own ty23 [.slice A1 c.Early.length k1] c.Early, Own ty22 [.slice A2 c.Delivered.length k2] c.Delivered, Own ty23 [.slice A3 c.Flight.length k3] c.Flight]).A w G := by
  obtain ⟨c0, d0, H0, K0, rfl, rfl, h0, c1, d1, H1, K1, rfl, rfl, h1, c2, d2, H2, K2, rfl, rfl, h2, c3, d3, H3, K3, rfl, rfl, h3, c4, d4, H4, K4, rfl, rfl, h4, c5, d5, H5, K5, rfl, rfl, h5, c6, d6, H6, K6, rfl, rfl, h6, c7, d7, H7, K7, rfl, rfl, h7, hz, hk⟩ := h
  subst hz; subst hk
  obtain ⟨e0, k0⟩ := h0; subst e0; subst k0
  obtain ⟨A1_, k1_, e1⟩ := ty22_form (ty22.own_ro h1)
  subst e1
  obtain ⟨e2, k2⟩ := h2; subst e2; subst k2
  obtain ⟨e3, k3⟩ := h3; subst e3; subst k3
  obtain ⟨e4, k4⟩ := h4; subst e4; subst k4
  obtain ⟨A5_, k5_, e5⟩ := ty23_form (ty23.own_ro h5)
  subst e5
  obtain ⟨A6_, k6_, e6⟩ := ty22_form (ty22.own_ro h6)
  subst e6
  obtain ⟨A7_, k7_, e7⟩ := ty23_form (ty23.own_ro h7)
  subst e7
  refine ⟨A1_, k1_, A5_, k5_, A6_, k6_, A7_, k7_, rfl, ?_⟩
  show (All _).A w _
  exact cast (congrArg _ (by simp)) (show (All _).A w (H1 ++ (H5 ++ (H6 ++ (H7 ++ ([]))))) from ⟨_, _, rfl, h1, ⟨_, _, rfl, h5, ⟨_, _, rfl, h6, ⟨_, _, rfl, h7, rfl⟩⟩⟩⟩)
theorem ty25_ownI {w : World} {c : D.Channel} {A0 : Option Addr} {k0 : Nat} {A1 : Option Addr} {k1 : Nat} {A2 : Option Addr} {k2 : Nat} {A3 : Option Addr} {k3 : Nat} {G : List Nat} (h : (All [Own ty22 [.slice A0 c.Messages.length k0] c.Messages, Own ty23 [.slice A1 c.Early.length k1] c.Early, Own ty22 [.slice A2 c.Delivered.length k2] c.Delivered, Own ty23 [.slice A3 c.Flight.length k3] c.Flight]).A w G) : ty25.own w [.int .i64 c.Window, .slice A0 c.Messages.length k0, .int .i64 c.Base, .int .i64 c.Next, .int .i64 c.Expected, .slice A1 c.Early.length k1, .slice A2 c.Delivered.length k2, .slice A3 c.Flight.length k3] c G := by
  obtain ⟨G0, R0, rfl, h0, G1, R1, rfl, h1, G2, R2, rfl, h2, G3, R3, rfl, h3, hz⟩ := h
  have hz' : R3 = [] := hz
  subst hz'
  exact cast (congrArg _ (by simp)) (show ty25.own w [.int .i64 c.Window, .slice A0 c.Messages.length k0, .int .i64 c.Base, .int .i64 c.Next, .int .i64 c.Expected, .slice A1 c.Early.length k1, .slice A2 c.Delivered.length k2, .slice A3 c.Flight.length k3] c (_) from ⟨_, _, _, _, rfl, rfl, ⟨rfl, rfl⟩, ⟨_, _, _, _, rfl, rfl, h0, ⟨_, _, _, _, rfl, rfl, ⟨rfl, rfl⟩, ⟨_, _, _, _, rfl, rfl, ⟨rfl, rfl⟩, ⟨_, _, _, _, rfl, rfl, ⟨rfl, rfl⟩, ⟨_, _, _, _, rfl, rfl, h1, ⟨_, _, _, _, rfl, rfl, h2, ⟨_, _, _, _, rfl, rfl, h3, ⟨rfl, rfl⟩⟩⟩⟩⟩⟩⟩⟩⟩)
theorem ty25_openS {W w : World} {B : List Res} {cs : List Value} {c : D.Channel} (h : St W w (Own ty25 cs c :: B)) : ∃ A0 k0 A1 k1 A2 k2 A3 k3, cs = [.int .i64 c.Window, .slice A0 c.Messages.length k0, .int .i64 c.Base, .int .i64 c.Next, .int .i64 c.Expected, .slice A1 c.Early.length k1, .slice A2 c.Delivered.length k2, .slice A3 c.Flight.length k3] ∧ St W w ([Own ty22 [.slice A0 c.Messages.length k0] c.Messages, Own ty23 [.slice A1 c.Early.length k1] c.Early, Own ty22 [.slice A2 c.Delivered.length k2] c.Delivered, Own ty23 [.slice A3 c.Flight.length k3] c.Flight] ++ B) := by
  obtain ⟨G, hA, _⟩ := h.sep.head
  obtain ⟨A0, k0, A1, k1, A2, k2, A3, k3, rfl, _⟩ := ty25_own hA
  refine ⟨A0, k0, A1, k1, A2, k2, A3, k3, rfl, St.splitAll (h.conv fun G hG => ?_)⟩
  obtain ⟨X0, Y0, X1, Y1, X2, Y2, X3, Y3, he, hh⟩ := ty25_own hG
  simp only [List.cons.injEq, Value.slice.injEq, and_true, true_and] at he
  obtain ⟨⟨rfl, rfl⟩, ⟨rfl, rfl⟩, ⟨rfl, rfl⟩, ⟨rfl, rfl⟩⟩ := he
  exact hh
theorem ty25_shutS {W w : World} {B : List Res} {c : D.Channel} {A0 : Option Addr} {k0 : Nat} {A1 : Option Addr} {k1 : Nat} {A2 : Option Addr} {k2 : Nat} {A3 : Option Addr} {k3 : Nat} (h : St W w ([Own ty22 [.slice A0 c.Messages.length k0] c.Messages, Own ty23 [.slice A1 c.Early.length k1] c.Early, Own ty22 [.slice A2 c.Delivered.length k2] c.Delivered, Own ty23 [.slice A3 c.Flight.length k3] c.Flight] ++ B)) : St W w (Own ty25 [.int .i64 c.Window, .slice A0 c.Messages.length k0, .int .i64 c.Base, .int .i64 c.Next, .int .i64 c.Expected, .slice A1 c.Early.length k1, .slice A2 c.Delivered.length k2, .slice A3 c.Flight.length k3] c :: B) := (St.fuseAll h).conv fun _ hG => ty25_ownI hG

def ty66 : Ty D.Packet := tMap (fun c => (c.Ack, c.Number, c.Text, ())) (tPair tBool (tPair tInt (tPair tStr tUnit)))
theorem ty66_open {w : World} {cs : List Value} {c : D.Packet} (h : ty66.ro w cs c) : cs = [.bool c.Ack, .int .i64 c.Number, .string c.Text] := by
  obtain ⟨c0, d0, rfl, h0, c1, d1, rfl, h1, c2, d2, rfl, h2, hz⟩ := h
  subst hz
  subst h0
  subst h1
  subst h2
  rfl
theorem ty66_shut {w : World} (c : D.Packet)   : ty66.ro w [.bool c.Ack, .int .i64 c.Number, .string c.Text] c :=
  ⟨_, _, rfl, rfl, ⟨_, _, rfl, rfl, ⟨_, _, rfl, rfl, rfl⟩⟩⟩
theorem ty66_own {w : World} {cs : List Value} {c : D.Packet} {G : List Nat} (h : ty66.own w cs c G) : cs = [.bool c.Ack, .int .i64 c.Number, .string c.Text] ∧ (All []).A w G := by
  obtain ⟨c0, d0, H0, K0, rfl, rfl, h0, c1, d1, H1, K1, rfl, rfl, h1, c2, d2, H2, K2, rfl, rfl, h2, hz, hk⟩ := h
  subst hz; subst hk
  obtain ⟨e0, k0⟩ := h0; subst e0; subst k0
  obtain ⟨e1, k1⟩ := h1; subst e1; subst k1
  obtain ⟨e2, k2⟩ := h2; subst e2; subst k2
  refine ⟨rfl, ?_⟩
  show (All _).A w _
  exact cast (congrArg _ (by simp)) (show (All _).A w ([]) from rfl)
theorem ty66_ownI {w : World} {c : D.Packet}  {G : List Nat} (h : (All []).A w G) : ty66.own w [.bool c.Ack, .int .i64 c.Number, .string c.Text] c G := by
  have hz : G = [] := h
  subst hz
  exact cast (congrArg _ (by simp)) (show ty66.own w [.bool c.Ack, .int .i64 c.Number, .string c.Text] c (_) from ⟨_, _, _, _, rfl, rfl, ⟨rfl, rfl⟩, ⟨_, _, _, _, rfl, rfl, ⟨rfl, rfl⟩, ⟨_, _, _, _, rfl, rfl, ⟨rfl, rfl⟩, ⟨rfl, rfl⟩⟩⟩⟩)
theorem ty66_openS {W w : World} {B : List Res} {cs : List Value} {c : D.Packet} (h : St W w (Own ty66 cs c :: B)) : cs = [.bool c.Ack, .int .i64 c.Number, .string c.Text] ∧ St W w ([] ++ B) := by
  obtain ⟨G, hA, _⟩ := h.sep.head
  obtain ⟨rfl, _⟩ := ty66_own hA
  refine ⟨rfl, St.splitAll (h.conv fun G hG => ?_)⟩
  exact (ty66_own hG).2
theorem ty66_shutS {W w : World} {B : List Res} {c : D.Packet}  (h : St W w ([] ++ B)) : St W w (Own ty66 [.bool c.Ack, .int .i64 c.Number, .string c.Text] c :: B) := (St.fuseAll h).conv fun _ hG => ty66_ownI hG

def ty28 : Ty (List D.Packet) := tSl 66 ty66
theorem ty28_form {w : World} {cs : List Value} {xs : (List D.Packet)} (h : ty28.ro w cs xs) : ∃ A c, cs = [.slice A xs.length c] := slForm h

def ty30 : Ty D.Channel := tMap (fun c => (c.Window, c.Messages, c.Base, c.Next, c.Expected, c.Early, c.Delivered, c.Flight, ())) (tPair tInt (tPair ty22 (tPair tInt (tPair tInt (tPair tInt (tPair ty28 (tPair ty22 (tPair ty28 tUnit))))))))
theorem ty30_open {w : World} {cs : List Value} {c : D.Channel} (h : ty30.ro w cs c) : ∃ A0 k0 A1 k1 A2 k2 A3 k3, cs = [.int .i64 c.Window, .slice A0 c.Messages.length k0, .int .i64 c.Base, .int .i64 c.Next, .int .i64 c.Expected, .slice A1 c.Early.length k1, .slice A2 c.Delivered.length k2, .slice A3 c.Flight.length k3] ∧ ty22.ro w [.slice A0 c.Messages.length k0] c.Messages ∧ ty28.ro w [.slice A1 c.Early.length k1] c.Early ∧ ty22.ro w [.slice A2 c.Delivered.length k2] c.Delivered ∧ ty28.ro w [.slice A3 c.Flight.length k3] c.Flight := by
  obtain ⟨c0, d0, rfl, h0, c1, d1, rfl, h1, c2, d2, rfl, h2, c3, d3, rfl, h3, c4, d4, rfl, h4, c5, d5, rfl, h5, c6, d6, rfl, h6, c7, d7, rfl, h7, hz⟩ := h
  subst hz
  subst h0
  obtain ⟨A1_, k1_, e1⟩ := ty22_form h1
  subst e1
  subst h2
  subst h3
  subst h4
  obtain ⟨A5_, k5_, e5⟩ := ty28_form h5
  subst e5
  obtain ⟨A6_, k6_, e6⟩ := ty22_form h6
  subst e6
  obtain ⟨A7_, k7_, e7⟩ := ty28_form h7
  subst e7
  exact ⟨A1_, k1_, A5_, k5_, A6_, k6_, A7_, k7_, rfl, h1, h5, h6, h7⟩
theorem ty30_shut {w : World} (c : D.Channel) {A0 : Option Addr} {k0 : Nat} {A1 : Option Addr} {k1 : Nat} {A2 : Option Addr} {k2 : Nat} {A3 : Option Addr} {k3 : Nat} (h0 : ty22.ro w [.slice A0 c.Messages.length k0] c.Messages) (h1 : ty28.ro w [.slice A1 c.Early.length k1] c.Early) (h2 : ty22.ro w [.slice A2 c.Delivered.length k2] c.Delivered) (h3 : ty28.ro w [.slice A3 c.Flight.length k3] c.Flight) : ty30.ro w [.int .i64 c.Window, .slice A0 c.Messages.length k0, .int .i64 c.Base, .int .i64 c.Next, .int .i64 c.Expected, .slice A1 c.Early.length k1, .slice A2 c.Delivered.length k2, .slice A3 c.Flight.length k3] c :=
  ⟨_, _, rfl, rfl, ⟨_, _, rfl, h0, ⟨_, _, rfl, rfl, ⟨_, _, rfl, rfl, ⟨_, _, rfl, rfl, ⟨_, _, rfl, h1, ⟨_, _, rfl, h2, ⟨_, _, rfl, h3, rfl⟩⟩⟩⟩⟩⟩⟩⟩
theorem ty30_own {w : World} {cs : List Value} {c : D.Channel} {G : List Nat} (h : ty30.own w cs c G) : ∃ A0 k0 A1 k1 A2 k2 A3 k3, cs = [.int .i64 c.Window, .slice A0 c.Messages.length k0, .int .i64 c.Base, .int .i64 c.Next, .int .i64 c.Expected, .slice A1 c.Early.length k1, .slice A2 c.Delivered.length k2, .slice A3 c.Flight.length k3] ∧ (All [Own ty22 [.slice A0 c.Messages.length k0] c.Messages, Own ty28 [.slice A1 c.Early.length k1] c.Early, Own ty22 [.slice A2 c.Delivered.length k2] c.Delivered, Own ty28 [.slice A3 c.Flight.length k3] c.Flight]).A w G := by
  obtain ⟨c0, d0, H0, K0, rfl, rfl, h0, c1, d1, H1, K1, rfl, rfl, h1, c2, d2, H2, K2, rfl, rfl, h2, c3, d3, H3, K3, rfl, rfl, h3, c4, d4, H4, K4, rfl, rfl, h4, c5, d5, H5, K5, rfl, rfl, h5, c6, d6, H6, K6, rfl, rfl, h6, c7, d7, H7, K7, rfl, rfl, h7, hz, hk⟩ := h
  subst hz; subst hk
  obtain ⟨e0, k0⟩ := h0; subst e0; subst k0
  obtain ⟨A1_, k1_, e1⟩ := ty22_form (ty22.own_ro h1)
  subst e1
  obtain ⟨e2, k2⟩ := h2; subst e2; subst k2
  obtain ⟨e3, k3⟩ := h3; subst e3; subst k3
  obtain ⟨e4, k4⟩ := h4; subst e4; subst k4
  obtain ⟨A5_, k5_, e5⟩ := ty28_form (ty28.own_ro h5)
  subst e5
  obtain ⟨A6_, k6_, e6⟩ := ty22_form (ty22.own_ro h6)
  subst e6
  obtain ⟨A7_, k7_, e7⟩ := ty28_form (ty28.own_ro h7)
  subst e7
  refine ⟨A1_, k1_, A5_, k5_, A6_, k6_, A7_, k7_, rfl, ?_⟩
  show (All _).A w _
  exact cast (congrArg _ (by simp)) (show (All _).A w (H1 ++ (H5 ++ (H6 ++ (H7 ++ ([]))))) from ⟨_, _, rfl, h1, ⟨_, _, rfl, h5, ⟨_, _, rfl, h6, ⟨_, _, rfl, h7, rfl⟩⟩⟩⟩)
theorem ty30_ownI {w : World} {c : D.Channel} {A0 : Option Addr} {k0 : Nat} {A1 : Option Addr} {k1 : Nat} {A2 : Option Addr} {k2 : Nat} {A3 : Option Addr} {k3 : Nat} {G : List Nat} (h : (All [Own ty22 [.slice A0 c.Messages.length k0] c.Messages, Own ty28 [.slice A1 c.Early.length k1] c.Early, Own ty22 [.slice A2 c.Delivered.length k2] c.Delivered, Own ty28 [.slice A3 c.Flight.length k3] c.Flight]).A w G) : ty30.own w [.int .i64 c.Window, .slice A0 c.Messages.length k0, .int .i64 c.Base, .int .i64 c.Next, .int .i64 c.Expected, .slice A1 c.Early.length k1, .slice A2 c.Delivered.length k2, .slice A3 c.Flight.length k3] c G := by
  obtain ⟨G0, R0, rfl, h0, G1, R1, rfl, h1, G2, R2, rfl, h2, G3, R3, rfl, h3, hz⟩ := h
  have hz' : R3 = [] := hz
  subst hz'
  exact cast (congrArg _ (by simp)) (show ty30.own w [.int .i64 c.Window, .slice A0 c.Messages.length k0, .int .i64 c.Base, .int .i64 c.Next, .int .i64 c.Expected, .slice A1 c.Early.length k1, .slice A2 c.Delivered.length k2, .slice A3 c.Flight.length k3] c (_) from ⟨_, _, _, _, rfl, rfl, ⟨rfl, rfl⟩, ⟨_, _, _, _, rfl, rfl, h0, ⟨_, _, _, _, rfl, rfl, ⟨rfl, rfl⟩, ⟨_, _, _, _, rfl, rfl, ⟨rfl, rfl⟩, ⟨_, _, _, _, rfl, rfl, ⟨rfl, rfl⟩, ⟨_, _, _, _, rfl, rfl, h1, ⟨_, _, _, _, rfl, rfl, h2, ⟨_, _, _, _, rfl, rfl, h3, ⟨rfl, rfl⟩⟩⟩⟩⟩⟩⟩⟩⟩)
theorem ty30_openS {W w : World} {B : List Res} {cs : List Value} {c : D.Channel} (h : St W w (Own ty30 cs c :: B)) : ∃ A0 k0 A1 k1 A2 k2 A3 k3, cs = [.int .i64 c.Window, .slice A0 c.Messages.length k0, .int .i64 c.Base, .int .i64 c.Next, .int .i64 c.Expected, .slice A1 c.Early.length k1, .slice A2 c.Delivered.length k2, .slice A3 c.Flight.length k3] ∧ St W w ([Own ty22 [.slice A0 c.Messages.length k0] c.Messages, Own ty28 [.slice A1 c.Early.length k1] c.Early, Own ty22 [.slice A2 c.Delivered.length k2] c.Delivered, Own ty28 [.slice A3 c.Flight.length k3] c.Flight] ++ B) := by
  obtain ⟨G, hA, _⟩ := h.sep.head
  obtain ⟨A0, k0, A1, k1, A2, k2, A3, k3, rfl, _⟩ := ty30_own hA
  refine ⟨A0, k0, A1, k1, A2, k2, A3, k3, rfl, St.splitAll (h.conv fun G hG => ?_)⟩
  obtain ⟨X0, Y0, X1, Y1, X2, Y2, X3, Y3, he, hh⟩ := ty30_own hG
  simp only [List.cons.injEq, Value.slice.injEq, and_true, true_and] at he
  obtain ⟨⟨rfl, rfl⟩, ⟨rfl, rfl⟩, ⟨rfl, rfl⟩, ⟨rfl, rfl⟩⟩ := he
  exact hh
theorem ty30_shutS {W w : World} {B : List Res} {c : D.Channel} {A0 : Option Addr} {k0 : Nat} {A1 : Option Addr} {k1 : Nat} {A2 : Option Addr} {k2 : Nat} {A3 : Option Addr} {k3 : Nat} (h : St W w ([Own ty22 [.slice A0 c.Messages.length k0] c.Messages, Own ty28 [.slice A1 c.Early.length k1] c.Early, Own ty22 [.slice A2 c.Delivered.length k2] c.Delivered, Own ty28 [.slice A3 c.Flight.length k3] c.Flight] ++ B)) : St W w (Own ty30 [.int .i64 c.Window, .slice A0 c.Messages.length k0, .int .i64 c.Base, .int .i64 c.Next, .int .i64 c.Expected, .slice A1 c.Early.length k1, .slice A2 c.Delivered.length k2, .slice A3 c.Flight.length k3] c :: B) := (St.fuseAll h).conv fun _ hG => ty30_ownI hG

def ty35 : Ty (List Int) := tSl 2 tInt
theorem ty35_form {w : World} {cs : List Value} {xs : (List Int)} (h : ty35.ro w cs xs) : ∃ A c, cs = [.slice A xs.length c] := slForm h

def ty105 : Ty D.DequeActor := tMap (fun c => (c.Todo, c.Pc, c.T, c.B, c.X, ())) (tPair ty35 (tPair tInt (tPair tInt (tPair tInt (tPair tInt tUnit)))))
theorem ty105_open {w : World} {cs : List Value} {c : D.DequeActor} (h : ty105.ro w cs c) : ∃ A0 k0, cs = [.slice A0 c.Todo.length k0, .int .i64 c.Pc, .int .i64 c.T, .int .i64 c.B, .int .i64 c.X] ∧ ty35.ro w [.slice A0 c.Todo.length k0] c.Todo := by
  obtain ⟨c0, d0, rfl, h0, c1, d1, rfl, h1, c2, d2, rfl, h2, c3, d3, rfl, h3, c4, d4, rfl, h4, hz⟩ := h
  subst hz
  obtain ⟨A0_, k0_, e0⟩ := ty35_form h0
  subst e0
  subst h1
  subst h2
  subst h3
  subst h4
  exact ⟨A0_, k0_, rfl, h0⟩
theorem ty105_shut {w : World} (c : D.DequeActor) {A0 : Option Addr} {k0 : Nat} (h0 : ty35.ro w [.slice A0 c.Todo.length k0] c.Todo) : ty105.ro w [.slice A0 c.Todo.length k0, .int .i64 c.Pc, .int .i64 c.T, .int .i64 c.B, .int .i64 c.X] c :=
  ⟨_, _, rfl, h0, ⟨_, _, rfl, rfl, ⟨_, _, rfl, rfl, ⟨_, _, rfl, rfl, ⟨_, _, rfl, rfl, rfl⟩⟩⟩⟩⟩
theorem ty105_own {w : World} {cs : List Value} {c : D.DequeActor} {G : List Nat} (h : ty105.own w cs c G) : ∃ A0 k0, cs = [.slice A0 c.Todo.length k0, .int .i64 c.Pc, .int .i64 c.T, .int .i64 c.B, .int .i64 c.X] ∧ (All [Own ty35 [.slice A0 c.Todo.length k0] c.Todo]).A w G := by
  obtain ⟨c0, d0, H0, K0, rfl, rfl, h0, c1, d1, H1, K1, rfl, rfl, h1, c2, d2, H2, K2, rfl, rfl, h2, c3, d3, H3, K3, rfl, rfl, h3, c4, d4, H4, K4, rfl, rfl, h4, hz, hk⟩ := h
  subst hz; subst hk
  obtain ⟨A0_, k0_, e0⟩ := ty35_form (ty35.own_ro h0)
  subst e0
  obtain ⟨e1, k1⟩ := h1; subst e1; subst k1
  obtain ⟨e2, k2⟩ := h2; subst e2; subst k2
  obtain ⟨e3, k3⟩ := h3; subst e3; subst k3
  obtain ⟨e4, k4⟩ := h4; subst e4; subst k4
  refine ⟨A0_, k0_, rfl, ?_⟩
  show (All _).A w _
  exact cast (congrArg _ (by simp)) (show (All _).A w (H0 ++ ([])) from ⟨_, _, rfl, h0, rfl⟩)
theorem ty105_ownI {w : World} {c : D.DequeActor} {A0 : Option Addr} {k0 : Nat} {G : List Nat} (h : (All [Own ty35 [.slice A0 c.Todo.length k0] c.Todo]).A w G) : ty105.own w [.slice A0 c.Todo.length k0, .int .i64 c.Pc, .int .i64 c.T, .int .i64 c.B, .int .i64 c.X] c G := by
  obtain ⟨G0, R0, rfl, h0, hz⟩ := h
  have hz' : R0 = [] := hz
  subst hz'
  exact cast (congrArg _ (by simp)) (show ty105.own w [.slice A0 c.Todo.length k0, .int .i64 c.Pc, .int .i64 c.T, .int .i64 c.B, .int .i64 c.X] c (_) from ⟨_, _, _, _, rfl, rfl, h0, ⟨_, _, _, _, rfl, rfl, ⟨rfl, rfl⟩, ⟨_, _, _, _, rfl, rfl, ⟨rfl, rfl⟩, ⟨_, _, _, _, rfl, rfl, ⟨rfl, rfl⟩, ⟨_, _, _, _, rfl, rfl, ⟨rfl, rfl⟩, ⟨rfl, rfl⟩⟩⟩⟩⟩⟩)
theorem ty105_openS {W w : World} {B : List Res} {cs : List Value} {c : D.DequeActor} (h : St W w (Own ty105 cs c :: B)) : ∃ A0 k0, cs = [.slice A0 c.Todo.length k0, .int .i64 c.Pc, .int .i64 c.T, .int .i64 c.B, .int .i64 c.X] ∧ St W w ([Own ty35 [.slice A0 c.Todo.length k0] c.Todo] ++ B) := by
  obtain ⟨G, hA, _⟩ := h.sep.head
  obtain ⟨A0, k0, rfl, _⟩ := ty105_own hA
  refine ⟨A0, k0, rfl, St.splitAll (h.conv fun G hG => ?_)⟩
  obtain ⟨X0, Y0, he, hh⟩ := ty105_own hG
  simp only [List.cons.injEq, Value.slice.injEq, and_true, true_and] at he
  obtain ⟨rfl, rfl⟩ := he
  exact hh
theorem ty105_shutS {W w : World} {B : List Res} {c : D.DequeActor} {A0 : Option Addr} {k0 : Nat} (h : St W w ([Own ty35 [.slice A0 c.Todo.length k0] c.Todo] ++ B)) : St W w (Own ty105 [.slice A0 c.Todo.length k0, .int .i64 c.Pc, .int .i64 c.T, .int .i64 c.B, .int .i64 c.X] c :: B) := (St.fuseAll h).conv fun _ hG => ty105_ownI hG

def ty36 : Ty (List D.DequeActor) := tSl 105 ty105
theorem ty36_form {w : World} {cs : List Value} {xs : (List D.DequeActor)} (h : ty36.ro w cs xs) : ∃ A c, cs = [.slice A xs.length c] := slForm h

def ty109 : Ty D.Handed := tMap (fun c => (c.Actor, c.Value, ())) (tPair tInt (tPair tInt tUnit))
theorem ty109_open {w : World} {cs : List Value} {c : D.Handed} (h : ty109.ro w cs c) : cs = [.int .i64 c.Actor, .int .i64 c.Value] := by
  obtain ⟨c0, d0, rfl, h0, c1, d1, rfl, h1, hz⟩ := h
  subst hz
  subst h0
  subst h1
  rfl
theorem ty109_shut {w : World} (c : D.Handed)   : ty109.ro w [.int .i64 c.Actor, .int .i64 c.Value] c :=
  ⟨_, _, rfl, rfl, ⟨_, _, rfl, rfl, rfl⟩⟩
theorem ty109_own {w : World} {cs : List Value} {c : D.Handed} {G : List Nat} (h : ty109.own w cs c G) : cs = [.int .i64 c.Actor, .int .i64 c.Value] ∧ (All []).A w G := by
  obtain ⟨c0, d0, H0, K0, rfl, rfl, h0, c1, d1, H1, K1, rfl, rfl, h1, hz, hk⟩ := h
  subst hz; subst hk
  obtain ⟨e0, k0⟩ := h0; subst e0; subst k0
  obtain ⟨e1, k1⟩ := h1; subst e1; subst k1
  refine ⟨rfl, ?_⟩
  show (All _).A w _
  exact cast (congrArg _ (by simp)) (show (All _).A w ([]) from rfl)
theorem ty109_ownI {w : World} {c : D.Handed}  {G : List Nat} (h : (All []).A w G) : ty109.own w [.int .i64 c.Actor, .int .i64 c.Value] c G := by
  have hz : G = [] := h
  subst hz
  exact cast (congrArg _ (by simp)) (show ty109.own w [.int .i64 c.Actor, .int .i64 c.Value] c (_) from ⟨_, _, _, _, rfl, rfl, ⟨rfl, rfl⟩, ⟨_, _, _, _, rfl, rfl, ⟨rfl, rfl⟩, ⟨rfl, rfl⟩⟩⟩)
theorem ty109_openS {W w : World} {B : List Res} {cs : List Value} {c : D.Handed} (h : St W w (Own ty109 cs c :: B)) : cs = [.int .i64 c.Actor, .int .i64 c.Value] ∧ St W w ([] ++ B) := by
  obtain ⟨G, hA, _⟩ := h.sep.head
  obtain ⟨rfl, _⟩ := ty109_own hA
  refine ⟨rfl, St.splitAll (h.conv fun G hG => ?_)⟩
  exact (ty109_own hG).2
theorem ty109_shutS {W w : World} {B : List Res} {c : D.Handed}  (h : St W w ([] ++ B)) : St W w (Own ty109 [.int .i64 c.Actor, .int .i64 c.Value] c :: B) := (St.fuseAll h).conv fun _ hG => ty109_ownI hG

def ty37 : Ty (List D.Handed) := tSl 109 ty109
theorem ty37_form {w : World} {cs : List Value} {xs : (List D.Handed)} (h : ty37.ro w cs xs) : ∃ A c, cs = [.slice A xs.length c] := slForm h

def ty39 : Ty D.Deque := tMap (fun c => (c.Top, c.Bottom, c.Buffer, c.Actors, c.Taken, c.Refused, ())) (tPair tInt (tPair tInt (tPair ty35 (tPair ty36 (tPair ty37 (tPair ty35 tUnit))))))
theorem ty39_open {w : World} {cs : List Value} {c : D.Deque} (h : ty39.ro w cs c) : ∃ A0 k0 A1 k1 A2 k2 A3 k3, cs = [.int .i64 c.Top, .int .i64 c.Bottom, .slice A0 c.Buffer.length k0, .slice A1 c.Actors.length k1, .slice A2 c.Taken.length k2, .slice A3 c.Refused.length k3] ∧ ty35.ro w [.slice A0 c.Buffer.length k0] c.Buffer ∧ ty36.ro w [.slice A1 c.Actors.length k1] c.Actors ∧ ty37.ro w [.slice A2 c.Taken.length k2] c.Taken ∧ ty35.ro w [.slice A3 c.Refused.length k3] c.Refused := by
  obtain ⟨c0, d0, rfl, h0, c1, d1, rfl, h1, c2, d2, rfl, h2, c3, d3, rfl, h3, c4, d4, rfl, h4, c5, d5, rfl, h5, hz⟩ := h
  subst hz
  subst h0
  subst h1
  obtain ⟨A2_, k2_, e2⟩ := ty35_form h2
  subst e2
  obtain ⟨A3_, k3_, e3⟩ := ty36_form h3
  subst e3
  obtain ⟨A4_, k4_, e4⟩ := ty37_form h4
  subst e4
  obtain ⟨A5_, k5_, e5⟩ := ty35_form h5
  subst e5
  exact ⟨A2_, k2_, A3_, k3_, A4_, k4_, A5_, k5_, rfl, h2, h3, h4, h5⟩
theorem ty39_shut {w : World} (c : D.Deque) {A0 : Option Addr} {k0 : Nat} {A1 : Option Addr} {k1 : Nat} {A2 : Option Addr} {k2 : Nat} {A3 : Option Addr} {k3 : Nat} (h0 : ty35.ro w [.slice A0 c.Buffer.length k0] c.Buffer) (h1 : ty36.ro w [.slice A1 c.Actors.length k1] c.Actors) (h2 : ty37.ro w [.slice A2 c.Taken.length k2] c.Taken) (h3 : ty35.ro w [.slice A3 c.Refused.length k3] c.Refused) : ty39.ro w [.int .i64 c.Top, .int .i64 c.Bottom, .slice A0 c.Buffer.length k0, .slice A1 c.Actors.length k1, .slice A2 c.Taken.length k2, .slice A3 c.Refused.length k3] c :=
  ⟨_, _, rfl, rfl, ⟨_, _, rfl, rfl, ⟨_, _, rfl, h0, ⟨_, _, rfl, h1, ⟨_, _, rfl, h2, ⟨_, _, rfl, h3, rfl⟩⟩⟩⟩⟩⟩
theorem ty39_own {w : World} {cs : List Value} {c : D.Deque} {G : List Nat} (h : ty39.own w cs c G) : ∃ A0 k0 A1 k1 A2 k2 A3 k3, cs = [.int .i64 c.Top, .int .i64 c.Bottom, .slice A0 c.Buffer.length k0, .slice A1 c.Actors.length k1, .slice A2 c.Taken.length k2, .slice A3 c.Refused.length k3] ∧ (All [Own ty35 [.slice A0 c.Buffer.length k0] c.Buffer, Own ty36 [.slice A1 c.Actors.length k1] c.Actors, Own ty37 [.slice A2 c.Taken.length k2] c.Taken, Own ty35 [.slice A3 c.Refused.length k3] c.Refused]).A w G := by
  obtain ⟨c0, d0, H0, K0, rfl, rfl, h0, c1, d1, H1, K1, rfl, rfl, h1, c2, d2, H2, K2, rfl, rfl, h2, c3, d3, H3, K3, rfl, rfl, h3, c4, d4, H4, K4, rfl, rfl, h4, c5, d5, H5, K5, rfl, rfl, h5, hz, hk⟩ := h
  subst hz; subst hk
  obtain ⟨e0, k0⟩ := h0; subst e0; subst k0
  obtain ⟨e1, k1⟩ := h1; subst e1; subst k1
  obtain ⟨A2_, k2_, e2⟩ := ty35_form (ty35.own_ro h2)
  subst e2
  obtain ⟨A3_, k3_, e3⟩ := ty36_form (ty36.own_ro h3)
  subst e3
  obtain ⟨A4_, k4_, e4⟩ := ty37_form (ty37.own_ro h4)
  subst e4
  obtain ⟨A5_, k5_, e5⟩ := ty35_form (ty35.own_ro h5)
  subst e5
  refine ⟨A2_, k2_, A3_, k3_, A4_, k4_, A5_, k5_, rfl, ?_⟩
  show (All _).A w _
  exact cast (congrArg _ (by simp)) (show (All _).A w (H2 ++ (H3 ++ (H4 ++ (H5 ++ ([]))))) from ⟨_, _, rfl, h2, ⟨_, _, rfl, h3, ⟨_, _, rfl, h4, ⟨_, _, rfl, h5, rfl⟩⟩⟩⟩)
theorem ty39_ownI {w : World} {c : D.Deque} {A0 : Option Addr} {k0 : Nat} {A1 : Option Addr} {k1 : Nat} {A2 : Option Addr} {k2 : Nat} {A3 : Option Addr} {k3 : Nat} {G : List Nat} (h : (All [Own ty35 [.slice A0 c.Buffer.length k0] c.Buffer, Own ty36 [.slice A1 c.Actors.length k1] c.Actors, Own ty37 [.slice A2 c.Taken.length k2] c.Taken, Own ty35 [.slice A3 c.Refused.length k3] c.Refused]).A w G) : ty39.own w [.int .i64 c.Top, .int .i64 c.Bottom, .slice A0 c.Buffer.length k0, .slice A1 c.Actors.length k1, .slice A2 c.Taken.length k2, .slice A3 c.Refused.length k3] c G := by
  obtain ⟨G0, R0, rfl, h0, G1, R1, rfl, h1, G2, R2, rfl, h2, G3, R3, rfl, h3, hz⟩ := h
  have hz' : R3 = [] := hz
  subst hz'
  exact cast (congrArg _ (by simp)) (show ty39.own w [.int .i64 c.Top, .int .i64 c.Bottom, .slice A0 c.Buffer.length k0, .slice A1 c.Actors.length k1, .slice A2 c.Taken.length k2, .slice A3 c.Refused.length k3] c (_) from ⟨_, _, _, _, rfl, rfl, ⟨rfl, rfl⟩, ⟨_, _, _, _, rfl, rfl, ⟨rfl, rfl⟩, ⟨_, _, _, _, rfl, rfl, h0, ⟨_, _, _, _, rfl, rfl, h1, ⟨_, _, _, _, rfl, rfl, h2, ⟨_, _, _, _, rfl, rfl, h3, ⟨rfl, rfl⟩⟩⟩⟩⟩⟩⟩)
theorem ty39_openS {W w : World} {B : List Res} {cs : List Value} {c : D.Deque} (h : St W w (Own ty39 cs c :: B)) : ∃ A0 k0 A1 k1 A2 k2 A3 k3, cs = [.int .i64 c.Top, .int .i64 c.Bottom, .slice A0 c.Buffer.length k0, .slice A1 c.Actors.length k1, .slice A2 c.Taken.length k2, .slice A3 c.Refused.length k3] ∧ St W w ([Own ty35 [.slice A0 c.Buffer.length k0] c.Buffer, Own ty36 [.slice A1 c.Actors.length k1] c.Actors, Own ty37 [.slice A2 c.Taken.length k2] c.Taken, Own ty35 [.slice A3 c.Refused.length k3] c.Refused] ++ B) := by
  obtain ⟨G, hA, _⟩ := h.sep.head
  obtain ⟨A0, k0, A1, k1, A2, k2, A3, k3, rfl, _⟩ := ty39_own hA
  refine ⟨A0, k0, A1, k1, A2, k2, A3, k3, rfl, St.splitAll (h.conv fun G hG => ?_)⟩
  obtain ⟨X0, Y0, X1, Y1, X2, Y2, X3, Y3, he, hh⟩ := ty39_own hG
  simp only [List.cons.injEq, Value.slice.injEq, and_true, true_and] at he
  obtain ⟨⟨rfl, rfl⟩, ⟨rfl, rfl⟩, ⟨rfl, rfl⟩, ⟨rfl, rfl⟩⟩ := he
  exact hh
theorem ty39_shutS {W w : World} {B : List Res} {c : D.Deque} {A0 : Option Addr} {k0 : Nat} {A1 : Option Addr} {k1 : Nat} {A2 : Option Addr} {k2 : Nat} {A3 : Option Addr} {k3 : Nat} (h : St W w ([Own ty35 [.slice A0 c.Buffer.length k0] c.Buffer, Own ty36 [.slice A1 c.Actors.length k1] c.Actors, Own ty37 [.slice A2 c.Taken.length k2] c.Taken, Own ty35 [.slice A3 c.Refused.length k3] c.Refused] ++ B)) : St W w (Own ty39 [.int .i64 c.Top, .int .i64 c.Bottom, .slice A0 c.Buffer.length k0, .slice A1 c.Actors.length k1, .slice A2 c.Taken.length k2, .slice A3 c.Refused.length k3] c :: B) := (St.fuseAll h).conv fun _ hG => ty39_ownI hG

def ty85 : Ty D.DequeActor := tMap (fun c => (c.Todo, c.Pc, c.T, c.B, c.X, ())) (tPair ty35 (tPair tInt (tPair tInt (tPair tInt (tPair tInt tUnit)))))
theorem ty85_open {w : World} {cs : List Value} {c : D.DequeActor} (h : ty85.ro w cs c) : ∃ A0 k0, cs = [.slice A0 c.Todo.length k0, .int .i64 c.Pc, .int .i64 c.T, .int .i64 c.B, .int .i64 c.X] ∧ ty35.ro w [.slice A0 c.Todo.length k0] c.Todo := by
  obtain ⟨c0, d0, rfl, h0, c1, d1, rfl, h1, c2, d2, rfl, h2, c3, d3, rfl, h3, c4, d4, rfl, h4, hz⟩ := h
  subst hz
  obtain ⟨A0_, k0_, e0⟩ := ty35_form h0
  subst e0
  subst h1
  subst h2
  subst h3
  subst h4
  exact ⟨A0_, k0_, rfl, h0⟩
theorem ty85_shut {w : World} (c : D.DequeActor) {A0 : Option Addr} {k0 : Nat} (h0 : ty35.ro w [.slice A0 c.Todo.length k0] c.Todo) : ty85.ro w [.slice A0 c.Todo.length k0, .int .i64 c.Pc, .int .i64 c.T, .int .i64 c.B, .int .i64 c.X] c :=
  ⟨_, _, rfl, h0, ⟨_, _, rfl, rfl, ⟨_, _, rfl, rfl, ⟨_, _, rfl, rfl, ⟨_, _, rfl, rfl, rfl⟩⟩⟩⟩⟩
theorem ty85_own {w : World} {cs : List Value} {c : D.DequeActor} {G : List Nat} (h : ty85.own w cs c G) : ∃ A0 k0, cs = [.slice A0 c.Todo.length k0, .int .i64 c.Pc, .int .i64 c.T, .int .i64 c.B, .int .i64 c.X] ∧ (All [Own ty35 [.slice A0 c.Todo.length k0] c.Todo]).A w G := by
  obtain ⟨c0, d0, H0, K0, rfl, rfl, h0, c1, d1, H1, K1, rfl, rfl, h1, c2, d2, H2, K2, rfl, rfl, h2, c3, d3, H3, K3, rfl, rfl, h3, c4, d4, H4, K4, rfl, rfl, h4, hz, hk⟩ := h
  subst hz; subst hk
  obtain ⟨A0_, k0_, e0⟩ := ty35_form (ty35.own_ro h0)
  subst e0
  obtain ⟨e1, k1⟩ := h1; subst e1; subst k1
  obtain ⟨e2, k2⟩ := h2; subst e2; subst k2
  obtain ⟨e3, k3⟩ := h3; subst e3; subst k3
  obtain ⟨e4, k4⟩ := h4; subst e4; subst k4
  refine ⟨A0_, k0_, rfl, ?_⟩
  show (All _).A w _
  exact cast (congrArg _ (by simp)) (show (All _).A w (H0 ++ ([])) from ⟨_, _, rfl, h0, rfl⟩)
theorem ty85_ownI {w : World} {c : D.DequeActor} {A0 : Option Addr} {k0 : Nat} {G : List Nat} (h : (All [Own ty35 [.slice A0 c.Todo.length k0] c.Todo]).A w G) : ty85.own w [.slice A0 c.Todo.length k0, .int .i64 c.Pc, .int .i64 c.T, .int .i64 c.B, .int .i64 c.X] c G := by
  obtain ⟨G0, R0, rfl, h0, hz⟩ := h
  have hz' : R0 = [] := hz
  subst hz'
  exact cast (congrArg _ (by simp)) (show ty85.own w [.slice A0 c.Todo.length k0, .int .i64 c.Pc, .int .i64 c.T, .int .i64 c.B, .int .i64 c.X] c (_) from ⟨_, _, _, _, rfl, rfl, h0, ⟨_, _, _, _, rfl, rfl, ⟨rfl, rfl⟩, ⟨_, _, _, _, rfl, rfl, ⟨rfl, rfl⟩, ⟨_, _, _, _, rfl, rfl, ⟨rfl, rfl⟩, ⟨_, _, _, _, rfl, rfl, ⟨rfl, rfl⟩, ⟨rfl, rfl⟩⟩⟩⟩⟩⟩)
theorem ty85_openS {W w : World} {B : List Res} {cs : List Value} {c : D.DequeActor} (h : St W w (Own ty85 cs c :: B)) : ∃ A0 k0, cs = [.slice A0 c.Todo.length k0, .int .i64 c.Pc, .int .i64 c.T, .int .i64 c.B, .int .i64 c.X] ∧ St W w ([Own ty35 [.slice A0 c.Todo.length k0] c.Todo] ++ B) := by
  obtain ⟨G, hA, _⟩ := h.sep.head
  obtain ⟨A0, k0, rfl, _⟩ := ty85_own hA
  refine ⟨A0, k0, rfl, St.splitAll (h.conv fun G hG => ?_)⟩
  obtain ⟨X0, Y0, he, hh⟩ := ty85_own hG
  simp only [List.cons.injEq, Value.slice.injEq, and_true, true_and] at he
  obtain ⟨rfl, rfl⟩ := he
  exact hh
theorem ty85_shutS {W w : World} {B : List Res} {c : D.DequeActor} {A0 : Option Addr} {k0 : Nat} (h : St W w ([Own ty35 [.slice A0 c.Todo.length k0] c.Todo] ++ B)) : St W w (Own ty85 [.slice A0 c.Todo.length k0, .int .i64 c.Pc, .int .i64 c.T, .int .i64 c.B, .int .i64 c.X] c :: B) := (St.fuseAll h).conv fun _ hG => ty85_ownI hG

def ty42 : Ty (List D.DequeActor) := tSl 85 ty85
theorem ty42_form {w : World} {cs : List Value} {xs : (List D.DequeActor)} (h : ty42.ro w cs xs) : ∃ A c, cs = [.slice A xs.length c] := slForm h

def ty82 : Ty D.Handed := tMap (fun c => (c.Actor, c.Value, ())) (tPair tInt (tPair tInt tUnit))
theorem ty82_open {w : World} {cs : List Value} {c : D.Handed} (h : ty82.ro w cs c) : cs = [.int .i64 c.Actor, .int .i64 c.Value] := by
  obtain ⟨c0, d0, rfl, h0, c1, d1, rfl, h1, hz⟩ := h
  subst hz
  subst h0
  subst h1
  rfl
theorem ty82_shut {w : World} (c : D.Handed)   : ty82.ro w [.int .i64 c.Actor, .int .i64 c.Value] c :=
  ⟨_, _, rfl, rfl, ⟨_, _, rfl, rfl, rfl⟩⟩
theorem ty82_own {w : World} {cs : List Value} {c : D.Handed} {G : List Nat} (h : ty82.own w cs c G) : cs = [.int .i64 c.Actor, .int .i64 c.Value] ∧ (All []).A w G := by
  obtain ⟨c0, d0, H0, K0, rfl, rfl, h0, c1, d1, H1, K1, rfl, rfl, h1, hz, hk⟩ := h
  subst hz; subst hk
  obtain ⟨e0, k0⟩ := h0; subst e0; subst k0
  obtain ⟨e1, k1⟩ := h1; subst e1; subst k1
  refine ⟨rfl, ?_⟩
  show (All _).A w _
  exact cast (congrArg _ (by simp)) (show (All _).A w ([]) from rfl)
theorem ty82_ownI {w : World} {c : D.Handed}  {G : List Nat} (h : (All []).A w G) : ty82.own w [.int .i64 c.Actor, .int .i64 c.Value] c G := by
  have hz : G = [] := h
  subst hz
  exact cast (congrArg _ (by simp)) (show ty82.own w [.int .i64 c.Actor, .int .i64 c.Value] c (_) from ⟨_, _, _, _, rfl, rfl, ⟨rfl, rfl⟩, ⟨_, _, _, _, rfl, rfl, ⟨rfl, rfl⟩, ⟨rfl, rfl⟩⟩⟩)
theorem ty82_openS {W w : World} {B : List Res} {cs : List Value} {c : D.Handed} (h : St W w (Own ty82 cs c :: B)) : cs = [.int .i64 c.Actor, .int .i64 c.Value] ∧ St W w ([] ++ B) := by
  obtain ⟨G, hA, _⟩ := h.sep.head
  obtain ⟨rfl, _⟩ := ty82_own hA
  refine ⟨rfl, St.splitAll (h.conv fun G hG => ?_)⟩
  exact (ty82_own hG).2
theorem ty82_shutS {W w : World} {B : List Res} {c : D.Handed}  (h : St W w ([] ++ B)) : St W w (Own ty82 [.int .i64 c.Actor, .int .i64 c.Value] c :: B) := (St.fuseAll h).conv fun _ hG => ty82_ownI hG

def ty43 : Ty (List D.Handed) := tSl 82 ty82
theorem ty43_form {w : World} {cs : List Value} {xs : (List D.Handed)} (h : ty43.ro w cs xs) : ∃ A c, cs = [.slice A xs.length c] := slForm h

def ty45 : Ty D.Deque := tMap (fun c => (c.Top, c.Bottom, c.Buffer, c.Actors, c.Taken, c.Refused, ())) (tPair tInt (tPair tInt (tPair ty35 (tPair ty42 (tPair ty43 (tPair ty35 tUnit))))))
theorem ty45_open {w : World} {cs : List Value} {c : D.Deque} (h : ty45.ro w cs c) : ∃ A0 k0 A1 k1 A2 k2 A3 k3, cs = [.int .i64 c.Top, .int .i64 c.Bottom, .slice A0 c.Buffer.length k0, .slice A1 c.Actors.length k1, .slice A2 c.Taken.length k2, .slice A3 c.Refused.length k3] ∧ ty35.ro w [.slice A0 c.Buffer.length k0] c.Buffer ∧ ty42.ro w [.slice A1 c.Actors.length k1] c.Actors ∧ ty43.ro w [.slice A2 c.Taken.length k2] c.Taken ∧ ty35.ro w [.slice A3 c.Refused.length k3] c.Refused := by
  obtain ⟨c0, d0, rfl, h0, c1, d1, rfl, h1, c2, d2, rfl, h2, c3, d3, rfl, h3, c4, d4, rfl, h4, c5, d5, rfl, h5, hz⟩ := h
  subst hz
  subst h0
  subst h1
  obtain ⟨A2_, k2_, e2⟩ := ty35_form h2
  subst e2
  obtain ⟨A3_, k3_, e3⟩ := ty42_form h3
  subst e3
  obtain ⟨A4_, k4_, e4⟩ := ty43_form h4
  subst e4
  obtain ⟨A5_, k5_, e5⟩ := ty35_form h5
  subst e5
  exact ⟨A2_, k2_, A3_, k3_, A4_, k4_, A5_, k5_, rfl, h2, h3, h4, h5⟩
theorem ty45_shut {w : World} (c : D.Deque) {A0 : Option Addr} {k0 : Nat} {A1 : Option Addr} {k1 : Nat} {A2 : Option Addr} {k2 : Nat} {A3 : Option Addr} {k3 : Nat} (h0 : ty35.ro w [.slice A0 c.Buffer.length k0] c.Buffer) (h1 : ty42.ro w [.slice A1 c.Actors.length k1] c.Actors) (h2 : ty43.ro w [.slice A2 c.Taken.length k2] c.Taken) (h3 : ty35.ro w [.slice A3 c.Refused.length k3] c.Refused) : ty45.ro w [.int .i64 c.Top, .int .i64 c.Bottom, .slice A0 c.Buffer.length k0, .slice A1 c.Actors.length k1, .slice A2 c.Taken.length k2, .slice A3 c.Refused.length k3] c :=
  ⟨_, _, rfl, rfl, ⟨_, _, rfl, rfl, ⟨_, _, rfl, h0, ⟨_, _, rfl, h1, ⟨_, _, rfl, h2, ⟨_, _, rfl, h3, rfl⟩⟩⟩⟩⟩⟩
theorem ty45_own {w : World} {cs : List Value} {c : D.Deque} {G : List Nat} (h : ty45.own w cs c G) : ∃ A0 k0 A1 k1 A2 k2 A3 k3, cs = [.int .i64 c.Top, .int .i64 c.Bottom, .slice A0 c.Buffer.length k0, .slice A1 c.Actors.length k1, .slice A2 c.Taken.length k2, .slice A3 c.Refused.length k3] ∧ (All [Own ty35 [.slice A0 c.Buffer.length k0] c.Buffer, Own ty42 [.slice A1 c.Actors.length k1] c.Actors, Own ty43 [.slice A2 c.Taken.length k2] c.Taken, Own ty35 [.slice A3 c.Refused.length k3] c.Refused]).A w G := by
  obtain ⟨c0, d0, H0, K0, rfl, rfl, h0, c1, d1, H1, K1, rfl, rfl, h1, c2, d2, H2, K2, rfl, rfl, h2, c3, d3, H3, K3, rfl, rfl, h3, c4, d4, H4, K4, rfl, rfl, h4, c5, d5, H5, K5, rfl, rfl, h5, hz, hk⟩ := h
  subst hz; subst hk
  obtain ⟨e0, k0⟩ := h0; subst e0; subst k0
  obtain ⟨e1, k1⟩ := h1; subst e1; subst k1
  obtain ⟨A2_, k2_, e2⟩ := ty35_form (ty35.own_ro h2)
  subst e2
  obtain ⟨A3_, k3_, e3⟩ := ty42_form (ty42.own_ro h3)
  subst e3
  obtain ⟨A4_, k4_, e4⟩ := ty43_form (ty43.own_ro h4)
  subst e4
  obtain ⟨A5_, k5_, e5⟩ := ty35_form (ty35.own_ro h5)
  subst e5
  refine ⟨A2_, k2_, A3_, k3_, A4_, k4_, A5_, k5_, rfl, ?_⟩
  show (All _).A w _
  exact cast (congrArg _ (by simp)) (show (All _).A w (H2 ++ (H3 ++ (H4 ++ (H5 ++ ([]))))) from ⟨_, _, rfl, h2, ⟨_, _, rfl, h3, ⟨_, _, rfl, h4, ⟨_, _, rfl, h5, rfl⟩⟩⟩⟩)
theorem ty45_ownI {w : World} {c : D.Deque} {A0 : Option Addr} {k0 : Nat} {A1 : Option Addr} {k1 : Nat} {A2 : Option Addr} {k2 : Nat} {A3 : Option Addr} {k3 : Nat} {G : List Nat} (h : (All [Own ty35 [.slice A0 c.Buffer.length k0] c.Buffer, Own ty42 [.slice A1 c.Actors.length k1] c.Actors, Own ty43 [.slice A2 c.Taken.length k2] c.Taken, Own ty35 [.slice A3 c.Refused.length k3] c.Refused]).A w G) : ty45.own w [.int .i64 c.Top, .int .i64 c.Bottom, .slice A0 c.Buffer.length k0, .slice A1 c.Actors.length k1, .slice A2 c.Taken.length k2, .slice A3 c.Refused.length k3] c G := by
  obtain ⟨G0, R0, rfl, h0, G1, R1, rfl, h1, G2, R2, rfl, h2, G3, R3, rfl, h3, hz⟩ := h
  have hz' : R3 = [] := hz
  subst hz'
  exact cast (congrArg _ (by simp)) (show ty45.own w [.int .i64 c.Top, .int .i64 c.Bottom, .slice A0 c.Buffer.length k0, .slice A1 c.Actors.length k1, .slice A2 c.Taken.length k2, .slice A3 c.Refused.length k3] c (_) from ⟨_, _, _, _, rfl, rfl, ⟨rfl, rfl⟩, ⟨_, _, _, _, rfl, rfl, ⟨rfl, rfl⟩, ⟨_, _, _, _, rfl, rfl, h0, ⟨_, _, _, _, rfl, rfl, h1, ⟨_, _, _, _, rfl, rfl, h2, ⟨_, _, _, _, rfl, rfl, h3, ⟨rfl, rfl⟩⟩⟩⟩⟩⟩⟩)
theorem ty45_openS {W w : World} {B : List Res} {cs : List Value} {c : D.Deque} (h : St W w (Own ty45 cs c :: B)) : ∃ A0 k0 A1 k1 A2 k2 A3 k3, cs = [.int .i64 c.Top, .int .i64 c.Bottom, .slice A0 c.Buffer.length k0, .slice A1 c.Actors.length k1, .slice A2 c.Taken.length k2, .slice A3 c.Refused.length k3] ∧ St W w ([Own ty35 [.slice A0 c.Buffer.length k0] c.Buffer, Own ty42 [.slice A1 c.Actors.length k1] c.Actors, Own ty43 [.slice A2 c.Taken.length k2] c.Taken, Own ty35 [.slice A3 c.Refused.length k3] c.Refused] ++ B) := by
  obtain ⟨G, hA, _⟩ := h.sep.head
  obtain ⟨A0, k0, A1, k1, A2, k2, A3, k3, rfl, _⟩ := ty45_own hA
  refine ⟨A0, k0, A1, k1, A2, k2, A3, k3, rfl, St.splitAll (h.conv fun G hG => ?_)⟩
  obtain ⟨X0, Y0, X1, Y1, X2, Y2, X3, Y3, he, hh⟩ := ty45_own hG
  simp only [List.cons.injEq, Value.slice.injEq, and_true, true_and] at he
  obtain ⟨⟨rfl, rfl⟩, ⟨rfl, rfl⟩, ⟨rfl, rfl⟩, ⟨rfl, rfl⟩⟩ := he
  exact hh
theorem ty45_shutS {W w : World} {B : List Res} {c : D.Deque} {A0 : Option Addr} {k0 : Nat} {A1 : Option Addr} {k1 : Nat} {A2 : Option Addr} {k2 : Nat} {A3 : Option Addr} {k3 : Nat} (h : St W w ([Own ty35 [.slice A0 c.Buffer.length k0] c.Buffer, Own ty42 [.slice A1 c.Actors.length k1] c.Actors, Own ty43 [.slice A2 c.Taken.length k2] c.Taken, Own ty35 [.slice A3 c.Refused.length k3] c.Refused] ++ B)) : St W w (Own ty45 [.int .i64 c.Top, .int .i64 c.Bottom, .slice A0 c.Buffer.length k0, .slice A1 c.Actors.length k1, .slice A2 c.Taken.length k2, .slice A3 c.Refused.length k3] c :: B) := (St.fuseAll h).conv fun _ hG => ty45_ownI hG

def ty112 : Ty (List Int) := tSl 5 tInt
theorem ty112_form {w : World} {cs : List Value} {xs : (List Int)} (h : ty112.ro w cs xs) : ∃ A c, cs = [.slice A xs.length c] := slForm h

end Go.E
