/- The types of the data, as tables and as plain Lean types (written by program). Conditions: none. -/
import Derived.Test.YtomgmnacnchbeaaMaps
import Derived.Test.YtomgmnacnchbeaaProg
import Derived.KernelRfl
namespace Go.E
open Go.RowKit Go.Proofs
set_option linter.unusedVariables false
set_option linter.unusedSimpArgs false


def tt : TT := [
  ⟨2, .int .i64, 1, [.int .i64 0], 8⟩,
  ⟨3, .int .i64, 1, [.int .i64 0], 8⟩,
  ⟨4, .bool, 1, [.bool false], 1⟩,
  ⟨22, .slice 106, 1, [.slice none 0 0], 24⟩,
  ⟨24, .struct [(0, 1, false, 22)], 1, [.slice none 0 0], 24⟩,
  ⟨28, .slice 112, 1, [.slice none 0 0], 24⟩,
  ⟨30, .struct [(0, 1, false, 28)], 1, [.slice none 0 0], 24⟩,
  ⟨35, .struct [(0, 1, false, 2), (1, 1, false, 2)], 2, [.int .i64 0, .int .i64 0], 16⟩,
  ⟨38, .struct [(0, 1, false, 2), (1, 1, false, 2)], 2, [.int .i64 0, .int .i64 0], 16⟩,
  ⟨42, .slice 116, 1, [.slice none 0 0], 24⟩,
  ⟨47, .slice 109, 1, [.slice none 0 0], 24⟩,
  ⟨54, .slice 191, 1, [.slice none 0 0], 24⟩,
  ⟨56, .struct [(0, 1, false, 2), (1, 1, false, 2), (2, 1, false, 2)], 3, [.int .i64 0, .int .i64 0, .int .i64 0], 24⟩,
  ⟨58, .struct [(0, 1, false, 54), (1, 3, true, 56)], 4, [.slice none 0 0, .int .i64 0, .int .i64 0, .int .i64 0], 48⟩,
  ⟨61, .slice 200, 1, [.slice none 0 0], 24⟩,
  ⟨62, .struct [(0, 1, false, 2), (1, 1, false, 2), (2, 1, false, 2)], 3, [.int .i64 0, .int .i64 0, .int .i64 0], 24⟩,
  ⟨64, .struct [(0, 1, false, 61), (1, 3, true, 62)], 4, [.slice none 0 0, .int .i64 0, .int .i64 0, .int .i64 0], 48⟩,
  ⟨68, .slice 210, 1, [.slice none 0 0], 24⟩,
  ⟨70, .struct [(0, 1, false, 2), (1, 1, false, 2)], 2, [.int .i64 0, .int .i64 0], 16⟩,
  ⟨71, .slice 216, 1, [.slice none 0 0], 24⟩,
  ⟨73, .struct [(0, 1, false, 68), (1, 1, false, 2), (2, 2, true, 70), (4, 1, false, 71)], 5, [.slice none 0 0, .int .i64 0, .int .i64 0, .int .i64 0, .slice none 0 0], 72⟩,
  ⟨76, .slice 157, 1, [.slice none 0 0], 24⟩,
  ⟨77, .struct [(0, 1, false, 2), (1, 1, false, 2)], 2, [.int .i64 0, .int .i64 0], 16⟩,
  ⟨78, .slice 139, 1, [.slice none 0 0], 24⟩,
  ⟨80, .struct [(0, 1, false, 76), (1, 1, false, 2), (2, 2, true, 77), (4, 1, false, 78)], 5, [.slice none 0 0, .int .i64 0, .int .i64 0, .int .i64 0, .slice none 0 0], 72⟩,
  ⟨91, .ptr 30, 1, [.pointer none], 8⟩,
  ⟨103, .slice 2, 1, [.slice none 0 0], 24⟩,
  ⟨104, .slice 35, 1, [.slice none 0 0], 24⟩,
  ⟨106, .struct [(0, 1, false, 2), (1, 1, false, 2), (2, 1, false, 2), (3, 1, false, 103), (4, 1, false, 104)], 5, [.int .i64 0, .int .i64 0, .int .i64 0, .slice none 0 0, .slice none 0 0], 72⟩,
  ⟨109, .struct [(0, 2, true, 38), (2, 2, true, 38)], 4, [.int .i64 0, .int .i64 0, .int .i64 0, .int .i64 0], 32⟩,
  ⟨110, .slice 38, 1, [.slice none 0 0], 24⟩,
  ⟨112, .struct [(0, 1, false, 2), (1, 1, false, 2), (2, 1, false, 2), (3, 1, false, 103), (4, 1, false, 110)], 5, [.int .i64 0, .int .i64 0, .int .i64 0, .slice none 0 0, .slice none 0 0], 72⟩,
  ⟨116, .struct [(0, 2, true, 35), (2, 2, true, 35)], 4, [.int .i64 0, .int .i64 0, .int .i64 0, .int .i64 0], 32⟩,
  ⟨119, .other, 1, [.map none], 8⟩,
  ⟨127, .ptr 64, 1, [.pointer none], 8⟩,
  ⟨136, .ptr 80, 1, [.pointer none], 8⟩,
  ⟨139, .struct [(0, 1, false, 2), (1, 1, false, 2)], 2, [.int .i64 0, .int .i64 0], 16⟩,
  ⟨155, .slice 77, 1, [.slice none 0 0], 24⟩,
  ⟨157, .struct [(0, 1, false, 2), (1, 1, false, 2), (2, 1, false, 2), (3, 1, false, 103), (4, 1, false, 155)], 5, [.int .i64 0, .int .i64 0, .int .i64 0, .slice none 0 0, .slice none 0 0], 72⟩,
  ⟨171, .ptr 112, 1, [.pointer none], 8⟩,
  ⟨187, .slice 306, 1, [.slice none 0 0], 24⟩,
  ⟨188, .slice 311, 1, [.slice none 0 0], 24⟩,
  ⟨189, .slice 314, 1, [.slice none 0 0], 24⟩,
  ⟨191, .struct [(0, 1, false, 187), (1, 1, false, 188), (2, 1, false, 189)], 3, [.slice none 0 0, .slice none 0 0, .slice none 0 0], 72⟩,
  ⟨192, .ptr 253, 1, [.pointer none], 8⟩,
  ⟨196, .slice 248, 1, [.slice none 0 0], 24⟩,
  ⟨197, .slice 250, 1, [.slice none 0 0], 24⟩,
  ⟨198, .slice 261, 1, [.slice none 0 0], 24⟩,
  ⟨200, .struct [(0, 1, false, 196), (1, 1, false, 197), (2, 1, false, 198)], 3, [.slice none 0 0, .slice none 0 0, .slice none 0 0], 72⟩,
  ⟨202, .slice 273, 1, [.slice none 0 0], 24⟩,
  ⟨208, .slice 70, 1, [.slice none 0 0], 24⟩,
  ⟨210, .struct [(0, 1, false, 2), (1, 1, false, 2), (2, 1, false, 2), (3, 1, false, 103), (4, 1, false, 208)], 5, [.int .i64 0, .int .i64 0, .int .i64 0, .slice none 0 0, .slice none 0 0], 72⟩,
  ⟨212, .ptr 157, 1, [.pointer none], 8⟩,
  ⟨216, .struct [(0, 1, false, 2), (1, 1, false, 2)], 2, [.int .i64 0, .int .i64 0], 16⟩,
  ⟨243, .ptr 200, 1, [.pointer none], 8⟩,
  ⟨245, .ptr 248, 1, [.pointer none], 8⟩,
  ⟨246, .slice 62, 1, [.slice none 0 0], 24⟩,
  ⟨248, .struct [(0, 1, false, 2), (1, 1, false, 2), (2, 1, false, 2), (3, 1, false, 103), (4, 1, false, 246)], 5, [.int .i64 0, .int .i64 0, .int .i64 0, .slice none 0 0, .slice none 0 0], 72⟩,
  ⟨250, .struct [(0, 1, false, 4), (1, 1, false, 4), (2, 3, true, 62)], 5, [.bool false, .bool false, .int .i64 0, .int .i64 0, .int .i64 0], 32⟩,
  ⟨251, .slice 103, 1, [.slice none 0 0], 24⟩,
  ⟨253, .struct [(0, 1, false, 28), (1, 1, false, 110), (2, 1, false, 251), (3, 1, false, 251), (4, 1, false, 251), (5, 1, false, 251)], 6, [.slice none 0 0, .slice none 0 0, .slice none 0 0, .slice none 0 0, .slice none 0 0, .slice none 0 0], 144⟩,
  ⟨261, .struct [(0, 3, true, 62), (3, 3, true, 62)], 6, [.int .i64 0, .int .i64 0, .int .i64 0, .int .i64 0, .int .i64 0, .int .i64 0], 48⟩,
  ⟨271, .struct [(0, 3, true, 62), (3, 1, false, 2), (4, 1, false, 4)], 5, [.int .i64 0, .int .i64 0, .int .i64 0, .int .i64 0, .bool false], 40⟩,
  ⟨273, .struct [(0, 5, true, 271), (5, 5, true, 271)], 10, [.int .i64 0, .int .i64 0, .int .i64 0, .int .i64 0, .bool false, .int .i64 0, .int .i64 0, .int .i64 0, .int .i64 0, .bool false], 80⟩,
  ⟨275, .other, 1, [.map none], 8⟩,
  ⟨304, .slice 56, 1, [.slice none 0 0], 24⟩,
  ⟨306, .struct [(0, 1, false, 2), (1, 1, false, 2), (2, 1, false, 2), (3, 1, false, 103), (4, 1, false, 304)], 5, [.int .i64 0, .int .i64 0, .int .i64 0, .slice none 0 0, .slice none 0 0], 72⟩,
  ⟨311, .struct [(0, 1, false, 4), (1, 1, false, 4), (2, 3, true, 56)], 5, [.bool false, .bool false, .int .i64 0, .int .i64 0, .int .i64 0], 32⟩,
  ⟨314, .struct [(0, 3, true, 56), (3, 3, true, 56)], 6, [.int .i64 0, .int .i64 0, .int .i64 0, .int .i64 0, .int .i64 0, .int .i64 0], 48⟩,
  ⟨319, .slice 271, 1, [.slice none 0 0], 24⟩,
  ⟨326, .slice 3, 1, [.slice none 0 0], 24⟩]

def zerosOk (P : Program) : TT → Prop
  | [] => True
  | i :: r => (P.info? i.id).map (fun j => j.zero.map (fun v => v.cells.toList)) = some (some i.zero) ∧ zerosOk P r

theorem z6R {P : Program} : ∀ {T : TT}, zerosOk P T → ∀ i, i ∈ T → (P.info? i.id).map (fun j => j.zero.map (fun v => v.cells.toList)) = some (some i.zero)
  | [], _, i, h => by cases h
  | _ :: _, ⟨h1, h2⟩, i, h => by
    rcases List.mem_cons.1 h with rfl | h
    · exact h1
    · exact z6R h2 i h

theorem zcJ : tt.all (infoOk Try.prog) = true := by kernel_rfl
theorem zbF : zerosOk Try.prog tt := ⟨by kernel_rfl, by kernel_rfl, by kernel_rfl, by kernel_rfl, by kernel_rfl, by kernel_rfl, by kernel_rfl, by kernel_rfl, by kernel_rfl, by kernel_rfl, by kernel_rfl, by kernel_rfl, by kernel_rfl, by kernel_rfl, by kernel_rfl, by kernel_rfl, by kernel_rfl, by kernel_rfl, by kernel_rfl, by kernel_rfl, by kernel_rfl, by kernel_rfl, by kernel_rfl, by kernel_rfl, by kernel_rfl, by kernel_rfl, by kernel_rfl, by kernel_rfl, by kernel_rfl, by kernel_rfl, by kernel_rfl, by kernel_rfl, by kernel_rfl, by kernel_rfl, by kernel_rfl, by kernel_rfl, by kernel_rfl, by kernel_rfl, by kernel_rfl, by kernel_rfl, by kernel_rfl, by kernel_rfl, by kernel_rfl, by kernel_rfl, by kernel_rfl, by kernel_rfl, by kernel_rfl, by kernel_rfl, by kernel_rfl, by kernel_rfl, by kernel_rfl, by kernel_rfl, by kernel_rfl, by kernel_rfl, by kernel_rfl, by kernel_rfl, by kernel_rfl, by kernel_rfl, by kernel_rfl, by kernel_rfl, by kernel_rfl, by kernel_rfl, by kernel_rfl, by kernel_rfl, by kernel_rfl, by kernel_rfl, by kernel_rfl, by kernel_rfl, by kernel_rfl, by kernel_rfl, by kernel_rfl, trivial⟩
theorem ttok : TTok Try.prog tt := ⟨List.all_eq_true.1 zcJ, z6R zbF⟩
theorem mixed : Try.prog.follows .mixedOrders = true := by kernel_rfl

structure D.Port where
  Agent : Int
  Slot : Int
deriving Inhabited, DecidableEq

structure D.Agent where
  Kind : Int
  Level : Int
  Value : Int
  Data : (List Int)
  Ports : (List D.Port)
deriving Inhabited, DecidableEq

structure D.Net where
  Agents : (List D.Agent)
deriving Inhabited, DecidableEq

structure D.Wire where
  A : D.Port
  B : D.Port
deriving Inhabited, DecidableEq

structure D.Word where
  Tag : Int
  At : Int
deriving Inhabited, DecidableEq

structure D.Cell where
  Kind : Int
  Level : Int
  Value : Int
  Data : (List Int)
  Words : (List D.Word)
deriving Inhabited, DecidableEq

structure D.Pair where
  A : Int
  B : Int
deriving Inhabited, DecidableEq

structure D.Memory where
  Cells : (List D.Cell)
  Free : Int
  Root : D.Word
  Redexes : (List D.Pair)
deriving Inhabited, DecidableEq

def zm : Ty (List Int) := tSl 2 tInt
instance {W : World} : Reads W zm := inferInstanceAs (Reads W (tSl 2 tInt))
theorem z6k {w : World} {cs : List Value} {xs : (List Int)} (h : zm.ro w cs xs) : ∃ A c, cs = [.slice A xs.length c] := slForm h

def ty35 : Ty D.Port := tMap (fun c => (c.Agent, c.Slot, ())) (tPair tInt (tPair tInt tUnit))
instance {W : World} : Reads W ty35 := inferInstanceAs (Reads W (tMap (fun c : D.Port => (c.Agent, c.Slot, ())) (tPair tInt (tPair tInt tUnit))))
theorem z8j {w : World} {cs : List Value} {c : D.Port} (h : ty35.ro w cs c) : cs = [.int .i64 c.Agent, .int .i64 c.Slot] := by
  obtain ⟨c0, d0, rfl, h0, c1, d1, rfl, h1, hz⟩ := h
  subst hz
  subst h0
  subst h1
  rfl
def z8p : Ty (List D.Port) := tSl 35 ty35
instance {W : World} : Reads W z8p := inferInstanceAs (Reads W (tSl 35 ty35))
theorem za1 {w : World} {cs : List Value} {xs : (List D.Port)} (h : z8p.ro w cs xs) : ∃ A c, cs = [.slice A xs.length c] := slForm h

def z9i : Ty D.Agent := tMap (fun c => (c.Kind, c.Level, c.Value, c.Data, c.Ports, ())) (tPair tInt (tPair tInt (tPair tInt (tPair zm (tPair z8p tUnit)))))
instance {W : World} : Reads W z9i := inferInstanceAs (Reads W (tMap (fun c : D.Agent => (c.Kind, c.Level, c.Value, c.Data, c.Ports, ())) (tPair tInt (tPair tInt (tPair tInt (tPair zm (tPair z8p tUnit)))))))
theorem z5L {w : World} {cs : List Value} {c : D.Agent} (h : z9i.ro w cs c) : ∃ A0 k0 A1 k1, cs = [.int .i64 c.Kind, .int .i64 c.Level, .int .i64 c.Value, .slice A0 c.Data.length k0, .slice A1 c.Ports.length k1] ∧ zm.ro w [.slice A0 c.Data.length k0] c.Data ∧ z8p.ro w [.slice A1 c.Ports.length k1] c.Ports := by
  obtain ⟨c0, d0, rfl, h0, c1, d1, rfl, h1, c2, d2, rfl, h2, c3, d3, rfl, h3, c4, d4, rfl, h4, hz⟩ := h
  subst hz
  subst h0
  subst h1
  subst h2
  obtain ⟨A3_, k3_, e3⟩ := z6k h3
  subst e3
  obtain ⟨A4_, k4_, e4⟩ := za1 h4
  subst e4
  exact ⟨A3_, k3_, A4_, k4_, rfl, h3, h4⟩
def ty22 : Ty (List D.Agent) := tSl 106 z9i
instance {W : World} : Reads W ty22 := inferInstanceAs (Reads W (tSl 106 z9i))
theorem zay {w : World} {cs : List Value} {xs : (List D.Agent)} (h : ty22.ro w cs xs) : ∃ A c, cs = [.slice A xs.length c] := slForm h

def ty24 : Ty D.Net := tMap (fun c => (c.Agents, ())) (tPair ty22 tUnit)
instance {W : World} : Reads W ty24 := inferInstanceAs (Reads W (tMap (fun c : D.Net => (c.Agents, ())) (tPair ty22 tUnit)))
theorem z6U {w : World} {cs : List Value} {c : D.Net} (h : ty24.ro w cs c) : ∃ A0 k0, cs = [.slice A0 c.Agents.length k0] ∧ ty22.ro w [.slice A0 c.Agents.length k0] c.Agents := by
  obtain ⟨c0, d0, rfl, h0, hz⟩ := h
  subst hz
  obtain ⟨A0_, k0_, e0⟩ := zay h0
  subst e0
  exact ⟨A0_, k0_, rfl, h0⟩
def ty38 : Ty D.Port := tMap (fun c => (c.Agent, c.Slot, ())) (tPair tInt (tPair tInt tUnit))
instance {W : World} : Reads W ty38 := inferInstanceAs (Reads W (tMap (fun c : D.Port => (c.Agent, c.Slot, ())) (tPair tInt (tPair tInt tUnit))))
theorem zk {w : World} {cs : List Value} {c : D.Port} (h : ty38.ro w cs c) : cs = [.int .i64 c.Agent, .int .i64 c.Slot] := by
  obtain ⟨c0, d0, rfl, h0, c1, d1, rfl, h1, hz⟩ := h
  subst hz
  subst h0
  subst h1
  rfl
theorem zZ {w : World} (c : D.Port)   : ty38.ro w [.int .i64 c.Agent, .int .i64 c.Slot] c :=
  ⟨_, _, rfl, rfl, ⟨_, _, rfl, rfl, rfl⟩⟩
theorem z9B {w : World} {cs : List Value} {c : D.Port} {G : List Nat} (h : ty38.own w cs c G) : cs = [.int .i64 c.Agent, .int .i64 c.Slot] ∧ (All []).A w G := by
  obtain ⟨c0, d0, H0, K0, rfl, rfl, h0, c1, d1, H1, K1, rfl, rfl, h1, hz, hk⟩ := h
  subst hz; subst hk
  obtain ⟨e0, k0⟩ := h0; subst e0; subst k0
  obtain ⟨e1, k1⟩ := h1; subst e1; subst k1
  refine ⟨rfl, ?_⟩
  show (All _).A w _
  exact cast (congrArg _ (by simp)) (show (All _).A w ([]) from rfl)
theorem z5t {w : World} {c : D.Port}  {G : List Nat} (h : (All []).A w G) : ty38.own w [.int .i64 c.Agent, .int .i64 c.Slot] c G := by
  have hz : G = [] := h
  subst hz
  exact cast (congrArg _ (by simp)) (show ty38.own w [.int .i64 c.Agent, .int .i64 c.Slot] c (_) from ⟨_, _, _, _, rfl, rfl, ⟨rfl, rfl⟩, ⟨_, _, _, _, rfl, rfl, ⟨rfl, rfl⟩, ⟨rfl, rfl⟩⟩⟩)
theorem z9X {W w : World} {B : List Res} {cs : List Value} {c : D.Port} (h : St W w (Own ty38 cs c :: B)) : cs = [.int .i64 c.Agent, .int .i64 c.Slot] ∧ St W w ([] ++ B) := by
  obtain ⟨G, hA, _⟩ := h.sep.head
  obtain ⟨rfl, _⟩ := z9B hA
  refine ⟨rfl, St.splitAll (h.conv fun G hG => ?_)⟩
  exact (z9B hG).2
theorem z7F {W w : World} {B : List Res} {c : D.Port}  (h : St W w ([] ++ B)) : St W w (Own ty38 [.int .i64 c.Agent, .int .i64 c.Slot] c :: B) := (St.fuseAll h).conv fun _ hG => z5t hG

def z2B : Ty (List D.Port) := tSl 38 ty38
instance {W : World} : Reads W z2B := inferInstanceAs (Reads W (tSl 38 ty38))
theorem z9Z {w : World} {cs : List Value} {xs : (List D.Port)} (h : z2B.ro w cs xs) : ∃ A c, cs = [.slice A xs.length c] := slForm h

def z5s : Ty D.Agent := tMap (fun c => (c.Kind, c.Level, c.Value, c.Data, c.Ports, ())) (tPair tInt (tPair tInt (tPair tInt (tPair zm (tPair z2B tUnit)))))
instance {W : World} : Reads W z5s := inferInstanceAs (Reads W (tMap (fun c : D.Agent => (c.Kind, c.Level, c.Value, c.Data, c.Ports, ())) (tPair tInt (tPair tInt (tPair tInt (tPair zm (tPair z2B tUnit)))))))
theorem za {w : World} {cs : List Value} {c : D.Agent} (h : z5s.ro w cs c) : ∃ A0 k0 A1 k1, cs = [.int .i64 c.Kind, .int .i64 c.Level, .int .i64 c.Value, .slice A0 c.Data.length k0, .slice A1 c.Ports.length k1] ∧ zm.ro w [.slice A0 c.Data.length k0] c.Data ∧ z2B.ro w [.slice A1 c.Ports.length k1] c.Ports := by
  obtain ⟨c0, d0, rfl, h0, c1, d1, rfl, h1, c2, d2, rfl, h2, c3, d3, rfl, h3, c4, d4, rfl, h4, hz⟩ := h
  subst hz
  subst h0
  subst h1
  subst h2
  obtain ⟨A3_, k3_, e3⟩ := z6k h3
  subst e3
  obtain ⟨A4_, k4_, e4⟩ := z9Z h4
  subst e4
  exact ⟨A3_, k3_, A4_, k4_, rfl, h3, h4⟩
theorem z7H {w : World} (c : D.Agent) {A0 : Option Addr} {k0 : Nat} {A1 : Option Addr} {k1 : Nat} (h0 : zm.ro w [.slice A0 c.Data.length k0] c.Data) (h1 : z2B.ro w [.slice A1 c.Ports.length k1] c.Ports) : z5s.ro w [.int .i64 c.Kind, .int .i64 c.Level, .int .i64 c.Value, .slice A0 c.Data.length k0, .slice A1 c.Ports.length k1] c :=
  ⟨_, _, rfl, rfl, ⟨_, _, rfl, rfl, ⟨_, _, rfl, rfl, ⟨_, _, rfl, h0, ⟨_, _, rfl, h1, rfl⟩⟩⟩⟩⟩
theorem z8n {w : World} {cs : List Value} {c : D.Agent} {G : List Nat} (h : z5s.own w cs c G) : ∃ A0 k0 A1 k1, cs = [.int .i64 c.Kind, .int .i64 c.Level, .int .i64 c.Value, .slice A0 c.Data.length k0, .slice A1 c.Ports.length k1] ∧ (All [Own zm [.slice A0 c.Data.length k0] c.Data, Own z2B [.slice A1 c.Ports.length k1] c.Ports]).A w G := by
  obtain ⟨c0, d0, H0, K0, rfl, rfl, h0, c1, d1, H1, K1, rfl, rfl, h1, c2, d2, H2, K2, rfl, rfl, h2, c3, d3, H3, K3, rfl, rfl, h3, c4, d4, H4, K4, rfl, rfl, h4, hz, hk⟩ := h
  subst hz; subst hk
  obtain ⟨e0, k0⟩ := h0; subst e0; subst k0
  obtain ⟨e1, k1⟩ := h1; subst e1; subst k1
  obtain ⟨e2, k2⟩ := h2; subst e2; subst k2
  obtain ⟨A3_, k3_, e3⟩ := slFormO h3
  subst e3
  obtain ⟨A4_, k4_, e4⟩ := slFormO h4
  subst e4
  refine ⟨A3_, k3_, A4_, k4_, rfl, ?_⟩
  show (All _).A w _
  exact cast (congrArg _ (by simp)) (show (All _).A w (H3 ++ (H4 ++ ([]))) from ⟨_, _, rfl, h3, ⟨_, _, rfl, h4, rfl⟩⟩)
theorem z7J {w : World} {c : D.Agent} {A0 : Option Addr} {k0 : Nat} {A1 : Option Addr} {k1 : Nat} {G : List Nat} (h : (All [Own zm [.slice A0 c.Data.length k0] c.Data, Own z2B [.slice A1 c.Ports.length k1] c.Ports]).A w G) : z5s.own w [.int .i64 c.Kind, .int .i64 c.Level, .int .i64 c.Value, .slice A0 c.Data.length k0, .slice A1 c.Ports.length k1] c G := by
  obtain ⟨G0, R0, rfl, h0, G1, R1, rfl, h1, hz⟩ := h
  have hz' : R1 = [] := hz
  subst hz'
  exact cast (congrArg _ (by simp)) (show z5s.own w [.int .i64 c.Kind, .int .i64 c.Level, .int .i64 c.Value, .slice A0 c.Data.length k0, .slice A1 c.Ports.length k1] c (_) from ⟨_, _, _, _, rfl, rfl, ⟨rfl, rfl⟩, ⟨_, _, _, _, rfl, rfl, ⟨rfl, rfl⟩, ⟨_, _, _, _, rfl, rfl, ⟨rfl, rfl⟩, ⟨_, _, _, _, rfl, rfl, h0, ⟨_, _, _, _, rfl, rfl, h1, ⟨rfl, rfl⟩⟩⟩⟩⟩⟩)
theorem z9h {W w : World} {B : List Res} {cs : List Value} {c : D.Agent} (h : St W w (Own z5s cs c :: B)) : ∃ A0 k0 A1 k1, cs = [.int .i64 c.Kind, .int .i64 c.Level, .int .i64 c.Value, .slice A0 c.Data.length k0, .slice A1 c.Ports.length k1] ∧ St W w ([Own zm [.slice A0 c.Data.length k0] c.Data, Own z2B [.slice A1 c.Ports.length k1] c.Ports] ++ B) := by
  obtain ⟨G, hA, _⟩ := h.sep.head
  obtain ⟨A0, k0, A1, k1, rfl, _⟩ := z8n hA
  refine ⟨A0, k0, A1, k1, rfl, St.splitAll (h.conv fun G hG => ?_)⟩
  obtain ⟨X0, Y0, X1, Y1, he, hh⟩ := z8n hG
  simp only [List.cons.injEq, Value.slice.injEq, and_true, true_and] at he
  obtain ⟨⟨rfl, rfl⟩, ⟨rfl, rfl⟩⟩ := he
  exact hh
theorem z6V {W w : World} {B : List Res} {c : D.Agent} {A0 : Option Addr} {k0 : Nat} {A1 : Option Addr} {k1 : Nat} (h : St W w ([Own zm [.slice A0 c.Data.length k0] c.Data, Own z2B [.slice A1 c.Ports.length k1] c.Ports] ++ B)) : St W w (Own z5s [.int .i64 c.Kind, .int .i64 c.Level, .int .i64 c.Value, .slice A0 c.Data.length k0, .slice A1 c.Ports.length k1] c :: B) := (St.fuseAll h).conv fun _ hG => z7J hG

def ty28 : Ty (List D.Agent) := tSl 112 z5s
instance {W : World} : Reads W ty28 := inferInstanceAs (Reads W (tSl 112 z5s))
theorem zax {w : World} {cs : List Value} {xs : (List D.Agent)} (h : ty28.ro w cs xs) : ∃ A c, cs = [.slice A xs.length c] := slForm h

def ty30 : Ty D.Net := tMap (fun c => (c.Agents, ())) (tPair ty28 tUnit)
instance {W : World} : Reads W ty30 := inferInstanceAs (Reads W (tMap (fun c : D.Net => (c.Agents, ())) (tPair ty28 tUnit)))
theorem z1e {w : World} {cs : List Value} {c : D.Net} (h : ty30.ro w cs c) : ∃ A0 k0, cs = [.slice A0 c.Agents.length k0] ∧ ty28.ro w [.slice A0 c.Agents.length k0] c.Agents := by
  obtain ⟨c0, d0, rfl, h0, hz⟩ := h
  subst hz
  obtain ⟨A0_, k0_, e0⟩ := zax h0
  subst e0
  exact ⟨A0_, k0_, rfl, h0⟩
theorem z4J {w : World} (c : D.Net) {A0 : Option Addr} {k0 : Nat} (h0 : ty28.ro w [.slice A0 c.Agents.length k0] c.Agents) : ty30.ro w [.slice A0 c.Agents.length k0] c :=
  ⟨_, _, rfl, h0, rfl⟩
def z8o : Ty D.Wire := tMap (fun c => (c.A, c.B, ())) (tPair ty38 (tPair ty38 tUnit))
instance {W : World} : Reads W z8o := inferInstanceAs (Reads W (tMap (fun c : D.Wire => (c.A, c.B, ())) (tPair ty38 (tPair ty38 tUnit))))
theorem z5K {w : World} {cs : List Value} {c : D.Wire} (h : z8o.ro w cs c) : cs = [.int .i64 c.A.Agent, .int .i64 c.A.Slot, .int .i64 c.B.Agent, .int .i64 c.B.Slot] := by
  obtain ⟨c0, d0, rfl, h0, c1, d1, rfl, h1, hz⟩ := h
  subst hz
  have e0 := zk h0
  subst e0
  have e1 := zk h1
  subst e1
  rfl
theorem za0 {w : World} {c : D.Wire}  {G : List Nat} (h : (All []).A w G) : z8o.own w [.int .i64 c.A.Agent, .int .i64 c.A.Slot, .int .i64 c.B.Agent, .int .i64 c.B.Slot] c G := by
  have hz : G = [] := h
  subst hz
  exact cast (congrArg _ (by simp)) (show z8o.own w [.int .i64 c.A.Agent, .int .i64 c.A.Slot, .int .i64 c.B.Agent, .int .i64 c.B.Slot] c (_) from ⟨_, _, _, _, rfl, rfl, (z5t (c := c.A) rfl), ⟨_, _, _, _, rfl, rfl, (z5t (c := c.B) rfl), ⟨rfl, rfl⟩⟩⟩)
def ty47 : Ty (List D.Wire) := tSl 109 z8o
instance {W : World} : Reads W ty47 := inferInstanceAs (Reads W (tSl 109 z8o))
def ty77 : Ty D.Word := tMap (fun c => (c.Tag, c.At, ())) (tPair tInt (tPair tInt tUnit))
instance {W : World} : Reads W ty77 := inferInstanceAs (Reads W (tMap (fun c : D.Word => (c.Tag, c.At, ())) (tPair tInt (tPair tInt tUnit))))
theorem z41 {w : World} {cs : List Value} {c : D.Word} (h : ty77.ro w cs c) : cs = [.int .i64 c.Tag, .int .i64 c.At] := by
  obtain ⟨c0, d0, rfl, h0, c1, d1, rfl, h1, hz⟩ := h
  subst hz
  subst h0
  subst h1
  rfl
theorem z4H {w : World} (c : D.Word)   : ty77.ro w [.int .i64 c.Tag, .int .i64 c.At] c :=
  ⟨_, _, rfl, rfl, ⟨_, _, rfl, rfl, rfl⟩⟩
theorem z9A {w : World} {cs : List Value} {c : D.Word} {G : List Nat} (h : ty77.own w cs c G) : cs = [.int .i64 c.Tag, .int .i64 c.At] ∧ (All []).A w G := by
  obtain ⟨c0, d0, H0, K0, rfl, rfl, h0, c1, d1, H1, K1, rfl, rfl, h1, hz, hk⟩ := h
  subst hz; subst hk
  obtain ⟨e0, k0⟩ := h0; subst e0; subst k0
  obtain ⟨e1, k1⟩ := h1; subst e1; subst k1
  refine ⟨rfl, ?_⟩
  show (All _).A w _
  exact cast (congrArg _ (by simp)) (show (All _).A w ([]) from rfl)
theorem z62 {w : World} {c : D.Word}  {G : List Nat} (h : (All []).A w G) : ty77.own w [.int .i64 c.Tag, .int .i64 c.At] c G := by
  have hz : G = [] := h
  subst hz
  exact cast (congrArg _ (by simp)) (show ty77.own w [.int .i64 c.Tag, .int .i64 c.At] c (_) from ⟨_, _, _, _, rfl, rfl, ⟨rfl, rfl⟩, ⟨_, _, _, _, rfl, rfl, ⟨rfl, rfl⟩, ⟨rfl, rfl⟩⟩⟩)
theorem z9W {W w : World} {B : List Res} {cs : List Value} {c : D.Word} (h : St W w (Own ty77 cs c :: B)) : cs = [.int .i64 c.Tag, .int .i64 c.At] ∧ St W w ([] ++ B) := by
  obtain ⟨G, hA, _⟩ := h.sep.head
  obtain ⟨rfl, _⟩ := z9A hA
  refine ⟨rfl, St.splitAll (h.conv fun G hG => ?_)⟩
  exact (z9A hG).2
theorem z5b {W w : World} {B : List Res} {c : D.Word}  (h : St W w ([] ++ B)) : St W w (Own ty77 [.int .i64 c.Tag, .int .i64 c.At] c :: B) := (St.fuseAll h).conv fun _ hG => z62 hG

def z4h : Ty (List D.Word) := tSl 77 ty77
instance {W : World} : Reads W z4h := inferInstanceAs (Reads W (tSl 77 ty77))
theorem z9Y {w : World} {cs : List Value} {xs : (List D.Word)} (h : z4h.ro w cs xs) : ∃ A c, cs = [.slice A xs.length c] := slForm h

def z59 : Ty D.Cell := tMap (fun c => (c.Kind, c.Level, c.Value, c.Data, c.Words, ())) (tPair tInt (tPair tInt (tPair tInt (tPair zm (tPair z4h tUnit)))))
instance {W : World} : Reads W z59 := inferInstanceAs (Reads W (tMap (fun c : D.Cell => (c.Kind, c.Level, c.Value, c.Data, c.Words, ())) (tPair tInt (tPair tInt (tPair tInt (tPair zm (tPair z4h tUnit)))))))
theorem z2g {w : World} {cs : List Value} {c : D.Cell} (h : z59.ro w cs c) : ∃ A0 k0 A1 k1, cs = [.int .i64 c.Kind, .int .i64 c.Level, .int .i64 c.Value, .slice A0 c.Data.length k0, .slice A1 c.Words.length k1] ∧ zm.ro w [.slice A0 c.Data.length k0] c.Data ∧ z4h.ro w [.slice A1 c.Words.length k1] c.Words := by
  obtain ⟨c0, d0, rfl, h0, c1, d1, rfl, h1, c2, d2, rfl, h2, c3, d3, rfl, h3, c4, d4, rfl, h4, hz⟩ := h
  subst hz
  subst h0
  subst h1
  subst h2
  obtain ⟨A3_, k3_, e3⟩ := z6k h3
  subst e3
  obtain ⟨A4_, k4_, e4⟩ := z9Y h4
  subst e4
  exact ⟨A3_, k3_, A4_, k4_, rfl, h3, h4⟩
theorem z8k {w : World} {cs : List Value} {c : D.Cell} {G : List Nat} (h : z59.own w cs c G) : ∃ A0 k0 A1 k1, cs = [.int .i64 c.Kind, .int .i64 c.Level, .int .i64 c.Value, .slice A0 c.Data.length k0, .slice A1 c.Words.length k1] ∧ (All [Own zm [.slice A0 c.Data.length k0] c.Data, Own z4h [.slice A1 c.Words.length k1] c.Words]).A w G := by
  obtain ⟨c0, d0, H0, K0, rfl, rfl, h0, c1, d1, H1, K1, rfl, rfl, h1, c2, d2, H2, K2, rfl, rfl, h2, c3, d3, H3, K3, rfl, rfl, h3, c4, d4, H4, K4, rfl, rfl, h4, hz, hk⟩ := h
  subst hz; subst hk
  obtain ⟨e0, k0⟩ := h0; subst e0; subst k0
  obtain ⟨e1, k1⟩ := h1; subst e1; subst k1
  obtain ⟨e2, k2⟩ := h2; subst e2; subst k2
  obtain ⟨A3_, k3_, e3⟩ := slFormO h3
  subst e3
  obtain ⟨A4_, k4_, e4⟩ := slFormO h4
  subst e4
  refine ⟨A3_, k3_, A4_, k4_, rfl, ?_⟩
  show (All _).A w _
  exact cast (congrArg _ (by simp)) (show (All _).A w (H3 ++ (H4 ++ ([]))) from ⟨_, _, rfl, h3, ⟨_, _, rfl, h4, rfl⟩⟩)
theorem z7G {w : World} {c : D.Cell} {A0 : Option Addr} {k0 : Nat} {A1 : Option Addr} {k1 : Nat} {G : List Nat} (h : (All [Own zm [.slice A0 c.Data.length k0] c.Data, Own z4h [.slice A1 c.Words.length k1] c.Words]).A w G) : z59.own w [.int .i64 c.Kind, .int .i64 c.Level, .int .i64 c.Value, .slice A0 c.Data.length k0, .slice A1 c.Words.length k1] c G := by
  obtain ⟨G0, R0, rfl, h0, G1, R1, rfl, h1, hz⟩ := h
  have hz' : R1 = [] := hz
  subst hz'
  exact cast (congrArg _ (by simp)) (show z59.own w [.int .i64 c.Kind, .int .i64 c.Level, .int .i64 c.Value, .slice A0 c.Data.length k0, .slice A1 c.Words.length k1] c (_) from ⟨_, _, _, _, rfl, rfl, ⟨rfl, rfl⟩, ⟨_, _, _, _, rfl, rfl, ⟨rfl, rfl⟩, ⟨_, _, _, _, rfl, rfl, ⟨rfl, rfl⟩, ⟨_, _, _, _, rfl, rfl, h0, ⟨_, _, _, _, rfl, rfl, h1, ⟨rfl, rfl⟩⟩⟩⟩⟩⟩)
theorem z3b {W w : World} {B : List Res} {cs : List Value} {c : D.Cell} (h : St W w (Own z59 cs c :: B)) : ∃ A0 k0 A1 k1, cs = [.int .i64 c.Kind, .int .i64 c.Level, .int .i64 c.Value, .slice A0 c.Data.length k0, .slice A1 c.Words.length k1] ∧ St W w ([Own zm [.slice A0 c.Data.length k0] c.Data, Own z4h [.slice A1 c.Words.length k1] c.Words] ++ B) := by
  obtain ⟨G, hA, _⟩ := h.sep.head
  obtain ⟨A0, k0, A1, k1, rfl, _⟩ := z8k hA
  refine ⟨A0, k0, A1, k1, rfl, St.splitAll (h.conv fun G hG => ?_)⟩
  obtain ⟨X0, Y0, X1, Y1, he, hh⟩ := z8k hG
  simp only [List.cons.injEq, Value.slice.injEq, and_true, true_and] at he
  obtain ⟨⟨rfl, rfl⟩, ⟨rfl, rfl⟩⟩ := he
  exact hh
theorem z1z {W w : World} {B : List Res} {c : D.Cell} {A0 : Option Addr} {k0 : Nat} {A1 : Option Addr} {k1 : Nat} (h : St W w ([Own zm [.slice A0 c.Data.length k0] c.Data, Own z4h [.slice A1 c.Words.length k1] c.Words] ++ B)) : St W w (Own z59 [.int .i64 c.Kind, .int .i64 c.Level, .int .i64 c.Value, .slice A0 c.Data.length k0, .slice A1 c.Words.length k1] c :: B) := (St.fuseAll h).conv fun _ hG => z7G hG

def ty76 : Ty (List D.Cell) := tSl 157 z59
instance {W : World} : Reads W ty76 := inferInstanceAs (Reads W (tSl 157 z59))
theorem zaw {w : World} {cs : List Value} {xs : (List D.Cell)} (h : ty76.ro w cs xs) : ∃ A c, cs = [.slice A xs.length c] := slForm h

def z1O : Ty D.Pair := tMap (fun c => (c.A, c.B, ())) (tPair tInt (tPair tInt tUnit))
instance {W : World} : Reads W z1O := inferInstanceAs (Reads W (tMap (fun c : D.Pair => (c.A, c.B, ())) (tPair tInt (tPair tInt tUnit))))
theorem zO {w : World} {cs : List Value} {c : D.Pair} (h : z1O.ro w cs c) : cs = [.int .i64 c.A, .int .i64 c.B] := by
  obtain ⟨c0, d0, rfl, h0, c1, d1, rfl, h1, hz⟩ := h
  subst hz
  subst h0
  subst h1
  rfl
theorem z8m {w : World} {cs : List Value} {c : D.Pair} {G : List Nat} (h : z1O.own w cs c G) : cs = [.int .i64 c.A, .int .i64 c.B] ∧ (All []).A w G := by
  obtain ⟨c0, d0, H0, K0, rfl, rfl, h0, c1, d1, H1, K1, rfl, rfl, h1, hz, hk⟩ := h
  subst hz; subst hk
  obtain ⟨e0, k0⟩ := h0; subst e0; subst k0
  obtain ⟨e1, k1⟩ := h1; subst e1; subst k1
  refine ⟨rfl, ?_⟩
  show (All _).A w _
  exact cast (congrArg _ (by simp)) (show (All _).A w ([]) from rfl)
theorem zi {w : World} {c : D.Pair}  {G : List Nat} (h : (All []).A w G) : z1O.own w [.int .i64 c.A, .int .i64 c.B] c G := by
  have hz : G = [] := h
  subst hz
  exact cast (congrArg _ (by simp)) (show z1O.own w [.int .i64 c.A, .int .i64 c.B] c (_) from ⟨_, _, _, _, rfl, rfl, ⟨rfl, rfl⟩, ⟨_, _, _, _, rfl, rfl, ⟨rfl, rfl⟩, ⟨rfl, rfl⟩⟩⟩)
theorem z9g {W w : World} {B : List Res} {cs : List Value} {c : D.Pair} (h : St W w (Own z1O cs c :: B)) : cs = [.int .i64 c.A, .int .i64 c.B] ∧ St W w ([] ++ B) := by
  obtain ⟨G, hA, _⟩ := h.sep.head
  obtain ⟨rfl, _⟩ := z8m hA
  refine ⟨rfl, St.splitAll (h.conv fun G hG => ?_)⟩
  exact (z8m hG).2
theorem z9f {W w : World} {B : List Res} {c : D.Pair}  (h : St W w ([] ++ B)) : St W w (Own z1O [.int .i64 c.A, .int .i64 c.B] c :: B) := (St.fuseAll h).conv fun _ hG => zi hG

def ty78 : Ty (List D.Pair) := tSl 139 z1O
instance {W : World} : Reads W ty78 := inferInstanceAs (Reads W (tSl 139 z1O))
theorem zav {w : World} {cs : List Value} {xs : (List D.Pair)} (h : ty78.ro w cs xs) : ∃ A c, cs = [.slice A xs.length c] := slForm h

def ty80 : Ty D.Memory := tMap (fun c => (c.Cells, c.Free, c.Root, c.Redexes, ())) (tPair ty76 (tPair tInt (tPair ty77 (tPair ty78 tUnit))))
instance {W : World} : Reads W ty80 := inferInstanceAs (Reads W (tMap (fun c : D.Memory => (c.Cells, c.Free, c.Root, c.Redexes, ())) (tPair ty76 (tPair tInt (tPair ty77 (tPair ty78 tUnit))))))
theorem z6T {w : World} {cs : List Value} {c : D.Memory} (h : ty80.ro w cs c) : ∃ A0 k0 A1 k1, cs = [.slice A0 c.Cells.length k0, .int .i64 c.Free, .int .i64 c.Root.Tag, .int .i64 c.Root.At, .slice A1 c.Redexes.length k1] ∧ ty76.ro w [.slice A0 c.Cells.length k0] c.Cells ∧ ty78.ro w [.slice A1 c.Redexes.length k1] c.Redexes := by
  obtain ⟨c0, d0, rfl, h0, c1, d1, rfl, h1, c2, d2, rfl, h2, c3, d3, rfl, h3, hz⟩ := h
  subst hz
  obtain ⟨A0_, k0_, e0⟩ := zaw h0
  subst e0
  subst h1
  have e2 := z41 h2
  subst e2
  obtain ⟨A3_, k3_, e3⟩ := zav h3
  subst e3
  exact ⟨A0_, k0_, A3_, k3_, rfl, h0, h3⟩
theorem z4t {w : World} (c : D.Memory) {A0 : Option Addr} {k0 : Nat} {A1 : Option Addr} {k1 : Nat} (h0 : ty76.ro w [.slice A0 c.Cells.length k0] c.Cells) (h1 : ty78.ro w [.slice A1 c.Redexes.length k1] c.Redexes) : ty80.ro w [.slice A0 c.Cells.length k0, .int .i64 c.Free, .int .i64 c.Root.Tag, .int .i64 c.Root.At, .slice A1 c.Redexes.length k1] c :=
  ⟨_, _, rfl, h0, ⟨_, _, rfl, rfl, ⟨_, _, rfl, (z4H c.Root ), ⟨_, _, rfl, h1, rfl⟩⟩⟩⟩
end Go.E

