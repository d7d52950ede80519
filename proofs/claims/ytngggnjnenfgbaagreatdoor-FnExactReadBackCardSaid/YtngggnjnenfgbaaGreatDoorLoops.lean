/- The types of the data, as tables and as plain Lean types (written by program). Conditions: none. -/
import Derived.Test.YtngggnjnenfgbaaGreatDoorRec
import Derived.Test.YtngggnjnenfgbaaGreatDoorProg
import Derived.KernelRfl
import Derived.Deep.Slices
import Derived.ChangeArms
import Derived.ProofKit
import Derived.OpenShut
import Derived.WideShapes
namespace Go.E
open Go.RowKit Go.Proofs
set_option linter.unusedVariables false
set_option linter.unusedSimpArgs false


def tt:TT:=[
  ⟨2,.int .i64,1,[.int .i64 0],8⟩,
  ⟨3,.int .i64,1,[.int .i64 0],8⟩,
  ⟨4,.bool,1,[.bool false],1⟩,
  ⟨5,.int .u8,1,[.int .u8 0],1⟩,
  ⟨9,.str,1,[.string ⟨#[]⟩],16⟩,
  ⟨22,.slice 83,1,[.slice none 0 0],24⟩,
  ⟨24,.struct [(0,1,false,22)],1,[.slice none 0 0],24⟩,
  ⟨26,.slice 2,1,[.slice none 0 0],24⟩,
  ⟨29,.slice 67,1,[.slice none 0 0],24⟩,
  ⟨31,.struct [(0,1,false,29)],1,[.slice none 0 0],24⟩,
  ⟨38,.slice 40,1,[.slice none 0 0],24⟩,
  ⟨40,.struct [(0,1,false,2),(1,1,false,2),(2,1,false,26),(3,1,false,38)],4,[.int .i64 0,.int .i64 0,.slice none 0 0,.slice none 0 0],64⟩,
  ⟨49,.ptr 31,1,[.pointer none],8⟩,
  ⟨50,.ptr 55,1,[.pointer none],8⟩,
  ⟨53,.slice 9,1,[.slice none 0 0],24⟩,
  ⟨55,.struct [(0,1,false,49),(1,1,false,2),(2,1,false,2),(3,1,false,26),(4,1,false,26),(5,1,false,53),(6,1,false,2)],7,[.pointer none,.int .i64 0,.int .i64 0,.slice none 0 0,.slice none 0 0,.slice none 0 0,.int .i64 0],104⟩,
  ⟨58,.ptr 62,1,[.pointer none],8⟩,
  ⟨62,.struct [(0,1,true,31),(1,1,false,2),(2,1,false,3),(3,1,false,26),(4,1,false,26),(5,1,false,53)],6,[.slice none 0 0,.int .i64 0,.int .i64 0,.slice none 0 0,.slice none 0 0,.slice none 0 0],112⟩,
  ⟨65,.slice 87,1,[.slice none 0 0],24⟩,
  ⟨67,.struct [(0,1,false,2),(1,1,false,2),(2,1,false,2),(3,1,false,26),(4,1,false,65)],5,[.int .i64 0,.int .i64 0,.int .i64 0,.slice none 0 0,.slice none 0 0],72⟩,
  ⟨71,.struct [(0,1,false,2),(1,1,false,2)],2,[.int .i64 0,.int .i64 0],16⟩,
  ⟨81,.slice 146,1,[.slice none 0 0],24⟩,
  ⟨83,.struct [(0,1,false,2),(1,1,false,2),(2,1,false,2),(3,1,false,26),(4,1,false,81)],5,[.int .i64 0,.int .i64 0,.int .i64 0,.slice none 0 0,.slice none 0 0],72⟩,
  ⟨85,.ptr 67,1,[.pointer none],8⟩,
  ⟨87,.struct [(0,1,false,2),(1,1,false,2)],2,[.int .i64 0,.int .i64 0],16⟩,
  ⟨89,.slice 26,1,[.slice none 0 0],24⟩,
  ⟨95,.ptr 150,1,[.pointer none],8⟩,
  ⟨97,.arr 9 95,9,[.pointer none,.pointer none,.pointer none,.pointer none,.pointer none,.pointer none,.pointer none,.pointer none,.pointer none],72⟩,
  ⟨100,.slice 71,1,[.slice none 0 0],24⟩,
  ⟨110,.slice 119,1,[.slice none 0 0],24⟩,
  ⟨119,.struct [(0,1,false,2),(1,1,false,89)],2,[.int .i64 0,.slice none 0 0],32⟩,
  ⟨126,.ptr 135,1,[.pointer none],8⟩,
  ⟨130,.ptr 97,1,[.pointer none],8⟩,
  ⟨135,.struct [(0,1,false,2),(1,9,true,97),(10,1,false,126)],11,[.int .i64 0,.pointer none,.pointer none,.pointer none,.pointer none,.pointer none,.pointer none,.pointer none,.pointer none,.pointer none,.pointer none],88⟩,
  ⟨144,.slice 5,1,[.slice none 0 0],24⟩,
  ⟨146,.struct [(0,1,false,2),(1,1,false,2)],2,[.int .i64 0,.int .i64 0],16⟩,
  ⟨150,.struct [(0,1,false,2),(1,1,false,95)],2,[.int .i64 0,.pointer none],16⟩,
  ⟨165,.int .u64,1,[.int .u64 0],8⟩,
  ⟨173,.int .u32,1,[.int .u32 0],4⟩,
  ⟨176,.int .u64,1,[.int .u64 0],8⟩]

def zerosOk (P:Program):TT→Prop
  | []=>True
  | i::r=>(P.info? i.id).map (fun j=>j.zero.map (fun v=>v.cells.toList))=some (some i.zero)∧zerosOk P r

theorem z78 {P:Program}:∀ {T:TT},zerosOk P T→∀ i,i∈T→(P.info? i.id).map (fun j=>j.zero.map (fun v=>v.cells.toList))=some (some i.zero)
  | [],_,i,h=>by cases h
  | _::_,⟨h1,h2⟩,i,h=>by
    rcases List.mem_cons.1 h with rfl | h
    · exact h1
    · exact z78 h2 i h

theorem zdg:tt.all (infoOk Tryz.prog)=true:=by kernel_rfl
theorem zbK:zerosOk Tryz.prog tt:=⟨by kernel_rfl,by kernel_rfl,by kernel_rfl,by kernel_rfl,by kernel_rfl,by kernel_rfl,by kernel_rfl,by kernel_rfl,by kernel_rfl,by kernel_rfl,by kernel_rfl,by kernel_rfl,by kernel_rfl,by kernel_rfl,by kernel_rfl,by kernel_rfl,by kernel_rfl,by kernel_rfl,by kernel_rfl,by kernel_rfl,by kernel_rfl,by kernel_rfl,by kernel_rfl,by kernel_rfl,by kernel_rfl,by kernel_rfl,by kernel_rfl,by kernel_rfl,by kernel_rfl,by kernel_rfl,by kernel_rfl,by kernel_rfl,by kernel_rfl,by kernel_rfl,by kernel_rfl,by kernel_rfl,by kernel_rfl,by kernel_rfl,by kernel_rfl,by kernel_rfl,trivial⟩
theorem ttok:TTok Tryz.prog tt:=⟨List.all_eq_true.1 zdg,z78 zbK⟩
theorem mixed:Tryz.prog.follows .mixedOrders=true:=by kernel_rfl

structure D.Port where
  Agent:Int
  Slot:Int
deriving Inhabited, DecidableEq

structure D.Agent where
  Kind:Int
  Level:Int
  Value:Int
  Data:(List Int)
  Ports:(List D.Port)
deriving Inhabited, DecidableEq

structure D.Net where
  Agents:(List D.Agent)
deriving Inhabited, DecidableEq

structure D.Core where
  Kind:Int
  Value:Int
  Data:(List Int)
  Kids:(List D.Core)
deriving Inhabited

structure D.l16Walk where
  n:D.Net
  steps:Int
  nodes:Int
  entered:(List Int)
  origins:(List Int)
  labels:(List ByteArray)
  code:Int
deriving Inhabited, DecidableEq

structure D.reading where
  Net:D.Net
  entered:Int
  nodes:Int
  origins:(List Int)
  times:(List Int)
  labels:(List ByteArray)
deriving Inhabited, DecidableEq

structure D.l16Binder where
  agent:Int
  stacks:(List (List Int))
deriving Inhabited, DecidableEq


def ty26:Ty (List Int):=tSl 2 tInt
instance {W:Base}:Reads W ty26:=inferInstanceAs (Reads W (tSl 2 tInt))
theorem z4K {w:World}{cs:List Value}{xs:(List Int)}(h:ty26.ro w cs xs):∃ A c,cs=[.slice A xs.length c]:=slForm h

def zac:Ty D.Port:=tMap (fun c=>(c.Agent,c.Slot,())) (tPair tInt (tPair tInt tUnit))
instance {W:Base}:Reads W zac:=inferInstanceAs (Reads W (tMap (fun c:D.Port=>(c.Agent,c.Slot,())) (tPair tInt (tPair tInt tUnit))))
theorem z7P {w:World}{cs:List Value}{c:D.Port}(h:zac.ro w cs c):cs=[.int .i64 c.Agent,.int .i64 c.Slot]:=by
  obtain⟨c0,d0,rfl,h0,c1,d1,rfl,h1,hz⟩:=h
  subst hz
  subst h0
  subst h1
  rfl
def ty81:Ty (List D.Port):=tSl 146 zac
instance {W:Base}:Reads W ty81:=inferInstanceAs (Reads W (tSl 146 zac))
theorem zaJ {w:World}{cs:List Value}{xs:(List D.Port)}(h:ty81.ro w cs xs):∃ A c,cs=[.slice A xs.length c]:=slForm h

def ty83:Ty D.Agent:=tMap (fun c=>(c.Kind,c.Level,c.Value,c.Data,c.Ports,())) (tPair tInt (tPair tInt (tPair tInt (tPair ty26 (tPair ty81 tUnit)))))
instance {W:Base}:Reads W ty83:=inferInstanceAs (Reads W (tMap (fun c:D.Agent=>(c.Kind,c.Level,c.Value,c.Data,c.Ports,())) (tPair tInt (tPair tInt (tPair tInt (tPair ty26 (tPair ty81 tUnit)))))))
theorem z6h {w:World}{cs:List Value}{c:D.Agent}(h:ty83.ro w cs c):∃ A0 k0 A1 k1,cs=[.int .i64 c.Kind,.int .i64 c.Level,.int .i64 c.Value,.slice A0 c.Data.length k0,.slice A1 c.Ports.length k1]∧ty26.ro w [.slice A0 c.Data.length k0] c.Data∧ty81.ro w [.slice A1 c.Ports.length k1] c.Ports:=by
  obtain⟨c0,d0,rfl,h0,c1,d1,rfl,h1,c2,d2,rfl,h2,c3,d3,rfl,h3,c4,d4,rfl,h4,hz⟩:=h
  subst hz
  subst h0
  subst h1
  subst h2
  obtain⟨b,o,e3⟩:=z4K h3
  subst e3
  obtain⟨d,y,e4⟩:=zaJ h4
  subst e4
  exact⟨b,o,d,y,rfl,h3,h4⟩
def ty22:Ty (List D.Agent):=tSl 83 ty83
instance {W:Base}:Reads W ty22:=inferInstanceAs (Reads W (tSl 83 ty83))
theorem zaR {w:World}{cs:List Value}{xs:(List D.Agent)}(h:ty22.ro w cs xs):∃ A c,cs=[.slice A xs.length c]:=slForm h

def ty24:Ty D.Net:=tMap (fun c=>(c.Agents,())) (tPair ty22 tUnit)
instance {W:Base}:Reads W ty24:=inferInstanceAs (Reads W (tMap (fun c:D.Net=>(c.Agents,())) (tPair ty22 tUnit)))
theorem z7a {w:World}{cs:List Value}{c:D.Net}(h:ty24.ro w cs c):∃ A0 k0,cs=[.slice A0 c.Agents.length k0]∧ty22.ro w [.slice A0 c.Agents.length k0] c.Agents:=by
  obtain⟨c0,d0,rfl,h0,hz⟩:=h
  subst hz
  obtain⟨b,d,e0⟩:=zaR h0
  subst e0
  exact⟨b,d,rfl,h0⟩
def ty87:Ty D.Port:=tMap (fun c=>(c.Agent,c.Slot,())) (tPair tInt (tPair tInt tUnit))
instance {W:Base}:Reads W ty87:=inferInstanceAs (Reads W (tMap (fun c:D.Port=>(c.Agent,c.Slot,())) (tPair tInt (tPair tInt tUnit))))
theorem zV {w:World}{cs:List Value}{c:D.Port}(h:ty87.ro w cs c):cs=[.int .i64 c.Agent,.int .i64 c.Slot]:=by
  obtain⟨c0,d0,rfl,h0,c1,d1,rfl,h1,hz⟩:=h
  subst hz
  subst h0
  subst h1
  rfl
theorem z1B {w:World}(c:D.Port)  :ty87.ro w [.int .i64 c.Agent,.int .i64 c.Slot] c:=
  ⟨_,_,rfl,rfl,⟨_,_,rfl,rfl,rfl⟩⟩
theorem z9F {w:World}{cs:List Value}{c:D.Port}{G:List Nat}(h:ty87.own w cs c G):cs=[.int .i64 c.Agent,.int .i64 c.Slot]∧(All []).A w G:=by
  obtain⟨c0,d0,H0,K0,rfl,rfl,h0,c1,d1,H1,K1,rfl,rfl,h1,hz,hk⟩:=h
  subst hz;subst hk
  obtain⟨e0,k0⟩:=h0;subst e0;subst k0
  obtain⟨e1,k1⟩:=h1;subst e1;subst k1
  refine⟨rfl,?_⟩
  show(All _).A w _
  exact cast (congrArg _ (by simp)) (show(All _).A w ([]) from rfl)
theorem z79 {w:World}{c:D.Port}  {G:List Nat}(h:(All []).A w G):ty87.own w [.int .i64 c.Agent,.int .i64 c.Slot] c G:=by
  have hz:G=[]:=h
  subst hz
  exact cast (congrArg _ (by simp)) (show ty87.own w [.int .i64 c.Agent,.int .i64 c.Slot] c (_) from⟨_,_,_,_,rfl,rfl,⟨rfl,rfl⟩,⟨_,_,_,_,rfl,rfl,⟨rfl,rfl⟩,⟨rfl,rfl⟩⟩⟩)
theorem za8 {W:Base}{w:World}{B:List Res}{cs:List Value}{c:D.Port}(h:St W w (Own ty87 cs c::B)):cs=[.int .i64 c.Agent,.int .i64 c.Slot]∧St W w ([]++B):=by
  obtain⟨G,hA,_⟩:=h.sep.head
  obtain⟨rfl,_⟩:=z9F hA
  refine⟨rfl,St.splitAll (h.conv fun G hG=>?_)⟩
  exact(z9F hG).2
theorem z7N {W:Base}{w:World}{B:List Res}{c:D.Port}  (h:St W w ([]++B)):St W w (Own ty87 [.int .i64 c.Agent,.int .i64 c.Slot] c::B):=(St.fuseAll h).conv fun _ hG=>z79 hG

def ty65:Ty (List D.Port):=tSl 87 ty87
instance {W:Base}:Reads W ty65:=inferInstanceAs (Reads W (tSl 87 ty87))
theorem zaL {w:World}{cs:List Value}{xs:(List D.Port)}(h:ty65.ro w cs xs):∃ A c,cs=[.slice A xs.length c]:=slForm h

def ty67:Ty D.Agent:=tMap (fun c=>(c.Kind,c.Level,c.Value,c.Data,c.Ports,())) (tPair tInt (tPair tInt (tPair tInt (tPair ty26 (tPair ty65 tUnit)))))
instance {W:Base}:Reads W ty67:=inferInstanceAs (Reads W (tMap (fun c:D.Agent=>(c.Kind,c.Level,c.Value,c.Data,c.Ports,())) (tPair tInt (tPair tInt (tPair tInt (tPair ty26 (tPair ty65 tUnit)))))))
theorem zB {w:World}{cs:List Value}{c:D.Agent}(h:ty67.ro w cs c):∃ A0 k0 A1 k1,cs=[.int .i64 c.Kind,.int .i64 c.Level,.int .i64 c.Value,.slice A0 c.Data.length k0,.slice A1 c.Ports.length k1]∧ty26.ro w [.slice A0 c.Data.length k0] c.Data∧ty65.ro w [.slice A1 c.Ports.length k1] c.Ports:=by
  obtain⟨c0,d0,rfl,h0,c1,d1,rfl,h1,c2,d2,rfl,h2,c3,d3,rfl,h3,c4,d4,rfl,h4,hz⟩:=h
  subst hz
  subst h0
  subst h1
  subst h2
  obtain⟨b,o,e3⟩:=z4K h3
  subst e3
  obtain⟨d,y,e4⟩:=zaL h4
  subst e4
  exact⟨b,o,d,y,rfl,h3,h4⟩
theorem zaK {w:World}(c:D.Agent){A0:Option Addr}{k0:Nat}{A1:Option Addr}{k1:Nat}(h0:ty26.ro w [.slice A0 c.Data.length k0] c.Data) (h1:ty65.ro w [.slice A1 c.Ports.length k1] c.Ports):ty67.ro w [.int .i64 c.Kind,.int .i64 c.Level,.int .i64 c.Value,.slice A0 c.Data.length k0,.slice A1 c.Ports.length k1] c:=
  ⟨_,_,rfl,rfl,⟨_,_,rfl,rfl,⟨_,_,rfl,rfl,⟨_,_,rfl,h0,⟨_,_,rfl,h1,rfl⟩⟩⟩⟩⟩
theorem z9G {w:World}{cs:List Value}{c:D.Agent}{G:List Nat}(h:ty67.own w cs c G):∃ A0 k0 A1 k1,cs=[.int .i64 c.Kind,.int .i64 c.Level,.int .i64 c.Value,.slice A0 c.Data.length k0,.slice A1 c.Ports.length k1]∧(All [Own ty26 [.slice A0 c.Data.length k0] c.Data,Own ty65 [.slice A1 c.Ports.length k1] c.Ports]).A w G:=by
  obtain⟨c0,d0,H0,K0,rfl,rfl,h0,c1,d1,H1,K1,rfl,rfl,h1,c2,d2,H2,K2,rfl,rfl,h2,c3,d3,H3,K3,rfl,rfl,h3,c4,d4,H4,K4,rfl,rfl,h4,hz,hk⟩:=h
  subst hz;subst hk
  obtain⟨e0,k0⟩:=h0;subst e0;subst k0
  obtain⟨e1,k1⟩:=h1;subst e1;subst k1
  obtain⟨e2,k2⟩:=h2;subst e2;subst k2
  obtain⟨b,o,e3⟩:=slFormO h3
  subst e3
  obtain⟨d,y,e4⟩:=slFormO h4
  subst e4
  refine⟨b,o,d,y,rfl,?_⟩
  show(All _).A w _
  exact cast (congrArg _ (by simp)) (show(All _).A w (H3++(H4++([]))) from⟨_,_,rfl,h3,⟨_,_,rfl,h4,rfl⟩⟩)
theorem z8D {w:World}{c:D.Agent}{A0:Option Addr}{k0:Nat}{A1:Option Addr}{k1:Nat}{G:List Nat}(h:(All [Own ty26 [.slice A0 c.Data.length k0] c.Data,Own ty65 [.slice A1 c.Ports.length k1] c.Ports]).A w G):ty67.own w [.int .i64 c.Kind,.int .i64 c.Level,.int .i64 c.Value,.slice A0 c.Data.length k0,.slice A1 c.Ports.length k1] c G:=by
  obtain⟨G0,R0,rfl,h0,G1,R1,rfl,h1,hz⟩:=h
  have hz':R1=[]:=hz
  subst hz'
  exact cast (congrArg _ (by simp)) (show ty67.own w [.int .i64 c.Kind,.int .i64 c.Level,.int .i64 c.Value,.slice A0 c.Data.length k0,.slice A1 c.Ports.length k1] c (_) from⟨_,_,_,_,rfl,rfl,⟨rfl,rfl⟩,⟨_,_,_,_,rfl,rfl,⟨rfl,rfl⟩,⟨_,_,_,_,rfl,rfl,⟨rfl,rfl⟩,⟨_,_,_,_,rfl,rfl,h0,⟨_,_,_,_,rfl,rfl,h1,⟨rfl,rfl⟩⟩⟩⟩⟩⟩)
theorem za9 {W:Base}{w:World}{B:List Res}{cs:List Value}{c:D.Agent}(h:St W w (Own ty67 cs c::B)):∃ A0 k0 A1 k1,cs=[.int .i64 c.Kind,.int .i64 c.Level,.int .i64 c.Value,.slice A0 c.Data.length k0,.slice A1 c.Ports.length k1]∧St W w ([Own ty26 [.slice A0 c.Data.length k0] c.Data,Own ty65 [.slice A1 c.Ports.length k1] c.Ports]++B):=by
  obtain⟨G,hA,_⟩:=h.sep.head
  obtain⟨A0,k0,A1,k1,rfl,_⟩:=z9G hA
  refine⟨A0,k0,A1,k1,rfl,St.splitAll (h.conv fun G hG=>?_)⟩
  obtain⟨X0,Y0,X1,Y1,he,hh⟩:=z9G hG
  simp only [List.cons.injEq,Value.slice.injEq,and_true,true_and] at he
  obtain⟨⟨rfl,rfl⟩,⟨rfl,rfl⟩⟩:=he
  exact hh
theorem z7O {W:Base}{w:World}{B:List Res}{c:D.Agent}{A0:Option Addr}{k0:Nat}{A1:Option Addr}{k1:Nat}(h:St W w ([Own ty26 [.slice A0 c.Data.length k0] c.Data,Own ty65 [.slice A1 c.Ports.length k1] c.Ports]++B)):St W w (Own ty67 [.int .i64 c.Kind,.int .i64 c.Level,.int .i64 c.Value,.slice A0 c.Data.length k0,.slice A1 c.Ports.length k1] c::B):=(St.fuseAll h).conv fun _ hG=>z8D hG

def ty29:Ty (List D.Agent):=tSl 67 ty67
instance {W:Base}:Reads W ty29:=inferInstanceAs (Reads W (tSl 67 ty67))
theorem zaQ {w:World}{cs:List Value}{xs:(List D.Agent)}(h:ty29.ro w cs xs):∃ A c,cs=[.slice A xs.length c]:=slForm h

def ty31:Ty D.Net:=tMap (fun c=>(c.Agents,())) (tPair ty29 tUnit)
instance {W:Base}:Reads W ty31:=inferInstanceAs (Reads W (tMap (fun c:D.Net=>(c.Agents,())) (tPair ty29 tUnit)))
theorem z1C {w:World}{cs:List Value}{c:D.Net}(h:ty31.ro w cs c):∃ A0 k0,cs=[.slice A0 c.Agents.length k0]∧ty29.ro w [.slice A0 c.Agents.length k0] c.Agents:=by
  obtain⟨c0,d0,rfl,h0,hz⟩:=h
  subst hz
  obtain⟨b,d,e0⟩:=zaQ h0
  subst e0
  exact⟨b,d,rfl,h0⟩
theorem z3Z {w:World}(c:D.Net){A0:Option Addr}{k0:Nat}(h0:ty29.ro w [.slice A0 c.Agents.length k0] c.Agents):ty31.ro w [.slice A0 c.Agents.length k0] c:=
  ⟨_,_,rfl,h0,rfl⟩
def zab:Step D.Core 4 where
  f:=fun T=>tMap (fun c=>(c.Kind,c.Value,c.Data,c.Kids,())) (tPair tInt (tPair tInt (tPair ty26 (tPair (tSl 40 T) tUnit))))
  size:=fun _=>rfl
  mono:=fun hs h=>zcY (z6Y (Ty.Le.refl _) (z6Y (Ty.Le.refl _) (z6Y (Ty.Le.refl _) (z6Y (zdh h hs) (Ty.Le.refl _)))))
  req:=fun h w=>⟨trivial,trivial,trivial,h w,trivial⟩
def ty40:Ty D.Core:=tRec zab
instance {W:Base}:Reads W ty40:=inferInstanceAs (Reads W (tRec zab))
def ty38:Ty (List D.Core):=tSl 40 ty40
instance {W:Base}:Reads W ty38:=inferInstanceAs (Reads W (tSl 40 ty40))
theorem zaP {w:World}{cs:List Value}{xs:(List D.Core)}(h:ty38.ro w cs xs):∃ A c,cs=[.slice A xs.length c]:=slForm h
theorem z4o {w:World}{cs:List Value}{c:D.Core}(h:ty40.ro w cs c):∃ A0 k0 A1 k1,cs=[.int .i64 c.Kind,.int .i64 c.Value,.slice A0 c.Data.length k0,.slice A1 c.Kids.length k1]∧ty26.ro w [.slice A0 c.Data.length k0] c.Data∧ty38.ro w [.slice A1 c.Kids.length k1] c.Kids:=by
  replace h:=zab.unfold_ro h
  obtain⟨c0,d0,rfl,h0,c1,d1,rfl,h1,c2,d2,rfl,h2,c3,d3,rfl,h3,hz⟩:=h
  subst hz
  subst h0
  subst h1
  obtain⟨b,o,e2⟩:=z4K h2
  subst e2
  obtain⟨d,y,e3⟩:=zaP h3
  subst e3
  exact⟨b,o,d,y,rfl,h2,h3⟩
theorem z4J {w:World}(c:D.Core){A0:Option Addr}{k0:Nat}{A1:Option Addr}{k1:Nat}(h0:ty26.ro w [.slice A0 c.Data.length k0] c.Data) (h1:ty38.ro w [.slice A1 c.Kids.length k1] c.Kids):ty40.ro w [.int .i64 c.Kind,.int .i64 c.Value,.slice A0 c.Data.length k0,.slice A1 c.Kids.length k1] c:=
 by
  obtain⟨k9,h1⟩:=zab.sl_ro h1
  exact⟨k9+1,⟨_,_,rfl,rfl,⟨_,_,rfl,rfl,⟨_,_,rfl,h0,⟨_,_,rfl,h1,rfl⟩⟩⟩⟩⟩
theorem z9H {w:World}{cs:List Value}{c:D.Core}{G:List Nat}(h:ty40.own w cs c G):∃ A0 k0 A1 k1,cs=[.int .i64 c.Kind,.int .i64 c.Value,.slice A0 c.Data.length k0,.slice A1 c.Kids.length k1]∧(All [Own ty26 [.slice A0 c.Data.length k0] c.Data,Own ty38 [.slice A1 c.Kids.length k1] c.Kids]).A w G:=by
  replace h:=zab.unfold_own h
  obtain⟨c0,d0,H0,K0,rfl,rfl,h0,c1,d1,H1,K1,rfl,rfl,h1,c2,d2,H2,K2,rfl,rfl,h2,c3,d3,H3,K3,rfl,rfl,h3,hz,hk⟩:=h
  subst hz;subst hk
  obtain⟨e0,k0⟩:=h0;subst e0;subst k0
  obtain⟨e1,k1⟩:=h1;subst e1;subst k1
  obtain⟨b,o,e2⟩:=slFormO h2
  subst e2
  obtain⟨d,y,e3⟩:=slFormO h3
  subst e3
  refine⟨b,o,d,y,rfl,?_⟩
  show(All _).A w _
  exact cast (congrArg _ (by simp)) (show(All _).A w (H2++(H3++([]))) from⟨_,_,rfl,h2,⟨_,_,rfl,h3,rfl⟩⟩)
theorem zaO {w:World}{c:D.Core}{A0:Option Addr}{k0:Nat}{A1:Option Addr}{k1:Nat}{G:List Nat}(h:(All [Own ty26 [.slice A0 c.Data.length k0] c.Data,Own ty38 [.slice A1 c.Kids.length k1] c.Kids]).A w G):ty40.own w [.int .i64 c.Kind,.int .i64 c.Value,.slice A0 c.Data.length k0,.slice A1 c.Kids.length k1] c G:=by
  obtain⟨G0,R0,rfl,h0,G1,R1,rfl,h1,hz⟩:=h
  have hz':R1=[]:=hz
  subst hz'
  obtain⟨k9,h1⟩:=zab.sl_own h1
  exact cast (congrArg _ (by simp)) (show ty40.own w [.int .i64 c.Kind,.int .i64 c.Value,.slice A0 c.Data.length k0,.slice A1 c.Kids.length k1] c (_) from⟨k9+1,⟨_,_,_,_,rfl,rfl,⟨rfl,rfl⟩,⟨_,_,_,_,rfl,rfl,⟨rfl,rfl⟩,⟨_,_,_,_,rfl,rfl,h0,⟨_,_,_,_,rfl,rfl,h1,⟨rfl,rfl⟩⟩⟩⟩⟩⟩)
theorem zaa {W:Base}{w:World}{B:List Res}{cs:List Value}{c:D.Core}(h:St W w (Own ty40 cs c::B)):∃ A0 k0 A1 k1,cs=[.int .i64 c.Kind,.int .i64 c.Value,.slice A0 c.Data.length k0,.slice A1 c.Kids.length k1]∧St W w ([Own ty26 [.slice A0 c.Data.length k0] c.Data,Own ty38 [.slice A1 c.Kids.length k1] c.Kids]++B):=by
  obtain⟨G,hA,_⟩:=h.sep.head
  obtain⟨A0,k0,A1,k1,rfl,_⟩:=z9H hA
  refine⟨A0,k0,A1,k1,rfl,St.splitAll (h.conv fun G hG=>?_)⟩
  obtain⟨X0,Y0,X1,Y1,he,hh⟩:=z9H hG
  simp only [List.cons.injEq,Value.slice.injEq,and_true,true_and] at he
  obtain⟨⟨rfl,rfl⟩,⟨rfl,rfl⟩⟩:=he
  exact hh
theorem z4z {W:Base}{w:World}{B:List Res}{c:D.Core}{A0:Option Addr}{k0:Nat}{A1:Option Addr}{k1:Nat}(h:St W w ([Own ty26 [.slice A0 c.Data.length k0] c.Data,Own ty38 [.slice A1 c.Kids.length k1] c.Kids]++B)):St W w (Own ty40 [.int .i64 c.Kind,.int .i64 c.Value,.slice A0 c.Data.length k0,.slice A1 c.Kids.length k1] c::B):=(St.fuseAll h).conv fun _ hG=>zaO hG

def ty53:Ty (List ByteArray):=tSl 9 tStr
instance {W:Base}:Reads W ty53:=inferInstanceAs (Reads W (tSl 9 tStr))
theorem zaN {w:World}{cs:List Value}{xs:(List ByteArray)}(h:ty53.ro w cs xs):∃ A c,cs=[.slice A xs.length c]:=slForm h

def ty62:Ty D.reading:=tMap (fun c=>(c.Net,c.entered,c.nodes,c.origins,c.times,c.labels,())) (tPair ty31 (tPair tInt (tPair tInt (tPair ty26 (tPair ty26 (tPair ty53 tUnit))))))
instance {W:Base}:Reads W ty62:=inferInstanceAs (Reads W (tMap (fun c:D.reading=>(c.Net,c.entered,c.nodes,c.origins,c.times,c.labels,())) (tPair ty31 (tPair tInt (tPair tInt (tPair ty26 (tPair ty26 (tPair ty53 tUnit))))))))
theorem z8E {w:World}{cs:List Value}{c:D.reading}(h:ty62.ro w cs c):∃ A0 k0 A1 k1 A2 k2 A3 k3,cs=[.slice A0 c.Net.Agents.length k0,.int .i64 c.entered,.int .i64 c.nodes,.slice A1 c.origins.length k1,.slice A2 c.times.length k2,.slice A3 c.labels.length k3]∧ty29.ro w [.slice A0 c.Net.Agents.length k0] c.Net.Agents∧ty26.ro w [.slice A1 c.origins.length k1] c.origins∧ty26.ro w [.slice A2 c.times.length k2] c.times∧ty53.ro w [.slice A3 c.labels.length k3] c.labels:=by
  obtain⟨c0,d0,rfl,h0,c1,d1,rfl,h1,c2,d2,rfl,h2,c3,d3,rfl,h3,c4,d4,rfl,h4,c5,d5,rfl,h5,hz⟩:=h
  subst hz
  obtain⟨b,o,e0,d⟩:=z1C h0
  subst e0
  subst h1
  subst h2
  obtain⟨y,O,e3⟩:=z4K h3
  subst e3
  obtain⟨G,Y,e4⟩:=z4K h4
  subst e4
  obtain⟨H,a0,e5⟩:=zaN h5
  subst e5
  exact⟨b,o,y,O,G,Y,H,a0,rfl,d,h3,h4,h5⟩
theorem zaM {w:World}(c:D.reading){A0:Option Addr}{k0:Nat}{A1:Option Addr}{k1:Nat}{A2:Option Addr}{k2:Nat}{A3:Option Addr}{k3:Nat}(h0:ty29.ro w [.slice A0 c.Net.Agents.length k0] c.Net.Agents) (h1:ty26.ro w [.slice A1 c.origins.length k1] c.origins) (h2:ty26.ro w [.slice A2 c.times.length k2] c.times) (h3:ty53.ro w [.slice A3 c.labels.length k3] c.labels):ty62.ro w [.slice A0 c.Net.Agents.length k0,.int .i64 c.entered,.int .i64 c.nodes,.slice A1 c.origins.length k1,.slice A2 c.times.length k2,.slice A3 c.labels.length k3] c:=
  ⟨_,_,rfl,(z3Z c.Net h0),⟨_,_,rfl,rfl,⟨_,_,rfl,rfl,⟨_,_,rfl,h1,⟨_,_,rfl,h2,⟨_,_,rfl,h3,rfl⟩⟩⟩⟩⟩⟩
def ty89:Ty (List (List Int)):=tSl 26 ty26
instance {W:Base}:Reads W ty89:=inferInstanceAs (Reads W (tSl 26 ty26))
theorem zaH {w:World}{cs:List Value}{xs:(List (List Int))}(h:ty89.ro w cs xs):∃ A c,cs=[.slice A xs.length c]:=slForm h

def zae:Ty D.l16Binder:=tMap (fun c=>(c.agent,c.stacks,())) (tPair tInt (tPair ty89 tUnit))
instance {W:Base}:Reads W zae:=inferInstanceAs (Reads W (tMap (fun c:D.l16Binder=>(c.agent,c.stacks,())) (tPair tInt (tPair ty89 tUnit))))
theorem z7Q {w:World}{cs:List Value}{c:D.l16Binder}(h:zae.ro w cs c):∃ A0 k0,cs=[.int .i64 c.agent,.slice A0 c.stacks.length k0]∧ty89.ro w [.slice A0 c.stacks.length k0] c.stacks:=by
  obtain⟨c0,d0,rfl,h0,c1,d1,rfl,h1,hz⟩:=h
  subst hz
  subst h0
  obtain⟨b,d,e1⟩:=zaH h1
  subst e1
  exact⟨b,d,rfl,h1⟩
def z2w:Ty (List D.l16Binder):=tSl 119 zae
instance {W:Base}:Reads W z2w:=inferInstanceAs (Reads W (tSl 119 zae))
def z88:Ty (List Int):=tSl 5 (tIntK .u8)
instance {W:Base}:Reads W z88:=inferInstanceAs (Reads W (tSl 5 (tIntK .u8)))
end Go.E


namespace Go.E
open Go.RowKit
set_option linter.unusedVariables false
set_option linter.unusedSimpArgs false

theorem Quiet.idxAddr {P:Program}{T:TT}(ht:TTok P T){n:Nat}{F:Fr}{α:Type}{U:Ty α}{g k ln:Nat}{o:Oper}{t e':Nat}{x ix:Operand}{i j:TI}
    {kd:IntKind}{m:Int}(ho:o.op=.indexAddr t x ix) (hi:T.get t=some i) (hd:i.d=.slice e') (hj:T.get e'=some j) (hs:U.size=j.size) (hx:F.ev x=some (.slice (some ⟨g,0,none⟩) ln k)) (hm:F.ev ix=some (.int kd m))
    (h0:0≤m) (hlt:m.toNat<ln) (w:Base):Quiet P n F w o (.pointer (some ⟨g,m.toNat*U.size,none⟩)):=fun a w' ha _=>by
  unfold execOp
  rw [ho]
  have hmm:m<ln:=by omega
  simp [ha.ev hx,ha.ev hm,Instr.indexAt,asIntOf,Go.underlying,ht.slice hi hd,h0,hmm,ht.sizeOf hj,z8B,hs]

section
variable {P:Program}{n:Nat}{Q:Post}{F:Fr}{W:Base}{w w0 w1:World}{W9:Base}{ops:List Oper}{wm fuel kk mm:Nat}{sk:List (List Nat × Nat)}{o:Oper}{T:TT}

theorem DM.idxHole (ht:TTok P T){α:Type}{U:Ty α}{A:Option Addr}{k ln:Nat}(hA:∃ g,A=some ⟨g,0,none⟩) (hsk:skOf ops=sk∧ops.length=kk) (ii m':Nat) (hmm:mm ||| 2 ^ ii=m') (hwi:wm.testBit ii=false) (hni:nthv ops ii=some o) (hf:freeM sk (2 ^ kk - 1) mm ii=true) (hg:guardOf ops F o=some true){t e':Nat}{x ix:Operand}{i j:TI}
    {kd:IntKind}{m:Int}(ho:o.op=.indexAddr t x ix) (hi:T.get t=some i) (hd:i.d=.slice e') (hj:T.get e'=some j) (hs:U.size=j.size) (hx:F.ev x=some (.slice A ln k)) (hm:F.ev ix=some (.int kd m))
    (h0:0≤m) (hlt:m.toNat<ln){d:Nat}(hd':o.dst=some d) (hn:Nat.blt d n=true)
    (h:∀ q,ElAt U A m.toNat q→DM P n ops Q W9 w0 wm fuel kk m' ((d,.pointer (some q))::F) w):DM P n ops Q W9 w0 wm (fuel+1) kk mm F w:=by
  obtain⟨g,rfl⟩:=hA
  exact DM.quietP hsk ii m' hmm hwi hni hf hg (fun w=>Quiet.idxAddr ht ho hi hd hj hs hx hm h0 hlt w) hd' hn (h _ ⟨g,rfl,rfl⟩)

theorem DM.focus (ht:TTok P T){α:Type}{U:Ty α}{B:List Res}{e:Nat}{A:Option Addr}{k ln:Nat}{xs:List α}{a:α}(hS:St W w1 (Own (tSl e U) [.slice A ln k] xs::B)) (hsk:skOf ops=sk∧ops.length=kk) (ii m':Nat) (hmm:mm ||| 2 ^ ii=m') (hwi:wm.testBit ii=false) (hni:nthv ops ii=some o) (hf:freeM sk (2 ^ kk - 1) mm ii=true) (hg:guardOf ops F o=some true){t e':Nat}{x ix:Operand}{i j:TI}
    {kd:IntKind}{m:Int}(ho:o.op=.indexAddr t x ix) (hi:T.get t=some i) (hd:i.d=.slice e') (hj:T.get e'=some j) (hs:U.size=j.size) (hx:F.ev x=some (.slice A ln k)) (hm:F.ev ix=some (.int kd m))
    (h0:0≤m) (ha:xs[m.toNat]? = some a){d:Nat}(hd':o.dst=some d) (hn:Nat.blt d n=true)
    (h:∀ q es,ElAt U A m.toNat q→St W w1 (Hole U e (.slice A ln k) xs m.toNat es::Own U es a::B)→DM P n ops Q W w0 wm fuel kk m' ((d,.pointer (some q))::F) w):DM P n ops Q W w0 wm (fuel+1) kk mm F w:=by
  have hlt:=(List.getElem?_eq_some_iff.1 ha).1
  obtain⟨es,h1⟩:=hS.focusN ha
  have hl:=hS.lenEq
  exact DM.idxHole ht (U:=U) (hS.ownAddr hlt) hsk ii m' hmm hwi hni hf hg ho hi hd hj hs hx hm h0 (by omega) hd' hn fun q hq=>h q es hq h1

theorem DM.idxAgain (ht:TTok P T){α:Type}{U:Ty α}{B:List Res}{e:Nat}{A:Option Addr}{k ln:Nat}{xs:List α}{es:List Value}{m:Int}(hS:St W w1 (Hole U e (.slice A ln k) xs m.toNat es::B)) (hsk:skOf ops=sk∧ops.length=kk) (ii m':Nat) (hmm:mm ||| 2 ^ ii=m') (hwi:wm.testBit ii=false) (hni:nthv ops ii=some o) (hf:freeM sk (2 ^ kk - 1) mm ii=true) (hg:guardOf ops F o=some true){t e':Nat}{x ix:Operand}{i j:TI}
    {kd:IntKind}(ho:o.op=.indexAddr t x ix) (hi:T.get t=some i) (hd:i.d=.slice e') (hj:T.get e'=some j) (hs:U.size=j.size) (hx:F.ev x=some (.slice A ln k)) (hm:F.ev ix=some (.int kd m))
    (h0:0≤m){d:Nat}(hd':o.dst=some d) (hn:Nat.blt d n=true)
    (h:∀ q,ElAt U A m.toNat q→DM P n ops Q W w0 wm fuel kk m' ((d,.pointer (some q))::F) w):DM P n ops Q W w0 wm (fuel+1) kk mm F w:=by
  obtain⟨hl,hlt,hA⟩:=hS.hole_len
  exact DM.idxHole ht (U:=U) hA hsk ii m' hmm hwi hni hf hg ho hi hd hj hs hx hm h0 (by omega) hd' hn h

theorem DM.idxOwnN (ht:TTok P T){α:Type}{U:Ty α}{B:List Res}{e:Nat}{A:Option Addr}{k ln:Nat}{xs:List α}(hS:St W w1 (Own (tSl e U) [.slice A ln k] xs::B)) (hsk:skOf ops=sk∧ops.length=kk) (ii m':Nat) (hmm:mm ||| 2 ^ ii=m') (hwi:wm.testBit ii=false) (hni:nthv ops ii=some o) (hf:freeM sk (2 ^ kk - 1) mm ii=true) (hg:guardOf ops F o=some true){t e':Nat}{x ix:Operand}{i j:TI}
    {kd:IntKind}{m:Int}(ho:o.op=.indexAddr t x ix) (hi:T.get t=some i) (hd:i.d=.slice e') (hj:T.get e'=some j) (hs:U.size=j.size) (hx:F.ev x=some (.slice A ln k)) (hm:F.ev ix=some (.int kd m))
    (h0:0≤m) (hlt:m.toNat<xs.length){d:Nat}(hd':o.dst=some d) (hn:Nat.blt d n=true)
    (h:∀ q,(∃ g,A=some ⟨g,0,none⟩∧q=⟨g,m.toNat*U.size,none⟩)→DM P n ops Q W w0 wm fuel kk m' ((d,.pointer (some q))::F) w):DM P n ops Q W w0 wm (fuel+1) kk mm F w:=by
  have hl:=hS.lenEq
  exact DM.idxHole ht (U:=U) (hS.ownAddr hlt) hsk ii m' hmm hwi hni hf hg ho hi hd hj hs hx hm h0 (by omega) hd' hn h


theorem LM.idxHole (ht:TTok P T){α:Type}{U:Ty α}{A:Option Addr}{k ln:Nat}(hA:∃ g,A=some ⟨g,0,none⟩) (hsk:skOf ops=sk∧ops.length=kk){ii:Nat}(m':Nat) (hm':mm ||| 2 ^ ii=m') (hwi:wm.testBit ii=false) (hni:nthv ops ii=some o) (hg:guardOf ops F o=some true){t e':Nat}{x ix:Operand}{i j:TI}
    {kd:IntKind}{m:Int}(ho:o.op=.indexAddr t x ix) (hi:T.get t=some i) (hd:i.d=.slice e') (hj:T.get e'=some j) (hs:U.size=j.size) (hx:F.ev x=some (.slice A ln k)) (hm:F.ev ix=some (.int kd m))
    (h0:0≤m) (hlt:m.toNat<ln){d:Nat}(hd':o.dst=some d) (hn:Nat.blt d n=true)
    (h:∀ q,ElAt U A m.toNat q→DM P n ops Q W9 w0 wm fuel kk m' ((d,.pointer (some q))::F) w):LM P n ops Q W9 w0 wm fuel kk mm ii F w:=by
  obtain⟨g,rfl⟩:=hA
  exact LM.quietL hsk m' hm' hwi hni hg (Quiet.idxAddr ht ho hi hd hj hs hx hm h0 hlt w) hd' hn (h _ ⟨g,rfl,rfl⟩)

theorem LM.focus (ht:TTok P T){α:Type}{U:Ty α}{B:List Res}{e:Nat}{A:Option Addr}{k ln:Nat}{xs:List α}{a:α}(hS:St W w1 (Own (tSl e U) [.slice A ln k] xs::B)) (hsk:skOf ops=sk∧ops.length=kk){ii:Nat}(m':Nat) (hm':mm ||| 2 ^ ii=m') (hwi:wm.testBit ii=false) (hni:nthv ops ii=some o) (hg:guardOf ops F o=some true){t e':Nat}{x ix:Operand}{i j:TI}
    {kd:IntKind}{m:Int}(ho:o.op=.indexAddr t x ix) (hi:T.get t=some i) (hd:i.d=.slice e') (hj:T.get e'=some j) (hs:U.size=j.size) (hx:F.ev x=some (.slice A ln k)) (hm:F.ev ix=some (.int kd m))
    (h0:0≤m) (ha:xs[m.toNat]? = some a){d:Nat}(hd':o.dst=some d) (hn:Nat.blt d n=true)
    (h:∀ q es,ElAt U A m.toNat q→St W w1 (Hole U e (.slice A ln k) xs m.toNat es::Own U es a::B)→DM P n ops Q W w0 wm fuel kk m' ((d,.pointer (some q))::F) w):LM P n ops Q W w0 wm fuel kk mm ii F w:=by
  have hlt:=(List.getElem?_eq_some_iff.1 ha).1
  obtain⟨es,h1⟩:=hS.focusN ha
  have hl:=hS.lenEq
  exact LM.idxHole ht (U:=U) (hS.ownAddr hlt) hsk m' hm' hwi hni hg ho hi hd hj hs hx hm h0 (by omega) hd' hn fun q hq=>h q es hq h1

theorem LM.idxAgain (ht:TTok P T){α:Type}{U:Ty α}{B:List Res}{e:Nat}{A:Option Addr}{k ln:Nat}{xs:List α}{es:List Value}{m:Int}(hS:St W w1 (Hole U e (.slice A ln k) xs m.toNat es::B)) (hsk:skOf ops=sk∧ops.length=kk){ii:Nat}(m':Nat) (hm':mm ||| 2 ^ ii=m') (hwi:wm.testBit ii=false) (hni:nthv ops ii=some o) (hg:guardOf ops F o=some true){t e':Nat}{x ix:Operand}{i j:TI}
    {kd:IntKind}(ho:o.op=.indexAddr t x ix) (hi:T.get t=some i) (hd:i.d=.slice e') (hj:T.get e'=some j) (hs:U.size=j.size) (hx:F.ev x=some (.slice A ln k)) (hm:F.ev ix=some (.int kd m))
    (h0:0≤m){d:Nat}(hd':o.dst=some d) (hn:Nat.blt d n=true)
    (h:∀ q,ElAt U A m.toNat q→DM P n ops Q W w0 wm fuel kk m' ((d,.pointer (some q))::F) w):LM P n ops Q W w0 wm fuel kk mm ii F w:=by
  obtain⟨hl,hlt,hA⟩:=hS.hole_len
  exact LM.idxHole ht (U:=U) hA hsk m' hm' hwi hni hg ho hi hd hj hs hx hm h0 (by omega) hd' hn h

theorem LM.idxOwnN (ht:TTok P T){α:Type}{U:Ty α}{B:List Res}{e:Nat}{A:Option Addr}{k ln:Nat}{xs:List α}(hS:St W w1 (Own (tSl e U) [.slice A ln k] xs::B)) (hsk:skOf ops=sk∧ops.length=kk){ii:Nat}(m':Nat) (hm':mm ||| 2 ^ ii=m') (hwi:wm.testBit ii=false) (hni:nthv ops ii=some o) (hg:guardOf ops F o=some true){t e':Nat}{x ix:Operand}{i j:TI}
    {kd:IntKind}{m:Int}(ho:o.op=.indexAddr t x ix) (hi:T.get t=some i) (hd:i.d=.slice e') (hj:T.get e'=some j) (hs:U.size=j.size) (hx:F.ev x=some (.slice A ln k)) (hm:F.ev ix=some (.int kd m))
    (h0:0≤m) (hlt:m.toNat<xs.length){d:Nat}(hd':o.dst=some d) (hn:Nat.blt d n=true)
    (h:∀ q,(∃ g,A=some ⟨g,0,none⟩∧q=⟨g,m.toNat*U.size,none⟩)→DM P n ops Q W w0 wm fuel kk m' ((d,.pointer (some q))::F) w):LM P n ops Q W w0 wm fuel kk mm ii F w:=by
  have hl:=hS.lenEq
  exact LM.idxHole ht (U:=U) (hS.ownAddr hlt) hsk m' hm' hwi hni hg ho hi hd hj hs hx hm h0 (by omega) hd' hn h

theorem LM.storeElN (ht:TTok P T){α:Type}{U:Ty α}{B:List Res}{e:Nat}{A:Option Addr}{k ln:Nat}{xs:List α}{y:α}{es':List Value}(hS:St W w (Own (tSl e U) [.slice A ln k] xs::Own U es' y::B)) (hsk:skOf ops=sk∧ops.length=kk){ii:Nat}(m':Nat) (hm':mm ||| 2 ^ ii=m') (hwi:wm.testBit ii=true) (hni:nthv ops ii=some o) (hg:guardOf ops F o=some true)
    {t:Nat}{x yv:Operand}(ho:o.op=.store t x yv) (hd:o.dst=none){j:TI}(hj:T.get t=some j) (hs:U.size=j.size){q:Addr}(hx:F.ev x=some (.pointer (some q))){m:Nat}(hlt:m<xs.length)
    (hq:∃ g,A=some ⟨g,0,none⟩∧q=⟨g,m*U.size,none⟩){v:Value}(hy:F.ev yv=some v) (hc:cellsV v=es')
    (h:∀ (w':World),St W w' (Own (tSl e U) [.slice A ln k] (xs.set m y)::B)→DM P n ops Q W w0 wm fuel kk m' F w'):LM P n ops Q W w0 wm fuel kk mm ii F w:=by
  have hl:=hS.lenEq
  subst hl
  obtain⟨w',h1,h2⟩:=z7n (P:=P) ht hS hlt hq hj hs
  have h3:St W w' (Own (tSl e U) [.slice A xs.length k] (xs.set m y)::B):=by simpa using h2
  refine LM.unitW hsk m' hm' hwi hni hg (w':=w') (fun a ha=>?_) hd h3.ext (h w' h3)
  unfold execOp
  rw [ho]
  simp [ha.ev hx,ha.ev hy,Instr.storeAt,Instr.sureAddr,h1 v hc]

theorem z8j (ht:TTok P T){α:Type}{U:Ty α}{e:Nat}{A:Option Addr}{k m:Nat}{xs:List α}{es es':List Value}{B:List Res}(hS:St W w (Hole U e (.slice A xs.length k) xs m es::B)){q:Addr}(hq:ElAt U A m q)
    {t:Nat}{i:TI}(hi:T.get t=some i){q':Addr}(off:Nat) (hq':q'=q.add off){v:Value}(hl:Nat.beq (cellsV v).length i.size=true)
    (h1:oneCells (cellsV v)=true) (hs:setAt es off (cellsV v)=some es'):∃ w',(storeVar t q' v).run P w=.ok () w'∧St W w' (Hole U e (.slice A xs.length k) xs m es'::B):=by
  obtain⟨G,⟨g,cap,c1,c2,rst,G1,G2,hv,hh,a1,a2,a3,a4,a5,a6,k1,k2,hG⟩,_,hlo⟩:=hS.sep.head
  obtain⟨g',rfl,rfl⟩:=hq
  simp only [Value.slice.injEq,Option.some.injEq,Addr.mk.injEq,and_true,true_and] at hv
  obtain⟨rfl,rfl⟩:=hv
  have hset:=z5K (c1:=c1) (c2:=c2) (rest:=rst) hs
  rw [a4] at hset
  obtain⟨w',r1,r2,r3,r4,r5,r6,r7⟩:=z1e (P:=P) g' (m*U.size+off) e (cellsV v) 0 w _ ((c1++(es'++c2))++rst) h1 hh (by rw [Nat.add_zero];exact hset)
  have hge:W.fr g':=hlo g' (by rw [hG];simp)
  refine⟨w',?_,⟨r5.trans hS.ext.os,r6.trans hS.ext.tape,r7.trans hS.ext.output,by rw [r4];exact hS.le,fun b hb=>?_⟩,?_⟩
  · have hsz:v.cells.size=i.size:=by
      rw [← Array.length_toList,z3k];exact Nat.eq_of_beq_eq_true hl
    simp [storeVar,ht.sizeOf hi,hsz,z3k,hq',z77,r1]
  · show w'.heap[b]? = _;rw [r3 b (fun e=>hb (e ▸ hge))];exact hS.ext.block b hb
  · refine hS.sep.upd hS.up fun G' hG' hnd' _=>?_
    obtain⟨g1,cap1,d1,d2,rst1,H1,H2,hv1,hh1,b1,b2,b3,b4,b5,b6,l1,l2,rfl⟩:=hG'
    simp only [Value.slice.injEq,Option.some.injEq,Addr.mk.injEq,and_true,true_and] at hv1
    obtain⟨rfl,rfl⟩:=hv1
    rw [hh1] at hh
    simp only [Option.some.injEq,Obj.cells.injEq,Array.mk.injEq,and_true] at hh
    have hset1:=z5K (c1:=d1) (c2:=d2) (rest:=rst1) hs
    have e1:d1.length=c1.length:=by rw [b4,a4]
    rw [hh,e1] at hset1
    rw [← a4] at hset
    have e2:(c1++(es'++c2))++rst=(d1++(es'++d2))++rst1:=Option.some.inj (hset.symm.trans hset1)
    have hle:=z5S _ _ _ _ hs
    simp only [List.nodup_cons,List.mem_append,not_or] at hnd'
    refine⟨g'::(H1++H2),⟨g',k,d1,d2,rst1,H1,H2,rfl,by rw [r2,e2],b1,b2,?_,b4,by rw [hle];exact b5,b6,l1.loc fun b hb=>r3 b (by rintro rfl;exact hnd'.1.1 hb),l2.loc fun b hb=>r3 b (by rintro rfl;exact hnd'.1.2 hb),rfl⟩,by simpa using hnd',fun b hb=>.inl hb,fun b hb hn=>r3 b (by rintro rfl;exact hn (by simp))⟩
    rw [← b3]
    simp only [List.length_append,hle]

theorem LM.storeHoleN (ht:TTok P T){α:Type}{U:Ty α}{e:Nat}{A:Option Addr}{k m ln:Nat}{xs:List α}{es es':List Value}{B:List Res}(hS:St W w (Hole U e (.slice A ln k) xs m es::B)){q:Addr}(hq:ElAt U A m q)
    (hsk:skOf ops=sk∧ops.length=kk){ii:Nat}(m':Nat) (hm':mm ||| 2 ^ ii=m') (hwi:wm.testBit ii=true) (hni:nthv ops ii=some o) (hg:guardOf ops F o=some true){t:Nat}{x y:Operand}(ho:o.op=.store t x y) (hd:o.dst=none)
    {i:TI}(hi:T.get t=some i){q':Addr}(hx:F.ev x=some (.pointer (some q'))) (off:Nat) (hq':q'=q.add off){v:Value}(hy:F.ev y=some v) (hl:Nat.beq (cellsV v).length i.size=true)
    (h1:oneCells (cellsV v)=true) (hs:setAt es off (cellsV v)=some es') (h:∀ (w':World),St W w' (Hole U e (.slice A ln k) xs m es'::B)→DM P n ops Q W w0 wm fuel kk m' F w'):LM P n ops Q W w0 wm fuel kk mm ii F w:=by
  obtain⟨hn,_,_⟩:=hS.hole_len
  subst hn
  obtain⟨w',r1,r2⟩:=z8j (P:=P) ht hS hq hi off hq' hl h1 hs
  refine LM.unitW hsk m' hm' hwi hni hg (w':=w') (fun a ha=>?_) hd r2.ext (h w' r2)
  unfold execOp
  rw [ho]
  simp [ha.ev hx,ha.ev hy,Instr.storeAt,Instr.sureAddr,r1]


end
end Go.E


namespace Go.E
open Go.RowKit
set_option linter.unusedVariables false
set_option linter.unusedSimpArgs false


inductive Rd (σ τ ρ:Type) where
  | next (s:σ)
  | brk (t:τ)
  | ret (r:ρ)

def iter {σ τ ρ:Type}(body:σ→Option (Rd σ τ ρ)):Nat→σ→Option (τ ⊕ ρ)
  | 0,_=>none
  | n+1,s=>match body s with
    | none=>none
    | some (.next s')=>iter body n s'
    | some (.brk t)=>some (.inl t)
    | some (.ret r)=>some (.inr r)

def idx {α:Type}(xs:List α) (i:Int):Option α:=if 0≤i then xs[i.toNat]? else none

theorem z6 {α:Type}{xs:List α}{i:Int}{x:α}(h:idx xs i=some x):0≤i∧xs[i.toNat]? = some x:=by
  unfold idx at h
  split at h
  · exact⟨by assumption,h⟩
  · cases h


def aft {τ A:Type}(o:τ ⊕ A) (k:τ→Option A):Option A:=
  match o with
  | .inl t=>k t
  | .inr a=>some a

theorem zx {τ A:Type}(t:τ) (k:τ→Option A):aft (.inl t) k=k t:=rfl

theorem zC {c:Bool}(h:c=false):¬ c=true:=by rw [h];simp

theorem bind_some {α β:Type}{x:Option α}{f:α→Option β}{b:β}(h:x.bind f=some b):∃ a,x=some a∧f a=some b:=by
  cases x with
  | none=>cases h
  | some a=>exact⟨a,rfl,h⟩

section
variable {P:Program}{n:Nat}{Q:Post}{F:Fr}{w:World}


theorem WP.iter {c:Code}{σ τ ρ:Type}(J:σ→Fr→World→Prop) (body:σ→Option (Rd σ τ ρ)){k:Nat}{s:σ}{out:τ ⊕ ρ}(hm:iter body k s=some out) (h0:J s F w)
    (round:∀ s F w k o,J s F w→body s=some o→(match o with | .next s'=>Go.E.iter body k s'=some out | .brk t=>out=.inl t | .ret r=>out=.inr r)→
      WP P n c (Q.after (fun F' w'=>∃ s' F'',F'.Has F''∧o=.next s'∧J s' F'' w')) F w):WP P n (.loop c) Q F w:=by
  refine WP.loop (σ:={ p:Nat × σ // Go.E.iter body p.1 p.2=some out }) (fun p F w=>J p.1.2 F w) (fun p=>p.1.1) ⟨(k,s),hm⟩ h0 ?_
  rintro⟨⟨k,s⟩,hk⟩ F w hJ
  cases k with
  | zero=>cases hk
  | succ k=>
    have hk':=hk
    simp only [Go.E.iter] at hk'
    cases hb:body s with
    | none=>rw [hb] at hk';cases hk'
    | some o=>
      rw [hb] at hk'
      refine(round s F w k o hJ hb ?_).mono ?_
      · cases o with
        | next s'=>exact hk'
        | brk t=>simp only [Option.some.injEq] at hk';exact hk'.symm
        | ret r=>simp only [Option.some.injEq] at hk';exact hk'.symm
      · intro e F' w' q
        cases e with
        | normal=>
          obtain⟨s',F2,hh,rfl,hJ'⟩:=q
          exact⟨⟨(k,s'),hk'⟩,F2,hh,hJ',Nat.lt_succ_self k⟩
        | _=>exact q


theorem WP.cut {c:Code}{τ:Type}(J:τ→Fr→World→Prop) (hk:∀ t F w,J t F w→Q .normal F w) (h:WP P n c (Q.after (fun F w=>∃ t F',F.Has F'∧J t F' w)) F w):WP P n c Q F w:=
  fun a ha=>wp_mono (h a ha) fun e a' w' ⟨F1,hf,q⟩=>by
    cases e with
    | normal=>obtain⟨t,F',hh,ht⟩:=q;exact⟨F',hf.weak hh,hk t F' w' ht⟩
    | _=>exact⟨F1,hf,q⟩

theorem RW.know {ops rest:List Oper}(i:Nat){v u:Value}(hg:F.get i=some v) (e:v=u) (h:RW P n ops Q rest ((i,u)::F) w):RW P n ops Q rest F w:=fun a ha=>
  h a ⟨ha.1,ha.2.1,fun j x hx=>by
    rw [Fr.get_cons] at hx
    split at hx
    · rename_i hj;subst hj;simp only [Option.some.injEq] at hx;subst hx;rw [← e];exact ha.2.2 _ _ hg
    · exact ha.2.2 _ _ hx⟩

theorem DW.know {ops:List Oper}{w0:World}{W9:Base}{wr:Nat→Bool}{fuel:Nat}{listed:Array Bool}(i:Nat){v u:Value}(hg:F.get i=some v) (e:v=u) (h:DW P n ops Q W9 w0 wr fuel listed ((i,u)::F) w):DW P n ops Q W9 w0 wr fuel listed F w:=fun hs he hv a ha=>
  h hs he hv a ⟨ha.1,ha.2.1,fun j x hx=>by
    rw [Fr.get_cons] at hx
    split at hx
    · rename_i hj;subst hj;simp only [Option.some.injEq] at hx;subst hx;rw [← e];exact ha.2.2 _ _ hg
    · exact ha.2.2 _ _ hx⟩

theorem DM.know {ops:List Oper}{w0:World}{W9:Base}{wm fuel k m:Nat}(i:Nat){v u:Value}(hg:F.get i=some v) (e:v=u) (h:DM P n ops Q W9 w0 wm fuel k m ((i,u)::F) w):DM P n ops Q W9 w0 wm fuel k m F w:=fun l hl=>DW.know i hg e (h l hl)

theorem z6L {α:Type}{xs:List α}{l h:Nat}(h2:h≤xs.length):((xs.take h).drop l).length=h - l:=by
  rw [List.length_drop,List.length_take,Nat.min_eq_left h2]

theorem zbz {α:Type}{U:Ty α}{e:Nat}{xs:List α}{l h:Nat}{A:Option Addr}{c:Nat}{w:World}(_:l≤h) (h2:h≤xs.length) (hr:(tSl e U).ro w [.slice A (h - l) c] ((xs.take h).drop l)):
    (tSl e U).ro w [.slice A ((xs.take h).drop l).length c] ((xs.take h).drop l):=by
  rw [z6L h2];exact hr

theorem ResIs.agg {T:TT}(ht:TTok P T){a:Tmp}{t:Nat}{q:Addr}(h:F.get a=some (.pointer (some q))){i:TI}(hi:T.get t=some i) (hag:i.agg=true){cs:List Value}(hat:At w q cs) (hl:Nat.beq cs.length i.size=true):
    ResIs P F w (.cell a t) (.agg ⟨cs⟩):=.cell h (by
  have hr:=run_loadCells_list (P:=P) w q cs fun j u hu=>hat j u hu
  rw [Nat.eq_of_beq_eq_true hl] at hr
  simp [loadVar,ht.isAgg hi,ht.sizeOf hi,hag,hr])

theorem ResIs.one {T:TT}(ht:TTok P T){a:Tmp}{t:Nat}{q:Addr}(h:F.get a=some (.pointer (some q))){i:TI}(hi:T.get t=some i) (hag:i.agg=false){c:Value}(hat:At w q [c]):
    ResIs P F w (.cell a t) c:=.cell h (by
  have hc:w.cell? q=some c:=by have:=hat 0 c rfl;simpa [Addr.add] using this
  simp [loadVar,ht.isAgg hi,hag,run_load,hc])

theorem At.sub {p:Addr}{cs:List Value}(h:At w p cs) (off m:Nat):At w (p.add off) ((cs.drop off).take m):=h.part fun j u hu=>by
  rw [List.getElem?_take] at hu
  split at hu
  · simpa using hu
  · cases hu
end
end Go.E


namespace Go.E
open Go.RowKit
set_option linter.unusedVariables false
set_option linter.unusedSimpArgs false

def I64 (n:Int):Prop:=-9223372036854775808≤n∧n≤9223372036854775807

theorem zbc {n:Int}(h:(Lit.int .i64 n).wf=true):I64 n:=by
  have h1:IntKind.i64.min = -9223372036854775808:=rfl
  have h2:IntKind.i64.max=9223372036854775807:=rfl
  simp only [Lit.wf,Bool.and_eq_true,decide_eq_true_eq,h1,h2] at h
  exact h

theorem zdf {n:Int}(h:I64 n):w64 n=n:=by
  obtain⟨h1,h2⟩:=h
  have e:w64 n=if n % 18446744073709551616≥9223372036854775808 then n % 18446744073709551616 - 18446744073709551616 else n % 18446744073709551616:=by
    unfold w64 IntKind.wrap
    show(if(true && decide (n % (2 ^ 64:Int)≥(2 ^ 63:Int)))=true then n % (2 ^ 64:Int) - (2 ^ 64:Int) else n % (2 ^ 64:Int))=_
    simp
  rw [e]
  split<;>omega

def Opens (P:Program) (t:TypeId){α:Type}(T:Ty α) (wf:α→Prop):Prop:=
  P.cellsOf t=T.size∧∀ {H:Type}{enc:TypeId × Value→H}{w:World}{base:Nat}{spare:Nat→Bool}{held:Bool}{fuel:Nat}{cs:List Value}{x:DataW H × List MemPlace},
    DataW.trod enc P w base spare held fuel t cs=some x→∃ a,T.ro w cs a∧wf a

theorem Opens.int {P:Program}{t:TypeId}(ht:P.underlying t=some (.int .i64)) (hc:P.cellsOf t=1):Opens P t tInt I64:=
  ⟨hc,fun h=>by
    obtain⟨n,rfl,_,hw⟩:=DataW.trod_int ht h
    exact⟨n,rfl,zbc hw⟩⟩

theorem Opens.bool {P:Program}{t:TypeId}(ht:P.underlying t=some .bool) (hc:P.cellsOf t=1):Opens P t tBool fun _=>True:=
  ⟨hc,fun h=>by
    obtain⟨n,rfl,_⟩:=DataW.trod_bool ht h
    exact⟨n,rfl,trivial⟩⟩

theorem Opens.str {P:Program}{t:TypeId}(ht:P.underlying t=some .string) (hc:P.cellsOf t=1):Opens P t tStr fun s=>s.size≤maxLen:=
  ⟨hc,fun h=>by
    obtain⟨n,rfl,_,hw⟩:=DataW.trod_string ht h
    exact⟨n,rfl,hw⟩⟩

theorem At.append {w:World}{p:Addr}{cs es:List Value}(ha:At w p cs) (hb:At w (p.add cs.length) es):At w p (cs++es):=fun j u hu=>by
  rcases Nat.lt_or_ge j cs.length with h | h
  · rw [List.getElem?_append_left h] at hu
    exact ha j u hu
  · rw [List.getElem?_append_right h] at hu
    have:=hb (j - cs.length) u hu
    rw [zbE] at this
    rwa [show cs.length+(j - cs.length)=j by omega] at this

theorem z8Z {α:Type}{T:Ty α}{wf:α→Prop}{w:World}{a:Addr}{base:Nat}:∀ (n:Nat),(∀ i,i<n→∃ cs',w.cells? base (a.add (i*T.size)) T.size=some cs'∧∃ x,T.ro w cs' x∧wf x)→
    ∃ (xs:List α) (els:List Value),xs.length=n∧Els T w els xs∧At w a els∧∀ x,x∈xs→wf x
  | 0,_=>⟨[],[],rfl,rfl,fun j u hu=>by simp at hu,fun x hx=>by cases hx⟩
  | n+1,h=>by
    obtain⟨xs,els,hl,he,ha,hw⟩:=z8Z n fun i hi=>h i (Nat.lt_succ_of_lt hi)
    obtain⟨cs',hc,x,hx,hwx⟩:=h n (Nat.lt_succ_self n)
    refine⟨xs++[x],els++cs',by simp [hl],he.append ⟨cs',[],by simp,hx,rfl⟩,ha.append ?_,fun y hy=>?_⟩
    · obtain⟨_,hcl,hat⟩:=World.cells?_some hc
      intro j u hu
      have hj:=(List.getElem?_eq_some_iff.1 hu).1
      rw [he.length,hl,hat j (by omega)]
      exact hu
    · rcases List.mem_append.1 hy with hy | hy
      · exact hw y hy
      · simp only [List.mem_singleton] at hy;subst hy;exact hwx

def WfL {α:Type}(wf:α→Prop) (xs:List α):Prop:=xs.length≤maxLen∧∀ x,x∈xs→wf x

theorem Opens.sl {P:Program}{t e:TypeId}{α:Type}{T:Ty α}{wf:α→Prop}(ht:P.underlying t=some (.slice e)) (hc:P.cellsOf t=1) (ho:Opens P e T wf):Opens P t (tSl e T) (WfL wf):=
  ⟨hc,by
    intro H enc w base spare held fuel cs x h
    rcases Go.Deep.open_slice ht h with⟨rfl,_⟩ | ⟨a,len,cap,m,n,D,Pl,rfl,_,hl,hm,hmm,_,hi⟩
    · exact⟨[],⟨none,0,[],rfl,Nat.le_refl _,rfl,fun h=>absurd rfl h⟩,⟨Nat.zero_le _,fun x hx=>by cases hx⟩⟩
    · have hlm:len≤m:=by rw [hmm];split<;>omega
      rw [ho.1] at hi
      obtain⟨xs,els,hxl,he,ha,hw⟩:=z8Z (T:=T) (wf:=wf) (w:=w) (a:=a) (base:=base) len fun i hil=>by
        obtain⟨cs',h1,h2⟩:=hi i (by omega)
        exact⟨cs',h1,ho.2 h2⟩
      subst hxl
      exact⟨xs,⟨some a,cap,els,rfl,hl,he,fun _=>⟨a,rfl,ha⟩⟩,⟨by omega,hw⟩⟩⟩


def OpensF (P:Program) (o:Nat) (fs:List Field){α:Type}(T:Ty α) (wf:α→Prop):Prop:=
  ∀ {H:Type}{enc:TypeId × Value→H}{w:World}{base:Nat}{spare:Nat→Bool}{held:Bool}{fuel:Nat}{cs:List Value},
    (∀ (i:Nat) (f:Field),fs[i]? = some f→∃ x,DataW.trod enc P w base spare held fuel f.type ((cs.drop f.offset).take (P.cellsOf f.type))=some x)→∃ a,T.ro w ((cs.drop o).take T.size) a∧wf a

theorem OpensF.nil {P:Program}{o:Nat}:OpensF P o [] tUnit fun _=>True:=fun _=>⟨(),by show List.take 0 _=[];simp,trivial⟩

theorem OpensF.cons {P:Program}{o o':Nat}{f:Field}{fs:List Field}{α β:Type}{T:Ty α}{U:Ty β}{wf:α→Prop}{wg:β→Prop}(ho:Opens P f.type T wf) (hf:f.offset=o) (h':o'=o+T.size) (hr:OpensF P o' fs U wg):
    OpensF P o (f::fs) (tPair T U) fun x=>wf x.1∧wg x.2:=by
  intro H enc w base spare held fuel cs h
  obtain⟨x,hx⟩:=h 0 f rfl
  obtain⟨a,h1,h2⟩:=ho.2 hx
  obtain⟨b,h3,h4⟩:=hr (cs:=cs) fun i g hg=>h (i+1) g hg
  subst h'
  refine⟨(a,b),⟨_,_,?_,h1,h3⟩,h2,h4⟩
  rw [ho.1,hf]
  show List.take (T.size+U.size) _=_
  rw [List.take_add,List.drop_drop]

theorem Opens.struct {P:Program}{t:TypeId}{fs:Array Field}{α β:Type}{T:Ty α}{wf:α→Prop}{f:β→α}(ht:P.underlying t=some (.struct fs)) (hc:P.cellsOf t=T.size) (h:OpensF P 0 fs.toList T wf) (hs:∀ a,∃ b,f b=a):
    Opens P t (tMap f T) fun b=>wf (f b):=
  ⟨hc,by
    intro H enc w base spare held fuel cs x hx
    obtain⟨xs,n,_,_,hl,hxl,hf⟩:=DataW.trod_struct ht hx
    obtain⟨a,h1,h2⟩:=h (cs:=cs) (w:=w) (enc:=enc) (base:=base) (spare:=spare) (held:=held) (fuel:=n) fun i g hg=>by
      have hi:i<fs.size:=by simpa using (List.getElem?_eq_some_iff.1 hg).1
      exact⟨xs[i]'(by omega),(hf i g (by simpa using hg)).trans (List.getElem?_eq_getElem _)⟩
    obtain⟨b,rfl⟩:=hs a
    refine⟨b,?_,h2⟩
    show T.ro w cs (f b)
    rwa [List.drop_zero,List.take_of_length_le (by omega)] at h1⟩

section
variable {H:Type}{enc:TypeId × Value→H}{P:Program}{w:World}{base b0:Nat}{spare:Nat→Bool}{held:Bool}{r:Reach}{t:TypeId}{v:Value}{d:DataW H}{p:List MemPlace}

theorem zay {α:Type}{T:Ty α}{wf:α→Prop}{fs:Array Field}(ht:P.underlying t=some (.struct fs)) (ho:Opens P t T wf) (hv:Value.okWide P w r b0 t v) (h:DataW.Trod enc P w base spare held t v d p):
    ∃ cs x,v=.agg ⟨cs⟩∧T.ro w cs x∧wf x:=by
  obtain⟨cs,rfl,_⟩:=WideShapes.okWide_struct ht hv
  obtain⟨fuel,hf⟩:=h
  obtain⟨x,h1,h2⟩:=ho.2 hf
  exact⟨cs.toList,x,rfl,h1,h2⟩

end

theorem Ret.out {Q:Value→World→Prop}{e:Ending}{w:World}(h:Ret Q e w):∃ v,e=.returned v∧Q v w:=by
  cases e with
  | returned v=>exact⟨v,rfl,h⟩
  | _=>exact False.elim h
end Go.E


namespace Go.E
set_option linter.unusedVariables false
set_option linter.unusedSimpArgs false

theorem z8 {n:Int}(h0:-9223372036854775808≤n) (h1:n≤9223372036854775807):w64 n=n:=zdf ⟨h0,h1⟩


theorem z1A {σ τ ρ:Type}{body:σ→Option (Rd σ τ ρ)}(I:Nat→σ→Prop) (n:Nat) (Q:τ ⊕ ρ→Prop)
    (step:∀ i s,i<n→I i s→(∃ s',body s=some (.next s')∧I (i+1) s')∨(∃ r,body s=some (.ret r)∧Q (.inr r))∨∃ t,body s=some (.brk t)∧Q (.inl t))
    (last:∀ s,I n s→(∃ r,body s=some (.ret r)∧Q (.inr r))∨∃ t,body s=some (.brk t)∧Q (.inl t)):
    ∀ {fuel i s},i≤n→n - i<fuel→I i s→∃ o,iter body fuel s=some o∧Q o
  | 0,i,s,_,hf,_=>by omega
  | fuel+1,i,s,hi,hf,hI=>by
    have done:((∃ r,body s=some (.ret r)∧Q (.inr r))∨∃ t,body s=some (.brk t)∧Q (.inl t))→∃ o,iter body (fuel+1) s=some o∧Q o:=by
      rintro(⟨r,h1,h2⟩ | ⟨t,h1,h2⟩)
      · exact⟨_,by simp only [iter,h1],h2⟩
      · exact⟨_,by simp only [iter,h1],h2⟩
    rcases Nat.lt_or_ge i n with h | h
    · rcases step i s h hI with⟨s',h1,h2⟩ | h1
      · obtain⟨o,h3,h4⟩:=z1A I n Q step last (fuel:=fuel) (i:=i+1) h (by omega) h2
        exact⟨o,by simp only [iter,h1];exact h3,h4⟩
      · exact done h1
    · obtain rfl:i=n:=by omega
      exact done (last s hI)

def sumL {α:Type}(f:α→Nat):List α→Nat
  | []=>0
  | x::xs=>f x+sumL f xs


def szL {α:Type}(f:α→Nat) (xs:List α):Nat:=xs.length+sumL f xs

theorem z6Z {α:Type}{f:α→Nat}{x:α}:∀ {xs:List α},x∈xs→f x≤sumL f xs
  | y::xs,h=>by
    rcases List.mem_cons.1 h with rfl | h
    · exact Nat.le_add_right _ _
    · exact Nat.le_trans (z6Z h) (Nat.le_add_left _ _)

theorem z50 {α:Type}{f:α→Nat}:∀ {xs ys:List α},sumL f (xs++ys)=sumL f xs+sumL f ys
  | [],ys=>by simp [sumL]
  | x::xs,ys=>by simp only [List.cons_append,sumL,z50 (xs:=xs),Nat.add_assoc]

theorem z7b {α:Type}{f:α→Nat}{xs:List α}{i:Nat}{x:α}(h:xs[i]? = some x):sumL f (xs.take (i+1))=sumL f (xs.take i)+f x:=by
  rw [List.take_add_one,h,z50]
  simp [sumL]

theorem z9p {α:Type}{f:α→Nat}{xs:List α}{n:Nat}(h:szL f xs≤n):xs.length≤n:=by unfold szL at h;omega
theorem z9o {α:Type}{f:α→Nat}{xs:List α}{n:Nat}(h:szL f xs≤n){x:α}(hx:x∈xs):f x≤n:=by
  have:=z6Z (f:=f) hx
  unfold szL at h;omega
theorem z8b {α:Type}{f:α→Nat}(hf:∀ x,f x=0):∀ (xs:List α),szL f xs=xs.length
  | []=>rfl
  | x::xs=>by
    have:=z8b hf xs
    unfold szL at this ⊢
    simp only [sumL,hf,List.length_cons]
    omega

theorem z21 {α:Type}{xs:List α}{i:Nat}{x:α}(h:xs[i]? = some x):idx xs (i:Int)=some x:=by
  unfold idx
  simp [h]

theorem z3p {α:Type}{xs:List α}{i:Nat}(h:i<xs.length):∃ x,xs[i]? = some x:=⟨_,List.getElem?_eq_getElem h⟩
theorem lt_t {a b:Int}(h:a<b):(decide (a<b)=true)=True:=by simp [h]
theorem lt_f {a b:Int}(h:¬ a<b):(decide (a<b)=true)=False:=by simp [h]


def SzOk (n:Nat) (l:Int) (o:Option Int):Prop:=∃ r,o=some r∧(r<0∨0≤r∧r+(n:Int)=l)

theorem SzOk.fail {n:Nat}{l:Int}:SzOk n l (some (-1)):=⟨_,rfl,.inl (by decide)⟩
theorem SzOk.same {l:Int}(h:0≤l):SzOk 0 l (some l):=⟨_,rfl,.inr ⟨h,by omega⟩⟩

theorem SzOk.bind {n m k:Nat}{l:Int}{o:Option Int}{f:Int→Option Int}(h:SzOk n l o) (hk:k=n+m) (g:∀ r,0≤r→r≤l→SzOk m r (f r)):
    SzOk k l (o.bind fun r=>if decide (r<0)=true then some (-1) else f r):=by
  obtain⟨r,rfl,h⟩:=h
  subst hk
  show SzOk _ _ (if decide (r<0)=true then some (-1) else f r)
  rcases h with h | ⟨h1,h2⟩
  · simp only [lt_t h,if_true];exact SzOk.fail
  · simp only [lt_f (show ¬ r<0 by omega),if_false]
    obtain⟨s,h3,h4⟩:=g r h1 (by omega)
    exact⟨s,h3,h4.imp id fun⟨h5,h6⟩=>⟨h5,by omega⟩⟩

theorem SzOk.sub {n m k:Nat}{l:Int}{f:Int→Option Int}(h0:0≤l) (h1:l≤1048576) (hn:n≤maxLen) (hk:k=n+m) (g:∀ r,0≤r→r≤l→SzOk m r (f r)):
    SzOk k l (if decide (w64 (l - (n:Int))<0)=true then some (-1) else f (w64 (l - (n:Int)))):=by
  have hm:maxLen=9223372036854775807:=rfl
  rw [z8 (show -9223372036854775808≤l - (n:Int) by omega) (by omega)]
  subst hk
  by_cases h:l - (n:Int)<0
  · simp only [lt_t h,if_true];exact SzOk.fail
  · simp only [lt_f h,if_false]
    obtain⟨s,h3,h4⟩:=g _ (show 0≤l - (n:Int) by omega) (by omega)
    exact⟨s,h3,h4.imp id fun⟨h5,h6⟩=>⟨h5,by omega⟩⟩

theorem SzOk.sub2 {n m k:Nat}{l z:Int}{e:Option Int}(h0:0≤l) (h1:l≤1048576) (hn:n≤maxLen) (hk:k=n+m) (hz:w64 (l - (n:Int))=z) (g:0≤z→z≤l→SzOk m z e):
    SzOk k l (if decide (z<0)=true then some (-1) else e):=by
  have hm:maxLen=9223372036854775807:=rfl
  rw [z8 (show -9223372036854775808≤l - (n:Int) by omega) (by omega)] at hz
  subst hk
  by_cases h:z<0
  · simp only [lt_t h,if_true];exact SzOk.fail
  · simp only [lt_f h,if_false]
    obtain⟨s,h3,h4⟩:=g (by omega) (by omega)
    exact⟨s,h3,h4.imp id fun⟨h5,h6⟩=>⟨h5,by omega⟩⟩


theorem SzOk.loop {α:Type}{f:α→Nat}{xs:List α}{body:Int × Int→Option (Rd (Int × Int) Int Int)}{j:Int→Option Int}{l:Int}{fuel:Nat}(hl:xs.length≤maxLen) (hf:18446744073709551616≤fuel) (h0:0≤l) (h1:l≤1048576) (hj:∀ t,j t=some t)
    (step:∀ (i:Nat) (x:α) (l:Int),xs[i]? = some x→0≤l→l≤1048576→body (l,i)=some (.ret (-1))∨∃ r,body (l,i)=some (.next (r,w64 (i+1)))∧0≤r∧r+(f x:Int)=l)
    (last:∀ l,body (l,xs.length)=some (.brk l)):SzOk (sumL f xs) l ((iter body fuel (l,0)).bind fun o=>aft o j):=by
  have hm:maxLen=9223372036854775807:=rfl
  obtain⟨o,h2,h3⟩:=z1A (body:=body) (fun i s=>s.2=(i:Int)∧0≤s.1∧s.1+(sumL f (xs.take i):Int)=l) xs.length (fun o=>match o with | .inl t=>0≤t∧t+(sumL f xs:Int)=l | .inr r=>r = -1) (by
    rintro i ⟨s,t⟩ hi ⟨h2,h3,h4⟩
    dsimp only at h2 h3 h4
    subst h2
    obtain⟨x,hx⟩:=z3p hi
    rcases step i x s hx h3 (by omega) with h | ⟨r,h5,h6,h7⟩
    · exact .inr (.inl ⟨_,h,rfl⟩)
    · refine .inl ⟨_,h5,?_,h6,?_⟩
      · show w64 _=_
        rw [z8 (by omega) (by omega)];simp
      · rw [z7b hx]
        show r+_=l
        omega) (by
    rintro⟨s,t⟩ ⟨h2,h3,h4⟩
    dsimp only at h2 h3 h4
    subst h2
    refine .inr ⟨_,last s,h3,?_⟩
    rwa [List.take_length] at h4) (fuel:=fuel) (i:=0) (s:=(l,0)) (Nat.zero_le _) (by omega) ⟨rfl,h0,by simp [sumL]⟩
  rw [h2]
  cases o with
  | inl t=>exact⟨t,hj t,.inr h3⟩
  | inr r=>exact⟨r,rfl,.inl (by rw [show r = -1 from h3];decide)⟩


theorem z7H {α:Type}{xs:List α}{z:α}{body:Int × List α→Option (Rd (Int × List α) (List α) (List α))}{j:List α→Option (List α)}{fuel:Nat}(hl:xs.length≤1048576) (hf:18446744073709551616≤fuel) (hj:∀ t,j t=some t)
    (step:∀ (i:Nat) (x:α) (out:List α),xs[i]? = some x→out.length=xs.length→body (i,out)=some (.next (w64 (i+1),out.set i x)))
    (last:∀ out,body (xs.length,out)=some (.brk out)):
    (if decide (0≤(xs.length:Int)∧(xs.length:Int)≤4294967296)=true then((iter body fuel (0,List.replicate (xs.length:Int).toNat z)).bind fun o=>aft o j) else none)=some xs:=by
  rw [if_pos (by simp;omega)]
  obtain⟨o,h2,h3⟩:=z1A (body:=body) (fun i s=>s.1=(i:Int)∧s.2.length=xs.length∧s.2.take i=xs.take i) xs.length (fun o=>o=.inl xs) (by
    rintro i ⟨s,t⟩ hi ⟨h2,h3,h4⟩
    dsimp only at h2 h3 h4
    subst h2
    obtain⟨x,hx⟩:=z3p hi
    refine .inl ⟨_,step i x t hx h3,?_,by simpa using h3,?_⟩
    · show w64 _=_
      rw [z8 (by omega) (by omega)];simp
    · show(t.set i x).take (i+1)=_
      rw [List.take_add_one,List.take_add_one,hx,List.take_set_of_le (Nat.le_refl _),h4,List.getElem?_set_self (by omega)]) (by
    rintro⟨s,t⟩ ⟨h2,h3,h4⟩
    dsimp only at h2 h3 h4
    subst h2
    refine .inr ⟨_,last t,?_⟩
    rw [List.take_length,List.take_of_length_le (by omega)] at h4
    rw [h4]) (fuel:=fuel) (i:=0) (s:=(0,List.replicate (xs.length:Int).toNat z)) (Nat.zero_le _) (by omega) ⟨rfl,by simp,by simp⟩
  rw [h2,h3]
  exact hj xs


theorem z5w (s:ByteArray):seqb s s=true:=by simp [seqb]


theorem z6a {τ ρ:Type}{n:Nat}{body:Int→Option (Rd Int τ ρ)}{j:τ→Option ρ}{fuel:Nat}{t:τ}{b:ρ}(hl:n≤maxLen) (hf:18446744073709551616≤fuel) (hj:j t=some b)
    (step:∀ (i:Nat),i<n→body i=some (.next (w64 (i+1)))) (last:body n=some (.brk t)):((iter body fuel 0).bind fun o=>aft o j)=some b:=by
  have hm:maxLen=9223372036854775807:=rfl
  obtain⟨o,h2,h3⟩:=z1A (body:=body) (fun i s=>s=(i:Int)) n (fun o=>o=.inl t) (by
    rintro i s hi rfl
    exact .inl ⟨_,step i hi,by rw [z8 (by omega) (by omega)];simp⟩) (by
    rintro s rfl
    exact .inr ⟨_,last,rfl⟩) (fuel:=fuel) (i:=0) (s:=0) (Nat.zero_le _) (by omega) rfl
  rw [h2,h3]
  exact hj


end Go.E


namespace Go.E
set_option linter.unusedVariables false
set_option linter.unusedSimpArgs false


theorem eqLoop {α τ ρ:Type}[DecidableEq α] {xs ys:List α}{body:Int→Option (Rd Int τ ρ)}{fuel:Nat}{t:τ}{v:ρ}(hl:xs.length≤maxLen) (hf:18446744073709551616≤fuel) (he:xs.length=ys.length)
    (step:∀ (i:Nat) (a b:α),i<xs.length→xs[i]? = some a→ys[i]? = some b→body i=if a=b then some (.next (w64 (i+1))) else some (.ret v)) (last:body xs.length=some (.brk t)):
    iter body fuel 0=some (if xs=ys then .inl t else .inr v):=by
  have hm:maxLen=9223372036854775807:=rfl
  obtain⟨o,h2,h3⟩:=z1A (body:=body) (fun i s=>s=(i:Int)∧xs.take i=ys.take i) xs.length (fun o=>o=if xs=ys then .inl t else .inr v) (by
    rintro i s hi ⟨rfl,h⟩
    obtain⟨a,ha⟩:=z3p hi
    obtain⟨b,hb⟩:=z3p (he ▸ hi:i<ys.length)
    have hs:=step i a b hi ha hb
    by_cases e:a=b
    · rw [if_pos e] at hs
      refine .inl ⟨_,hs,by rw [z8 (by omega) (by omega)];simp,?_⟩
      rw [List.take_add_one,List.take_add_one,h,ha,hb,e]
    · rw [if_neg e] at hs
      refine .inr (.inl ⟨_,hs,?_⟩)
      rw [if_neg]
      rintro rfl
      rw [ha] at hb
      exact e (Option.some.inj hb)) (by
    rintro s ⟨rfl,h⟩
    rw [List.take_length,he,List.take_length] at h
    exact .inr ⟨_,last,by rw [if_pos h]⟩) (fuel:=fuel) (i:=0) (s:=0) (Nat.zero_le _) (by omega) ⟨rfl,by simp⟩
  rw [h2,h3]


theorem eqWhole {α τ:Type}[DecidableEq α] {xs ys:List α}{body:Int→Option (Rd Int τ Bool)}{j:τ→Option Bool}{fuel:Nat}{t:τ}(hl:xs.length≤maxLen) (hf:18446744073709551616≤fuel) (hj:j t=some true)
    (step:∀ (i:Nat) (a b:α),i<xs.length→xs[i]? = some a→ys[i]? = some b→body i=if a=b then some (.next (w64 (i+1))) else some (.ret false)) (last:body xs.length=some (.brk t)):
    (if((xs.length:Int) != (ys.length:Int))=true then some false else((iter body fuel 0).bind fun o=>aft o j))=some (decide (xs=ys)):=by
  by_cases he:xs.length=ys.length
  · rw [if_neg (by simp [he]),eqLoop hl hf he step last]
    by_cases h:xs=ys
    · rw [if_pos h,decide_eq_true h];exact hj
    · rw [if_neg h,decide_eq_false h];rfl
  · rw [if_pos (by simp;omega),decide_eq_false (fun h=>he (by rw [h]))]


theorem askLoop {α τ ρ:Type}{xs:List α}{body:Int→Option (Rd Int τ ρ)}{fuel:Nat}{t:τ}{p:α→Bool}{g:Int→ρ}(hl:xs.length≤maxLen) (hf:18446744073709551616≤fuel)
    (step:∀ (i:Nat) (x:α),i<xs.length→xs[i]? = some x→body i=if p x=true then some (.ret (g i)) else some (.next (w64 (i+1)))) (last:body xs.length=some (.brk t)):
    (xs.any p=false∧iter body fuel 0=some (.inl t))∨(xs.any p=true∧∃ i:Nat,i<xs.length∧iter body fuel 0=some (.inr (g i))):=by
  have hm:maxLen=9223372036854775807:=rfl
  obtain⟨o,h2,h3⟩:=z1A (body:=body) (fun i s=>s=(i:Int)∧(xs.take i).any p=false) xs.length (fun o=>(xs.any p=false∧o=.inl t)∨(xs.any p=true∧∃ i:Nat,i<xs.length∧o=.inr (g i))) (by
    rintro i s hi ⟨rfl,ha⟩
    obtain⟨x,hx⟩:=z3p hi
    have hs:=step i x hi hx
    cases hp:p x with
    | true=>
      rw [hp,if_pos rfl] at hs
      exact .inr (.inl ⟨_,hs,.inr ⟨List.any_eq_true.2 ⟨x,List.mem_of_getElem? hx,hp⟩,i,hi,rfl⟩⟩)
    | false=>
      rw [hp,if_neg (by simp)] at hs
      refine .inl ⟨_,hs,by rw [z8 (by omega) (by omega)];simp,?_⟩
      rw [List.take_add_one,hx,List.any_append,ha]
      simp [hp]) (by
    rintro s ⟨rfl,ha⟩
    rw [List.take_length] at ha
    exact .inr ⟨_,last,.inl ⟨ha,rfl⟩⟩) (fuel:=fuel) (i:=0) (s:=0) (Nat.zero_le _) (by omega) ⟨rfl,by simp⟩
  rcases h3 with⟨h3,rfl⟩ | ⟨h3,i,hi,rfl⟩
  · exact .inl ⟨h3,h2⟩
  · exact .inr ⟨h3,i,hi,h2⟩


theorem askOne {α τ ρ:Type}{xs:List α}{body:Int→Option (Rd Int τ ρ)}{j:τ→Option ρ}{fuel:Nat}{t:τ}{p:α→Bool}{v:ρ}(hl:xs.length≤maxLen) (hf:18446744073709551616≤fuel)
    (step:∀ (i:Nat) (x:α),i<xs.length→xs[i]? = some x→body i=if p x=true then some (.ret v) else some (.next (w64 (i+1)))) (last:body xs.length=some (.brk t)):
    ((iter body fuel 0).bind fun o=>aft o j)=if xs.any p=true then some v else j t:=by
  rcases askLoop (g:=fun _=>v) hl hf step last with⟨h1,h2⟩ | ⟨h1,i,_,h2⟩
  · rw [h2,h1];rfl
  · rw [h2,h1];rfl


theorem askIndex {α τ:Type}{xs:List α}{body:Int→Option (Rd Int τ Int)}{j:τ→Option Int}{fuel:Nat}{t:τ}{p:α→Bool}(hl:xs.length≤maxLen) (hf:18446744073709551616≤fuel) (hj:j t=some (-1))
    (step:∀ (i:Nat) (x:α),i<xs.length→xs[i]? = some x→body i=if p x=true then some (.ret i) else some (.next (w64 (i+1)))) (last:body xs.length=some (.brk t)):
    ∃ r,((iter body fuel 0).bind fun o=>aft o j)=some r∧decide (r≥0)=xs.any p:=by
  rcases askLoop (g:=fun i=>i) hl hf step last with⟨h1,h2⟩ | ⟨h1,i,_,h2⟩
  · exact⟨-1,by rw [h2];exact hj,by rw [h1];decide⟩
  · exact⟨i,by rw [h2];rfl,by rw [h1];exact decide_eq_true (by omega)⟩
end Go.E
namespace Go.E

end Go.E


