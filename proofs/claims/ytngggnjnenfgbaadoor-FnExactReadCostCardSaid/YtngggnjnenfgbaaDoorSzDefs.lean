/- The types of the data, as tables and as plain Lean types (written by program). Conditions: none. -/
import Derived.Test.YtngggnjnenfgbaaDoorRec
import Derived.Test.YtngggnjnenfgbaaDoorProg
import Derived.KernelRfl
import Derived.Deep.Slices
import Derived.ChangeArms
import Derived.ProofKit
import Derived.OpenShut
import Derived.WideShapes
namespace Go.E
open Go.RowKit Go.Proofs
set_option linter.unusedVariables false
set_option linter.unusedSimpArgs false


def tt:TT:=[
  ⟨2,.int .i64,1,[.int .i64 0],8⟩,
  ⟨3,.int .i64,1,[.int .i64 0],8⟩,
  ⟨4,.bool,1,[.bool false],1⟩,
  ⟨5,.int .u8,1,[.int .u8 0],1⟩,
  ⟨9,.str,1,[.string ⟨#[]⟩],16⟩,
  ⟨22,.slice 57,1,[.slice none 0 0],24⟩,
  ⟨24,.struct [(0,1,false,22)],1,[.slice none 0 0],24⟩,
  ⟨28,.slice 62,1,[.slice none 0 0],24⟩,
  ⟨30,.struct [(0,1,false,28)],1,[.slice none 0 0],24⟩,
  ⟨36,.ptr 30,1,[.pointer none],8⟩,
  ⟨37,.slice 2,1,[.slice none 0 0],24⟩,
  ⟨38,.slice 40,1,[.slice none 0 0],24⟩,
  ⟨40,.struct [(0,1,false,2),(1,1,false,2),(2,1,false,37),(3,1,false,38)],4,[.int .i64 0,.int .i64 0,.slice none 0 0,.slice none 0 0],64⟩,
  ⟨41,.ptr 46,1,[.pointer none],8⟩,
  ⟨44,.slice 9,1,[.slice none 0 0],24⟩,
  ⟨46,.struct [(0,1,false,36),(1,1,false,2),(2,1,false,2),(3,1,false,37),(4,1,false,37),(5,1,false,44),(6,1,false,2)],7,[.pointer none,.int .i64 0,.int .i64 0,.slice none 0 0,.slice none 0 0,.slice none 0 0,.int .i64 0],104⟩,
  ⟨48,.ptr 52,1,[.pointer none],8⟩,
  ⟨52,.struct [(0,1,true,30),(1,1,false,2),(2,1,false,3),(3,1,false,37),(4,1,false,37),(5,1,false,44)],6,[.slice none 0 0,.int .i64 0,.int .i64 0,.slice none 0 0,.slice none 0 0,.slice none 0 0],112⟩,
  ⟨55,.slice 116,1,[.slice none 0 0],24⟩,
  ⟨57,.struct [(0,1,false,2),(1,1,false,2),(2,1,false,2),(3,1,false,37),(4,1,false,55)],5,[.int .i64 0,.int .i64 0,.int .i64 0,.slice none 0 0,.slice none 0 0],72⟩,
  ⟨59,.ptr 62,1,[.pointer none],8⟩,
  ⟨60,.slice 64,1,[.slice none 0 0],24⟩,
  ⟨62,.struct [(0,1,false,2),(1,1,false,2),(2,1,false,2),(3,1,false,37),(4,1,false,60)],5,[.int .i64 0,.int .i64 0,.int .i64 0,.slice none 0 0,.slice none 0 0],72⟩,
  ⟨64,.struct [(0,1,false,2),(1,1,false,2)],2,[.int .i64 0,.int .i64 0],16⟩,
  ⟨66,.slice 37,1,[.slice none 0 0],24⟩,
  ⟨73,.ptr 120,1,[.pointer none],8⟩,
  ⟨75,.arr 9 73,9,[.pointer none,.pointer none,.pointer none,.pointer none,.pointer none,.pointer none,.pointer none,.pointer none,.pointer none],72⟩,
  ⟨81,.slice 91,1,[.slice none 0 0],24⟩,
  ⟨91,.struct [(0,1,false,2),(1,1,false,66)],2,[.int .i64 0,.slice none 0 0],32⟩,
  ⟨98,.ptr 107,1,[.pointer none],8⟩,
  ⟨102,.ptr 75,1,[.pointer none],8⟩,
  ⟨107,.struct [(0,1,false,2),(1,9,true,75),(10,1,false,98)],11,[.int .i64 0,.pointer none,.pointer none,.pointer none,.pointer none,.pointer none,.pointer none,.pointer none,.pointer none,.pointer none,.pointer none],88⟩,
  ⟨114,.slice 5,1,[.slice none 0 0],24⟩,
  ⟨116,.struct [(0,1,false,2),(1,1,false,2)],2,[.int .i64 0,.int .i64 0],16⟩,
  ⟨120,.struct [(0,1,false,2),(1,1,false,73)],2,[.int .i64 0,.pointer none],16⟩,
  ⟨133,.int .u64,1,[.int .u64 0],8⟩,
  ⟨141,.int .u32,1,[.int .u32 0],4⟩,
  ⟨144,.int .u64,1,[.int .u64 0],8⟩]

def zerosOk (P:Program):TT→Prop
  | []=>True
  | i::r=>(P.info? i.id).map (fun j=>j.zero.map (fun v=>v.cells.toList))=some (some i.zero)∧zerosOk P r

theorem z6f {P:Program}:∀ {T:TT},zerosOk P T→∀ i,i∈T→(P.info? i.id).map (fun j=>j.zero.map (fun v=>v.cells.toList))=some (some i.zero)
  | [],_,i,h=>by cases h
  | _::_,⟨h1,h2⟩,i,h=>by
    rcases List.mem_cons.1 h with rfl | h
    · exact h1
    · exact z6f h2 i h

theorem zbB:tt.all (infoOk Tryd.prog)=true:=by kernel_rfl
theorem z9T:zerosOk Tryd.prog tt:=⟨by kernel_rfl,by kernel_rfl,by kernel_rfl,by kernel_rfl,by kernel_rfl,by kernel_rfl,by kernel_rfl,by kernel_rfl,by kernel_rfl,by kernel_rfl,by kernel_rfl,by kernel_rfl,by kernel_rfl,by kernel_rfl,by kernel_rfl,by kernel_rfl,by kernel_rfl,by kernel_rfl,by kernel_rfl,by kernel_rfl,by kernel_rfl,by kernel_rfl,by kernel_rfl,by kernel_rfl,by kernel_rfl,by kernel_rfl,by kernel_rfl,by kernel_rfl,by kernel_rfl,by kernel_rfl,by kernel_rfl,by kernel_rfl,by kernel_rfl,by kernel_rfl,by kernel_rfl,by kernel_rfl,by kernel_rfl,by kernel_rfl,trivial⟩
theorem ttok:TTok Tryd.prog tt:=⟨List.all_eq_true.1 zbB,z6f z9T⟩
theorem mixed:Tryd.prog.follows .mixedOrders=true:=by kernel_rfl

structure D.Port where
  Agent:Int
  Slot:Int
deriving Inhabited, DecidableEq

structure D.Agent where
  Kind:Int
  Level:Int
  Value:Int
  Data:(List Int)
  Ports:(List D.Port)
deriving Inhabited, DecidableEq

structure D.Net where
  Agents:(List D.Agent)
deriving Inhabited, DecidableEq

structure D.Core where
  Kind:Int
  Value:Int
  Data:(List Int)
  Kids:(List D.Core)
deriving Inhabited

structure D.l16Walk where
  n:D.Net
  steps:Int
  nodes:Int
  entered:(List Int)
  origins:(List Int)
  labels:(List ByteArray)
  code:Int
deriving Inhabited, DecidableEq

structure D.reading where
  Net:D.Net
  entered:Int
  nodes:Int
  origins:(List Int)
  times:(List Int)
  labels:(List ByteArray)
deriving Inhabited, DecidableEq

structure D.l16Binder where
  agent:Int
  stacks:(List (List Int))
deriving Inhabited, DecidableEq

def ty37:Ty (List Int):=tSl 2 tInt
instance {W:Base}:Reads W ty37:=inferInstanceAs (Reads W (tSl 2 tInt))
theorem z4i {w:World}{cs:List Value}{xs:(List Int)}(h:ty37.ro w cs xs):∃ A c,cs=[.slice A xs.length c]:=slForm h

def z8K:Ty D.Port:=tMap (fun c=>(c.Agent,c.Slot,())) (tPair tInt (tPair tInt tUnit))
instance {W:Base}:Reads W z8K:=inferInstanceAs (Reads W (tMap (fun c:D.Port=>(c.Agent,c.Slot,())) (tPair tInt (tPair tInt tUnit))))
theorem z6N {w:World}{cs:List Value}{c:D.Port}(h:z8K.ro w cs c):cs=[.int .i64 c.Agent,.int .i64 c.Slot]:=by
  obtain⟨c0,d0,rfl,h0,c1,d1,rfl,h1,hz⟩:=h
  subst hz
  subst h0
  subst h1
  rfl
def ty55:Ty (List D.Port):=tSl 116 z8K
instance {W:Base}:Reads W ty55:=inferInstanceAs (Reads W (tSl 116 z8K))
theorem z9c {w:World}{cs:List Value}{xs:(List D.Port)}(h:ty55.ro w cs xs):∃ A c,cs=[.slice A xs.length c]:=slForm h

def ty57:Ty D.Agent:=tMap (fun c=>(c.Kind,c.Level,c.Value,c.Data,c.Ports,())) (tPair tInt (tPair tInt (tPair tInt (tPair ty37 (tPair ty55 tUnit)))))
instance {W:Base}:Reads W ty57:=inferInstanceAs (Reads W (tMap (fun c:D.Agent=>(c.Kind,c.Level,c.Value,c.Data,c.Ports,())) (tPair tInt (tPair tInt (tPair tInt (tPair ty37 (tPair ty55 tUnit)))))))
theorem z5n {w:World}{cs:List Value}{c:D.Agent}(h:ty57.ro w cs c):∃ A0 k0 A1 k1,cs=[.int .i64 c.Kind,.int .i64 c.Level,.int .i64 c.Value,.slice A0 c.Data.length k0,.slice A1 c.Ports.length k1]∧ty37.ro w [.slice A0 c.Data.length k0] c.Data∧ty55.ro w [.slice A1 c.Ports.length k1] c.Ports:=by
  obtain⟨c0,d0,rfl,h0,c1,d1,rfl,h1,c2,d2,rfl,h2,c3,d3,rfl,h3,c4,d4,rfl,h4,hz⟩:=h
  subst hz
  subst h0
  subst h1
  subst h2
  obtain⟨b,k,e3⟩:=z4i h3
  subst e3
  obtain⟨d,o,e4⟩:=z9c h4
  subst e4
  exact⟨b,k,d,o,rfl,h3,h4⟩
def ty22:Ty (List D.Agent):=tSl 57 ty57
instance {W:Base}:Reads W ty22:=inferInstanceAs (Reads W (tSl 57 ty57))
theorem z9h {w:World}{cs:List Value}{xs:(List D.Agent)}(h:ty22.ro w cs xs):∃ A c,cs=[.slice A xs.length c]:=slForm h

def ty24:Ty D.Net:=tMap (fun c=>(c.Agents,())) (tPair ty22 tUnit)
instance {W:Base}:Reads W ty24:=inferInstanceAs (Reads W (tMap (fun c:D.Net=>(c.Agents,())) (tPair ty22 tUnit)))
theorem z6h {w:World}{cs:List Value}{c:D.Net}(h:ty24.ro w cs c):∃ A0 k0,cs=[.slice A0 c.Agents.length k0]∧ty22.ro w [.slice A0 c.Agents.length k0] c.Agents:=by
  obtain⟨c0,d0,rfl,h0,hz⟩:=h
  subst hz
  obtain⟨b,d,e0⟩:=z9h h0
  subst e0
  exact⟨b,d,rfl,h0⟩
def ty64:Ty D.Port:=tMap (fun c=>(c.Agent,c.Slot,())) (tPair tInt (tPair tInt tUnit))
instance {W:Base}:Reads W ty64:=inferInstanceAs (Reads W (tMap (fun c:D.Port=>(c.Agent,c.Slot,())) (tPair tInt (tPair tInt tUnit))))
theorem zT {w:World}{cs:List Value}{c:D.Port}(h:ty64.ro w cs c):cs=[.int .i64 c.Agent,.int .i64 c.Slot]:=by
  obtain⟨c0,d0,rfl,h0,c1,d1,rfl,h1,hz⟩:=h
  subst hz
  subst h0
  subst h1
  rfl
theorem z1r {w:World}(c:D.Port)  :ty64.ro w [.int .i64 c.Agent,.int .i64 c.Slot] c:=
  ⟨_,_,rfl,rfl,⟨_,_,rfl,rfl,rfl⟩⟩
theorem z6g {w:World}{c:D.Port}  {G:List Nat}(h:(All []).A w G):ty64.own w [.int .i64 c.Agent,.int .i64 c.Slot] c G:=by
  have hz:G=[]:=h
  subst hz
  exact cast (congrArg _ (by simp)) (show ty64.own w [.int .i64 c.Agent,.int .i64 c.Slot] c (_) from⟨_,_,_,_,rfl,rfl,⟨rfl,rfl⟩,⟨_,_,_,_,rfl,rfl,⟨rfl,rfl⟩,⟨rfl,rfl⟩⟩⟩)
theorem z8H {W:Base}{w:World}{B:List Res}{c:D.Port}  (h:St W w ([]++B)):St W w (Own ty64 [.int .i64 c.Agent,.int .i64 c.Slot] c::B):=(St.fuseAll h).conv fun _ hG=>z6g hG

def ty60:Ty (List D.Port):=tSl 64 ty64
instance {W:Base}:Reads W ty60:=inferInstanceAs (Reads W (tSl 64 ty64))
theorem z9b {w:World}{cs:List Value}{xs:(List D.Port)}(h:ty60.ro w cs xs):∃ A c,cs=[.slice A xs.length c]:=slForm h

def ty62:Ty D.Agent:=tMap (fun c=>(c.Kind,c.Level,c.Value,c.Data,c.Ports,())) (tPair tInt (tPair tInt (tPair tInt (tPair ty37 (tPair ty60 tUnit)))))
instance {W:Base}:Reads W ty62:=inferInstanceAs (Reads W (tMap (fun c:D.Agent=>(c.Kind,c.Level,c.Value,c.Data,c.Ports,())) (tPair tInt (tPair tInt (tPair tInt (tPair ty37 (tPair ty60 tUnit)))))))
theorem zy {w:World}{cs:List Value}{c:D.Agent}(h:ty62.ro w cs c):∃ A0 k0 A1 k1,cs=[.int .i64 c.Kind,.int .i64 c.Level,.int .i64 c.Value,.slice A0 c.Data.length k0,.slice A1 c.Ports.length k1]∧ty37.ro w [.slice A0 c.Data.length k0] c.Data∧ty60.ro w [.slice A1 c.Ports.length k1] c.Ports:=by
  obtain⟨c0,d0,rfl,h0,c1,d1,rfl,h1,c2,d2,rfl,h2,c3,d3,rfl,h3,c4,d4,rfl,h4,hz⟩:=h
  subst hz
  subst h0
  subst h1
  subst h2
  obtain⟨b,k,e3⟩:=z4i h3
  subst e3
  obtain⟨d,o,e4⟩:=z9b h4
  subst e4
  exact⟨b,k,d,o,rfl,h3,h4⟩
theorem z9a {w:World}(c:D.Agent){A0:Option Addr}{k0:Nat}{A1:Option Addr}{k1:Nat}(h0:ty37.ro w [.slice A0 c.Data.length k0] c.Data) (h1:ty60.ro w [.slice A1 c.Ports.length k1] c.Ports):ty62.ro w [.int .i64 c.Kind,.int .i64 c.Level,.int .i64 c.Value,.slice A0 c.Data.length k0,.slice A1 c.Ports.length k1] c:=
  ⟨_,_,rfl,rfl,⟨_,_,rfl,rfl,⟨_,_,rfl,rfl,⟨_,_,rfl,h0,⟨_,_,rfl,h1,rfl⟩⟩⟩⟩⟩
theorem z7v {w:World}{c:D.Agent}{A0:Option Addr}{k0:Nat}{A1:Option Addr}{k1:Nat}{G:List Nat}(h:(All [Own ty37 [.slice A0 c.Data.length k0] c.Data,Own ty60 [.slice A1 c.Ports.length k1] c.Ports]).A w G):ty62.own w [.int .i64 c.Kind,.int .i64 c.Level,.int .i64 c.Value,.slice A0 c.Data.length k0,.slice A1 c.Ports.length k1] c G:=by
  obtain⟨G0,R0,rfl,h0,G1,R1,rfl,h1,hz⟩:=h
  have hz':R1=[]:=hz
  subst hz'
  exact cast (congrArg _ (by simp)) (show ty62.own w [.int .i64 c.Kind,.int .i64 c.Level,.int .i64 c.Value,.slice A0 c.Data.length k0,.slice A1 c.Ports.length k1] c (_) from⟨_,_,_,_,rfl,rfl,⟨rfl,rfl⟩,⟨_,_,_,_,rfl,rfl,⟨rfl,rfl⟩,⟨_,_,_,_,rfl,rfl,⟨rfl,rfl⟩,⟨_,_,_,_,rfl,rfl,h0,⟨_,_,_,_,rfl,rfl,h1,⟨rfl,rfl⟩⟩⟩⟩⟩⟩)
theorem z8J {W:Base}{w:World}{B:List Res}{c:D.Agent}{A0:Option Addr}{k0:Nat}{A1:Option Addr}{k1:Nat}(h:St W w ([Own ty37 [.slice A0 c.Data.length k0] c.Data,Own ty60 [.slice A1 c.Ports.length k1] c.Ports]++B)):St W w (Own ty62 [.int .i64 c.Kind,.int .i64 c.Level,.int .i64 c.Value,.slice A0 c.Data.length k0,.slice A1 c.Ports.length k1] c::B):=(St.fuseAll h).conv fun _ hG=>z7v hG

def ty28:Ty (List D.Agent):=tSl 62 ty62
instance {W:Base}:Reads W ty28:=inferInstanceAs (Reads W (tSl 62 ty62))
theorem z9g {w:World}{cs:List Value}{xs:(List D.Agent)}(h:ty28.ro w cs xs):∃ A c,cs=[.slice A xs.length c]:=slForm h

def ty30:Ty D.Net:=tMap (fun c=>(c.Agents,())) (tPair ty28 tUnit)
instance {W:Base}:Reads W ty30:=inferInstanceAs (Reads W (tMap (fun c:D.Net=>(c.Agents,())) (tPair ty28 tUnit)))
theorem z1s {w:World}{cs:List Value}{c:D.Net}(h:ty30.ro w cs c):∃ A0 k0,cs=[.slice A0 c.Agents.length k0]∧ty28.ro w [.slice A0 c.Agents.length k0] c.Agents:=by
  obtain⟨c0,d0,rfl,h0,hz⟩:=h
  subst hz
  obtain⟨b,d,e0⟩:=z9g h0
  subst e0
  exact⟨b,d,rfl,h0⟩
theorem z3Q {w:World}(c:D.Net){A0:Option Addr}{k0:Nat}(h0:ty28.ro w [.slice A0 c.Agents.length k0] c.Agents):ty30.ro w [.slice A0 c.Agents.length k0] c:=
  ⟨_,_,rfl,h0,rfl⟩
def zbe:Step D.Core 4 where
  f:=fun T=>tMap (fun c=>(c.Kind,c.Value,c.Data,c.Kids,())) (tPair tInt (tPair tInt (tPair ty37 (tPair (tSl 40 T) tUnit))))
  size:=fun _=>rfl
  mono:=fun hs h=>zbf (z67 (Ty.Le.refl _) (z67 (Ty.Le.refl _) (z67 (Ty.Le.refl _) (z67 (zbC h hs) (Ty.Le.refl _)))))
  req:=fun h w=>⟨trivial,trivial,trivial,h w,trivial⟩
def ty40:Ty D.Core:=tRec zbe
instance {W:Base}:Reads W ty40:=inferInstanceAs (Reads W (tRec zbe))
def ty38:Ty (List D.Core):=tSl 40 ty40
instance {W:Base}:Reads W ty38:=inferInstanceAs (Reads W (tSl 40 ty40))
theorem z9f {w:World}{c:D.Core}{A0:Option Addr}{k0:Nat}{A1:Option Addr}{k1:Nat}{G:List Nat}(h:(All [Own ty37 [.slice A0 c.Data.length k0] c.Data,Own ty38 [.slice A1 c.Kids.length k1] c.Kids]).A w G):ty40.own w [.int .i64 c.Kind,.int .i64 c.Value,.slice A0 c.Data.length k0,.slice A1 c.Kids.length k1] c G:=by
  obtain⟨G0,R0,rfl,h0,G1,R1,rfl,h1,hz⟩:=h
  have hz':R1=[]:=hz
  subst hz'
  obtain⟨k9,h1⟩:=zbe.sl_own h1
  exact cast (congrArg _ (by simp)) (show ty40.own w [.int .i64 c.Kind,.int .i64 c.Value,.slice A0 c.Data.length k0,.slice A1 c.Kids.length k1] c (_) from⟨k9+1,⟨_,_,_,_,rfl,rfl,⟨rfl,rfl⟩,⟨_,_,_,_,rfl,rfl,⟨rfl,rfl⟩,⟨_,_,_,_,rfl,rfl,h0,⟨_,_,_,_,rfl,rfl,h1,⟨rfl,rfl⟩⟩⟩⟩⟩⟩)
theorem z4h {W:Base}{w:World}{B:List Res}{c:D.Core}{A0:Option Addr}{k0:Nat}{A1:Option Addr}{k1:Nat}(h:St W w ([Own ty37 [.slice A0 c.Data.length k0] c.Data,Own ty38 [.slice A1 c.Kids.length k1] c.Kids]++B)):St W w (Own ty40 [.int .i64 c.Kind,.int .i64 c.Value,.slice A0 c.Data.length k0,.slice A1 c.Kids.length k1] c::B):=(St.fuseAll h).conv fun _ hG=>z9f hG

def ty44:Ty (List ByteArray):=tSl 9 tStr
instance {W:Base}:Reads W ty44:=inferInstanceAs (Reads W (tSl 9 tStr))
theorem z9e {w:World}{cs:List Value}{xs:(List ByteArray)}(h:ty44.ro w cs xs):∃ A c,cs=[.slice A xs.length c]:=slForm h

def ty52:Ty D.reading:=tMap (fun c=>(c.Net,c.entered,c.nodes,c.origins,c.times,c.labels,())) (tPair ty30 (tPair tInt (tPair tInt (tPair ty37 (tPair ty37 (tPair ty44 tUnit))))))
instance {W:Base}:Reads W ty52:=inferInstanceAs (Reads W (tMap (fun c:D.reading=>(c.Net,c.entered,c.nodes,c.origins,c.times,c.labels,())) (tPair ty30 (tPair tInt (tPair tInt (tPair ty37 (tPair ty37 (tPair ty44 tUnit))))))))
theorem z7w {w:World}{cs:List Value}{c:D.reading}(h:ty52.ro w cs c):∃ A0 k0 A1 k1 A2 k2 A3 k3,cs=[.slice A0 c.Net.Agents.length k0,.int .i64 c.entered,.int .i64 c.nodes,.slice A1 c.origins.length k1,.slice A2 c.times.length k2,.slice A3 c.labels.length k3]∧ty28.ro w [.slice A0 c.Net.Agents.length k0] c.Net.Agents∧ty37.ro w [.slice A1 c.origins.length k1] c.origins∧ty37.ro w [.slice A2 c.times.length k2] c.times∧ty44.ro w [.slice A3 c.labels.length k3] c.labels:=by
  obtain⟨c0,d0,rfl,h0,c1,d1,rfl,h1,c2,d2,rfl,h2,c3,d3,rfl,h3,c4,d4,rfl,h4,c5,d5,rfl,h5,hz⟩:=h
  subst hz
  obtain⟨b,k,e0,d⟩:=z1s h0
  subst e0
  subst h1
  subst h2
  obtain⟨o,H,e3⟩:=z4i h3
  subst e3
  obtain⟨y,O,e4⟩:=z4i h4
  subst e4
  obtain⟨G,Y,e5⟩:=z9e h5
  subst e5
  exact⟨b,k,o,H,y,O,G,Y,rfl,d,h3,h4,h5⟩
theorem z9d {w:World}(c:D.reading){A0:Option Addr}{k0:Nat}{A1:Option Addr}{k1:Nat}{A2:Option Addr}{k2:Nat}{A3:Option Addr}{k3:Nat}(h0:ty28.ro w [.slice A0 c.Net.Agents.length k0] c.Net.Agents) (h1:ty37.ro w [.slice A1 c.origins.length k1] c.origins) (h2:ty37.ro w [.slice A2 c.times.length k2] c.times) (h3:ty44.ro w [.slice A3 c.labels.length k3] c.labels):ty52.ro w [.slice A0 c.Net.Agents.length k0,.int .i64 c.entered,.int .i64 c.nodes,.slice A1 c.origins.length k1,.slice A2 c.times.length k2,.slice A3 c.labels.length k3] c:=
  ⟨_,_,rfl,(z3Q c.Net h0),⟨_,_,rfl,rfl,⟨_,_,rfl,rfl,⟨_,_,rfl,h1,⟨_,_,rfl,h2,⟨_,_,rfl,h3,rfl⟩⟩⟩⟩⟩⟩
def ty66:Ty (List (List Int)):=tSl 37 ty37
instance {W:Base}:Reads W ty66:=inferInstanceAs (Reads W (tSl 37 ty37))
theorem z99 {w:World}{cs:List Value}{xs:(List (List Int))}(h:ty66.ro w cs xs):∃ A c,cs=[.slice A xs.length c]:=slForm h

def ty91:Ty D.l16Binder:=tMap (fun c=>(c.agent,c.stacks,())) (tPair tInt (tPair ty66 tUnit))
instance {W:Base}:Reads W ty91:=inferInstanceAs (Reads W (tMap (fun c:D.l16Binder=>(c.agent,c.stacks,())) (tPair tInt (tPair ty66 tUnit))))
theorem z7u {w:World}{cs:List Value}{c:D.l16Binder}(h:ty91.ro w cs c):∃ A0 k0,cs=[.int .i64 c.agent,.slice A0 c.stacks.length k0]∧ty66.ro w [.slice A0 c.stacks.length k0] c.stacks:=by
  obtain⟨c0,d0,rfl,h0,c1,d1,rfl,h1,hz⟩:=h
  subst hz
  subst h0
  obtain⟨b,d,e1⟩:=z99 h1
  subst e1
  exact⟨b,d,rfl,h1⟩
def ty81:Ty (List D.l16Binder):=tSl 91 ty91
instance {W:Base}:Reads W ty81:=inferInstanceAs (Reads W (tSl 91 ty91))
def z72:Ty (List Int):=tSl 5 (tIntK .u8)
instance {W:Base}:Reads W z72:=inferInstanceAs (Reads W (tSl 5 (tIntK .u8)))
end Go.E


namespace Go.E
open Go.RowKit
set_option linter.unusedVariables false
set_option linter.unusedSimpArgs false

theorem Quiet.idxAddr {P:Program}{T:TT}(ht:TTok P T){n:Nat}{F:Fr}{α:Type}{U:Ty α}{g k ln:Nat}{o:Oper}{t e':Nat}{x ix:Operand}{i j:TI}
    {kd:IntKind}{m:Int}(ho:o.op=.indexAddr t x ix) (hi:T.get t=some i) (hd:i.d=.slice e') (hj:T.get e'=some j) (hs:U.size=j.size) (hx:F.ev x=some (.slice (some ⟨g,0,none⟩) ln k)) (hm:F.ev ix=some (.int kd m))
    (h0:0≤m) (hlt:m.toNat<ln) (w:Base):Quiet P n F w o (.pointer (some ⟨g,m.toNat*U.size,none⟩)):=fun a w' ha _=>by
  unfold execOp
  rw [ho]
  have hmm:m<ln:=by omega
  simp [ha.ev hx,ha.ev hm,Instr.indexAt,asIntOf,Go.underlying,ht.slice hi hd,h0,hmm,ht.sizeOf hj,z7s,hs]

section
variable {P:Program}{n:Nat}{Q:Post}{F:Fr}{W:Base}{w w0 w1:World}{W9:Base}{ops:List Oper}{wm fuel kk mm:Nat}{sk:List (List Nat × Nat)}{o:Oper}{T:TT}

theorem DM.idxHole (ht:TTok P T){α:Type}{U:Ty α}{A:Option Addr}{k ln:Nat}(hA:∃ g,A=some ⟨g,0,none⟩) (hsk:skOf ops=sk∧ops.length=kk) (ii m':Nat) (hmm:mm ||| 2 ^ ii=m') (hwi:wm.testBit ii=false) (hni:nthv ops ii=some o) (hf:freeM sk (2 ^ kk - 1) mm ii=true) (hg:guardOf ops F o=some true){t e':Nat}{x ix:Operand}{i j:TI}
    {kd:IntKind}{m:Int}(ho:o.op=.indexAddr t x ix) (hi:T.get t=some i) (hd:i.d=.slice e') (hj:T.get e'=some j) (hs:U.size=j.size) (hx:F.ev x=some (.slice A ln k)) (hm:F.ev ix=some (.int kd m))
    (h0:0≤m) (hlt:m.toNat<ln){d:Nat}(hd':o.dst=some d) (hn:Nat.blt d n=true)
    (h:∀ q,ElAt U A m.toNat q→DM P n ops Q W9 w0 wm fuel kk m' ((d,.pointer (some q))::F) w):DM P n ops Q W9 w0 wm (fuel+1) kk mm F w:=by
  obtain⟨g,rfl⟩:=hA
  exact DM.quietP hsk ii m' hmm hwi hni hf hg (fun w=>Quiet.idxAddr ht ho hi hd hj hs hx hm h0 hlt w) hd' hn (h _ ⟨g,rfl,rfl⟩)

theorem DM.focus (ht:TTok P T){α:Type}{U:Ty α}{B:List Res}{e:Nat}{A:Option Addr}{k ln:Nat}{xs:List α}{a:α}(hS:St W w1 (Own (tSl e U) [.slice A ln k] xs::B)) (hsk:skOf ops=sk∧ops.length=kk) (ii m':Nat) (hmm:mm ||| 2 ^ ii=m') (hwi:wm.testBit ii=false) (hni:nthv ops ii=some o) (hf:freeM sk (2 ^ kk - 1) mm ii=true) (hg:guardOf ops F o=some true){t e':Nat}{x ix:Operand}{i j:TI}
    {kd:IntKind}{m:Int}(ho:o.op=.indexAddr t x ix) (hi:T.get t=some i) (hd:i.d=.slice e') (hj:T.get e'=some j) (hs:U.size=j.size) (hx:F.ev x=some (.slice A ln k)) (hm:F.ev ix=some (.int kd m))
    (h0:0≤m) (ha:xs[m.toNat]? = some a){d:Nat}(hd':o.dst=some d) (hn:Nat.blt d n=true)
    (h:∀ q es,ElAt U A m.toNat q→St W w1 (Hole U e (.slice A ln k) xs m.toNat es::Own U es a::B)→DM P n ops Q W w0 wm fuel kk m' ((d,.pointer (some q))::F) w):DM P n ops Q W w0 wm (fuel+1) kk mm F w:=by
  have hlt:=(List.getElem?_eq_some_iff.1 ha).1
  obtain⟨es,h1⟩:=hS.focusN ha
  have hl:=hS.lenEq
  exact DM.idxHole ht (U:=U) (hS.ownAddr hlt) hsk ii m' hmm hwi hni hf hg ho hi hd hj hs hx hm h0 (by omega) hd' hn fun q hq=>h q es hq h1

theorem DM.idxOwnN (ht:TTok P T){α:Type}{U:Ty α}{B:List Res}{e:Nat}{A:Option Addr}{k ln:Nat}{xs:List α}(hS:St W w1 (Own (tSl e U) [.slice A ln k] xs::B)) (hsk:skOf ops=sk∧ops.length=kk) (ii m':Nat) (hmm:mm ||| 2 ^ ii=m') (hwi:wm.testBit ii=false) (hni:nthv ops ii=some o) (hf:freeM sk (2 ^ kk - 1) mm ii=true) (hg:guardOf ops F o=some true){t e':Nat}{x ix:Operand}{i j:TI}
    {kd:IntKind}{m:Int}(ho:o.op=.indexAddr t x ix) (hi:T.get t=some i) (hd:i.d=.slice e') (hj:T.get e'=some j) (hs:U.size=j.size) (hx:F.ev x=some (.slice A ln k)) (hm:F.ev ix=some (.int kd m))
    (h0:0≤m) (hlt:m.toNat<xs.length){d:Nat}(hd':o.dst=some d) (hn:Nat.blt d n=true)
    (h:∀ q,(∃ g,A=some ⟨g,0,none⟩∧q=⟨g,m.toNat*U.size,none⟩)→DM P n ops Q W w0 wm fuel kk m' ((d,.pointer (some q))::F) w):DM P n ops Q W w0 wm (fuel+1) kk mm F w:=by
  have hl:=hS.lenEq
  exact DM.idxHole ht (U:=U) (hS.ownAddr hlt) hsk ii m' hmm hwi hni hf hg ho hi hd hj hs hx hm h0 (by omega) hd' hn h


theorem LM.idxHole (ht:TTok P T){α:Type}{U:Ty α}{A:Option Addr}{k ln:Nat}(hA:∃ g,A=some ⟨g,0,none⟩) (hsk:skOf ops=sk∧ops.length=kk){ii:Nat}(m':Nat) (hm':mm ||| 2 ^ ii=m') (hwi:wm.testBit ii=false) (hni:nthv ops ii=some o) (hg:guardOf ops F o=some true){t e':Nat}{x ix:Operand}{i j:TI}
    {kd:IntKind}{m:Int}(ho:o.op=.indexAddr t x ix) (hi:T.get t=some i) (hd:i.d=.slice e') (hj:T.get e'=some j) (hs:U.size=j.size) (hx:F.ev x=some (.slice A ln k)) (hm:F.ev ix=some (.int kd m))
    (h0:0≤m) (hlt:m.toNat<ln){d:Nat}(hd':o.dst=some d) (hn:Nat.blt d n=true)
    (h:∀ q,ElAt U A m.toNat q→DM P n ops Q W9 w0 wm fuel kk m' ((d,.pointer (some q))::F) w):LM P n ops Q W9 w0 wm fuel kk mm ii F w:=by
  obtain⟨g,rfl⟩:=hA
  exact LM.quietL hsk m' hm' hwi hni hg (Quiet.idxAddr ht ho hi hd hj hs hx hm h0 hlt w) hd' hn (h _ ⟨g,rfl,rfl⟩)

theorem LM.focus (ht:TTok P T){α:Type}{U:Ty α}{B:List Res}{e:Nat}{A:Option Addr}{k ln:Nat}{xs:List α}{a:α}(hS:St W w1 (Own (tSl e U) [.slice A ln k] xs::B)) (hsk:skOf ops=sk∧ops.length=kk){ii:Nat}(m':Nat) (hm':mm ||| 2 ^ ii=m') (hwi:wm.testBit ii=false) (hni:nthv ops ii=some o) (hg:guardOf ops F o=some true){t e':Nat}{x ix:Operand}{i j:TI}
    {kd:IntKind}{m:Int}(ho:o.op=.indexAddr t x ix) (hi:T.get t=some i) (hd:i.d=.slice e') (hj:T.get e'=some j) (hs:U.size=j.size) (hx:F.ev x=some (.slice A ln k)) (hm:F.ev ix=some (.int kd m))
    (h0:0≤m) (ha:xs[m.toNat]? = some a){d:Nat}(hd':o.dst=some d) (hn:Nat.blt d n=true)
    (h:∀ q es,ElAt U A m.toNat q→St W w1 (Hole U e (.slice A ln k) xs m.toNat es::Own U es a::B)→DM P n ops Q W w0 wm fuel kk m' ((d,.pointer (some q))::F) w):LM P n ops Q W w0 wm fuel kk mm ii F w:=by
  have hlt:=(List.getElem?_eq_some_iff.1 ha).1
  obtain⟨es,h1⟩:=hS.focusN ha
  have hl:=hS.lenEq
  exact LM.idxHole ht (U:=U) (hS.ownAddr hlt) hsk m' hm' hwi hni hg ho hi hd hj hs hx hm h0 (by omega) hd' hn fun q hq=>h q es hq h1

theorem LM.idxOwnN (ht:TTok P T){α:Type}{U:Ty α}{B:List Res}{e:Nat}{A:Option Addr}{k ln:Nat}{xs:List α}(hS:St W w1 (Own (tSl e U) [.slice A ln k] xs::B)) (hsk:skOf ops=sk∧ops.length=kk){ii:Nat}(m':Nat) (hm':mm ||| 2 ^ ii=m') (hwi:wm.testBit ii=false) (hni:nthv ops ii=some o) (hg:guardOf ops F o=some true){t e':Nat}{x ix:Operand}{i j:TI}
    {kd:IntKind}{m:Int}(ho:o.op=.indexAddr t x ix) (hi:T.get t=some i) (hd:i.d=.slice e') (hj:T.get e'=some j) (hs:U.size=j.size) (hx:F.ev x=some (.slice A ln k)) (hm:F.ev ix=some (.int kd m))
    (h0:0≤m) (hlt:m.toNat<xs.length){d:Nat}(hd':o.dst=some d) (hn:Nat.blt d n=true)
    (h:∀ q,(∃ g,A=some ⟨g,0,none⟩∧q=⟨g,m.toNat*U.size,none⟩)→DM P n ops Q W w0 wm fuel kk m' ((d,.pointer (some q))::F) w):LM P n ops Q W w0 wm fuel kk mm ii F w:=by
  have hl:=hS.lenEq
  exact LM.idxHole ht (U:=U) (hS.ownAddr hlt) hsk m' hm' hwi hni hg ho hi hd hj hs hx hm h0 (by omega) hd' hn h

theorem LM.storeElN (ht:TTok P T){α:Type}{U:Ty α}{B:List Res}{e:Nat}{A:Option Addr}{k ln:Nat}{xs:List α}{y:α}{es':List Value}(hS:St W w (Own (tSl e U) [.slice A ln k] xs::Own U es' y::B)) (hsk:skOf ops=sk∧ops.length=kk){ii:Nat}(m':Nat) (hm':mm ||| 2 ^ ii=m') (hwi:wm.testBit ii=true) (hni:nthv ops ii=some o) (hg:guardOf ops F o=some true)
    {t:Nat}{x yv:Operand}(ho:o.op=.store t x yv) (hd:o.dst=none){j:TI}(hj:T.get t=some j) (hs:U.size=j.size){q:Addr}(hx:F.ev x=some (.pointer (some q))){m:Nat}(hlt:m<xs.length)
    (hq:∃ g,A=some ⟨g,0,none⟩∧q=⟨g,m*U.size,none⟩){v:Value}(hy:F.ev yv=some v) (hc:cellsV v=es')
    (h:∀ (w':World),St W w' (Own (tSl e U) [.slice A ln k] (xs.set m y)::B)→DM P n ops Q W w0 wm fuel kk m' F w'):LM P n ops Q W w0 wm fuel kk mm ii F w:=by
  have hl:=hS.lenEq
  subst hl
  obtain⟨w',h1,h2⟩:=z6t (P:=P) ht hS hlt hq hj hs
  have h3:St W w' (Own (tSl e U) [.slice A xs.length k] (xs.set m y)::B):=by simpa using h2
  refine LM.unitW hsk m' hm' hwi hni hg (w':=w') (fun a ha=>?_) hd h3.ext (h w' h3)
  unfold execOp
  rw [ho]
  simp [ha.ev hx,ha.ev hy,Instr.storeAt,Instr.sureAddr,h1 v hc]

end
end Go.E


namespace Go.E
open Go.RowKit
set_option linter.unusedVariables false
set_option linter.unusedSimpArgs false


inductive Rd (σ τ ρ:Type) where
  | next (s:σ)
  | brk (t:τ)
  | ret (r:ρ)

def iter {σ τ ρ:Type}(body:σ→Option (Rd σ τ ρ)):Nat→σ→Option (τ ⊕ ρ)
  | 0,_=>none
  | n+1,s=>match body s with
    | none=>none
    | some (.next s')=>iter body n s'
    | some (.brk t)=>some (.inl t)
    | some (.ret r)=>some (.inr r)

def idx {α:Type}(xs:List α) (i:Int):Option α:=if 0≤i then xs[i.toNat]? else none

theorem z1N {α:Type}{xs:List α}{i:Int}{x:α}(h:idx xs i=some x):0≤i∧xs[i.toNat]? = some x:=by
  unfold idx at h
  split at h
  · exact⟨by assumption,h⟩
  · cases h


def aft {τ A:Type}(o:τ ⊕ A) (k:τ→Option A):Option A:=
  match o with
  | .inl t=>k t
  | .inr a=>some a

theorem zR {τ A:Type}(t:τ) (k:τ→Option A):aft (.inl t) k=k t:=rfl

theorem zbG {c:Bool}(h:c=false):¬ c=true:=by rw [h];simp

theorem bind_some {α β:Type}{x:Option α}{f:α→Option β}{b:β}(h:x.bind f=some b):∃ a,x=some a∧f a=some b:=by
  cases x with
  | none=>cases h
  | some a=>exact⟨a,rfl,h⟩

section
variable {P:Program}{n:Nat}{Q:Post}{F:Fr}{w:World}


theorem WP.iter {c:Code}{σ τ ρ:Type}(J:σ→Fr→World→Prop) (body:σ→Option (Rd σ τ ρ)){k:Nat}{s:σ}{out:τ ⊕ ρ}(hm:iter body k s=some out) (h0:J s F w)
    (round:∀ s F w k o,J s F w→body s=some o→(match o with | .next s'=>Go.E.iter body k s'=some out | .brk t=>out=.inl t | .ret r=>out=.inr r)→
      WP P n c (Q.after (fun F' w'=>∃ s' F'',F'.Has F''∧o=.next s'∧J s' F'' w')) F w):WP P n (.loop c) Q F w:=by
  refine WP.loop (σ:={ p:Nat × σ // Go.E.iter body p.1 p.2=some out }) (fun p F w=>J p.1.2 F w) (fun p=>p.1.1) ⟨(k,s),hm⟩ h0 ?_
  rintro⟨⟨k,s⟩,hk⟩ F w hJ
  cases k with
  | zero=>cases hk
  | succ k=>
    have hk':=hk
    simp only [Go.E.iter] at hk'
    cases hb:body s with
    | none=>rw [hb] at hk';cases hk'
    | some o=>
      rw [hb] at hk'
      refine(round s F w k o hJ hb ?_).mono ?_
      · cases o with
        | next s'=>exact hk'
        | brk t=>simp only [Option.some.injEq] at hk';exact hk'.symm
        | ret r=>simp only [Option.some.injEq] at hk';exact hk'.symm
      · intro e F' w' q
        cases e with
        | normal=>
          obtain⟨s',F2,hh,rfl,hJ'⟩:=q
          exact⟨⟨(k,s'),hk'⟩,F2,hh,hJ',Nat.lt_succ_self k⟩
        | _=>exact q


theorem WP.cut {c:Code}{τ:Type}(J:τ→Fr→World→Prop) (hk:∀ t F w,J t F w→Q .normal F w) (h:WP P n c (Q.after (fun F w=>∃ t F',F.Has F'∧J t F' w)) F w):WP P n c Q F w:=
  fun a ha=>wp_mono (h a ha) fun e a' w' ⟨F1,hf,q⟩=>by
    cases e with
    | normal=>obtain⟨t,F',hh,ht⟩:=q;exact⟨F',hf.weak hh,hk t F' w' ht⟩
    | _=>exact⟨F1,hf,q⟩

theorem RW.know {ops rest:List Oper}(i:Nat){v u:Value}(hg:F.get i=some v) (e:v=u) (h:RW P n ops Q rest ((i,u)::F) w):RW P n ops Q rest F w:=fun a ha=>
  h a ⟨ha.1,ha.2.1,fun j x hx=>by
    rw [Fr.get_cons] at hx
    split at hx
    · rename_i hj;subst hj;simp only [Option.some.injEq] at hx;subst hx;rw [← e];exact ha.2.2 _ _ hg
    · exact ha.2.2 _ _ hx⟩

theorem DW.know {ops:List Oper}{w0:World}{W9:Base}{wr:Nat→Bool}{fuel:Nat}{listed:Array Bool}(i:Nat){v u:Value}(hg:F.get i=some v) (e:v=u) (h:DW P n ops Q W9 w0 wr fuel listed ((i,u)::F) w):DW P n ops Q W9 w0 wr fuel listed F w:=fun hs he hv a ha=>
  h hs he hv a ⟨ha.1,ha.2.1,fun j x hx=>by
    rw [Fr.get_cons] at hx
    split at hx
    · rename_i hj;subst hj;simp only [Option.some.injEq] at hx;subst hx;rw [← e];exact ha.2.2 _ _ hg
    · exact ha.2.2 _ _ hx⟩

theorem DM.know {ops:List Oper}{w0:World}{W9:Base}{wm fuel k m:Nat}(i:Nat){v u:Value}(hg:F.get i=some v) (e:v=u) (h:DM P n ops Q W9 w0 wm fuel k m ((i,u)::F) w):DM P n ops Q W9 w0 wm fuel k m F w:=fun l hl=>DW.know i hg e (h l hl)

theorem z5R {α:Type}{xs:List α}{l h:Nat}(h2:h≤xs.length):((xs.take h).drop l).length=h - l:=by
  rw [List.length_drop,List.length_take,Nat.min_eq_left h2]

theorem z9L {α:Type}{U:Ty α}{e:Nat}{xs:List α}{l h:Nat}{A:Option Addr}{c:Nat}{w:World}(_:l≤h) (h2:h≤xs.length) (hr:(tSl e U).ro w [.slice A (h - l) c] ((xs.take h).drop l)):
    (tSl e U).ro w [.slice A ((xs.take h).drop l).length c] ((xs.take h).drop l):=by
  rw [z5R h2];exact hr

theorem ResIs.agg {T:TT}(ht:TTok P T){a:Tmp}{t:Nat}{q:Addr}(h:F.get a=some (.pointer (some q))){i:TI}(hi:T.get t=some i) (hag:i.agg=true){cs:List Value}(hat:At w q cs) (hl:Nat.beq cs.length i.size=true):
    ResIs P F w (.cell a t) (.agg ⟨cs⟩):=.cell h (by
  have hr:=run_loadCells_list (P:=P) w q cs fun j u hu=>hat j u hu
  rw [Nat.eq_of_beq_eq_true hl] at hr
  simp [loadVar,ht.isAgg hi,ht.sizeOf hi,hag,hr])

theorem ResIs.one {T:TT}(ht:TTok P T){a:Tmp}{t:Nat}{q:Addr}(h:F.get a=some (.pointer (some q))){i:TI}(hi:T.get t=some i) (hag:i.agg=false){c:Value}(hat:At w q [c]):
    ResIs P F w (.cell a t) c:=.cell h (by
  have hc:w.cell? q=some c:=by have:=hat 0 c rfl;simpa [Addr.add] using this
  simp [loadVar,ht.isAgg hi,hag,run_load,hc])

theorem At.sub {p:Addr}{cs:List Value}(h:At w p cs) (off m:Nat):At w (p.add off) ((cs.drop off).take m):=h.part fun j u hu=>by
  rw [List.getElem?_take] at hu
  split at hu
  · simpa using hu
  · cases hu
end
end Go.E


namespace Go.E
open Go.RowKit
set_option linter.unusedVariables false
set_option linter.unusedSimpArgs false

def I64 (n:Int):Prop:=-9223372036854775808≤n∧n≤9223372036854775807

theorem z9E {n:Int}(h:(Lit.int .i64 n).wf=true):I64 n:=by
  have h1:IntKind.i64.min = -9223372036854775808:=rfl
  have h2:IntKind.i64.max=9223372036854775807:=rfl
  simp only [Lit.wf,Bool.and_eq_true,decide_eq_true_eq,h1,h2] at h
  exact h

theorem zbA {n:Int}(h:I64 n):w64 n=n:=by
  obtain⟨h1,h2⟩:=h
  have e:w64 n=if n % 18446744073709551616≥9223372036854775808 then n % 18446744073709551616 - 18446744073709551616 else n % 18446744073709551616:=by
    unfold w64 IntKind.wrap
    show(if(true && decide (n % (2 ^ 64:Int)≥(2 ^ 63:Int)))=true then n % (2 ^ 64:Int) - (2 ^ 64:Int) else n % (2 ^ 64:Int))=_
    simp
  rw [e]
  split<;>omega

def Opens (P:Program) (t:TypeId){α:Type}(T:Ty α) (wf:α→Prop):Prop:=
  P.cellsOf t=T.size∧∀ {H:Type}{enc:TypeId × Value→H}{w:World}{base:Nat}{spare:Nat→Bool}{held:Bool}{fuel:Nat}{cs:List Value}{x:DataW H × List MemPlace},
    DataW.trod enc P w base spare held fuel t cs=some x→∃ a,T.ro w cs a∧wf a

theorem Opens.int {P:Program}{t:TypeId}(ht:P.underlying t=some (.int .i64)) (hc:P.cellsOf t=1):Opens P t tInt I64:=
  ⟨hc,fun h=>by
    obtain⟨n,rfl,_,hw⟩:=DataW.trod_int ht h
    exact⟨n,rfl,z9E hw⟩⟩

theorem Opens.bool {P:Program}{t:TypeId}(ht:P.underlying t=some .bool) (hc:P.cellsOf t=1):Opens P t tBool fun _=>True:=
  ⟨hc,fun h=>by
    obtain⟨n,rfl,_⟩:=DataW.trod_bool ht h
    exact⟨n,rfl,trivial⟩⟩

theorem Opens.str {P:Program}{t:TypeId}(ht:P.underlying t=some .string) (hc:P.cellsOf t=1):Opens P t tStr fun s=>s.size≤maxLen:=
  ⟨hc,fun h=>by
    obtain⟨n,rfl,_,hw⟩:=DataW.trod_string ht h
    exact⟨n,rfl,hw⟩⟩

theorem At.append {w:World}{p:Addr}{cs es:List Value}(ha:At w p cs) (hb:At w (p.add cs.length) es):At w p (cs++es):=fun j u hu=>by
  rcases Nat.lt_or_ge j cs.length with h | h
  · rw [List.getElem?_append_left h] at hu
    exact ha j u hu
  · rw [List.getElem?_append_right h] at hu
    have:=hb (j - cs.length) u hu
    rw [z9P] at this
    rwa [show cs.length+(j - cs.length)=j by omega] at this

theorem z7O {α:Type}{T:Ty α}{wf:α→Prop}{w:World}{a:Addr}{base:Nat}:∀ (n:Nat),(∀ i,i<n→∃ cs',w.cells? base (a.add (i*T.size)) T.size=some cs'∧∃ x,T.ro w cs' x∧wf x)→
    ∃ (xs:List α) (els:List Value),xs.length=n∧Els T w els xs∧At w a els∧∀ x,x∈xs→wf x
  | 0,_=>⟨[],[],rfl,rfl,fun j u hu=>by simp at hu,fun x hx=>by cases hx⟩
  | n+1,h=>by
    obtain⟨xs,els,hl,he,ha,hw⟩:=z7O n fun i hi=>h i (Nat.lt_succ_of_lt hi)
    obtain⟨cs',hc,x,hx,hwx⟩:=h n (Nat.lt_succ_self n)
    refine⟨xs++[x],els++cs',by simp [hl],he.append ⟨cs',[],by simp,hx,rfl⟩,ha.append ?_,fun y hy=>?_⟩
    · obtain⟨_,hcl,hat⟩:=World.cells?_some hc
      intro j u hu
      have hj:=(List.getElem?_eq_some_iff.1 hu).1
      rw [he.length,hl,hat j (by omega)]
      exact hu
    · rcases List.mem_append.1 hy with hy | hy
      · exact hw y hy
      · simp only [List.mem_singleton] at hy;subst hy;exact hwx

def WfL {α:Type}(wf:α→Prop) (xs:List α):Prop:=xs.length≤maxLen∧∀ x,x∈xs→wf x

theorem Opens.sl {P:Program}{t e:TypeId}{α:Type}{T:Ty α}{wf:α→Prop}(ht:P.underlying t=some (.slice e)) (hc:P.cellsOf t=1) (ho:Opens P e T wf):Opens P t (tSl e T) (WfL wf):=
  ⟨hc,by
    intro H enc w base spare held fuel cs x h
    rcases Go.Deep.open_slice ht h with⟨rfl,_⟩ | ⟨a,len,cap,m,n,D,Pl,rfl,_,hl,hm,hmm,_,hi⟩
    · exact⟨[],⟨none,0,[],rfl,Nat.le_refl _,rfl,fun h=>absurd rfl h⟩,⟨Nat.zero_le _,fun x hx=>by cases hx⟩⟩
    · have hlm:len≤m:=by rw [hmm];split<;>omega
      rw [ho.1] at hi
      obtain⟨xs,els,hxl,he,ha,hw⟩:=z7O (T:=T) (wf:=wf) (w:=w) (a:=a) (base:=base) len fun i hil=>by
        obtain⟨cs',h1,h2⟩:=hi i (by omega)
        exact⟨cs',h1,ho.2 h2⟩
      subst hxl
      exact⟨xs,⟨some a,cap,els,rfl,hl,he,fun _=>⟨a,rfl,ha⟩⟩,⟨by omega,hw⟩⟩⟩


def OpensF (P:Program) (o:Nat) (fs:List Field){α:Type}(T:Ty α) (wf:α→Prop):Prop:=
  ∀ {H:Type}{enc:TypeId × Value→H}{w:World}{base:Nat}{spare:Nat→Bool}{held:Bool}{fuel:Nat}{cs:List Value},
    (∀ (i:Nat) (f:Field),fs[i]? = some f→∃ x,DataW.trod enc P w base spare held fuel f.type ((cs.drop f.offset).take (P.cellsOf f.type))=some x)→∃ a,T.ro w ((cs.drop o).take T.size) a∧wf a

theorem OpensF.nil {P:Program}{o:Nat}:OpensF P o [] tUnit fun _=>True:=fun _=>⟨(),by show List.take 0 _=[];simp,trivial⟩

theorem OpensF.cons {P:Program}{o o':Nat}{f:Field}{fs:List Field}{α β:Type}{T:Ty α}{U:Ty β}{wf:α→Prop}{wg:β→Prop}(ho:Opens P f.type T wf) (hf:f.offset=o) (h':o'=o+T.size) (hr:OpensF P o' fs U wg):
    OpensF P o (f::fs) (tPair T U) fun x=>wf x.1∧wg x.2:=by
  intro H enc w base spare held fuel cs h
  obtain⟨x,hx⟩:=h 0 f rfl
  obtain⟨a,h1,h2⟩:=ho.2 hx
  obtain⟨b,h3,h4⟩:=hr (cs:=cs) fun i g hg=>h (i+1) g hg
  subst h'
  refine⟨(a,b),⟨_,_,?_,h1,h3⟩,h2,h4⟩
  rw [ho.1,hf]
  show List.take (T.size+U.size) _=_
  rw [List.take_add,List.drop_drop]

theorem Opens.struct {P:Program}{t:TypeId}{fs:Array Field}{α β:Type}{T:Ty α}{wf:α→Prop}{f:β→α}(ht:P.underlying t=some (.struct fs)) (hc:P.cellsOf t=T.size) (h:OpensF P 0 fs.toList T wf) (hs:∀ a,∃ b,f b=a):
    Opens P t (tMap f T) fun b=>wf (f b):=
  ⟨hc,by
    intro H enc w base spare held fuel cs x hx
    obtain⟨xs,n,_,_,hl,hxl,hf⟩:=DataW.trod_struct ht hx
    obtain⟨a,h1,h2⟩:=h (cs:=cs) (w:=w) (enc:=enc) (base:=base) (spare:=spare) (held:=held) (fuel:=n) fun i g hg=>by
      have hi:i<fs.size:=by simpa using (List.getElem?_eq_some_iff.1 hg).1
      exact⟨xs[i]'(by omega),(hf i g (by simpa using hg)).trans (List.getElem?_eq_getElem _)⟩
    obtain⟨b,rfl⟩:=hs a
    refine⟨b,?_,h2⟩
    show T.ro w cs (f b)
    rwa [List.drop_zero,List.take_of_length_le (by omega)] at h1⟩

section
variable {H:Type}{enc:TypeId × Value→H}{P:Program}{w:World}{base b0:Nat}{spare:Nat→Bool}{held:Bool}{r:Reach}{t:TypeId}{v:Value}{d:DataW H}{p:List MemPlace}

theorem z8Z {α:Type}{T:Ty α}{wf:α→Prop}{fs:Array Field}(ht:P.underlying t=some (.struct fs)) (ho:Opens P t T wf) (hv:Value.okWide P w r b0 t v) (h:DataW.Trod enc P w base spare held t v d p):
    ∃ cs x,v=.agg ⟨cs⟩∧T.ro w cs x∧wf x:=by
  obtain⟨cs,rfl,_⟩:=WideShapes.okWide_struct ht hv
  obtain⟨fuel,hf⟩:=h
  obtain⟨x,h1,h2⟩:=ho.2 hf
  exact⟨cs.toList,x,rfl,h1,h2⟩

end

theorem Ret.out {Q:Value→World→Prop}{e:Ending}{w:World}(h:Ret Q e w):∃ v,e=.returned v∧Q v w:=by
  cases e with
  | returned v=>exact⟨v,rfl,h⟩
  | _=>exact False.elim h
end Go.E


namespace Go.E
set_option linter.unusedVariables false
set_option linter.unusedSimpArgs false

theorem zd {n:Int}(h0:-9223372036854775808≤n) (h1:n≤9223372036854775807):w64 n=n:=zbA ⟨h0,h1⟩


theorem z2G {σ τ ρ:Type}{body:σ→Option (Rd σ τ ρ)}(I:Nat→σ→Prop) (n:Nat) (Q:τ ⊕ ρ→Prop)
    (step:∀ i s,i<n→I i s→(∃ s',body s=some (.next s')∧I (i+1) s')∨(∃ r,body s=some (.ret r)∧Q (.inr r))∨∃ t,body s=some (.brk t)∧Q (.inl t))
    (last:∀ s,I n s→(∃ r,body s=some (.ret r)∧Q (.inr r))∨∃ t,body s=some (.brk t)∧Q (.inl t)):
    ∀ {fuel i s},i≤n→n - i<fuel→I i s→∃ o,iter body fuel s=some o∧Q o
  | 0,i,s,_,hf,_=>by omega
  | fuel+1,i,s,hi,hf,hI=>by
    have done:((∃ r,body s=some (.ret r)∧Q (.inr r))∨∃ t,body s=some (.brk t)∧Q (.inl t))→∃ o,iter body (fuel+1) s=some o∧Q o:=by
      rintro(⟨r,h1,h2⟩ | ⟨t,h1,h2⟩)
      · exact⟨_,by simp only [iter,h1],h2⟩
      · exact⟨_,by simp only [iter,h1],h2⟩
    rcases Nat.lt_or_ge i n with h | h
    · rcases step i s h hI with⟨s',h1,h2⟩ | h1
      · obtain⟨o,h3,h4⟩:=z2G I n Q step last (fuel:=fuel) (i:=i+1) h (by omega) h2
        exact⟨o,by simp only [iter,h1];exact h3,h4⟩
      · exact done h1
    · obtain rfl:i=n:=by omega
      exact done (last s hI)

def sumL {α:Type}(f:α→Nat):List α→Nat
  | []=>0
  | x::xs=>f x+sumL f xs


def szL {α:Type}(f:α→Nat) (xs:List α):Nat:=xs.length+sumL f xs

theorem z68 {α:Type}{f:α→Nat}{x:α}:∀ {xs:List α},x∈xs→f x≤sumL f xs
  | y::xs,h=>by
    rcases List.mem_cons.1 h with rfl | h
    · exact Nat.le_add_right _ _
    · exact Nat.le_trans (z68 h) (Nat.le_add_left _ _)

theorem z5i {α:Type}{f:α→Nat}:∀ {xs ys:List α},sumL f (xs++ys)=sumL f xs+sumL f ys
  | [],ys=>by simp [sumL]
  | x::xs,ys=>by simp only [List.cons_append,sumL,z5i (xs:=xs),Nat.add_assoc]

theorem z9p {α:Type}{f:α→Nat}{xs:List α}{i:Nat}{x:α}(h:xs[i]? = some x):sumL f (xs.take (i+1))=sumL f (xs.take i)+f x:=by
  rw [List.take_add_one,h,z5i]
  simp [sumL]

theorem z9o {α:Type}{f:α→Nat}{xs:List α}{n:Nat}(h:szL f xs≤n):xs.length≤n:=by unfold szL at h;omega
theorem z9n {α:Type}{f:α→Nat}{xs:List α}{n:Nat}(h:szL f xs≤n){x:α}(hx:x∈xs):f x≤n:=by
  have:=z68 (f:=f) hx
  unfold szL at h;omega
theorem z2H {α:Type}{xs:List α}{i:Nat}{x:α}(h:xs[i]? = some x):idx xs (i:Int)=some x:=by
  unfold idx
  simp [h]

theorem z3J {α:Type}{xs:List α}{i:Nat}(h:i<xs.length):∃ x,xs[i]? = some x:=⟨_,List.getElem?_eq_getElem h⟩
theorem lt_t {a b:Int}(h:a<b):(decide (a<b)=true)=True:=by simp [h]
theorem lt_f {a b:Int}(h:¬ a<b):(decide (a<b)=true)=False:=by simp [h]


def SzOk (n:Nat) (l:Int) (o:Option Int):Prop:=∃ r,o=some r∧(r<0∨0≤r∧r+(n:Int)=l)

theorem SzOk.fail {n:Nat}{l:Int}:SzOk n l (some (-1)):=⟨_,rfl,.inl (by decide)⟩
theorem SzOk.same {l:Int}(h:0≤l):SzOk 0 l (some l):=⟨_,rfl,.inr ⟨h,by omega⟩⟩

theorem SzOk.bind {n m k:Nat}{l:Int}{o:Option Int}{f:Int→Option Int}(h:SzOk n l o) (hk:k=n+m) (g:∀ r,0≤r→r≤l→SzOk m r (f r)):
    SzOk k l (o.bind fun r=>if decide (r<0)=true then some (-1) else f r):=by
  obtain⟨r,rfl,h⟩:=h
  subst hk
  show SzOk _ _ (if decide (r<0)=true then some (-1) else f r)
  rcases h with h | ⟨h1,h2⟩
  · simp only [lt_t h,if_true];exact SzOk.fail
  · simp only [lt_f (show ¬ r<0 by omega),if_false]
    obtain⟨s,h3,h4⟩:=g r h1 (by omega)
    exact⟨s,h3,h4.imp id fun⟨h5,h6⟩=>⟨h5,by omega⟩⟩

theorem SzOk.sub {n m k:Nat}{l:Int}{f:Int→Option Int}(h0:0≤l) (h1:l≤1048576) (hn:n≤maxLen) (hk:k=n+m) (g:∀ r,0≤r→r≤l→SzOk m r (f r)):
    SzOk k l (if decide (w64 (l - (n:Int))<0)=true then some (-1) else f (w64 (l - (n:Int)))):=by
  have hm:maxLen=9223372036854775807:=rfl
  rw [zd (show -9223372036854775808≤l - (n:Int) by omega) (by omega)]
  subst hk
  by_cases h:l - (n:Int)<0
  · simp only [lt_t h,if_true];exact SzOk.fail
  · simp only [lt_f h,if_false]
    obtain⟨s,h3,h4⟩:=g _ (show 0≤l - (n:Int) by omega) (by omega)
    exact⟨s,h3,h4.imp id fun⟨h5,h6⟩=>⟨h5,by omega⟩⟩

theorem SzOk.sub2 {n m k:Nat}{l z:Int}{e:Option Int}(h0:0≤l) (h1:l≤1048576) (hn:n≤maxLen) (hk:k=n+m) (hz:w64 (l - (n:Int))=z) (g:0≤z→z≤l→SzOk m z e):
    SzOk k l (if decide (z<0)=true then some (-1) else e):=by
  have hm:maxLen=9223372036854775807:=rfl
  rw [zd (show -9223372036854775808≤l - (n:Int) by omega) (by omega)] at hz
  subst hk
  by_cases h:z<0
  · simp only [lt_t h,if_true];exact SzOk.fail
  · simp only [lt_f h,if_false]
    obtain⟨s,h3,h4⟩:=g (by omega) (by omega)
    exact⟨s,h3,h4.imp id fun⟨h5,h6⟩=>⟨h5,by omega⟩⟩


theorem SzOk.loop {α:Type}{f:α→Nat}{xs:List α}{body:Int × Int→Option (Rd (Int × Int) Int Int)}{j:Int→Option Int}{l:Int}{fuel:Nat}(hl:xs.length≤maxLen) (hf:18446744073709551616≤fuel) (h0:0≤l) (h1:l≤1048576) (hj:∀ t,j t=some t)
    (step:∀ (i:Nat) (x:α) (l:Int),xs[i]? = some x→0≤l→l≤1048576→body (l,i)=some (.ret (-1))∨∃ r,body (l,i)=some (.next (r,w64 (i+1)))∧0≤r∧r+(f x:Int)=l)
    (last:∀ l,body (l,xs.length)=some (.brk l)):SzOk (sumL f xs) l ((iter body fuel (l,0)).bind fun o=>aft o j):=by
  have hm:maxLen=9223372036854775807:=rfl
  obtain⟨o,h2,h3⟩:=z2G (body:=body) (fun i s=>s.2=(i:Int)∧0≤s.1∧s.1+(sumL f (xs.take i):Int)=l) xs.length (fun o=>match o with | .inl t=>0≤t∧t+(sumL f xs:Int)=l | .inr r=>r = -1) (by
    rintro i ⟨s,t⟩ hi ⟨h2,h3,h4⟩
    dsimp only at h2 h3 h4
    subst h2
    obtain⟨x,hx⟩:=z3J hi
    rcases step i x s hx h3 (by omega) with h | ⟨r,h5,h6,h7⟩
    · exact .inr (.inl ⟨_,h,rfl⟩)
    · refine .inl ⟨_,h5,?_,h6,?_⟩
      · show w64 _=_
        rw [zd (by omega) (by omega)];simp
      · rw [z9p hx]
        show r+_=l
        omega) (by
    rintro⟨s,t⟩ ⟨h2,h3,h4⟩
    dsimp only at h2 h3 h4
    subst h2
    refine .inr ⟨_,last s,h3,?_⟩
    rwa [List.take_length] at h4) (fuel:=fuel) (i:=0) (s:=(l,0)) (Nat.zero_le _) (by omega) ⟨rfl,h0,by simp [sumL]⟩
  rw [h2]
  cases o with
  | inl t=>exact⟨t,hj t,.inr h3⟩
  | inr r=>exact⟨r,rfl,.inl (by rw [show r = -1 from h3];decide)⟩


theorem z6K {α:Type}{xs:List α}{z:α}{body:Int × List α→Option (Rd (Int × List α) (List α) (List α))}{j:List α→Option (List α)}{fuel:Nat}(hl:xs.length≤1048576) (hf:18446744073709551616≤fuel) (hj:∀ t,j t=some t)
    (step:∀ (i:Nat) (x:α) (out:List α),xs[i]? = some x→out.length=xs.length→body (i,out)=some (.next (w64 (i+1),out.set i x)))
    (last:∀ out,body (xs.length,out)=some (.brk out)):
    (if decide (0≤(xs.length:Int)∧(xs.length:Int)≤4294967296)=true then((iter body fuel (0,List.replicate (xs.length:Int).toNat z)).bind fun o=>aft o j) else none)=some xs:=by
  rw [if_pos (by simp;omega)]
  obtain⟨o,h2,h3⟩:=z2G (body:=body) (fun i s=>s.1=(i:Int)∧s.2.length=xs.length∧s.2.take i=xs.take i) xs.length (fun o=>o=.inl xs) (by
    rintro i ⟨s,t⟩ hi ⟨h2,h3,h4⟩
    dsimp only at h2 h3 h4
    subst h2
    obtain⟨x,hx⟩:=z3J hi
    refine .inl ⟨_,step i x t hx h3,?_,by simpa using h3,?_⟩
    · show w64 _=_
      rw [zd (by omega) (by omega)];simp
    · show(t.set i x).take (i+1)=_
      rw [List.take_add_one,List.take_add_one,hx,List.take_set_of_le (Nat.le_refl _),h4,List.getElem?_set_self (by omega)]) (by
    rintro⟨s,t⟩ ⟨h2,h3,h4⟩
    dsimp only at h2 h3 h4
    subst h2
    refine .inr ⟨_,last t,?_⟩
    rw [List.take_length,List.take_of_length_le (by omega)] at h4
    rw [h4]) (fuel:=fuel) (i:=0) (s:=(0,List.replicate (xs.length:Int).toNat z)) (Nat.zero_le _) (by omega) ⟨rfl,by simp,by simp⟩
  rw [h2,h3]
  exact hj xs


theorem z4K (s:ByteArray):seqb s s=true:=by simp [seqb]


theorem z5S {τ ρ:Type}{n:Nat}{body:Int→Option (Rd Int τ ρ)}{j:τ→Option ρ}{fuel:Nat}{t:τ}{b:ρ}(hl:n≤maxLen) (hf:18446744073709551616≤fuel) (hj:j t=some b)
    (step:∀ (i:Nat),i<n→body i=some (.next (w64 (i+1)))) (last:body n=some (.brk t)):((iter body fuel 0).bind fun o=>aft o j)=some b:=by
  have hm:maxLen=9223372036854775807:=rfl
  obtain⟨o,h2,h3⟩:=z2G (body:=body) (fun i s=>s=(i:Int)) n (fun o=>o=.inl t) (by
    rintro i s hi rfl
    exact .inl ⟨_,step i hi,by rw [zd (by omega) (by omega)];simp⟩) (by
    rintro s rfl
    exact .inr ⟨_,last,rfl⟩) (fuel:=fuel) (i:=0) (s:=0) (Nat.zero_le _) (by omega) rfl
  rw [h2,h3]
  exact hj


end Go.E


namespace Go.E
open Go.RowKit
set_option linter.unusedVariables false

def D.Port.wf (x:D.Port):Prop:=I64 x.Agent∧I64 x.Slot∧True
def D.Port.sz (x:D.Port):Nat:=0
def D.Agent.wf (x:D.Agent):Prop:=I64 x.Kind∧I64 x.Level∧I64 x.Value∧WfL I64 x.Data∧WfL D.Port.wf x.Ports∧True
def D.Agent.sz (x:D.Agent):Nat:=x.Data.length+(x.Ports.length+(0))
def D.Net.wf (x:D.Net):Prop:=WfL D.Agent.wf x.Agents∧True
def D.Net.sz (x:D.Net):Nat:=szL D.Agent.sz x.Agents+(0)
end Go.E


