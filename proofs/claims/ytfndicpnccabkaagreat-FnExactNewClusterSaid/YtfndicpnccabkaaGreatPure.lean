/- The types of the data, as tables and as plain Lean types (written by program). Conditions: none. -/
import Derived.Test.YtfndicpnccabkaaGreatMaps
import Derived.Test.YtfndicpnccabkaaGreatProg
import Derived.KernelRfl
import Derived.Deep.Slices
import Derived.ChangeArms
import Derived.ProofKit
import Derived.OpenShut
import Derived.WideShapes
namespace Go.E
open Go.RowKit Go.Proofs
set_option linter.unusedVariables false
set_option linter.unusedSimpArgs false


def tt:TT:=[
  ⟨2,.int .i64,1,[.int .i64 0],8⟩,
  ⟨3,.int .i64,1,[.int .i64 0],8⟩,
  ⟨4,.bool,1,[.bool false],1⟩,
  ⟨5,.int .u8,1,[.int .u8 0],1⟩,
  ⟨9,.str,1,[.string ⟨#[]⟩],16⟩,
  ⟨22,.slice 141,1,[.slice none 0 0],24⟩,
  ⟨24,.struct [(0,1,false,2),(1,1,false,2),(2,1,false,2)],3,[.int .i64 0,.int .i64 0,.int .i64 0],24⟩,
  ⟨26,.struct [(0,1,false,22),(1,3,true,24)],4,[.slice none 0 0,.int .i64 0,.int .i64 0,.int .i64 0],48⟩,
  ⟨28,.slice 118,1,[.slice none 0 0],24⟩,
  ⟨30,.struct [(0,1,false,28)],1,[.slice none 0 0],24⟩,
  ⟨33,.slice 123,1,[.slice none 0 0],24⟩,
  ⟨34,.struct [(0,1,false,2),(1,1,false,2),(2,1,false,2)],3,[.int .i64 0,.int .i64 0,.int .i64 0],24⟩,
  ⟨36,.struct [(0,1,false,33),(1,3,true,34)],4,[.slice none 0 0,.int .i64 0,.int .i64 0,.int .i64 0],48⟩,
  ⟨43,.slice 178,1,[.slice none 0 0],24⟩,
  ⟨44,.slice 45,1,[.slice none 0 0],24⟩,
  ⟨45,.slice 2,1,[.slice none 0 0],24⟩,
  ⟨47,.struct [(0,4,true,26),(4,1,false,43),(5,1,false,44),(6,1,false,45),(7,1,false,45)],8,[.slice none 0 0,.int .i64 0,.int .i64 0,.int .i64 0,.slice none 0 0,.slice none 0 0,.slice none 0 0,.slice none 0 0],144⟩,
  ⟨50,.slice 181,1,[.slice none 0 0],24⟩,
  ⟨52,.struct [(0,4,true,36),(4,1,false,50),(5,1,false,44),(6,1,false,45),(7,1,false,45)],8,[.slice none 0 0,.int .i64 0,.int .i64 0,.int .i64 0,.slice none 0 0,.slice none 0 0,.slice none 0 0,.slice none 0 0],144⟩,
  ⟨57,.slice 196,1,[.slice none 0 0],24⟩,
  ⟨59,.struct [(0,1,false,57)],1,[.slice none 0 0],24⟩,
  ⟨72,.ptr 36,1,[.pointer none],8⟩,
  ⟨73,.ptr 143,1,[.pointer none],8⟩,
  ⟨81,.slice 126,1,[.slice none 0 0],24⟩,
  ⟨82,.slice 34,1,[.slice none 0 0],24⟩,
  ⟨86,.slice 169,1,[.slice none 0 0],24⟩,
  ⟨96,.ptr 52,1,[.pointer none],8⟩,
  ⟨107,.ptr 30,1,[.pointer none],8⟩,
  ⟨113,.ptr 115,1,[.pointer none],8⟩,
  ⟨115,.struct [(0,1,false,107),(1,1,false,45),(2,4,true,36),(6,1,false,82)],7,[.pointer none,.slice none 0 0,.slice none 0 0,.int .i64 0,.int .i64 0,.int .i64 0,.slice none 0 0],104⟩,
  ⟨116,.slice 129,1,[.slice none 0 0],24⟩,
  ⟨118,.struct [(0,1,false,2),(1,1,false,2),(2,1,false,2),(3,1,false,45),(4,1,false,116)],5,[.int .i64 0,.int .i64 0,.int .i64 0,.slice none 0 0,.slice none 0 0],72⟩,
  ⟨119,.ptr 123,1,[.pointer none],8⟩,
  ⟨120,.slice 154,1,[.slice none 0 0],24⟩,
  ⟨121,.slice 152,1,[.slice none 0 0],24⟩,
  ⟨123,.struct [(0,1,false,81),(1,1,false,120),(2,1,false,121)],3,[.slice none 0 0,.slice none 0 0,.slice none 0 0],72⟩,
  ⟨126,.struct [(0,1,false,2),(1,1,false,2),(2,1,false,2),(3,1,false,45),(4,1,false,82)],5,[.int .i64 0,.int .i64 0,.int .i64 0,.slice none 0 0,.slice none 0 0],72⟩,
  ⟨129,.struct [(0,1,false,2),(1,1,false,2)],2,[.int .i64 0,.int .i64 0],16⟩,
  ⟨137,.slice 237,1,[.slice none 0 0],24⟩,
  ⟨138,.slice 270,1,[.slice none 0 0],24⟩,
  ⟨139,.slice 273,1,[.slice none 0 0],24⟩,
  ⟨141,.struct [(0,1,false,137),(1,1,false,138),(2,1,false,139)],3,[.slice none 0 0,.slice none 0 0,.slice none 0 0],72⟩,
  ⟨143,.struct [(0,1,false,28),(1,1,false,116),(2,1,false,44),(3,1,false,44),(4,1,false,44),(5,1,false,44)],6,[.slice none 0 0,.slice none 0 0,.slice none 0 0,.slice none 0 0,.slice none 0 0,.slice none 0 0],144⟩,
  ⟨145,.ptr 126,1,[.pointer none],8⟩,
  ⟨152,.struct [(0,3,true,34),(3,3,true,34)],6,[.int .i64 0,.int .i64 0,.int .i64 0,.int .i64 0,.int .i64 0,.int .i64 0],48⟩,
  ⟨154,.struct [(0,1,false,4),(1,1,false,4),(2,3,true,34)],5,[.bool false,.bool false,.int .i64 0,.int .i64 0,.int .i64 0],32⟩,
  ⟨159,.other,1,[.map none],8⟩,
  ⟨161,.ptr 225,1,[.pointer none],8⟩,
  ⟨164,.struct [(0,3,true,34),(3,1,false,2),(4,1,false,4)],5,[.int .i64 0,.int .i64 0,.int .i64 0,.int .i64 0,.bool false],40⟩,
  ⟨169,.struct [(0,5,true,164),(5,5,true,164)],10,[.int .i64 0,.int .i64 0,.int .i64 0,.int .i64 0,.bool false,.int .i64 0,.int .i64 0,.int .i64 0,.int .i64 0,.bool false],80⟩,
  ⟨178,.slice 239,1,[.slice none 0 0],24⟩,
  ⟨181,.slice 189,1,[.slice none 0 0],24⟩,
  ⟨189,.struct [(0,1,false,2),(1,5,true,126),(6,3,true,34),(9,3,true,34)],12,[.int .i64 0,.int .i64 0,.int .i64 0,.int .i64 0,.slice none 0 0,.slice none 0 0,.int .i64 0,.int .i64 0,.int .i64 0,.int .i64 0,.int .i64 0,.int .i64 0],128⟩,
  ⟨194,.slice 299,1,[.slice none 0 0],24⟩,
  ⟨196,.struct [(0,1,false,2),(1,1,false,2),(2,1,false,2),(3,1,false,45),(4,1,false,194)],5,[.int .i64 0,.int .i64 0,.int .i64 0,.slice none 0 0,.slice none 0 0],72⟩,
  ⟨198,.ptr 118,1,[.pointer none],8⟩,
  ⟨200,.slice 203,1,[.slice none 0 0],24⟩,
  ⟨203,.struct [(0,2,true,129),(2,2,true,129)],4,[.int .i64 0,.int .i64 0,.int .i64 0,.int .i64 0],32⟩,
  ⟨223,.other,1,[.map none],8⟩,
  ⟨225,.struct [(0,1,false,86),(1,1,false,223)],2,[.slice none 0 0,.map none],32⟩,
  ⟨226,.slice 3,1,[.slice none 0 0],24⟩,
  ⟨235,.slice 24,1,[.slice none 0 0],24⟩,
  ⟨237,.struct [(0,1,false,2),(1,1,false,2),(2,1,false,2),(3,1,false,45),(4,1,false,235)],5,[.int .i64 0,.int .i64 0,.int .i64 0,.slice none 0 0,.slice none 0 0],72⟩,
  ⟨239,.struct [(0,1,false,2),(1,5,true,237),(6,3,true,24),(9,3,true,24)],12,[.int .i64 0,.int .i64 0,.int .i64 0,.int .i64 0,.slice none 0 0,.slice none 0 0,.int .i64 0,.int .i64 0,.int .i64 0,.int .i64 0,.int .i64 0,.int .i64 0],128⟩,
  ⟨242,.ptr 189,1,[.pointer none],8⟩,
  ⟨266,.slice 4,1,[.slice none 0 0],24⟩,
  ⟨270,.struct [(0,1,false,4),(1,1,false,4),(2,3,true,24)],5,[.bool false,.bool false,.int .i64 0,.int .i64 0,.int .i64 0],32⟩,
  ⟨273,.struct [(0,3,true,24),(3,3,true,24)],6,[.int .i64 0,.int .i64 0,.int .i64 0,.int .i64 0,.int .i64 0,.int .i64 0],48⟩,
  ⟨275,.other,1,[.map none],8⟩,
  ⟨277,.other,1,[.map none],8⟩,
  ⟨280,.slice 283,1,[.slice none 0 0],24⟩,
  ⟨283,.struct [(0,1,false,45),(1,1,false,45),(2,1,false,2)],3,[.slice none 0 0,.slice none 0 0,.int .i64 0],56⟩,
  ⟨299,.struct [(0,1,false,2),(1,1,false,2)],2,[.int .i64 0,.int .i64 0],16⟩,
  ⟨304,.slice 164,1,[.slice none 0 0],24⟩,
  ⟨306,.other,1,[.map none],8⟩,
  ⟨310,.int .u64,1,[.int .u64 0],8⟩,
  ⟨314,.int .i64,1,[.int .i64 0],8⟩,
  ⟨322,.int .u32,1,[.int .u32 0],4⟩,
  ⟨324,.int .u64,1,[.int .u64 0],8⟩,
  ⟨330,.int .u64,1,[.int .u64 0],8⟩,
  ⟨334,.ptr 3,1,[.pointer none],8⟩,
  ⟨338,.ptr 330,1,[.pointer none],8⟩]

def zerosOk (P:Program):TT→Prop
  | []=>True
  | i::r=>(P.info? i.id).map (fun j=>j.zero.map (fun v=>v.cells.toList))=some (some i.zero)∧zerosOk P r

theorem z8W {P:Program}:∀ {T:TT},zerosOk P T→∀ i,i∈T→(P.info? i.id).map (fun j=>j.zero.map (fun v=>v.cells.toList))=some (some i.zero)
  | [],_,i,h=>by cases h
  | _::_,⟨h1,h2⟩,i,h=>by
    rcases List.mem_cons.1 h with rfl | h
    · exact h1
    · exact z8W h2 i h

theorem zff:tt.all (infoOk Tryz.prog)=true:=by kernel_rfl
theorem zeg:zerosOk Tryz.prog tt:=⟨by kernel_rfl,by kernel_rfl,by kernel_rfl,by kernel_rfl,by kernel_rfl,by kernel_rfl,by kernel_rfl,by kernel_rfl,by kernel_rfl,by kernel_rfl,by kernel_rfl,by kernel_rfl,by kernel_rfl,by kernel_rfl,by kernel_rfl,by kernel_rfl,by kernel_rfl,by kernel_rfl,by kernel_rfl,by kernel_rfl,by kernel_rfl,by kernel_rfl,by kernel_rfl,by kernel_rfl,by kernel_rfl,by kernel_rfl,by kernel_rfl,by kernel_rfl,by kernel_rfl,by kernel_rfl,by kernel_rfl,by kernel_rfl,by kernel_rfl,by kernel_rfl,by kernel_rfl,by kernel_rfl,by kernel_rfl,by kernel_rfl,by kernel_rfl,by kernel_rfl,by kernel_rfl,by kernel_rfl,by kernel_rfl,by kernel_rfl,by kernel_rfl,by kernel_rfl,by kernel_rfl,by kernel_rfl,by kernel_rfl,by kernel_rfl,by kernel_rfl,by kernel_rfl,by kernel_rfl,by kernel_rfl,by kernel_rfl,by kernel_rfl,by kernel_rfl,by kernel_rfl,by kernel_rfl,by kernel_rfl,by kernel_rfl,by kernel_rfl,by kernel_rfl,by kernel_rfl,by kernel_rfl,by kernel_rfl,by kernel_rfl,by kernel_rfl,by kernel_rfl,by kernel_rfl,by kernel_rfl,by kernel_rfl,by kernel_rfl,by kernel_rfl,by kernel_rfl,by kernel_rfl,by kernel_rfl,by kernel_rfl,by kernel_rfl,by kernel_rfl,by kernel_rfl,by kernel_rfl,trivial⟩
theorem ttok:TTok Tryz.prog tt:=⟨List.all_eq_true.1 zff,z8W zeg⟩
theorem mixed:Tryz.prog.follows .mixedOrders=true:=by kernel_rfl

structure D.Address where
  Machine:Int
  Kind:Int
  Index:Int
deriving Inhabited, DecidableEq

structure D.ShardCell where
  Kind:Int
  Level:Int
  Value:Int
  Data:(List Int)
  Aux:(List D.Address)
deriving Inhabited, DecidableEq

structure D.ShardVar where
  Used:Bool
  Full:Bool
  Held:D.Address
deriving Inhabited, DecidableEq

structure D.ShardRedex where
  A:D.Address
  B:D.Address
deriving Inhabited, DecidableEq

structure D.Shard where
  Cells:(List D.ShardCell)
  Vars:(List D.ShardVar)
  Redexes:(List D.ShardRedex)
deriving Inhabited, DecidableEq

structure D.Grid where
  Shards:(List D.Shard)
  Root:D.Address
deriving Inhabited, DecidableEq

structure D.Port where
  Agent:Int
  Slot:Int
deriving Inhabited, DecidableEq

structure D.Agent where
  Kind:Int
  Level:Int
  Value:Int
  Data:(List Int)
  Ports:(List D.Port)
deriving Inhabited, DecidableEq

structure D.Net where
  Agents:(List D.Agent)
deriving Inhabited, DecidableEq

structure D.Parcel where
  Kind:Int
  Cell:D.ShardCell
  A:D.Address
  B:D.Address
deriving Inhabited, DecidableEq

structure D.Cluster where
  Grid:D.Grid
  Channels:(List (List D.Parcel))
  Counts:(List (List Int))
  Sent:(List Int)
  Got:(List Int)
deriving Inhabited, DecidableEq

structure D.splitter where
  n:Unit
  owners:(List Int)
  grid:D.Grid
  at_:(List D.Address)
deriving Inhabited, DecidableEq

structure D.Wire where
  A:D.Port
  B:D.Port
deriving Inhabited, DecidableEq

def ty45:Ty (List Int):=tSl 2 tInt
instance {W:World}:Reads W ty45:=inferInstanceAs (Reads W (tSl 2 tInt))
theorem z5T {w:World}{cs:List Value}{xs:(List Int)}(h:ty45.ro w cs xs):∃ A c,cs=[.slice A xs.length c]:=slForm h

def z2M:Ty D.Port:=tMap (fun c=>(c.Agent,c.Slot,())) (tPair tInt (tPair tInt tUnit))
instance {W:World}:Reads W z2M:=inferInstanceAs (Reads W (tMap (fun c:D.Port=>(c.Agent,c.Slot,())) (tPair tInt (tPair tInt tUnit))))
theorem zn {w:World}{cs:List Value}{c:D.Port}(h:z2M.ro w cs c):cs=[.int .i64 c.Agent,.int .i64 c.Slot]:=by
  obtain⟨c0,d0,rfl,h0,c1,d1,rfl,h1,hz⟩:=h
  subst hz
  subst h0
  subst h1
  rfl
theorem z2e {w:World}(c:D.Port)  :z2M.ro w [.int .i64 c.Agent,.int .i64 c.Slot] c:=
  ⟨_,_,rfl,rfl,⟨_,_,rfl,rfl,rfl⟩⟩
theorem zaw {w:World}{cs:List Value}{c:D.Port}{G:List Nat}(h:z2M.own w cs c G):cs=[.int .i64 c.Agent,.int .i64 c.Slot]∧(All []).A w G:=by
  obtain⟨c0,d0,H0,K0,rfl,rfl,h0,c1,d1,H1,K1,rfl,rfl,h1,hz,hk⟩:=h
  subst hz;subst hk
  obtain⟨e0,k0⟩:=h0;subst e0;subst k0
  obtain⟨e1,k1⟩:=h1;subst e1;subst k1
  refine⟨rfl,?_⟩
  show(All _).A w _
  exact cast (congrArg _ (by simp)) (show(All _).A w ([]) from rfl)
theorem z5O {w:World}{c:D.Port}  {G:List Nat}(h:(All []).A w G):z2M.own w [.int .i64 c.Agent,.int .i64 c.Slot] c G:=by
  have hz:G=[]:=h
  subst hz
  exact cast (congrArg _ (by simp)) (show z2M.own w [.int .i64 c.Agent,.int .i64 c.Slot] c (_) from⟨_,_,_,_,rfl,rfl,⟨rfl,rfl⟩,⟨_,_,_,_,rfl,rfl,⟨rfl,rfl⟩,⟨rfl,rfl⟩⟩⟩)
theorem zbo {W w:World}{B:List Res}{cs:List Value}{c:D.Port}(h:St W w (Own z2M cs c::B)):cs=[.int .i64 c.Agent,.int .i64 c.Slot]∧St W w ([]++B):=by
  obtain⟨G,hA,_⟩:=h.sep.head
  obtain⟨rfl,_⟩:=zaw hA
  refine⟨rfl,St.splitAll (h.conv fun G hG=>?_)⟩
  exact(zaw hG).2
theorem z8Y {W w:World}{B:List Res}{c:D.Port}  (h:St W w ([]++B)):St W w (Own z2M [.int .i64 c.Agent,.int .i64 c.Slot] c::B):=(St.fuseAll h).conv fun _ hG=>z5O hG

def z5f:Ty (List D.Port):=tSl 129 z2M
instance {W:World}:Reads W z5f:=inferInstanceAs (Reads W (tSl 129 z2M))
theorem zce {w:World}{cs:List Value}{xs:(List D.Port)}(h:z5f.ro w cs xs):∃ A c,cs=[.slice A xs.length c]:=slForm h

def z77:Ty D.Agent:=tMap (fun c=>(c.Kind,c.Level,c.Value,c.Data,c.Ports,())) (tPair tInt (tPair tInt (tPair tInt (tPair ty45 (tPair z5f tUnit)))))
instance {W:World}:Reads W z77:=inferInstanceAs (Reads W (tMap (fun c:D.Agent=>(c.Kind,c.Level,c.Value,c.Data,c.Ports,())) (tPair tInt (tPair tInt (tPair tInt (tPair ty45 (tPair z5f tUnit)))))))
theorem zG {w:World}{cs:List Value}{c:D.Agent}(h:z77.ro w cs c):∃ A0 k0 A1 k1,cs=[.int .i64 c.Kind,.int .i64 c.Level,.int .i64 c.Value,.slice A0 c.Data.length k0,.slice A1 c.Ports.length k1]∧ty45.ro w [.slice A0 c.Data.length k0] c.Data∧z5f.ro w [.slice A1 c.Ports.length k1] c.Ports:=by
  obtain⟨c0,d0,rfl,h0,c1,d1,rfl,h1,c2,d2,rfl,h2,c3,d3,rfl,h3,c4,d4,rfl,h4,hz⟩:=h
  subst hz
  subst h0
  subst h1
  subst h2
  obtain⟨o,G,e3⟩:=z5T h3
  subst e3
  obtain⟨z,H,e4⟩:=zce h4
  subst e4
  exact⟨o,G,z,H,rfl,h3,h4⟩
theorem z9K {w:World}(c:D.Agent){A0:Option Addr}{k0:Nat}{A1:Option Addr}{k1:Nat}(h0:ty45.ro w [.slice A0 c.Data.length k0] c.Data) (h1:z5f.ro w [.slice A1 c.Ports.length k1] c.Ports):z77.ro w [.int .i64 c.Kind,.int .i64 c.Level,.int .i64 c.Value,.slice A0 c.Data.length k0,.slice A1 c.Ports.length k1] c:=
  ⟨_,_,rfl,rfl,⟨_,_,rfl,rfl,⟨_,_,rfl,rfl,⟨_,_,rfl,h0,⟨_,_,rfl,h1,rfl⟩⟩⟩⟩⟩
theorem zay {w:World}{cs:List Value}{c:D.Agent}{G:List Nat}(h:z77.own w cs c G):∃ A0 k0 A1 k1,cs=[.int .i64 c.Kind,.int .i64 c.Level,.int .i64 c.Value,.slice A0 c.Data.length k0,.slice A1 c.Ports.length k1]∧(All [Own ty45 [.slice A0 c.Data.length k0] c.Data,Own z5f [.slice A1 c.Ports.length k1] c.Ports]).A w G:=by
  obtain⟨c0,d0,H0,K0,rfl,rfl,h0,c1,d1,H1,K1,rfl,rfl,h1,c2,d2,H2,K2,rfl,rfl,h2,c3,d3,H3,K3,rfl,rfl,h3,c4,d4,H4,K4,rfl,rfl,h4,hz,hk⟩:=h
  subst hz;subst hk
  obtain⟨e0,k0⟩:=h0;subst e0;subst k0
  obtain⟨e1,k1⟩:=h1;subst e1;subst k1
  obtain⟨e2,k2⟩:=h2;subst e2;subst k2
  obtain⟨o,H,e3⟩:=slFormO h3
  subst e3
  obtain⟨z,L,e4⟩:=slFormO h4
  subst e4
  refine⟨o,H,z,L,rfl,?_⟩
  show(All _).A w _
  exact cast (congrArg _ (by simp)) (show(All _).A w (H3++(H4++([]))) from⟨_,_,rfl,h3,⟨_,_,rfl,h4,rfl⟩⟩)
theorem z9L {w:World}{c:D.Agent}{A0:Option Addr}{k0:Nat}{A1:Option Addr}{k1:Nat}{G:List Nat}(h:(All [Own ty45 [.slice A0 c.Data.length k0] c.Data,Own z5f [.slice A1 c.Ports.length k1] c.Ports]).A w G):z77.own w [.int .i64 c.Kind,.int .i64 c.Level,.int .i64 c.Value,.slice A0 c.Data.length k0,.slice A1 c.Ports.length k1] c G:=by
  obtain⟨G0,R0,rfl,h0,G1,R1,rfl,h1,hz⟩:=h
  have hz':R1=[]:=hz
  subst hz'
  exact cast (congrArg _ (by simp)) (show z77.own w [.int .i64 c.Kind,.int .i64 c.Level,.int .i64 c.Value,.slice A0 c.Data.length k0,.slice A1 c.Ports.length k1] c (_) from⟨_,_,_,_,rfl,rfl,⟨rfl,rfl⟩,⟨_,_,_,_,rfl,rfl,⟨rfl,rfl⟩,⟨_,_,_,_,rfl,rfl,⟨rfl,rfl⟩,⟨_,_,_,_,rfl,rfl,h0,⟨_,_,_,_,rfl,rfl,h1,⟨rfl,rfl⟩⟩⟩⟩⟩⟩)
theorem zbp {W w:World}{B:List Res}{cs:List Value}{c:D.Agent}(h:St W w (Own z77 cs c::B)):∃ A0 k0 A1 k1,cs=[.int .i64 c.Kind,.int .i64 c.Level,.int .i64 c.Value,.slice A0 c.Data.length k0,.slice A1 c.Ports.length k1]∧St W w ([Own ty45 [.slice A0 c.Data.length k0] c.Data,Own z5f [.slice A1 c.Ports.length k1] c.Ports]++B):=by
  obtain⟨G,hA,_⟩:=h.sep.head
  obtain⟨A0,k0,A1,k1,rfl,_⟩:=zay hA
  refine⟨A0,k0,A1,k1,rfl,St.splitAll (h.conv fun G hG=>?_)⟩
  obtain⟨X0,Y0,X1,Y1,he,hh⟩:=zay hG
  simp only [List.cons.injEq,Value.slice.injEq,and_true,true_and] at he
  obtain⟨⟨rfl,rfl⟩,⟨rfl,rfl⟩⟩:=he
  exact hh
theorem z90 {W w:World}{B:List Res}{c:D.Agent}{A0:Option Addr}{k0:Nat}{A1:Option Addr}{k1:Nat}(h:St W w ([Own ty45 [.slice A0 c.Data.length k0] c.Data,Own z5f [.slice A1 c.Ports.length k1] c.Ports]++B)):St W w (Own z77 [.int .i64 c.Kind,.int .i64 c.Level,.int .i64 c.Value,.slice A0 c.Data.length k0,.slice A1 c.Ports.length k1] c::B):=(St.fuseAll h).conv fun _ hG=>z9L hG

def ty28:Ty (List D.Agent):=tSl 118 z77
instance {W:World}:Reads W ty28:=inferInstanceAs (Reads W (tSl 118 z77))
theorem zcH {w:World}{cs:List Value}{xs:(List D.Agent)}(h:ty28.ro w cs xs):∃ A c,cs=[.slice A xs.length c]:=slForm h

def ty30:Ty D.Net:=tMap (fun c=>(c.Agents,())) (tPair ty28 tUnit)
instance {W:World}:Reads W ty30:=inferInstanceAs (Reads W (tMap (fun c:D.Net=>(c.Agents,())) (tPair ty28 tUnit)))
theorem z2L {w:World}{cs:List Value}{c:D.Net}(h:ty30.ro w cs c):∃ A0 k0,cs=[.slice A0 c.Agents.length k0]∧ty28.ro w [.slice A0 c.Agents.length k0] c.Agents:=by
  obtain⟨c0,d0,rfl,h0,hz⟩:=h
  subst hz
  obtain⟨o,z,e0⟩:=zcH h0
  subst e0
  exact⟨o,z,rfl,h0⟩
theorem z4Y {w:World}(c:D.Net){A0:Option Addr}{k0:Nat}(h0:ty28.ro w [.slice A0 c.Agents.length k0] c.Agents):ty30.ro w [.slice A0 c.Agents.length k0] c:=
  ⟨_,_,rfl,h0,rfl⟩
def ty34:Ty D.Address:=tMap (fun c=>(c.Machine,c.Kind,c.Index,())) (tPair tInt (tPair tInt (tPair tInt tUnit)))
instance {W:World}:Reads W ty34:=inferInstanceAs (Reads W (tMap (fun c:D.Address=>(c.Machine,c.Kind,c.Index,())) (tPair tInt (tPair tInt (tPair tInt tUnit)))))
theorem zB {w:World}{cs:List Value}{c:D.Address}(h:ty34.ro w cs c):cs=[.int .i64 c.Machine,.int .i64 c.Kind,.int .i64 c.Index]:=by
  obtain⟨c0,d0,rfl,h0,c1,d1,rfl,h1,c2,d2,rfl,h2,hz⟩:=h
  subst hz
  subst h0
  subst h1
  subst h2
  rfl
theorem z10 {w:World}(c:D.Address)  :ty34.ro w [.int .i64 c.Machine,.int .i64 c.Kind,.int .i64 c.Index] c:=
  ⟨_,_,rfl,rfl,⟨_,_,rfl,rfl,⟨_,_,rfl,rfl,rfl⟩⟩⟩
theorem z6W {w:World}{cs:List Value}{c:D.Address}{G:List Nat}(h:ty34.own w cs c G):cs=[.int .i64 c.Machine,.int .i64 c.Kind,.int .i64 c.Index]∧(All []).A w G:=by
  obtain⟨c0,d0,H0,K0,rfl,rfl,h0,c1,d1,H1,K1,rfl,rfl,h1,c2,d2,H2,K2,rfl,rfl,h2,hz,hk⟩:=h
  subst hz;subst hk
  obtain⟨e0,k0⟩:=h0;subst e0;subst k0
  obtain⟨e1,k1⟩:=h1;subst e1;subst k1
  obtain⟨e2,k2⟩:=h2;subst e2;subst k2
  refine⟨rfl,?_⟩
  show(All _).A w _
  exact cast (congrArg _ (by simp)) (show(All _).A w ([]) from rfl)
theorem z2j {w:World}{c:D.Address}  {G:List Nat}(h:(All []).A w G):ty34.own w [.int .i64 c.Machine,.int .i64 c.Kind,.int .i64 c.Index] c G:=by
  have hz:G=[]:=h
  subst hz
  exact cast (congrArg _ (by simp)) (show ty34.own w [.int .i64 c.Machine,.int .i64 c.Kind,.int .i64 c.Index] c (_) from⟨_,_,_,_,rfl,rfl,⟨rfl,rfl⟩,⟨_,_,_,_,rfl,rfl,⟨rfl,rfl⟩,⟨_,_,_,_,rfl,rfl,⟨rfl,rfl⟩,⟨rfl,rfl⟩⟩⟩⟩)
theorem zc7 {W w:World}{B:List Res}{cs:List Value}{c:D.Address}(h:St W w (Own ty34 cs c::B)):cs=[.int .i64 c.Machine,.int .i64 c.Kind,.int .i64 c.Index]∧St W w ([]++B):=by
  obtain⟨G,hA,_⟩:=h.sep.head
  obtain⟨rfl,_⟩:=z6W hA
  refine⟨rfl,St.splitAll (h.conv fun G hG=>?_)⟩
  exact(z6W hG).2
theorem z86 {W w:World}{B:List Res}{c:D.Address}  (h:St W w ([]++B)):St W w (Own ty34 [.int .i64 c.Machine,.int .i64 c.Kind,.int .i64 c.Index] c::B):=(St.fuseAll h).conv fun _ hG=>z2j hG

def ty82:Ty (List D.Address):=tSl 34 ty34
instance {W:World}:Reads W ty82:=inferInstanceAs (Reads W (tSl 34 ty34))
theorem zcB {w:World}{cs:List Value}{xs:(List D.Address)}(h:ty82.ro w cs xs):∃ A c,cs=[.slice A xs.length c]:=slForm h

def z4W:Ty D.ShardCell:=tMap (fun c=>(c.Kind,c.Level,c.Value,c.Data,c.Aux,())) (tPair tInt (tPair tInt (tPair tInt (tPair ty45 (tPair ty82 tUnit)))))
instance {W:World}:Reads W z4W:=inferInstanceAs (Reads W (tMap (fun c:D.ShardCell=>(c.Kind,c.Level,c.Value,c.Data,c.Aux,())) (tPair tInt (tPair tInt (tPair tInt (tPair ty45 (tPair ty82 tUnit)))))))
theorem z1g {w:World}{cs:List Value}{c:D.ShardCell}(h:z4W.ro w cs c):∃ A0 k0 A1 k1,cs=[.int .i64 c.Kind,.int .i64 c.Level,.int .i64 c.Value,.slice A0 c.Data.length k0,.slice A1 c.Aux.length k1]∧ty45.ro w [.slice A0 c.Data.length k0] c.Data∧ty82.ro w [.slice A1 c.Aux.length k1] c.Aux:=by
  obtain⟨c0,d0,rfl,h0,c1,d1,rfl,h1,c2,d2,rfl,h2,c3,d3,rfl,h3,c4,d4,rfl,h4,hz⟩:=h
  subst hz
  subst h0
  subst h1
  subst h2
  obtain⟨o,G,e3⟩:=z5T h3
  subst e3
  obtain⟨z,H,e4⟩:=zcB h4
  subst e4
  exact⟨o,G,z,H,rfl,h3,h4⟩
theorem z8a {w:World}(c:D.ShardCell){A0:Option Addr}{k0:Nat}{A1:Option Addr}{k1:Nat}(h0:ty45.ro w [.slice A0 c.Data.length k0] c.Data) (h1:ty82.ro w [.slice A1 c.Aux.length k1] c.Aux):z4W.ro w [.int .i64 c.Kind,.int .i64 c.Level,.int .i64 c.Value,.slice A0 c.Data.length k0,.slice A1 c.Aux.length k1] c:=
  ⟨_,_,rfl,rfl,⟨_,_,rfl,rfl,⟨_,_,rfl,rfl,⟨_,_,rfl,h0,⟨_,_,rfl,h1,rfl⟩⟩⟩⟩⟩
theorem z8Z {w:World}{cs:List Value}{c:D.ShardCell}{G:List Nat}(h:z4W.own w cs c G):∃ A0 k0 A1 k1,cs=[.int .i64 c.Kind,.int .i64 c.Level,.int .i64 c.Value,.slice A0 c.Data.length k0,.slice A1 c.Aux.length k1]∧(All [Own ty45 [.slice A0 c.Data.length k0] c.Data,Own ty82 [.slice A1 c.Aux.length k1] c.Aux]).A w G:=by
  obtain⟨c0,d0,H0,K0,rfl,rfl,h0,c1,d1,H1,K1,rfl,rfl,h1,c2,d2,H2,K2,rfl,rfl,h2,c3,d3,H3,K3,rfl,rfl,h3,c4,d4,H4,K4,rfl,rfl,h4,hz,hk⟩:=h
  subst hz;subst hk
  obtain⟨e0,k0⟩:=h0;subst e0;subst k0
  obtain⟨e1,k1⟩:=h1;subst e1;subst k1
  obtain⟨e2,k2⟩:=h2;subst e2;subst k2
  obtain⟨o,H,e3⟩:=slFormO h3
  subst e3
  obtain⟨z,L,e4⟩:=slFormO h4
  subst e4
  refine⟨o,H,z,L,rfl,?_⟩
  show(All _).A w _
  exact cast (congrArg _ (by simp)) (show(All _).A w (H3++(H4++([]))) from⟨_,_,rfl,h3,⟨_,_,rfl,h4,rfl⟩⟩)
theorem z9J {w:World}{c:D.ShardCell}{A0:Option Addr}{k0:Nat}{A1:Option Addr}{k1:Nat}{G:List Nat}(h:(All [Own ty45 [.slice A0 c.Data.length k0] c.Data,Own ty82 [.slice A1 c.Aux.length k1] c.Aux]).A w G):z4W.own w [.int .i64 c.Kind,.int .i64 c.Level,.int .i64 c.Value,.slice A0 c.Data.length k0,.slice A1 c.Aux.length k1] c G:=by
  obtain⟨G0,R0,rfl,h0,G1,R1,rfl,h1,hz⟩:=h
  have hz':R1=[]:=hz
  subst hz'
  exact cast (congrArg _ (by simp)) (show z4W.own w [.int .i64 c.Kind,.int .i64 c.Level,.int .i64 c.Value,.slice A0 c.Data.length k0,.slice A1 c.Aux.length k1] c (_) from⟨_,_,_,_,rfl,rfl,⟨rfl,rfl⟩,⟨_,_,_,_,rfl,rfl,⟨rfl,rfl⟩,⟨_,_,_,_,rfl,rfl,⟨rfl,rfl⟩,⟨_,_,_,_,rfl,rfl,h0,⟨_,_,_,_,rfl,rfl,h1,⟨rfl,rfl⟩⟩⟩⟩⟩⟩)
theorem z7z {W w:World}{B:List Res}{cs:List Value}{c:D.ShardCell}(h:St W w (Own z4W cs c::B)):∃ A0 k0 A1 k1,cs=[.int .i64 c.Kind,.int .i64 c.Level,.int .i64 c.Value,.slice A0 c.Data.length k0,.slice A1 c.Aux.length k1]∧St W w ([Own ty45 [.slice A0 c.Data.length k0] c.Data,Own ty82 [.slice A1 c.Aux.length k1] c.Aux]++B):=by
  obtain⟨G,hA,_⟩:=h.sep.head
  obtain⟨A0,k0,A1,k1,rfl,_⟩:=z8Z hA
  refine⟨A0,k0,A1,k1,rfl,St.splitAll (h.conv fun G hG=>?_)⟩
  obtain⟨X0,Y0,X1,Y1,he,hh⟩:=z8Z hG
  simp only [List.cons.injEq,Value.slice.injEq,and_true,true_and] at he
  obtain⟨⟨rfl,rfl⟩,⟨rfl,rfl⟩⟩:=he
  exact hh
theorem z5e {W w:World}{B:List Res}{c:D.ShardCell}{A0:Option Addr}{k0:Nat}{A1:Option Addr}{k1:Nat}(h:St W w ([Own ty45 [.slice A0 c.Data.length k0] c.Data,Own ty82 [.slice A1 c.Aux.length k1] c.Aux]++B)):St W w (Own z4W [.int .i64 c.Kind,.int .i64 c.Level,.int .i64 c.Value,.slice A0 c.Data.length k0,.slice A1 c.Aux.length k1] c::B):=(St.fuseAll h).conv fun _ hG=>z9J hG

def ty81:Ty (List D.ShardCell):=tSl 126 z4W
instance {W:World}:Reads W ty81:=inferInstanceAs (Reads W (tSl 126 z4W))
theorem zcC {w:World}{cs:List Value}{xs:(List D.ShardCell)}(h:ty81.ro w cs xs):∃ A c,cs=[.slice A xs.length c]:=slForm h

def z6L:Ty D.ShardVar:=tMap (fun c=>(c.Used,c.Full,c.Held,())) (tPair tBool (tPair tBool (tPair ty34 tUnit)))
instance {W:World}:Reads W z6L:=inferInstanceAs (Reads W (tMap (fun c:D.ShardVar=>(c.Used,c.Full,c.Held,())) (tPair tBool (tPair tBool (tPair ty34 tUnit)))))
theorem z2H {w:World}{cs:List Value}{c:D.ShardVar}(h:z6L.ro w cs c):cs=[.bool c.Used,.bool c.Full,.int .i64 c.Held.Machine,.int .i64 c.Held.Kind,.int .i64 c.Held.Index]:=by
  obtain⟨c0,d0,rfl,h0,c1,d1,rfl,h1,c2,d2,rfl,h2,hz⟩:=h
  subst hz
  subst h0
  subst h1
  have e2:=zB h2
  subst e2
  rfl
theorem zau {w:World}{cs:List Value}{c:D.ShardVar}{G:List Nat}(h:z6L.own w cs c G):cs=[.bool c.Used,.bool c.Full,.int .i64 c.Held.Machine,.int .i64 c.Held.Kind,.int .i64 c.Held.Index]∧(All []).A w G:=by
  obtain⟨c0,d0,H0,K0,rfl,rfl,h0,c1,d1,H1,K1,rfl,rfl,h1,c2,d2,H2,K2,rfl,rfl,h2,hz,hk⟩:=h
  subst hz;subst hk
  obtain⟨e0,k0⟩:=h0;subst e0;subst k0
  obtain⟨e1,k1⟩:=h1;subst e1;subst k1
  obtain⟨e2,g2⟩:=z6W h2
  subst e2
  refine⟨rfl,?_⟩
  exact cast (congrArg _ (by simp)) g2
theorem z88 {w:World}{c:D.ShardVar}  {G:List Nat}(h:(All []).A w G):z6L.own w [.bool c.Used,.bool c.Full,.int .i64 c.Held.Machine,.int .i64 c.Held.Kind,.int .i64 c.Held.Index] c G:=by
  have hz:G=[]:=h
  subst hz
  exact cast (congrArg _ (by simp)) (show z6L.own w [.bool c.Used,.bool c.Full,.int .i64 c.Held.Machine,.int .i64 c.Held.Kind,.int .i64 c.Held.Index] c (_) from⟨_,_,_,_,rfl,rfl,⟨rfl,rfl⟩,⟨_,_,_,_,rfl,rfl,⟨rfl,rfl⟩,⟨_,_,_,_,rfl,rfl,(z2j (c:=c.Held) rfl),⟨rfl,rfl⟩⟩⟩⟩)
theorem zbk {W w:World}{B:List Res}{cs:List Value}{c:D.ShardVar}(h:St W w (Own z6L cs c::B)):cs=[.bool c.Used,.bool c.Full,.int .i64 c.Held.Machine,.int .i64 c.Held.Kind,.int .i64 c.Held.Index]∧St W w ([]++B):=by
  obtain⟨G,hA,_⟩:=h.sep.head
  obtain⟨rfl,_⟩:=zau hA
  refine⟨rfl,St.splitAll (h.conv fun G hG=>?_)⟩
  exact(zau hG).2
theorem zbj {W w:World}{B:List Res}{c:D.ShardVar}  (h:St W w ([]++B)):St W w (Own z6L [.bool c.Used,.bool c.Full,.int .i64 c.Held.Machine,.int .i64 c.Held.Kind,.int .i64 c.Held.Index] c::B):=(St.fuseAll h).conv fun _ hG=>z88 hG

def z6M:Ty (List D.ShardVar):=tSl 154 z6L
instance {W:World}:Reads W z6M:=inferInstanceAs (Reads W (tSl 154 z6L))
theorem zcd {w:World}{cs:List Value}{xs:(List D.ShardVar)}(h:z6M.ro w cs xs):∃ A c,cs=[.slice A xs.length c]:=slForm h

def z7t:Ty D.ShardRedex:=tMap (fun c=>(c.A,c.B,())) (tPair ty34 (tPair ty34 tUnit))
instance {W:World}:Reads W z7t:=inferInstanceAs (Reads W (tMap (fun c:D.ShardRedex=>(c.A,c.B,())) (tPair ty34 (tPair ty34 tUnit))))
theorem z4e {w:World}{cs:List Value}{c:D.ShardRedex}(h:z7t.ro w cs c):cs=[.int .i64 c.A.Machine,.int .i64 c.A.Kind,.int .i64 c.A.Index,.int .i64 c.B.Machine,.int .i64 c.B.Kind,.int .i64 c.B.Index]:=by
  obtain⟨c0,d0,rfl,h0,c1,d1,rfl,h1,hz⟩:=h
  subst hz
  have e0:=zB h0
  subst e0
  have e1:=zB h1
  subst e1
  rfl
theorem zav {w:World}{cs:List Value}{c:D.ShardRedex}{G:List Nat}(h:z7t.own w cs c G):cs=[.int .i64 c.A.Machine,.int .i64 c.A.Kind,.int .i64 c.A.Index,.int .i64 c.B.Machine,.int .i64 c.B.Kind,.int .i64 c.B.Index]∧(All []).A w G:=by
  obtain⟨c0,d0,H0,K0,rfl,rfl,h0,c1,d1,H1,K1,rfl,rfl,h1,hz,hk⟩:=h
  subst hz;subst hk
  obtain⟨e0,g0⟩:=z6W h0
  subst e0
  obtain⟨e1,g1⟩:=z6W h1
  subst e1
  refine⟨rfl,?_⟩
  exact cast (congrArg _ (by simp)) (allApp g0 g1)
theorem z89 {w:World}{c:D.ShardRedex}  {G:List Nat}(h:(All []).A w G):z7t.own w [.int .i64 c.A.Machine,.int .i64 c.A.Kind,.int .i64 c.A.Index,.int .i64 c.B.Machine,.int .i64 c.B.Kind,.int .i64 c.B.Index] c G:=by
  have hz:G=[]:=h
  subst hz
  exact cast (congrArg _ (by simp)) (show z7t.own w [.int .i64 c.A.Machine,.int .i64 c.A.Kind,.int .i64 c.A.Index,.int .i64 c.B.Machine,.int .i64 c.B.Kind,.int .i64 c.B.Index] c (_) from⟨_,_,_,_,rfl,rfl,(z2j (c:=c.A) rfl),⟨_,_,_,_,rfl,rfl,(z2j (c:=c.B) rfl),⟨rfl,rfl⟩⟩⟩)
theorem zbn {W w:World}{B:List Res}{cs:List Value}{c:D.ShardRedex}(h:St W w (Own z7t cs c::B)):cs=[.int .i64 c.A.Machine,.int .i64 c.A.Kind,.int .i64 c.A.Index,.int .i64 c.B.Machine,.int .i64 c.B.Kind,.int .i64 c.B.Index]∧St W w ([]++B):=by
  obtain⟨G,hA,_⟩:=h.sep.head
  obtain⟨rfl,_⟩:=zav hA
  refine⟨rfl,St.splitAll (h.conv fun G hG=>?_)⟩
  exact(zav hG).2
theorem zbm {W w:World}{B:List Res}{c:D.ShardRedex}  (h:St W w ([]++B)):St W w (Own z7t [.int .i64 c.A.Machine,.int .i64 c.A.Kind,.int .i64 c.A.Index,.int .i64 c.B.Machine,.int .i64 c.B.Kind,.int .i64 c.B.Index] c::B):=(St.fuseAll h).conv fun _ hG=>z89 hG

def z6X:Ty (List D.ShardRedex):=tSl 152 z7t
instance {W:World}:Reads W z6X:=inferInstanceAs (Reads W (tSl 152 z7t))
theorem zcc {w:World}{cs:List Value}{xs:(List D.ShardRedex)}(h:z6X.ro w cs xs):∃ A c,cs=[.slice A xs.length c]:=slForm h

def z5q:Ty D.Shard:=tMap (fun c=>(c.Cells,c.Vars,c.Redexes,())) (tPair ty81 (tPair z6M (tPair z6X tUnit)))
instance {W:World}:Reads W z5q:=inferInstanceAs (Reads W (tMap (fun c:D.Shard=>(c.Cells,c.Vars,c.Redexes,())) (tPair ty81 (tPair z6M (tPair z6X tUnit)))))
theorem z3v {w:World}{cs:List Value}{c:D.Shard}(h:z5q.ro w cs c):∃ A0 k0 A1 k1 A2 k2,cs=[.slice A0 c.Cells.length k0,.slice A1 c.Vars.length k1,.slice A2 c.Redexes.length k2]∧ty81.ro w [.slice A0 c.Cells.length k0] c.Cells∧z6M.ro w [.slice A1 c.Vars.length k1] c.Vars∧z6X.ro w [.slice A2 c.Redexes.length k2] c.Redexes:=by
  obtain⟨c0,d0,rfl,h0,c1,d1,rfl,h1,c2,d2,rfl,h2,hz⟩:=h
  subst hz
  obtain⟨o,H,e0⟩:=zcC h0
  subst e0
  obtain⟨z,L,e1⟩:=zcd h1
  subst e1
  obtain⟨G,M,e2⟩:=zcc h2
  subst e2
  exact⟨o,H,z,L,G,M,rfl,h0,h1,h2⟩
theorem zax {w:World}{cs:List Value}{c:D.Shard}{G:List Nat}(h:z5q.own w cs c G):∃ A0 k0 A1 k1 A2 k2,cs=[.slice A0 c.Cells.length k0,.slice A1 c.Vars.length k1,.slice A2 c.Redexes.length k2]∧(All [Own ty81 [.slice A0 c.Cells.length k0] c.Cells,Own z6M [.slice A1 c.Vars.length k1] c.Vars,Own z6X [.slice A2 c.Redexes.length k2] c.Redexes]).A w G:=by
  obtain⟨c0,d0,H0,K0,rfl,rfl,h0,c1,d1,H1,K1,rfl,rfl,h1,c2,d2,H2,K2,rfl,rfl,h2,hz,hk⟩:=h
  subst hz;subst hk
  obtain⟨o,L,e0⟩:=slFormO h0
  subst e0
  obtain⟨z,M,e1⟩:=slFormO h1
  subst e1
  obtain⟨H,O,e2⟩:=slFormO h2
  subst e2
  refine⟨o,L,z,M,H,O,rfl,?_⟩
  show(All _).A w _
  exact cast (congrArg _ (by simp)) (show(All _).A w (H0++(H1++(H2++([])))) from⟨_,_,rfl,h0,⟨_,_,rfl,h1,⟨_,_,rfl,h2,rfl⟩⟩⟩)
theorem z8b {w:World}{c:D.Shard}{A0:Option Addr}{k0:Nat}{A1:Option Addr}{k1:Nat}{A2:Option Addr}{k2:Nat}{G:List Nat}(h:(All [Own ty81 [.slice A0 c.Cells.length k0] c.Cells,Own z6M [.slice A1 c.Vars.length k1] c.Vars,Own z6X [.slice A2 c.Redexes.length k2] c.Redexes]).A w G):z5q.own w [.slice A0 c.Cells.length k0,.slice A1 c.Vars.length k1,.slice A2 c.Redexes.length k2] c G:=by
  obtain⟨G0,R0,rfl,h0,G1,R1,rfl,h1,G2,R2,rfl,h2,hz⟩:=h
  have hz':R2=[]:=hz
  subst hz'
  exact cast (congrArg _ (by simp)) (show z5q.own w [.slice A0 c.Cells.length k0,.slice A1 c.Vars.length k1,.slice A2 c.Redexes.length k2] c (_) from⟨_,_,_,_,rfl,rfl,h0,⟨_,_,_,_,rfl,rfl,h1,⟨_,_,_,_,rfl,rfl,h2,⟨rfl,rfl⟩⟩⟩⟩)
theorem z1q {W w:World}{B:List Res}{cs:List Value}{c:D.Shard}(h:St W w (Own z5q cs c::B)):∃ A0 k0 A1 k1 A2 k2,cs=[.slice A0 c.Cells.length k0,.slice A1 c.Vars.length k1,.slice A2 c.Redexes.length k2]∧St W w ([Own ty81 [.slice A0 c.Cells.length k0] c.Cells,Own z6M [.slice A1 c.Vars.length k1] c.Vars,Own z6X [.slice A2 c.Redexes.length k2] c.Redexes]++B):=by
  obtain⟨G,hA,_⟩:=h.sep.head
  obtain⟨A0,k0,A1,k1,A2,k2,rfl,_⟩:=zax hA
  refine⟨A0,k0,A1,k1,A2,k2,rfl,St.splitAll (h.conv fun G hG=>?_)⟩
  obtain⟨X0,Y0,X1,Y1,X2,Y2,he,hh⟩:=zax hG
  simp only [List.cons.injEq,Value.slice.injEq,and_true,true_and] at he
  obtain⟨⟨rfl,rfl⟩,⟨rfl,rfl⟩,⟨rfl,rfl⟩⟩:=he
  exact hh
theorem zM {W w:World}{B:List Res}{c:D.Shard}{A0:Option Addr}{k0:Nat}{A1:Option Addr}{k1:Nat}{A2:Option Addr}{k2:Nat}(h:St W w ([Own ty81 [.slice A0 c.Cells.length k0] c.Cells,Own z6M [.slice A1 c.Vars.length k1] c.Vars,Own z6X [.slice A2 c.Redexes.length k2] c.Redexes]++B)):St W w (Own z5q [.slice A0 c.Cells.length k0,.slice A1 c.Vars.length k1,.slice A2 c.Redexes.length k2] c::B):=(St.fuseAll h).conv fun _ hG=>z8b hG

def ty33:Ty (List D.Shard):=tSl 123 z5q
instance {W:World}:Reads W ty33:=inferInstanceAs (Reads W (tSl 123 z5q))
theorem zcG {w:World}{cs:List Value}{xs:(List D.Shard)}(h:ty33.ro w cs xs):∃ A c,cs=[.slice A xs.length c]:=slForm h

def ty36:Ty D.Grid:=tMap (fun c=>(c.Shards,c.Root,())) (tPair ty33 (tPair ty34 tUnit))
instance {W:World}:Reads W ty36:=inferInstanceAs (Reads W (tMap (fun c:D.Grid=>(c.Shards,c.Root,())) (tPair ty33 (tPair ty34 tUnit))))
theorem z7J {w:World}{cs:List Value}{c:D.Grid}(h:ty36.ro w cs c):∃ A0 k0,cs=[.slice A0 c.Shards.length k0,.int .i64 c.Root.Machine,.int .i64 c.Root.Kind,.int .i64 c.Root.Index]∧ty33.ro w [.slice A0 c.Shards.length k0] c.Shards:=by
  obtain⟨c0,d0,rfl,h0,c1,d1,rfl,h1,hz⟩:=h
  subst hz
  obtain⟨o,z,e0⟩:=zcG h0
  subst e0
  have e1:=zB h1
  subst e1
  exact⟨o,z,rfl,h0⟩
theorem z42 {w:World}(c:D.Grid){A0:Option Addr}{k0:Nat}(h0:ty33.ro w [.slice A0 c.Shards.length k0] c.Shards):ty36.ro w [.slice A0 c.Shards.length k0,.int .i64 c.Root.Machine,.int .i64 c.Root.Kind,.int .i64 c.Root.Index] c:=
  ⟨_,_,rfl,h0,⟨_,_,rfl,(z10 c.Root ),rfl⟩⟩
def ty44:Ty (List (List Int)):=tSl 45 ty45
instance {W:World}:Reads W ty44:=inferInstanceAs (Reads W (tSl 45 ty45))
theorem zcF {w:World}{cs:List Value}{xs:(List (List Int))}(h:ty44.ro w cs xs):∃ A c,cs=[.slice A xs.length c]:=slForm h

def z5H:Ty D.Parcel:=tMap (fun c=>(c.Kind,c.Cell,c.A,c.B,())) (tPair tInt (tPair z4W (tPair ty34 (tPair ty34 tUnit))))
instance {W:World}:Reads W z5H:=inferInstanceAs (Reads W (tMap (fun c:D.Parcel=>(c.Kind,c.Cell,c.A,c.B,())) (tPair tInt (tPair z4W (tPair ty34 (tPair ty34 tUnit))))))
theorem z1f {w:World}{cs:List Value}{c:D.Parcel}(h:z5H.ro w cs c):∃ A0 k0 A1 k1,cs=[.int .i64 c.Kind,.int .i64 c.Cell.Kind,.int .i64 c.Cell.Level,.int .i64 c.Cell.Value,.slice A0 c.Cell.Data.length k0,.slice A1 c.Cell.Aux.length k1,.int .i64 c.A.Machine,.int .i64 c.A.Kind,.int .i64 c.A.Index,.int .i64 c.B.Machine,.int .i64 c.B.Kind,.int .i64 c.B.Index]∧ty45.ro w [.slice A0 c.Cell.Data.length k0] c.Cell.Data∧ty82.ro w [.slice A1 c.Cell.Aux.length k1] c.Cell.Aux:=by
  obtain⟨c0,d0,rfl,h0,c1,d1,rfl,h1,c2,d2,rfl,h2,c3,d3,rfl,h3,hz⟩:=h
  subst hz
  subst h0
  obtain⟨o,L,z,M,e1,G,H⟩:=z1g h1
  subst e1
  have e2:=zB h2
  subst e2
  have e3:=zB h3
  subst e3
  exact⟨o,L,z,M,rfl,G,H⟩
theorem zat {w:World}{cs:List Value}{c:D.Parcel}{G:List Nat}(h:z5H.own w cs c G):∃ A0 k0 A1 k1,cs=[.int .i64 c.Kind,.int .i64 c.Cell.Kind,.int .i64 c.Cell.Level,.int .i64 c.Cell.Value,.slice A0 c.Cell.Data.length k0,.slice A1 c.Cell.Aux.length k1,.int .i64 c.A.Machine,.int .i64 c.A.Kind,.int .i64 c.A.Index,.int .i64 c.B.Machine,.int .i64 c.B.Kind,.int .i64 c.B.Index]∧(All [Own ty45 [.slice A0 c.Cell.Data.length k0] c.Cell.Data,Own ty82 [.slice A1 c.Cell.Aux.length k1] c.Cell.Aux]).A w G:=by
  obtain⟨c0,d0,H0,K0,rfl,rfl,h0,c1,d1,H1,K1,rfl,rfl,h1,c2,d2,H2,K2,rfl,rfl,h2,c3,d3,H3,K3,rfl,rfl,h3,hz,hk⟩:=h
  subst hz;subst hk
  obtain⟨e0,k0⟩:=h0;subst e0;subst k0
  obtain⟨o,H,z,L,e1,g1⟩:=z8Z h1
  subst e1
  obtain⟨e2,g2⟩:=z6W h2
  subst e2
  obtain⟨e3,g3⟩:=z6W h3
  subst e3
  refine⟨o,H,z,L,rfl,?_⟩
  exact cast (congrArg _ (by simp)) (allApp g1 (allApp g2 g3))
theorem zcb {w:World}{c:D.Parcel}{A0:Option Addr}{k0:Nat}{A1:Option Addr}{k1:Nat}{G:List Nat}(h:(All [Own ty45 [.slice A0 c.Cell.Data.length k0] c.Cell.Data,Own ty82 [.slice A1 c.Cell.Aux.length k1] c.Cell.Aux]).A w G):z5H.own w [.int .i64 c.Kind,.int .i64 c.Cell.Kind,.int .i64 c.Cell.Level,.int .i64 c.Cell.Value,.slice A0 c.Cell.Data.length k0,.slice A1 c.Cell.Aux.length k1,.int .i64 c.A.Machine,.int .i64 c.A.Kind,.int .i64 c.A.Index,.int .i64 c.B.Machine,.int .i64 c.B.Kind,.int .i64 c.B.Index] c G:=by
  obtain⟨G0,R0,rfl,h0,G1,R1,rfl,h1,hz⟩:=h
  have hz':R1=[]:=hz
  subst hz'
  exact cast (congrArg _ (by simp)) (show z5H.own w [.int .i64 c.Kind,.int .i64 c.Cell.Kind,.int .i64 c.Cell.Level,.int .i64 c.Cell.Value,.slice A0 c.Cell.Data.length k0,.slice A1 c.Cell.Aux.length k1,.int .i64 c.A.Machine,.int .i64 c.A.Kind,.int .i64 c.A.Index,.int .i64 c.B.Machine,.int .i64 c.B.Kind,.int .i64 c.B.Index] c (_) from⟨_,_,_,_,rfl,rfl,⟨rfl,rfl⟩,⟨_,_,_,_,rfl,rfl,(z9J (c:=c.Cell) ⟨_,_,rfl,h0,⟨_,_,rfl,h1,rfl⟩⟩),⟨_,_,_,_,rfl,rfl,(z2j (c:=c.A) rfl),⟨_,_,_,_,rfl,rfl,(z2j (c:=c.B) rfl),⟨rfl,rfl⟩⟩⟩⟩⟩)
theorem zbi {W w:World}{B:List Res}{cs:List Value}{c:D.Parcel}(h:St W w (Own z5H cs c::B)):∃ A0 k0 A1 k1,cs=[.int .i64 c.Kind,.int .i64 c.Cell.Kind,.int .i64 c.Cell.Level,.int .i64 c.Cell.Value,.slice A0 c.Cell.Data.length k0,.slice A1 c.Cell.Aux.length k1,.int .i64 c.A.Machine,.int .i64 c.A.Kind,.int .i64 c.A.Index,.int .i64 c.B.Machine,.int .i64 c.B.Kind,.int .i64 c.B.Index]∧St W w ([Own ty45 [.slice A0 c.Cell.Data.length k0] c.Cell.Data,Own ty82 [.slice A1 c.Cell.Aux.length k1] c.Cell.Aux]++B):=by
  obtain⟨G,hA,_⟩:=h.sep.head
  obtain⟨A0,k0,A1,k1,rfl,_⟩:=zat hA
  refine⟨A0,k0,A1,k1,rfl,St.splitAll (h.conv fun G hG=>?_)⟩
  obtain⟨X0,Y0,X1,Y1,he,hh⟩:=zat hG
  simp only [List.cons.injEq,Value.slice.injEq,and_true,true_and] at he
  obtain⟨⟨rfl,rfl⟩,⟨rfl,rfl⟩⟩:=he
  exact hh
theorem zbh {W w:World}{B:List Res}{c:D.Parcel}{A0:Option Addr}{k0:Nat}{A1:Option Addr}{k1:Nat}(h:St W w ([Own ty45 [.slice A0 c.Cell.Data.length k0] c.Cell.Data,Own ty82 [.slice A1 c.Cell.Aux.length k1] c.Cell.Aux]++B)):St W w (Own z5H [.int .i64 c.Kind,.int .i64 c.Cell.Kind,.int .i64 c.Cell.Level,.int .i64 c.Cell.Value,.slice A0 c.Cell.Data.length k0,.slice A1 c.Cell.Aux.length k1,.int .i64 c.A.Machine,.int .i64 c.A.Kind,.int .i64 c.A.Index,.int .i64 c.B.Machine,.int .i64 c.B.Kind,.int .i64 c.B.Index] c::B):=(St.fuseAll h).conv fun _ hG=>zcb hG

def z5d:Ty (List D.Parcel):=tSl 189 z5H
instance {W:World}:Reads W z5d:=inferInstanceAs (Reads W (tSl 189 z5H))
theorem z87 {w:World}{cs:List Value}{xs:(List D.Parcel)}(h:z5d.ro w cs xs):∃ A c,cs=[.slice A xs.length c]:=slForm h

def ty50:Ty (List (List D.Parcel)):=tSl 181 z5d
instance {W:World}:Reads W ty50:=inferInstanceAs (Reads W (tSl 181 z5d))
theorem zcE {w:World}{cs:List Value}{xs:(List (List D.Parcel))}(h:ty50.ro w cs xs):∃ A c,cs=[.slice A xs.length c]:=slForm h

def ty52:Ty D.Cluster:=tMap (fun c=>(c.Grid,c.Channels,c.Counts,c.Sent,c.Got,())) (tPair ty36 (tPair ty50 (tPair ty44 (tPair ty45 (tPair ty45 tUnit)))))
instance {W:World}:Reads W ty52:=inferInstanceAs (Reads W (tMap (fun c:D.Cluster=>(c.Grid,c.Channels,c.Counts,c.Sent,c.Got,())) (tPair ty36 (tPair ty50 (tPair ty44 (tPair ty45 (tPair ty45 tUnit)))))))
theorem z8X {w:World}{cs:List Value}{c:D.Cluster}(h:ty52.ro w cs c):∃ A0 k0 A1 k1 A2 k2 A3 k3 A4 k4,cs=[.slice A0 c.Grid.Shards.length k0,.int .i64 c.Grid.Root.Machine,.int .i64 c.Grid.Root.Kind,.int .i64 c.Grid.Root.Index,.slice A1 c.Channels.length k1,.slice A2 c.Counts.length k2,.slice A3 c.Sent.length k3,.slice A4 c.Got.length k4]∧ty33.ro w [.slice A0 c.Grid.Shards.length k0] c.Grid.Shards∧ty50.ro w [.slice A1 c.Channels.length k1] c.Channels∧ty44.ro w [.slice A2 c.Counts.length k2] c.Counts∧ty45.ro w [.slice A3 c.Sent.length k3] c.Sent∧ty45.ro w [.slice A4 c.Got.length k4] c.Got:=by
  obtain⟨c0,d0,rfl,h0,c1,d1,rfl,h1,c2,d2,rfl,h2,c3,d3,rfl,h3,c4,d4,rfl,h4,hz⟩:=h
  subst hz
  obtain⟨o,G,e0,z⟩:=z7J h0
  subst e0
  obtain⟨H,X,e1⟩:=zcE h1
  subst e1
  obtain⟨L,Y,e2⟩:=zcF h2
  subst e2
  obtain⟨M,Z,e3⟩:=z5T h3
  subst e3
  obtain⟨O,a0,e4⟩:=z5T h4
  subst e4
  exact⟨o,G,H,X,L,Y,M,Z,O,a0,rfl,z,h1,h2,h3,h4⟩
theorem z5S {w:World}(c:D.Cluster){A0:Option Addr}{k0:Nat}{A1:Option Addr}{k1:Nat}{A2:Option Addr}{k2:Nat}{A3:Option Addr}{k3:Nat}{A4:Option Addr}{k4:Nat}(h0:ty33.ro w [.slice A0 c.Grid.Shards.length k0] c.Grid.Shards) (h1:ty50.ro w [.slice A1 c.Channels.length k1] c.Channels) (h2:ty44.ro w [.slice A2 c.Counts.length k2] c.Counts) (h3:ty45.ro w [.slice A3 c.Sent.length k3] c.Sent) (h4:ty45.ro w [.slice A4 c.Got.length k4] c.Got):ty52.ro w [.slice A0 c.Grid.Shards.length k0,.int .i64 c.Grid.Root.Machine,.int .i64 c.Grid.Root.Kind,.int .i64 c.Grid.Root.Index,.slice A1 c.Channels.length k1,.slice A2 c.Counts.length k2,.slice A3 c.Sent.length k3,.slice A4 c.Got.length k4] c:=
  ⟨_,_,rfl,(z42 c.Grid h0),⟨_,_,rfl,h1,⟨_,_,rfl,h2,⟨_,_,rfl,h3,⟨_,_,rfl,h4,rfl⟩⟩⟩⟩⟩
def zc8:Ty D.Port:=tMap (fun c=>(c.Agent,c.Slot,())) (tPair tInt (tPair tInt tUnit))
instance {W:World}:Reads W zc8:=inferInstanceAs (Reads W (tMap (fun c:D.Port=>(c.Agent,c.Slot,())) (tPair tInt (tPair tInt tUnit))))
theorem z9G {w:World}{cs:List Value}{c:D.Port}(h:zc8.ro w cs c):cs=[.int .i64 c.Agent,.int .i64 c.Slot]:=by
  obtain⟨c0,d0,rfl,h0,c1,d1,rfl,h1,hz⟩:=h
  subst hz
  subst h0
  subst h1
  rfl
def zas:Ty (List D.Port):=tSl 299 zc8
instance {W:World}:Reads W zas:=inferInstanceAs (Reads W (tSl 299 zc8))
theorem zca {w:World}{cs:List Value}{xs:(List D.Port)}(h:zas.ro w cs xs):∃ A c,cs=[.slice A xs.length c]:=slForm h

def zbg:Ty D.Agent:=tMap (fun c=>(c.Kind,c.Level,c.Value,c.Data,c.Ports,())) (tPair tInt (tPair tInt (tPair tInt (tPair ty45 (tPair zas tUnit)))))
instance {W:World}:Reads W zbg:=inferInstanceAs (Reads W (tMap (fun c:D.Agent=>(c.Kind,c.Level,c.Value,c.Data,c.Ports,())) (tPair tInt (tPair tInt (tPair tInt (tPair ty45 (tPair zas tUnit)))))))
theorem z7p {w:World}{cs:List Value}{c:D.Agent}(h:zbg.ro w cs c):∃ A0 k0 A1 k1,cs=[.int .i64 c.Kind,.int .i64 c.Level,.int .i64 c.Value,.slice A0 c.Data.length k0,.slice A1 c.Ports.length k1]∧ty45.ro w [.slice A0 c.Data.length k0] c.Data∧zas.ro w [.slice A1 c.Ports.length k1] c.Ports:=by
  obtain⟨c0,d0,rfl,h0,c1,d1,rfl,h1,c2,d2,rfl,h2,c3,d3,rfl,h3,c4,d4,rfl,h4,hz⟩:=h
  subst hz
  subst h0
  subst h1
  subst h2
  obtain⟨o,G,e3⟩:=z5T h3
  subst e3
  obtain⟨z,H,e4⟩:=zca h4
  subst e4
  exact⟨o,G,z,H,rfl,h3,h4⟩
def ty57:Ty (List D.Agent):=tSl 196 zbg
instance {W:World}:Reads W ty57:=inferInstanceAs (Reads W (tSl 196 zbg))
theorem zcD {w:World}{cs:List Value}{xs:(List D.Agent)}(h:ty57.ro w cs xs):∃ A c,cs=[.slice A xs.length c]:=slForm h

def ty59:Ty D.Net:=tMap (fun c=>(c.Agents,())) (tPair ty57 tUnit)
instance {W:World}:Reads W ty59:=inferInstanceAs (Reads W (tMap (fun c:D.Net=>(c.Agents,())) (tPair ty57 tUnit)))
theorem z7H {w:World}{cs:List Value}{c:D.Net}(h:ty59.ro w cs c):∃ A0 k0,cs=[.slice A0 c.Agents.length k0]∧ty57.ro w [.slice A0 c.Agents.length k0] c.Agents:=by
  obtain⟨c0,d0,rfl,h0,hz⟩:=h
  subst hz
  obtain⟨o,z,e0⟩:=zcD h0
  subst e0
  exact⟨o,z,rfl,h0⟩
def zar:Ty D.Wire:=tMap (fun c=>(c.A,c.B,())) (tPair z2M (tPair z2M tUnit))
instance {W:World}:Reads W zar:=inferInstanceAs (Reads W (tMap (fun c:D.Wire=>(c.A,c.B,())) (tPair z2M (tPair z2M tUnit))))
theorem z9H {w:World}{cs:List Value}{c:D.Wire}(h:zar.ro w cs c):cs=[.int .i64 c.A.Agent,.int .i64 c.A.Slot,.int .i64 c.B.Agent,.int .i64 c.B.Slot]:=by
  obtain⟨c0,d0,rfl,h0,c1,d1,rfl,h1,hz⟩:=h
  subst hz
  have e0:=zn h0
  subst e0
  have e1:=zn h1
  subst e1
  rfl
theorem zc9 {w:World}{c:D.Wire}  {G:List Nat}(h:(All []).A w G):zar.own w [.int .i64 c.A.Agent,.int .i64 c.A.Slot,.int .i64 c.B.Agent,.int .i64 c.B.Slot] c G:=by
  have hz:G=[]:=h
  subst hz
  exact cast (congrArg _ (by simp)) (show zar.own w [.int .i64 c.A.Agent,.int .i64 c.A.Slot,.int .i64 c.B.Agent,.int .i64 c.B.Slot] c (_) from⟨_,_,_,_,rfl,rfl,(z5O (c:=c.A) rfl),⟨_,_,_,_,rfl,rfl,(z5O (c:=c.B) rfl),⟨rfl,rfl⟩⟩⟩)
def z7K:Ty (List D.Wire):=tSl 203 zar
instance {W:World}:Reads W z7K:=inferInstanceAs (Reads W (tSl 203 zar))
end Go.E


namespace Go.E
open Go.RowKit
set_option linter.unusedVariables false
set_option linter.unusedSimpArgs false

theorem Quiet.idxAddr {P:Program}{T:TT}(ht:TTok P T){n:Nat}{F:Fr}{α:Type}{U:Ty α}{g k ln:Nat}{o:Oper}{t e':Nat}{x ix:Operand}{i j:TI}
    {kd:IntKind}{m:Int}(ho:o.op=.indexAddr t x ix) (hi:T.get t=some i) (hd:i.d=.slice e') (hj:T.get e'=some j) (hs:U.size=j.size) (hx:F.ev x=some (.slice (some ⟨g,0,none⟩) ln k)) (hm:F.ev ix=some (.int kd m))
    (h0:0≤m) (hlt:m.toNat<ln) (w:World):Quiet P n F w o (.pointer (some ⟨g,m.toNat*U.size,none⟩)):=fun a w' ha _=>by
  unfold execOp
  rw [ho]
  have hmm:m<ln:=by omega
  simp [ha.ev hx,ha.ev hm,Instr.indexAt,asIntOf,Go.underlying,ht.slice hi hd,h0,hmm,ht.sizeOf hj,zbK,hs]

section
variable {P:Program}{n:Nat}{Q:Post}{F:Fr}{W w w0 w1 W9:World}{ops:List Oper}{wm fuel kk mm:Nat}{sk:List (List Nat × Nat)}{o:Oper}{T:TT}

theorem DM.idxHole (ht:TTok P T){α:Type}{U:Ty α}{A:Option Addr}{k ln:Nat}(hA:∃ g,A=some ⟨g,0,none⟩) (hsk:skOf ops=sk∧ops.length=kk) (ii m':Nat) (hmm:mm ||| 2 ^ ii=m') (hwi:wm.testBit ii=false) (hni:nthv ops ii=some o) (hf:freeM sk (2 ^ kk - 1) mm ii=true) (hg:guardOf ops F o=some true){t e':Nat}{x ix:Operand}{i j:TI}
    {kd:IntKind}{m:Int}(ho:o.op=.indexAddr t x ix) (hi:T.get t=some i) (hd:i.d=.slice e') (hj:T.get e'=some j) (hs:U.size=j.size) (hx:F.ev x=some (.slice A ln k)) (hm:F.ev ix=some (.int kd m))
    (h0:0≤m) (hlt:m.toNat<ln){d:Nat}(hd':o.dst=some d) (hn:Nat.blt d n=true)
    (h:∀ q,ElAt U A m.toNat q→DM P n ops Q W9 w0 wm fuel kk m' ((d,.pointer (some q))::F) w):DM P n ops Q W9 w0 wm (fuel+1) kk mm F w:=by
  obtain⟨g,rfl⟩:=hA
  exact DM.quietP hsk ii m' hmm hwi hni hf hg (Quiet.idxAddr ht ho hi hd hj hs hx hm h0 hlt) hd' hn (h _ ⟨g,rfl,rfl⟩)

theorem DM.focus (ht:TTok P T){α:Type}{U:Ty α}{B:List Res}{e:Nat}{A:Option Addr}{k ln:Nat}{xs:List α}{a:α}(hS:St W w1 (Own (tSl e U) [.slice A ln k] xs::B)) (hsk:skOf ops=sk∧ops.length=kk) (ii m':Nat) (hmm:mm ||| 2 ^ ii=m') (hwi:wm.testBit ii=false) (hni:nthv ops ii=some o) (hf:freeM sk (2 ^ kk - 1) mm ii=true) (hg:guardOf ops F o=some true){t e':Nat}{x ix:Operand}{i j:TI}
    {kd:IntKind}{m:Int}(ho:o.op=.indexAddr t x ix) (hi:T.get t=some i) (hd:i.d=.slice e') (hj:T.get e'=some j) (hs:U.size=j.size) (hx:F.ev x=some (.slice A ln k)) (hm:F.ev ix=some (.int kd m))
    (h0:0≤m) (ha:xs[m.toNat]? = some a){d:Nat}(hd':o.dst=some d) (hn:Nat.blt d n=true)
    (h:∀ q es,ElAt U A m.toNat q→St W w1 (Hole U e (.slice A ln k) xs m.toNat es::Own U es a::B)→DM P n ops Q W w0 wm fuel kk m' ((d,.pointer (some q))::F) w):DM P n ops Q W w0 wm (fuel+1) kk mm F w:=by
  have hlt:=(List.getElem?_eq_some_iff.1 ha).1
  obtain⟨es,h1⟩:=hS.focusN ha
  have hl:=hS.lenEq
  exact DM.idxHole ht (U:=U) (hS.ownAddr hlt) hsk ii m' hmm hwi hni hf hg ho hi hd hj hs hx hm h0 (by omega) hd' hn fun q hq=>h q es hq h1

theorem DM.idxAgain (ht:TTok P T){α:Type}{U:Ty α}{B:List Res}{e:Nat}{A:Option Addr}{k ln:Nat}{xs:List α}{es:List Value}{m:Int}(hS:St W w1 (Hole U e (.slice A ln k) xs m.toNat es::B)) (hsk:skOf ops=sk∧ops.length=kk) (ii m':Nat) (hmm:mm ||| 2 ^ ii=m') (hwi:wm.testBit ii=false) (hni:nthv ops ii=some o) (hf:freeM sk (2 ^ kk - 1) mm ii=true) (hg:guardOf ops F o=some true){t e':Nat}{x ix:Operand}{i j:TI}
    {kd:IntKind}(ho:o.op=.indexAddr t x ix) (hi:T.get t=some i) (hd:i.d=.slice e') (hj:T.get e'=some j) (hs:U.size=j.size) (hx:F.ev x=some (.slice A ln k)) (hm:F.ev ix=some (.int kd m))
    (h0:0≤m){d:Nat}(hd':o.dst=some d) (hn:Nat.blt d n=true)
    (h:∀ q,ElAt U A m.toNat q→DM P n ops Q W w0 wm fuel kk m' ((d,.pointer (some q))::F) w):DM P n ops Q W w0 wm (fuel+1) kk mm F w:=by
  obtain⟨hl,hlt,hA⟩:=hS.hole_len
  exact DM.idxHole ht (U:=U) hA hsk ii m' hmm hwi hni hf hg ho hi hd hj hs hx hm h0 (by omega) hd' hn h

theorem DM.idxOwnN (ht:TTok P T){α:Type}{U:Ty α}{B:List Res}{e:Nat}{A:Option Addr}{k ln:Nat}{xs:List α}(hS:St W w1 (Own (tSl e U) [.slice A ln k] xs::B)) (hsk:skOf ops=sk∧ops.length=kk) (ii m':Nat) (hmm:mm ||| 2 ^ ii=m') (hwi:wm.testBit ii=false) (hni:nthv ops ii=some o) (hf:freeM sk (2 ^ kk - 1) mm ii=true) (hg:guardOf ops F o=some true){t e':Nat}{x ix:Operand}{i j:TI}
    {kd:IntKind}{m:Int}(ho:o.op=.indexAddr t x ix) (hi:T.get t=some i) (hd:i.d=.slice e') (hj:T.get e'=some j) (hs:U.size=j.size) (hx:F.ev x=some (.slice A ln k)) (hm:F.ev ix=some (.int kd m))
    (h0:0≤m) (hlt:m.toNat<xs.length){d:Nat}(hd':o.dst=some d) (hn:Nat.blt d n=true)
    (h:∀ q,(∃ g,A=some ⟨g,0,none⟩∧q=⟨g,m.toNat*U.size,none⟩)→DM P n ops Q W w0 wm fuel kk m' ((d,.pointer (some q))::F) w):DM P n ops Q W w0 wm (fuel+1) kk mm F w:=by
  have hl:=hS.lenEq
  exact DM.idxHole ht (U:=U) (hS.ownAddr hlt) hsk ii m' hmm hwi hni hf hg ho hi hd hj hs hx hm h0 (by omega) hd' hn h


theorem LM.idxHole (ht:TTok P T){α:Type}{U:Ty α}{A:Option Addr}{k ln:Nat}(hA:∃ g,A=some ⟨g,0,none⟩) (hsk:skOf ops=sk∧ops.length=kk){ii:Nat}(m':Nat) (hm':mm ||| 2 ^ ii=m') (hwi:wm.testBit ii=false) (hni:nthv ops ii=some o) (hg:guardOf ops F o=some true){t e':Nat}{x ix:Operand}{i j:TI}
    {kd:IntKind}{m:Int}(ho:o.op=.indexAddr t x ix) (hi:T.get t=some i) (hd:i.d=.slice e') (hj:T.get e'=some j) (hs:U.size=j.size) (hx:F.ev x=some (.slice A ln k)) (hm:F.ev ix=some (.int kd m))
    (h0:0≤m) (hlt:m.toNat<ln){d:Nat}(hd':o.dst=some d) (hn:Nat.blt d n=true)
    (h:∀ q,ElAt U A m.toNat q→DM P n ops Q W9 w0 wm fuel kk m' ((d,.pointer (some q))::F) w):LM P n ops Q W9 w0 wm fuel kk mm ii F w:=by
  obtain⟨g,rfl⟩:=hA
  exact LM.quietL hsk m' hm' hwi hni hg (Quiet.idxAddr ht ho hi hd hj hs hx hm h0 hlt w) hd' hn (h _ ⟨g,rfl,rfl⟩)

theorem LM.focus (ht:TTok P T){α:Type}{U:Ty α}{B:List Res}{e:Nat}{A:Option Addr}{k ln:Nat}{xs:List α}{a:α}(hS:St W w1 (Own (tSl e U) [.slice A ln k] xs::B)) (hsk:skOf ops=sk∧ops.length=kk){ii:Nat}(m':Nat) (hm':mm ||| 2 ^ ii=m') (hwi:wm.testBit ii=false) (hni:nthv ops ii=some o) (hg:guardOf ops F o=some true){t e':Nat}{x ix:Operand}{i j:TI}
    {kd:IntKind}{m:Int}(ho:o.op=.indexAddr t x ix) (hi:T.get t=some i) (hd:i.d=.slice e') (hj:T.get e'=some j) (hs:U.size=j.size) (hx:F.ev x=some (.slice A ln k)) (hm:F.ev ix=some (.int kd m))
    (h0:0≤m) (ha:xs[m.toNat]? = some a){d:Nat}(hd':o.dst=some d) (hn:Nat.blt d n=true)
    (h:∀ q es,ElAt U A m.toNat q→St W w1 (Hole U e (.slice A ln k) xs m.toNat es::Own U es a::B)→DM P n ops Q W w0 wm fuel kk m' ((d,.pointer (some q))::F) w):LM P n ops Q W w0 wm fuel kk mm ii F w:=by
  have hlt:=(List.getElem?_eq_some_iff.1 ha).1
  obtain⟨es,h1⟩:=hS.focusN ha
  have hl:=hS.lenEq
  exact LM.idxHole ht (U:=U) (hS.ownAddr hlt) hsk m' hm' hwi hni hg ho hi hd hj hs hx hm h0 (by omega) hd' hn fun q hq=>h q es hq h1

theorem LM.idxAgain (ht:TTok P T){α:Type}{U:Ty α}{B:List Res}{e:Nat}{A:Option Addr}{k ln:Nat}{xs:List α}{es:List Value}{m:Int}(hS:St W w1 (Hole U e (.slice A ln k) xs m.toNat es::B)) (hsk:skOf ops=sk∧ops.length=kk){ii:Nat}(m':Nat) (hm':mm ||| 2 ^ ii=m') (hwi:wm.testBit ii=false) (hni:nthv ops ii=some o) (hg:guardOf ops F o=some true){t e':Nat}{x ix:Operand}{i j:TI}
    {kd:IntKind}(ho:o.op=.indexAddr t x ix) (hi:T.get t=some i) (hd:i.d=.slice e') (hj:T.get e'=some j) (hs:U.size=j.size) (hx:F.ev x=some (.slice A ln k)) (hm:F.ev ix=some (.int kd m))
    (h0:0≤m){d:Nat}(hd':o.dst=some d) (hn:Nat.blt d n=true)
    (h:∀ q,ElAt U A m.toNat q→DM P n ops Q W w0 wm fuel kk m' ((d,.pointer (some q))::F) w):LM P n ops Q W w0 wm fuel kk mm ii F w:=by
  obtain⟨hl,hlt,hA⟩:=hS.hole_len
  exact LM.idxHole ht (U:=U) hA hsk m' hm' hwi hni hg ho hi hd hj hs hx hm h0 (by omega) hd' hn h

theorem LM.idxOwnN (ht:TTok P T){α:Type}{U:Ty α}{B:List Res}{e:Nat}{A:Option Addr}{k ln:Nat}{xs:List α}(hS:St W w1 (Own (tSl e U) [.slice A ln k] xs::B)) (hsk:skOf ops=sk∧ops.length=kk){ii:Nat}(m':Nat) (hm':mm ||| 2 ^ ii=m') (hwi:wm.testBit ii=false) (hni:nthv ops ii=some o) (hg:guardOf ops F o=some true){t e':Nat}{x ix:Operand}{i j:TI}
    {kd:IntKind}{m:Int}(ho:o.op=.indexAddr t x ix) (hi:T.get t=some i) (hd:i.d=.slice e') (hj:T.get e'=some j) (hs:U.size=j.size) (hx:F.ev x=some (.slice A ln k)) (hm:F.ev ix=some (.int kd m))
    (h0:0≤m) (hlt:m.toNat<xs.length){d:Nat}(hd':o.dst=some d) (hn:Nat.blt d n=true)
    (h:∀ q,(∃ g,A=some ⟨g,0,none⟩∧q=⟨g,m.toNat*U.size,none⟩)→DM P n ops Q W w0 wm fuel kk m' ((d,.pointer (some q))::F) w):LM P n ops Q W w0 wm fuel kk mm ii F w:=by
  have hl:=hS.lenEq
  exact LM.idxHole ht (U:=U) (hS.ownAddr hlt) hsk m' hm' hwi hni hg ho hi hd hj hs hx hm h0 (by omega) hd' hn h

theorem LM.storeElN (ht:TTok P T){α:Type}{U:Ty α}{B:List Res}{e:Nat}{A:Option Addr}{k ln:Nat}{xs:List α}{y:α}{es':List Value}(hS:St W w (Own (tSl e U) [.slice A ln k] xs::Own U es' y::B)) (hsk:skOf ops=sk∧ops.length=kk){ii:Nat}(m':Nat) (hm':mm ||| 2 ^ ii=m') (hwi:wm.testBit ii=true) (hni:nthv ops ii=some o) (hg:guardOf ops F o=some true)
    {t:Nat}{x yv:Operand}(ho:o.op=.store t x yv) (hd:o.dst=none){j:TI}(hj:T.get t=some j) (hs:U.size=j.size){q:Addr}(hx:F.ev x=some (.pointer (some q))){m:Nat}(hlt:m<xs.length)
    (hq:∃ g,A=some ⟨g,0,none⟩∧q=⟨g,m*U.size,none⟩){v:Value}(hy:F.ev yv=some v) (hc:cellsV v=es')
    (h:∀ w',St W w' (Own (tSl e U) [.slice A ln k] (xs.set m y)::B)→DM P n ops Q W w0 wm fuel kk m' F w'):LM P n ops Q W w0 wm fuel kk mm ii F w:=by
  have hl:=hS.lenEq
  subst hl
  obtain⟨w',h1,h2⟩:=z99 (P:=P) ht hS hlt hq hj hs
  have h3:St W w' (Own (tSl e U) [.slice A xs.length k] (xs.set m y)::B):=by simpa using h2
  refine LM.unitW hsk m' hm' hwi hni hg (w':=w') (fun a ha=>?_) hd h3.ext (h w' h3)
  unfold execOp
  rw [ho]
  simp [ha.ev hx,ha.ev hy,Instr.storeAt,Instr.sureAddr,h1 v hc]

theorem za7 (ht:TTok P T){α:Type}{U:Ty α}{e:Nat}{A:Option Addr}{k m:Nat}{xs:List α}{es es':List Value}{B:List Res}(hS:St W w (Hole U e (.slice A xs.length k) xs m es::B)){q:Addr}(hq:ElAt U A m q)
    {t:Nat}{i:TI}(hi:T.get t=some i){q':Addr}(off:Nat) (hq':q'=q.add off){v:Value}(hl:Nat.beq (cellsV v).length i.size=true)
    (h1:oneCells (cellsV v)=true) (hs:setAt es off (cellsV v)=some es'):∃ w',(storeVar t q' v).run P w=.ok () w'∧St W w' (Hole U e (.slice A xs.length k) xs m es'::B):=by
  obtain⟨G,⟨g,cap,c1,c2,rst,G1,G2,hv,hh,a1,a2,a3,a4,a5,a6,k1,k2,hG⟩,_,hlo⟩:=hS.sep.head
  obtain⟨g',rfl,rfl⟩:=hq
  simp only [Value.slice.injEq,Option.some.injEq,Addr.mk.injEq,and_true,true_and] at hv
  obtain⟨rfl,rfl⟩:=hv
  have hset:=z6Z (c1:=c1) (c2:=c2) (rest:=rst) hs
  rw [a4] at hset
  obtain⟨w',r1,r2,r3,r4,r5,r6,r7⟩:=z1F (P:=P) g' (m*U.size+off) e (cellsV v) 0 w _ ((c1++(es'++c2))++rst) h1 hh (by rw [Nat.add_zero];exact hset)
  have hge:W.heap.size≤g':=hlo g' (by rw [hG];simp)
  refine⟨w',?_,⟨r5.trans hS.ext.os,r6.trans hS.ext.tape,r7.trans hS.ext.output,by rw [r4];exact hS.le,fun b hb=>?_⟩,?_⟩
  · have hsz:v.cells.size=i.size:=by
      rw [← Array.length_toList,z4d];exact Nat.eq_of_beq_eq_true hl
    simp [storeVar,ht.sizeOf hi,hsz,z4d,hq',z8V,r1]
  · rw [r3 b (by omega)];exact hS.ext.block b hb
  · refine hS.sep.upd hS.le fun G' hG' hnd' _=>?_
    obtain⟨g1,cap1,d1,d2,rst1,H1,H2,hv1,hh1,b1,b2,b3,b4,b5,b6,l1,l2,rfl⟩:=hG'
    simp only [Value.slice.injEq,Option.some.injEq,Addr.mk.injEq,and_true,true_and] at hv1
    obtain⟨rfl,rfl⟩:=hv1
    rw [hh1] at hh
    simp only [Option.some.injEq,Obj.cells.injEq,Array.mk.injEq,and_true] at hh
    have hset1:=z6Z (c1:=d1) (c2:=d2) (rest:=rst1) hs
    have e1:d1.length=c1.length:=by rw [b4,a4]
    rw [hh,e1] at hset1
    rw [← a4] at hset
    have e2:(c1++(es'++c2))++rst=(d1++(es'++d2))++rst1:=Option.some.inj (hset.symm.trans hset1)
    have hle:=z78 _ _ _ _ hs
    simp only [List.nodup_cons,List.mem_append,not_or] at hnd'
    refine⟨g'::(H1++H2),⟨g',k,d1,d2,rst1,H1,H2,rfl,by rw [r2,e2],b1,b2,?_,b4,by rw [hle];exact b5,b6,l1.loc fun b hb=>r3 b (by rintro rfl;exact hnd'.1.1 hb),l2.loc fun b hb=>r3 b (by rintro rfl;exact hnd'.1.2 hb),rfl⟩,by simpa using hnd',fun b hb=>.inl hb,fun b hb hn=>r3 b (by rintro rfl;exact hn (by simp))⟩
    rw [← b3]
    simp only [List.length_append,hle]

theorem LM.storeHoleN (ht:TTok P T){α:Type}{U:Ty α}{e:Nat}{A:Option Addr}{k m ln:Nat}{xs:List α}{es es':List Value}{B:List Res}(hS:St W w (Hole U e (.slice A ln k) xs m es::B)){q:Addr}(hq:ElAt U A m q)
    (hsk:skOf ops=sk∧ops.length=kk){ii:Nat}(m':Nat) (hm':mm ||| 2 ^ ii=m') (hwi:wm.testBit ii=true) (hni:nthv ops ii=some o) (hg:guardOf ops F o=some true){t:Nat}{x y:Operand}(ho:o.op=.store t x y) (hd:o.dst=none)
    {i:TI}(hi:T.get t=some i){q':Addr}(hx:F.ev x=some (.pointer (some q'))) (off:Nat) (hq':q'=q.add off){v:Value}(hy:F.ev y=some v) (hl:Nat.beq (cellsV v).length i.size=true)
    (h1:oneCells (cellsV v)=true) (hs:setAt es off (cellsV v)=some es') (h:∀ w',St W w' (Hole U e (.slice A ln k) xs m es'::B)→DM P n ops Q W w0 wm fuel kk m' F w'):LM P n ops Q W w0 wm fuel kk mm ii F w:=by
  obtain⟨hn,_,_⟩:=hS.hole_len
  subst hn
  obtain⟨w',r1,r2⟩:=za7 (P:=P) ht hS hq hi off hq' hl h1 hs
  refine LM.unitW hsk m' hm' hwi hni hg (w':=w') (fun a ha=>?_) hd r2.ext (h w' r2)
  unfold execOp
  rw [ho]
  simp [ha.ev hx,ha.ev hy,Instr.storeAt,Instr.sureAddr,r1]


end
end Go.E


namespace Go.E
open Go.RowKit
set_option linter.unusedVariables false
set_option linter.unusedSimpArgs false


inductive Rd (σ τ ρ:Type) where
  | next (s:σ)
  | brk (t:τ)
  | ret (r:ρ)

def iter {σ τ ρ:Type}(body:σ→Option (Rd σ τ ρ)):Nat→σ→Option (τ ⊕ ρ)
  | 0,_=>none
  | n+1,s=>match body s with
    | none=>none
    | some (.next s')=>iter body n s'
    | some (.brk t)=>some (.inl t)
    | some (.ret r)=>some (.inr r)

def idx {α:Type}(xs:List α) (i:Int):Option α:=if 0≤i then xs[i.toNat]? else none

theorem z5 {α:Type}{xs:List α}{i:Int}{x:α}(h:idx xs i=some x):0≤i∧xs[i.toNat]? = some x:=by
  unfold idx at h
  split at h
  · exact⟨by assumption,h⟩
  · cases h


def aft {τ A:Type}(o:τ ⊕ A) (k:τ→Option A):Option A:=
  match o with
  | .inl t=>k t
  | .inr a=>some a

theorem z8 {τ A:Type}(t:τ) (k:τ→Option A):aft (.inl t) k=k t:=rfl

theorem zfj {c:Bool}(h:c=false):¬ c=true:=by rw [h];simp

theorem bind_some {α β:Type}{x:Option α}{f:α→Option β}{b:β}(h:x.bind f=some b):∃ a,x=some a∧f a=some b:=by
  cases x with
  | none=>cases h
  | some a=>exact⟨a,rfl,h⟩

section
variable {P:Program}{n:Nat}{Q:Post}{F:Fr}{w:World}


theorem WP.iter {c:Code}{σ τ ρ:Type}(J:σ→Fr→World→Prop) (body:σ→Option (Rd σ τ ρ)){k:Nat}{s:σ}{out:τ ⊕ ρ}(hm:iter body k s=some out) (h0:J s F w)
    (round:∀ s F w k o,J s F w→body s=some o→(match o with | .next s'=>Go.E.iter body k s'=some out | .brk t=>out=.inl t | .ret r=>out=.inr r)→
      WP P n c (Q.after (fun F' w'=>∃ s' F'',F'.Has F''∧o=.next s'∧J s' F'' w')) F w):WP P n (.loop c) Q F w:=by
  refine WP.loop (σ:={ p:Nat × σ // Go.E.iter body p.1 p.2=some out }) (fun p F w=>J p.1.2 F w) (fun p=>p.1.1) ⟨(k,s),hm⟩ h0 ?_
  rintro⟨⟨k,s⟩,hk⟩ F w hJ
  cases k with
  | zero=>cases hk
  | succ k=>
    have hk':=hk
    simp only [Go.E.iter] at hk'
    cases hb:body s with
    | none=>rw [hb] at hk';cases hk'
    | some o=>
      rw [hb] at hk'
      refine(round s F w k o hJ hb ?_).mono ?_
      · cases o with
        | next s'=>exact hk'
        | brk t=>simp only [Option.some.injEq] at hk';exact hk'.symm
        | ret r=>simp only [Option.some.injEq] at hk';exact hk'.symm
      · intro e F' w' q
        cases e with
        | normal=>
          obtain⟨s',F2,hh,rfl,hJ'⟩:=q
          exact⟨⟨(k,s'),hk'⟩,F2,hh,hJ',Nat.lt_succ_self k⟩
        | _=>exact q


theorem WP.cut {c:Code}{τ:Type}(J:τ→Fr→World→Prop) (hk:∀ t F w,J t F w→Q .normal F w) (h:WP P n c (Q.after (fun F w=>∃ t F',F.Has F'∧J t F' w)) F w):WP P n c Q F w:=
  fun a ha=>wp_mono (h a ha) fun e a' w' ⟨F1,hf,q⟩=>by
    cases e with
    | normal=>obtain⟨t,F',hh,ht⟩:=q;exact⟨F',hf.weak hh,hk t F' w' ht⟩
    | _=>exact⟨F1,hf,q⟩

theorem RW.know {ops rest:List Oper}(i:Nat){v u:Value}(hg:F.get i=some v) (e:v=u) (h:RW P n ops Q rest ((i,u)::F) w):RW P n ops Q rest F w:=fun a ha=>
  h a ⟨ha.1,ha.2.1,fun j x hx=>by
    rw [Fr.get_cons] at hx
    split at hx
    · rename_i hj;subst hj;simp only [Option.some.injEq] at hx;subst hx;rw [← e];exact ha.2.2 _ _ hg
    · exact ha.2.2 _ _ hx⟩

theorem DW.know {ops:List Oper}{w0 W9:World}{wr:Nat→Bool}{fuel:Nat}{listed:Array Bool}(i:Nat){v u:Value}(hg:F.get i=some v) (e:v=u) (h:DW P n ops Q W9 w0 wr fuel listed ((i,u)::F) w):DW P n ops Q W9 w0 wr fuel listed F w:=fun hs he hv a ha=>
  h hs he hv a ⟨ha.1,ha.2.1,fun j x hx=>by
    rw [Fr.get_cons] at hx
    split at hx
    · rename_i hj;subst hj;simp only [Option.some.injEq] at hx;subst hx;rw [← e];exact ha.2.2 _ _ hg
    · exact ha.2.2 _ _ hx⟩

theorem DM.know {ops:List Oper}{w0 W9:World}{wm fuel k m:Nat}(i:Nat){v u:Value}(hg:F.get i=some v) (e:v=u) (h:DM P n ops Q W9 w0 wm fuel k m ((i,u)::F) w):DM P n ops Q W9 w0 wm fuel k m F w:=fun l hl=>DW.know i hg e (h l hl)

theorem z9W {α:Type}{xs:List α}{l h:Nat}(h2:h≤xs.length):((xs.take h).drop l).length=h - l:=by
  rw [List.length_drop,List.length_take,Nat.min_eq_left h2]

theorem zfc {α:Type}{U:Ty α}{e:Nat}{xs:List α}{l h:Nat}{A:Option Addr}{c:Nat}{w:World}(_:l≤h) (h2:h≤xs.length) (hr:(tSl e U).ro w [.slice A (h - l) c] ((xs.take h).drop l)):
    (tSl e U).ro w [.slice A ((xs.take h).drop l).length c] ((xs.take h).drop l):=by
  rw [z9W h2];exact hr

theorem ResIs.agg {T:TT}(ht:TTok P T){a:Tmp}{t:Nat}{q:Addr}(h:F.get a=some (.pointer (some q))){i:TI}(hi:T.get t=some i) (hag:i.agg=true){cs:List Value}(hat:At w q cs) (hl:Nat.beq cs.length i.size=true):
    ResIs P F w (.cell a t) (.agg ⟨cs⟩):=.cell h (by
  have hr:=run_loadCells_list (P:=P) w q cs fun j u hu=>hat j u hu
  rw [Nat.eq_of_beq_eq_true hl] at hr
  simp [loadVar,ht.isAgg hi,ht.sizeOf hi,hag,hr])

theorem ResIs.one {T:TT}(ht:TTok P T){a:Tmp}{t:Nat}{q:Addr}(h:F.get a=some (.pointer (some q))){i:TI}(hi:T.get t=some i) (hag:i.agg=false){c:Value}(hat:At w q [c]):
    ResIs P F w (.cell a t) c:=.cell h (by
  have hc:w.cell? q=some c:=by have:=hat 0 c rfl;simpa [Addr.add] using this
  simp [loadVar,ht.isAgg hi,hag,run_load,hc])

theorem At.sub {p:Addr}{cs:List Value}(h:At w p cs) (off m:Nat):At w (p.add off) ((cs.drop off).take m):=h.part fun j u hu=>by
  rw [List.getElem?_take] at hu
  split at hu
  · simpa using hu
  · cases hu
end
end Go.E


namespace Go.E
open Go.RowKit
set_option linter.unusedVariables false
set_option linter.unusedSimpArgs false

def I64 (n:Int):Prop:=-9223372036854775808≤n∧n≤9223372036854775807

theorem zaO {n:Int}(h:(Lit.int .i64 n).wf=true):I64 n:=by
  have h1:IntKind.i64.min = -9223372036854775808:=rfl
  have h2:IntKind.i64.max=9223372036854775807:=rfl
  simp only [Lit.wf,Bool.and_eq_true,decide_eq_true_eq,h1,h2] at h
  exact h

theorem zfe {n:Int}(h:I64 n):w64 n=n:=by
  obtain⟨h1,h2⟩:=h
  have e:w64 n=if n % 18446744073709551616≥9223372036854775808 then n % 18446744073709551616 - 18446744073709551616 else n % 18446744073709551616:=by
    unfold w64 IntKind.wrap
    show(if(true && decide (n % (2 ^ 64:Int)≥(2 ^ 63:Int)))=true then n % (2 ^ 64:Int) - (2 ^ 64:Int) else n % (2 ^ 64:Int))=_
    simp
  rw [e]
  split<;>omega

def Opens (P:Program) (t:TypeId){α:Type}(T:Ty α) (wf:α→Prop):Prop:=
  P.cellsOf t=T.size∧∀ {H:Type}{enc:TypeId × Value→H}{w:World}{base:Nat}{spare:Nat→Bool}{held:Bool}{fuel:Nat}{cs:List Value}{x:DataW H × List MemPlace},
    DataW.trod enc P w base spare held fuel t cs=some x→∃ a,T.ro w cs a∧wf a

theorem Opens.int {P:Program}{t:TypeId}(ht:P.underlying t=some (.int .i64)) (hc:P.cellsOf t=1):Opens P t tInt I64:=
  ⟨hc,fun h=>by
    obtain⟨n,rfl,_,hw⟩:=DataW.trod_int ht h
    exact⟨n,rfl,zaO hw⟩⟩

theorem Opens.bool {P:Program}{t:TypeId}(ht:P.underlying t=some .bool) (hc:P.cellsOf t=1):Opens P t tBool fun _=>True:=
  ⟨hc,fun h=>by
    obtain⟨n,rfl,_⟩:=DataW.trod_bool ht h
    exact⟨n,rfl,trivial⟩⟩

theorem Opens.str {P:Program}{t:TypeId}(ht:P.underlying t=some .string) (hc:P.cellsOf t=1):Opens P t tStr fun s=>s.size≤maxLen:=
  ⟨hc,fun h=>by
    obtain⟨n,rfl,_,hw⟩:=DataW.trod_string ht h
    exact⟨n,rfl,hw⟩⟩

theorem At.append {w:World}{p:Addr}{cs es:List Value}(ha:At w p cs) (hb:At w (p.add cs.length) es):At w p (cs++es):=fun j u hu=>by
  rcases Nat.lt_or_ge j cs.length with h | h
  · rw [List.getElem?_append_left h] at hu
    exact ha j u hu
  · rw [List.getElem?_append_right h] at hu
    have:=hb (j - cs.length) u hu
    rw [zed] at this
    rwa [show cs.length+(j - cs.length)=j by omega] at this

theorem zaL {α:Type}{T:Ty α}{wf:α→Prop}{w:World}{a:Addr}{base:Nat}:∀ (n:Nat),(∀ i,i<n→∃ cs',w.cells? base (a.add (i*T.size)) T.size=some cs'∧∃ x,T.ro w cs' x∧wf x)→
    ∃ (xs:List α) (els:List Value),xs.length=n∧Els T w els xs∧At w a els∧∀ x,x∈xs→wf x
  | 0,_=>⟨[],[],rfl,rfl,fun j u hu=>by simp at hu,fun x hx=>by cases hx⟩
  | n+1,h=>by
    obtain⟨xs,els,hl,he,ha,hw⟩:=zaL n fun i hi=>h i (Nat.lt_succ_of_lt hi)
    obtain⟨cs',hc,x,hx,hwx⟩:=h n (Nat.lt_succ_self n)
    refine⟨xs++[x],els++cs',by simp [hl],he.append ⟨cs',[],by simp,hx,rfl⟩,ha.append ?_,fun y hy=>?_⟩
    · obtain⟨_,hcl,hat⟩:=World.cells?_some hc
      intro j u hu
      have hj:=(List.getElem?_eq_some_iff.1 hu).1
      rw [he.length,hl,hat j (by omega)]
      exact hu
    · rcases List.mem_append.1 hy with hy | hy
      · exact hw y hy
      · simp only [List.mem_singleton] at hy;subst hy;exact hwx

def WfL {α:Type}(wf:α→Prop) (xs:List α):Prop:=xs.length≤maxLen∧∀ x,x∈xs→wf x

theorem Opens.sl {P:Program}{t e:TypeId}{α:Type}{T:Ty α}{wf:α→Prop}(ht:P.underlying t=some (.slice e)) (hc:P.cellsOf t=1) (ho:Opens P e T wf):Opens P t (tSl e T) (WfL wf):=
  ⟨hc,by
    intro H enc w base spare held fuel cs x h
    rcases Go.Deep.open_slice ht h with⟨rfl,_⟩ | ⟨a,len,cap,m,n,D,Pl,rfl,_,hl,hm,hmm,_,hi⟩
    · exact⟨[],⟨none,0,[],rfl,Nat.le_refl _,rfl,fun h=>absurd rfl h⟩,⟨Nat.zero_le _,fun x hx=>by cases hx⟩⟩
    · have hlm:len≤m:=by rw [hmm];split<;>omega
      rw [ho.1] at hi
      obtain⟨xs,els,hxl,he,ha,hw⟩:=zaL (T:=T) (wf:=wf) (w:=w) (a:=a) (base:=base) len fun i hil=>by
        obtain⟨cs',h1,h2⟩:=hi i (by omega)
        exact⟨cs',h1,ho.2 h2⟩
      subst hxl
      exact⟨xs,⟨some a,cap,els,rfl,hl,he,fun _=>⟨a,rfl,ha⟩⟩,⟨by omega,hw⟩⟩⟩


def OpensF (P:Program) (o:Nat) (fs:List Field){α:Type}(T:Ty α) (wf:α→Prop):Prop:=
  ∀ {H:Type}{enc:TypeId × Value→H}{w:World}{base:Nat}{spare:Nat→Bool}{held:Bool}{fuel:Nat}{cs:List Value},
    (∀ (i:Nat) (f:Field),fs[i]? = some f→∃ x,DataW.trod enc P w base spare held fuel f.type ((cs.drop f.offset).take (P.cellsOf f.type))=some x)→∃ a,T.ro w ((cs.drop o).take T.size) a∧wf a

theorem OpensF.nil {P:Program}{o:Nat}:OpensF P o [] tUnit fun _=>True:=fun _=>⟨(),by show List.take 0 _=[];simp,trivial⟩

theorem OpensF.cons {P:Program}{o o':Nat}{f:Field}{fs:List Field}{α β:Type}{T:Ty α}{U:Ty β}{wf:α→Prop}{wg:β→Prop}(ho:Opens P f.type T wf) (hf:f.offset=o) (h':o'=o+T.size) (hr:OpensF P o' fs U wg):
    OpensF P o (f::fs) (tPair T U) fun x=>wf x.1∧wg x.2:=by
  intro H enc w base spare held fuel cs h
  obtain⟨x,hx⟩:=h 0 f rfl
  obtain⟨a,h1,h2⟩:=ho.2 hx
  obtain⟨b,h3,h4⟩:=hr (cs:=cs) fun i g hg=>h (i+1) g hg
  subst h'
  refine⟨(a,b),⟨_,_,?_,h1,h3⟩,h2,h4⟩
  rw [ho.1,hf]
  show List.take (T.size+U.size) _=_
  rw [List.take_add,List.drop_drop]

theorem Opens.struct {P:Program}{t:TypeId}{fs:Array Field}{α β:Type}{T:Ty α}{wf:α→Prop}{f:β→α}(ht:P.underlying t=some (.struct fs)) (hc:P.cellsOf t=T.size) (h:OpensF P 0 fs.toList T wf) (hs:∀ a,∃ b,f b=a):
    Opens P t (tMap f T) fun b=>wf (f b):=
  ⟨hc,by
    intro H enc w base spare held fuel cs x hx
    obtain⟨xs,n,_,_,hl,hxl,hf⟩:=DataW.trod_struct ht hx
    obtain⟨a,h1,h2⟩:=h (cs:=cs) (w:=w) (enc:=enc) (base:=base) (spare:=spare) (held:=held) (fuel:=n) fun i g hg=>by
      have hi:i<fs.size:=by simpa using (List.getElem?_eq_some_iff.1 hg).1
      exact⟨xs[i]'(by omega),(hf i g (by simpa using hg)).trans (List.getElem?_eq_getElem _)⟩
    obtain⟨b,rfl⟩:=hs a
    refine⟨b,?_,h2⟩
    show T.ro w cs (f b)
    rwa [List.drop_zero,List.take_of_length_le (by omega)] at h1⟩

section
variable {H:Type}{enc:TypeId × Value→H}{P:Program}{w:World}{base b0:Nat}{spare:Nat→Bool}{held:Bool}{r:Reach}{t:TypeId}{v:Value}{d:DataW H}{p:List MemPlace}

theorem z9X {α:Type}{T:Ty α}{wf:α→Prop}{fs:Array Field}(ht:P.underlying t=some (.struct fs)) (ho:Opens P t T wf) (hv:Value.okWide P w r b0 t v) (h:DataW.Trod enc P w base spare held t v d p):
    ∃ cs x,v=.agg ⟨cs⟩∧T.ro w cs x∧wf x:=by
  obtain⟨cs,rfl,_⟩:=WideShapes.okWide_struct ht hv
  obtain⟨fuel,hf⟩:=h
  obtain⟨x,h1,h2⟩:=ho.2 hf
  exact⟨cs.toList,x,rfl,h1,h2⟩

theorem zbc {e:TypeId}{α:Type}{T:Ty α}{wf:α→Prop}(ht:P.underlying t=some (.slice e)) (ho:Opens P t (tSl e T) (WfL wf)) (hv:Value.okWide P w r b0 t v) (h:DataW.Trod enc P w base spare held t v d p):
    ∃ A c x,v=.slice A x.length c∧(tSl e T).ro w [.slice A x.length c] x∧WfL wf x:=by
  obtain⟨A,l,c,rfl⟩:=WideShapes.okWide_slice ht hv
  obtain⟨fuel,hf⟩:=h
  obtain⟨x,h1,h2⟩:=ho.2 hf
  obtain⟨A',c',els,he,h3⟩:=h1
  simp only [Value.cells,List.cons.injEq,Value.slice.injEq,and_true] at he
  obtain⟨rfl,rfl,rfl⟩:=he
  exact⟨A,c,x,rfl,⟨A,c,els,rfl,h3⟩,h2⟩

theorem ze8 (ht:P.underlying t=some (.int .i64)) (hv:Value.okWide P w r b0 t v) (h:DataW.Trod enc P w base spare held t v d p):∃ x,v=.int .i64 x∧I64 x:=by
  obtain⟨x,rfl,_,_,hw⟩:=ChangeShapes.open_int ht hv h
  exact⟨x,rfl,zaO hw⟩

end

theorem Ret.out {Q:Value→World→Prop}{e:Ending}{w:World}(h:Ret Q e w):∃ v,e=.returned v∧Q v w:=by
  cases e with
  | returned v=>exact⟨v,rfl,h⟩
  | _=>exact False.elim h
end Go.E


namespace Go.E
set_option linter.unusedVariables false
set_option linter.unusedSimpArgs false

theorem zC {n:Int}(h0:-9223372036854775808≤n) (h1:n≤9223372036854775807):w64 n=n:=zfe ⟨h0,h1⟩


theorem z2K {σ τ ρ:Type}{body:σ→Option (Rd σ τ ρ)}(I:Nat→σ→Prop) (n:Nat) (Q:τ ⊕ ρ→Prop)
    (step:∀ i s,i<n→I i s→(∃ s',body s=some (.next s')∧I (i+1) s')∨(∃ r,body s=some (.ret r)∧Q (.inr r))∨∃ t,body s=some (.brk t)∧Q (.inl t))
    (last:∀ s,I n s→(∃ r,body s=some (.ret r)∧Q (.inr r))∨∃ t,body s=some (.brk t)∧Q (.inl t)):
    ∀ {fuel i s},i≤n→n - i<fuel→I i s→∃ o,iter body fuel s=some o∧Q o
  | 0,i,s,_,hf,_=>by omega
  | fuel+1,i,s,hi,hf,hI=>by
    have done:((∃ r,body s=some (.ret r)∧Q (.inr r))∨∃ t,body s=some (.brk t)∧Q (.inl t))→∃ o,iter body (fuel+1) s=some o∧Q o:=by
      rintro(⟨r,h1,h2⟩ | ⟨t,h1,h2⟩)
      · exact⟨_,by simp only [iter,h1],h2⟩
      · exact⟨_,by simp only [iter,h1],h2⟩
    rcases Nat.lt_or_ge i n with h | h
    · rcases step i s h hI with⟨s',h1,h2⟩ | h1
      · obtain⟨o,h3,h4⟩:=z2K I n Q step last (fuel:=fuel) (i:=i+1) h (by omega) h2
        exact⟨o,by simp only [iter,h1];exact h3,h4⟩
      · exact done h1
    · obtain rfl:i=n:=by omega
      exact done (last s hI)

def sumL {α:Type}(f:α→Nat):List α→Nat
  | []=>0
  | x::xs=>f x+sumL f xs


def szL {α:Type}(f:α→Nat) (xs:List α):Nat:=xs.length+sumL f xs

theorem z6f {α:Type}{f:α→Nat}{x:α}:∀ {xs:List α},x∈xs→f x≤sumL f xs
  | y::xs,h=>by
    rcases List.mem_cons.1 h with rfl | h
    · exact Nat.le_add_right _ _
    · exact Nat.le_trans (z6f h) (Nat.le_add_left _ _)

theorem z6i {α:Type}{f:α→Nat}:∀ {xs ys:List α},sumL f (xs++ys)=sumL f xs+sumL f ys
  | [],ys=>by simp [sumL]
  | x::xs,ys=>by simp only [List.cons_append,sumL,z6i (xs:=xs),Nat.add_assoc]

theorem z91 {α:Type}{f:α→Nat}{xs:List α}{i:Nat}{x:α}(h:xs[i]? = some x):sumL f (xs.take (i+1))=sumL f (xs.take i)+f x:=by
  rw [List.take_add_one,h,z6i]
  simp [sumL]

theorem z3T {α:Type}{f:α→Nat}{xs:List α}{n:Nat}(h:szL f xs≤n):xs.length≤n:=by unfold szL at h;omega
theorem z3S {α:Type}{f:α→Nat}{xs:List α}{n:Nat}(h:szL f xs≤n){x:α}(hx:x∈xs):f x≤n:=by
  have:=z6f (f:=f) hx
  unfold szL at h;omega
theorem z7q {α:Type}{f:α→Nat}(hf:∀ x,f x=0):∀ (xs:List α),szL f xs=xs.length
  | []=>rfl
  | x::xs=>by
    have:=z7q hf xs
    unfold szL at this ⊢
    simp only [sumL,hf,List.length_cons]
    omega

theorem zy {α:Type}{xs:List α}{i:Nat}{x:α}(h:xs[i]? = some x):idx xs (i:Int)=some x:=by
  unfold idx
  simp [h]

theorem z5i {α:Type}{xs:List α}{i:Nat}(h:i<xs.length):∃ x,xs[i]? = some x:=⟨_,List.getElem?_eq_getElem h⟩
theorem lt_t {a b:Int}(h:a<b):(decide (a<b)=true)=True:=by simp [h]
theorem lt_f {a b:Int}(h:¬ a<b):(decide (a<b)=true)=False:=by simp [h]


def SzOk (n:Nat) (l:Int) (o:Option Int):Prop:=∃ r,o=some r∧(r<0∨0≤r∧r+(n:Int)=l)

theorem SzOk.fail {n:Nat}{l:Int}:SzOk n l (some (-1)):=⟨_,rfl,.inl (by decide)⟩
theorem SzOk.same {l:Int}(h:0≤l):SzOk 0 l (some l):=⟨_,rfl,.inr ⟨h,by omega⟩⟩

theorem SzOk.bind {n m k:Nat}{l:Int}{o:Option Int}{f:Int→Option Int}(h:SzOk n l o) (hk:k=n+m) (g:∀ r,0≤r→r≤l→SzOk m r (f r)):
    SzOk k l (o.bind fun r=>if decide (r<0)=true then some (-1) else f r):=by
  obtain⟨r,rfl,h⟩:=h
  subst hk
  show SzOk _ _ (if decide (r<0)=true then some (-1) else f r)
  rcases h with h | ⟨h1,h2⟩
  · simp only [lt_t h,if_true];exact SzOk.fail
  · simp only [lt_f (show ¬ r<0 by omega),if_false]
    obtain⟨s,h3,h4⟩:=g r h1 (by omega)
    exact⟨s,h3,h4.imp id fun⟨h5,h6⟩=>⟨h5,by omega⟩⟩

theorem SzOk.sub {n m k:Nat}{l:Int}{f:Int→Option Int}(h0:0≤l) (h1:l≤1048576) (hn:n≤maxLen) (hk:k=n+m) (g:∀ r,0≤r→r≤l→SzOk m r (f r)):
    SzOk k l (if decide (w64 (l - (n:Int))<0)=true then some (-1) else f (w64 (l - (n:Int)))):=by
  have hm:maxLen=9223372036854775807:=rfl
  rw [zC (show -9223372036854775808≤l - (n:Int) by omega) (by omega)]
  subst hk
  by_cases h:l - (n:Int)<0
  · simp only [lt_t h,if_true];exact SzOk.fail
  · simp only [lt_f h,if_false]
    obtain⟨s,h3,h4⟩:=g _ (show 0≤l - (n:Int) by omega) (by omega)
    exact⟨s,h3,h4.imp id fun⟨h5,h6⟩=>⟨h5,by omega⟩⟩

theorem SzOk.sub2 {n m k:Nat}{l z:Int}{e:Option Int}(h0:0≤l) (h1:l≤1048576) (hn:n≤maxLen) (hk:k=n+m) (hz:w64 (l - (n:Int))=z) (g:0≤z→z≤l→SzOk m z e):
    SzOk k l (if decide (z<0)=true then some (-1) else e):=by
  have hm:maxLen=9223372036854775807:=rfl
  rw [zC (show -9223372036854775808≤l - (n:Int) by omega) (by omega)] at hz
  subst hk
  by_cases h:z<0
  · simp only [lt_t h,if_true];exact SzOk.fail
  · simp only [lt_f h,if_false]
    obtain⟨s,h3,h4⟩:=g (by omega) (by omega)
    exact⟨s,h3,h4.imp id fun⟨h5,h6⟩=>⟨h5,by omega⟩⟩


theorem SzOk.loop {α:Type}{f:α→Nat}{xs:List α}{body:Int × Int→Option (Rd (Int × Int) Int Int)}{j:Int→Option Int}{l:Int}{fuel:Nat}(hl:xs.length≤maxLen) (hf:18446744073709551616≤fuel) (h0:0≤l) (h1:l≤1048576) (hj:∀ t,j t=some t)
    (step:∀ (i:Nat) (x:α) (l:Int),xs[i]? = some x→0≤l→l≤1048576→body (l,i)=some (.ret (-1))∨∃ r,body (l,i)=some (.next (r,w64 (i+1)))∧0≤r∧r+(f x:Int)=l)
    (last:∀ l,body (l,xs.length)=some (.brk l)):SzOk (sumL f xs) l ((iter body fuel (l,0)).bind fun o=>aft o j):=by
  have hm:maxLen=9223372036854775807:=rfl
  obtain⟨o,h2,h3⟩:=z2K (body:=body) (fun i s=>s.2=(i:Int)∧0≤s.1∧s.1+(sumL f (xs.take i):Int)=l) xs.length (fun o=>match o with | .inl t=>0≤t∧t+(sumL f xs:Int)=l | .inr r=>r = -1) (by
    rintro i ⟨s,t⟩ hi ⟨h2,h3,h4⟩
    dsimp only at h2 h3 h4
    subst h2
    obtain⟨x,hx⟩:=z5i hi
    rcases step i x s hx h3 (by omega) with h | ⟨r,h5,h6,h7⟩
    · exact .inr (.inl ⟨_,h,rfl⟩)
    · refine .inl ⟨_,h5,?_,h6,?_⟩
      · show w64 _=_
        rw [zC (by omega) (by omega)];simp
      · rw [z91 hx]
        show r+_=l
        omega) (by
    rintro⟨s,t⟩ ⟨h2,h3,h4⟩
    dsimp only at h2 h3 h4
    subst h2
    refine .inr ⟨_,last s,h3,?_⟩
    rwa [List.take_length] at h4) (fuel:=fuel) (i:=0) (s:=(l,0)) (Nat.zero_le _) (by omega) ⟨rfl,h0,by simp [sumL]⟩
  rw [h2]
  cases o with
  | inl t=>exact⟨t,hj t,.inr h3⟩
  | inr r=>exact⟨r,rfl,.inl (by rw [show r = -1 from h3];decide)⟩


theorem z9u {α:Type}{xs:List α}{z:α}{body:Int × List α→Option (Rd (Int × List α) (List α) (List α))}{j:List α→Option (List α)}{fuel:Nat}(hl:xs.length≤1048576) (hf:18446744073709551616≤fuel) (hj:∀ t,j t=some t)
    (step:∀ (i:Nat) (x:α) (out:List α),xs[i]? = some x→out.length=xs.length→body (i,out)=some (.next (w64 (i+1),out.set i x)))
    (last:∀ out,body (xs.length,out)=some (.brk out)):
    (if decide (0≤(xs.length:Int)∧(xs.length:Int)≤4294967296)=true then((iter body fuel (0,List.replicate (xs.length:Int).toNat z)).bind fun o=>aft o j) else none)=some xs:=by
  rw [if_pos (by simp;omega)]
  obtain⟨o,h2,h3⟩:=z2K (body:=body) (fun i s=>s.1=(i:Int)∧s.2.length=xs.length∧s.2.take i=xs.take i) xs.length (fun o=>o=.inl xs) (by
    rintro i ⟨s,t⟩ hi ⟨h2,h3,h4⟩
    dsimp only at h2 h3 h4
    subst h2
    obtain⟨x,hx⟩:=z5i hi
    refine .inl ⟨_,step i x t hx h3,?_,by simpa using h3,?_⟩
    · show w64 _=_
      rw [zC (by omega) (by omega)];simp
    · show(t.set i x).take (i+1)=_
      rw [List.take_add_one,List.take_add_one,hx,List.take_set_of_le (Nat.le_refl _),h4,List.getElem?_set_self (by omega)]) (by
    rintro⟨s,t⟩ ⟨h2,h3,h4⟩
    dsimp only at h2 h3 h4
    subst h2
    refine .inr ⟨_,last t,?_⟩
    rw [List.take_length,List.take_of_length_le (by omega)] at h4
    rw [h4]) (fuel:=fuel) (i:=0) (s:=(0,List.replicate (xs.length:Int).toNat z)) (Nat.zero_le _) (by omega) ⟨rfl,by simp,by simp⟩
  rw [h2,h3]
  exact hj xs


theorem zT (s:ByteArray):seqb s s=true:=by simp [seqb]


theorem z3Q {τ ρ:Type}{n:Nat}{body:Int→Option (Rd Int τ ρ)}{j:τ→Option ρ}{fuel:Nat}{t:τ}{b:ρ}(hl:n≤maxLen) (hf:18446744073709551616≤fuel) (hj:j t=some b)
    (step:∀ (i:Nat),i<n→body i=some (.next (w64 (i+1)))) (last:body n=some (.brk t)):((iter body fuel 0).bind fun o=>aft o j)=some b:=by
  have hm:maxLen=9223372036854775807:=rfl
  obtain⟨o,h2,h3⟩:=z2K (body:=body) (fun i s=>s=(i:Int)) n (fun o=>o=.inl t) (by
    rintro i s hi rfl
    exact .inl ⟨_,step i hi,by rw [zC (by omega) (by omega)];simp⟩) (by
    rintro s rfl
    exact .inr ⟨_,last,rfl⟩) (fuel:=fuel) (i:=0) (s:=0) (Nat.zero_le _) (by omega) rfl
  rw [h2,h3]
  exact hj


end Go.E


