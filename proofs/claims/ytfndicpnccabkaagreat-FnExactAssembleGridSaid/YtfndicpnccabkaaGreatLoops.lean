/- The types of the data, as tables and as plain Lean types (written by program). Conditions: none. -/
import Derived.Test.YtfndicpnccabkaaGreatMaps
import Derived.Test.YtfndicpnccabkaaGreatMapS
import Derived.Test.YtfndicpnccabkaaGreatProg
import Derived.KernelRfl
import Derived.Deep.Slices
import Derived.ChangeArms
import Derived.ProofKit
import Derived.OpenShut
import Derived.WideShapes
namespace Go.E
open Go.RowKit Go.Proofs
set_option linter.unusedVariables false
set_option linter.unusedSimpArgs false


def tt:TT:=[
  ⟨2,.int .i64,1,[.int .i64 0],8⟩,
  ⟨3,.int .i64,1,[.int .i64 0],8⟩,
  ⟨4,.bool,1,[.bool false],1⟩,
  ⟨5,.int .u8,1,[.int .u8 0],1⟩,
  ⟨9,.str,1,[.string ⟨#[]⟩],16⟩,
  ⟨22,.slice 141,1,[.slice none 0 0],24⟩,
  ⟨24,.struct [(0,1,false,2),(1,1,false,2),(2,1,false,2)],3,[.int .i64 0,.int .i64 0,.int .i64 0],24⟩,
  ⟨26,.struct [(0,1,false,22),(1,3,true,24)],4,[.slice none 0 0,.int .i64 0,.int .i64 0,.int .i64 0],48⟩,
  ⟨28,.slice 118,1,[.slice none 0 0],24⟩,
  ⟨30,.struct [(0,1,false,28)],1,[.slice none 0 0],24⟩,
  ⟨33,.slice 123,1,[.slice none 0 0],24⟩,
  ⟨34,.struct [(0,1,false,2),(1,1,false,2),(2,1,false,2)],3,[.int .i64 0,.int .i64 0,.int .i64 0],24⟩,
  ⟨36,.struct [(0,1,false,33),(1,3,true,34)],4,[.slice none 0 0,.int .i64 0,.int .i64 0,.int .i64 0],48⟩,
  ⟨43,.slice 178,1,[.slice none 0 0],24⟩,
  ⟨44,.slice 45,1,[.slice none 0 0],24⟩,
  ⟨45,.slice 2,1,[.slice none 0 0],24⟩,
  ⟨47,.struct [(0,4,true,26),(4,1,false,43),(5,1,false,44),(6,1,false,45),(7,1,false,45)],8,[.slice none 0 0,.int .i64 0,.int .i64 0,.int .i64 0,.slice none 0 0,.slice none 0 0,.slice none 0 0,.slice none 0 0],144⟩,
  ⟨50,.slice 181,1,[.slice none 0 0],24⟩,
  ⟨52,.struct [(0,4,true,36),(4,1,false,50),(5,1,false,44),(6,1,false,45),(7,1,false,45)],8,[.slice none 0 0,.int .i64 0,.int .i64 0,.int .i64 0,.slice none 0 0,.slice none 0 0,.slice none 0 0,.slice none 0 0],144⟩,
  ⟨57,.slice 196,1,[.slice none 0 0],24⟩,
  ⟨59,.struct [(0,1,false,57)],1,[.slice none 0 0],24⟩,
  ⟨72,.ptr 36,1,[.pointer none],8⟩,
  ⟨73,.ptr 143,1,[.pointer none],8⟩,
  ⟨81,.slice 126,1,[.slice none 0 0],24⟩,
  ⟨82,.slice 34,1,[.slice none 0 0],24⟩,
  ⟨86,.slice 169,1,[.slice none 0 0],24⟩,
  ⟨96,.ptr 52,1,[.pointer none],8⟩,
  ⟨107,.ptr 30,1,[.pointer none],8⟩,
  ⟨113,.ptr 115,1,[.pointer none],8⟩,
  ⟨115,.struct [(0,1,false,107),(1,1,false,45),(2,4,true,36),(6,1,false,82)],7,[.pointer none,.slice none 0 0,.slice none 0 0,.int .i64 0,.int .i64 0,.int .i64 0,.slice none 0 0],104⟩,
  ⟨116,.slice 129,1,[.slice none 0 0],24⟩,
  ⟨118,.struct [(0,1,false,2),(1,1,false,2),(2,1,false,2),(3,1,false,45),(4,1,false,116)],5,[.int .i64 0,.int .i64 0,.int .i64 0,.slice none 0 0,.slice none 0 0],72⟩,
  ⟨119,.ptr 123,1,[.pointer none],8⟩,
  ⟨120,.slice 154,1,[.slice none 0 0],24⟩,
  ⟨121,.slice 152,1,[.slice none 0 0],24⟩,
  ⟨123,.struct [(0,1,false,81),(1,1,false,120),(2,1,false,121)],3,[.slice none 0 0,.slice none 0 0,.slice none 0 0],72⟩,
  ⟨126,.struct [(0,1,false,2),(1,1,false,2),(2,1,false,2),(3,1,false,45),(4,1,false,82)],5,[.int .i64 0,.int .i64 0,.int .i64 0,.slice none 0 0,.slice none 0 0],72⟩,
  ⟨129,.struct [(0,1,false,2),(1,1,false,2)],2,[.int .i64 0,.int .i64 0],16⟩,
  ⟨137,.slice 237,1,[.slice none 0 0],24⟩,
  ⟨138,.slice 270,1,[.slice none 0 0],24⟩,
  ⟨139,.slice 273,1,[.slice none 0 0],24⟩,
  ⟨141,.struct [(0,1,false,137),(1,1,false,138),(2,1,false,139)],3,[.slice none 0 0,.slice none 0 0,.slice none 0 0],72⟩,
  ⟨143,.struct [(0,1,false,28),(1,1,false,116),(2,1,false,44),(3,1,false,44),(4,1,false,44),(5,1,false,44)],6,[.slice none 0 0,.slice none 0 0,.slice none 0 0,.slice none 0 0,.slice none 0 0,.slice none 0 0],144⟩,
  ⟨145,.ptr 126,1,[.pointer none],8⟩,
  ⟨152,.struct [(0,3,true,34),(3,3,true,34)],6,[.int .i64 0,.int .i64 0,.int .i64 0,.int .i64 0,.int .i64 0,.int .i64 0],48⟩,
  ⟨154,.struct [(0,1,false,4),(1,1,false,4),(2,3,true,34)],5,[.bool false,.bool false,.int .i64 0,.int .i64 0,.int .i64 0],32⟩,
  ⟨159,.other,1,[.map none],8⟩,
  ⟨161,.ptr 225,1,[.pointer none],8⟩,
  ⟨164,.struct [(0,3,true,34),(3,1,false,2),(4,1,false,4)],5,[.int .i64 0,.int .i64 0,.int .i64 0,.int .i64 0,.bool false],40⟩,
  ⟨169,.struct [(0,5,true,164),(5,5,true,164)],10,[.int .i64 0,.int .i64 0,.int .i64 0,.int .i64 0,.bool false,.int .i64 0,.int .i64 0,.int .i64 0,.int .i64 0,.bool false],80⟩,
  ⟨178,.slice 239,1,[.slice none 0 0],24⟩,
  ⟨181,.slice 189,1,[.slice none 0 0],24⟩,
  ⟨189,.struct [(0,1,false,2),(1,5,true,126),(6,3,true,34),(9,3,true,34)],12,[.int .i64 0,.int .i64 0,.int .i64 0,.int .i64 0,.slice none 0 0,.slice none 0 0,.int .i64 0,.int .i64 0,.int .i64 0,.int .i64 0,.int .i64 0,.int .i64 0],128⟩,
  ⟨194,.slice 299,1,[.slice none 0 0],24⟩,
  ⟨196,.struct [(0,1,false,2),(1,1,false,2),(2,1,false,2),(3,1,false,45),(4,1,false,194)],5,[.int .i64 0,.int .i64 0,.int .i64 0,.slice none 0 0,.slice none 0 0],72⟩,
  ⟨198,.ptr 118,1,[.pointer none],8⟩,
  ⟨200,.slice 203,1,[.slice none 0 0],24⟩,
  ⟨203,.struct [(0,2,true,129),(2,2,true,129)],4,[.int .i64 0,.int .i64 0,.int .i64 0,.int .i64 0],32⟩,
  ⟨223,.other,1,[.map none],8⟩,
  ⟨225,.struct [(0,1,false,86),(1,1,false,223)],2,[.slice none 0 0,.map none],32⟩,
  ⟨226,.slice 3,1,[.slice none 0 0],24⟩,
  ⟨235,.slice 24,1,[.slice none 0 0],24⟩,
  ⟨237,.struct [(0,1,false,2),(1,1,false,2),(2,1,false,2),(3,1,false,45),(4,1,false,235)],5,[.int .i64 0,.int .i64 0,.int .i64 0,.slice none 0 0,.slice none 0 0],72⟩,
  ⟨239,.struct [(0,1,false,2),(1,5,true,237),(6,3,true,24),(9,3,true,24)],12,[.int .i64 0,.int .i64 0,.int .i64 0,.int .i64 0,.slice none 0 0,.slice none 0 0,.int .i64 0,.int .i64 0,.int .i64 0,.int .i64 0,.int .i64 0,.int .i64 0],128⟩,
  ⟨242,.ptr 189,1,[.pointer none],8⟩,
  ⟨266,.slice 4,1,[.slice none 0 0],24⟩,
  ⟨270,.struct [(0,1,false,4),(1,1,false,4),(2,3,true,24)],5,[.bool false,.bool false,.int .i64 0,.int .i64 0,.int .i64 0],32⟩,
  ⟨273,.struct [(0,3,true,24),(3,3,true,24)],6,[.int .i64 0,.int .i64 0,.int .i64 0,.int .i64 0,.int .i64 0,.int .i64 0],48⟩,
  ⟨275,.other,1,[.map none],8⟩,
  ⟨277,.other,1,[.map none],8⟩,
  ⟨280,.slice 283,1,[.slice none 0 0],24⟩,
  ⟨283,.struct [(0,1,false,45),(1,1,false,45),(2,1,false,2)],3,[.slice none 0 0,.slice none 0 0,.int .i64 0],56⟩,
  ⟨299,.struct [(0,1,false,2),(1,1,false,2)],2,[.int .i64 0,.int .i64 0],16⟩,
  ⟨304,.slice 164,1,[.slice none 0 0],24⟩,
  ⟨306,.other,1,[.map none],8⟩,
  ⟨310,.int .u64,1,[.int .u64 0],8⟩,
  ⟨314,.int .i64,1,[.int .i64 0],8⟩,
  ⟨322,.int .u32,1,[.int .u32 0],4⟩,
  ⟨324,.int .u64,1,[.int .u64 0],8⟩,
  ⟨330,.int .u64,1,[.int .u64 0],8⟩,
  ⟨334,.ptr 3,1,[.pointer none],8⟩,
  ⟨338,.ptr 330,1,[.pointer none],8⟩]

def zerosOk (P:Program):TT→Prop
  | []=>True
  | i::r=>(P.info? i.id).map (fun j=>j.zero.map (fun v=>v.cells.toList))=some (some i.zero)∧zerosOk P r

theorem zcO {P:Program}:∀ {T:TT},zerosOk P T→∀ i,i∈T→(P.info? i.id).map (fun j=>j.zero.map (fun v=>v.cells.toList))=some (some i.zero)
  | [],_,i,h=>by cases h
  | _::_,⟨h1,h2⟩,i,h=>by
    rcases List.mem_cons.1 h with rfl | h
    · exact h1
    · exact zcO h2 i h

theorem zoC:tt.all (infoOk Tryz.prog)=true:=by kernel_rfl
theorem zmU:zerosOk Tryz.prog tt:=⟨by kernel_rfl,by kernel_rfl,by kernel_rfl,by kernel_rfl,by kernel_rfl,by kernel_rfl,by kernel_rfl,by kernel_rfl,by kernel_rfl,by kernel_rfl,by kernel_rfl,by kernel_rfl,by kernel_rfl,by kernel_rfl,by kernel_rfl,by kernel_rfl,by kernel_rfl,by kernel_rfl,by kernel_rfl,by kernel_rfl,by kernel_rfl,by kernel_rfl,by kernel_rfl,by kernel_rfl,by kernel_rfl,by kernel_rfl,by kernel_rfl,by kernel_rfl,by kernel_rfl,by kernel_rfl,by kernel_rfl,by kernel_rfl,by kernel_rfl,by kernel_rfl,by kernel_rfl,by kernel_rfl,by kernel_rfl,by kernel_rfl,by kernel_rfl,by kernel_rfl,by kernel_rfl,by kernel_rfl,by kernel_rfl,by kernel_rfl,by kernel_rfl,by kernel_rfl,by kernel_rfl,by kernel_rfl,by kernel_rfl,by kernel_rfl,by kernel_rfl,by kernel_rfl,by kernel_rfl,by kernel_rfl,by kernel_rfl,by kernel_rfl,by kernel_rfl,by kernel_rfl,by kernel_rfl,by kernel_rfl,by kernel_rfl,by kernel_rfl,by kernel_rfl,by kernel_rfl,by kernel_rfl,by kernel_rfl,by kernel_rfl,by kernel_rfl,by kernel_rfl,by kernel_rfl,by kernel_rfl,by kernel_rfl,by kernel_rfl,by kernel_rfl,by kernel_rfl,by kernel_rfl,by kernel_rfl,by kernel_rfl,by kernel_rfl,by kernel_rfl,by kernel_rfl,by kernel_rfl,trivial⟩
theorem ttok:TTok Tryz.prog tt:=⟨List.all_eq_true.1 zoC,zcO zmU⟩
theorem mixed:Tryz.prog.follows .mixedOrders=true:=by kernel_rfl

structure D.Address where
  Machine:Int
  Kind:Int
  Index:Int
deriving Inhabited, DecidableEq

structure D.ShardCell where
  Kind:Int
  Level:Int
  Value:Int
  Data:(List Int)
  Aux:(List D.Address)
deriving Inhabited, DecidableEq

structure D.ShardVar where
  Used:Bool
  Full:Bool
  Held:D.Address
deriving Inhabited, DecidableEq

structure D.ShardRedex where
  A:D.Address
  B:D.Address
deriving Inhabited, DecidableEq

structure D.Shard where
  Cells:(List D.ShardCell)
  Vars:(List D.ShardVar)
  Redexes:(List D.ShardRedex)
deriving Inhabited, DecidableEq

structure D.Grid where
  Shards:(List D.Shard)
  Root:D.Address
deriving Inhabited, DecidableEq

structure D.Port where
  Agent:Int
  Slot:Int
deriving Inhabited, DecidableEq

structure D.Agent where
  Kind:Int
  Level:Int
  Value:Int
  Data:(List Int)
  Ports:(List D.Port)
deriving Inhabited, DecidableEq

structure D.Net where
  Agents:(List D.Agent)
deriving Inhabited, DecidableEq

structure D.Parcel where
  Kind:Int
  Cell:D.ShardCell
  A:D.Address
  B:D.Address
deriving Inhabited, DecidableEq

structure D.Cluster where
  Grid:D.Grid
  Channels:(List (List D.Parcel))
  Counts:(List (List Int))
  Sent:(List Int)
  Got:(List Int)
deriving Inhabited, DecidableEq

structure D.thing where
  at_:D.Address
  slot:Int
  own:Bool
deriving Inhabited, DecidableEq

structure D.statement where
  a:D.thing
  b:D.thing
deriving Inhabited, DecidableEq

structure D.l27Links where
  agents:(List D.Agent)
  ports:(List D.Port)
  cells:(List (List Int))
  vars:(List (List Int))
  ends:(List (List Int))
  pairs:(List (List Int))
deriving Inhabited, DecidableEq

structure D.assembler where
  list_:(List D.statement)
  ends:(List (D.thing × (List Int)))
deriving Inhabited, DecidableEq

structure D.traversal where
  list_:(List Int)
  code:(List Int)
  least:Int
deriving Inhabited, DecidableEq

def ty45:Ty (List Int):=tSl 2 tInt
instance {W:Base}:Reads W ty45:=inferInstanceAs (Reads W (tSl 2 tInt))
theorem z1a {w:World}{cs:List Value}{xs:(List Int)}(h:ty45.ro w cs xs):∃ A c,cs=[.slice A xs.length c]:=slForm h

def ty24:Ty D.Address:=tMap (fun c=>(c.Machine,c.Kind,c.Index,())) (tPair tInt (tPair tInt (tPair tInt tUnit)))
instance {W:Base}:Reads W ty24:=inferInstanceAs (Reads W (tMap (fun c:D.Address=>(c.Machine,c.Kind,c.Index,())) (tPair tInt (tPair tInt (tPair tInt tUnit)))))
theorem z9q {w:World}{cs:List Value}{c:D.Address}(h:ty24.ro w cs c):cs=[.int .i64 c.Machine,.int .i64 c.Kind,.int .i64 c.Index]:=by
  obtain⟨c0,d0,rfl,h0,c1,d1,rfl,h1,c2,d2,rfl,h2,hz⟩:=h
  subst hz
  subst h0
  subst h1
  subst h2
  rfl
theorem zb3 {w:World}(c:D.Address)  :ty24.ro w [.int .i64 c.Machine,.int .i64 c.Kind,.int .i64 c.Index] c:=
  ⟨_,_,rfl,rfl,⟨_,_,rfl,rfl,⟨_,_,rfl,rfl,rfl⟩⟩⟩
def zfn:Ty (List D.Address):=tSl 24 ty24
instance {W:Base}:Reads W zfn:=inferInstanceAs (Reads W (tSl 24 ty24))
theorem zic {w:World}{cs:List Value}{xs:(List D.Address)}(h:zfn.ro w cs xs):∃ A c,cs=[.slice A xs.length c]:=slForm h

def zgK:Ty D.ShardCell:=tMap (fun c=>(c.Kind,c.Level,c.Value,c.Data,c.Aux,())) (tPair tInt (tPair tInt (tPair tInt (tPair ty45 (tPair zfn tUnit)))))
instance {W:Base}:Reads W zgK:=inferInstanceAs (Reads W (tMap (fun c:D.ShardCell=>(c.Kind,c.Level,c.Value,c.Data,c.Aux,())) (tPair tInt (tPair tInt (tPair tInt (tPair ty45 (tPair zfn tUnit)))))))
theorem zao {w:World}{cs:List Value}{c:D.ShardCell}(h:zgK.ro w cs c):∃ A0 k0 A1 k1,cs=[.int .i64 c.Kind,.int .i64 c.Level,.int .i64 c.Value,.slice A0 c.Data.length k0,.slice A1 c.Aux.length k1]∧ty45.ro w [.slice A0 c.Data.length k0] c.Data∧zfn.ro w [.slice A1 c.Aux.length k1] c.Aux:=by
  obtain⟨c0,d0,rfl,h0,c1,d1,rfl,h1,c2,d2,rfl,h2,c3,d3,rfl,h3,c4,d4,rfl,h4,hz⟩:=h
  subst hz
  subst h0
  subst h1
  subst h2
  obtain⟨o,G,e3⟩:=z1a h3
  subst e3
  obtain⟨q,H,e4⟩:=zic h4
  subst e4
  exact⟨o,G,q,H,rfl,h3,h4⟩
def zfs:Ty (List D.ShardCell):=tSl 237 zgK
instance {W:Base}:Reads W zfs:=inferInstanceAs (Reads W (tSl 237 zgK))
theorem zik {w:World}{cs:List Value}{xs:(List D.ShardCell)}(h:zfs.ro w cs xs):∃ A c,cs=[.slice A xs.length c]:=slForm h

def zib:Ty D.ShardVar:=tMap (fun c=>(c.Used,c.Full,c.Held,())) (tPair tBool (tPair tBool (tPair ty24 tUnit)))
instance {W:Base}:Reads W zib:=inferInstanceAs (Reads W (tMap (fun c:D.ShardVar=>(c.Used,c.Full,c.Held,())) (tPair tBool (tPair tBool (tPair ty24 tUnit)))))
theorem ze6 {w:World}{cs:List Value}{c:D.ShardVar}(h:zib.ro w cs c):cs=[.bool c.Used,.bool c.Full,.int .i64 c.Held.Machine,.int .i64 c.Held.Kind,.int .i64 c.Held.Index]:=by
  obtain⟨c0,d0,rfl,h0,c1,d1,rfl,h1,c2,d2,rfl,h2,hz⟩:=h
  subst hz
  subst h0
  subst h1
  have e2:=z9q h2
  subst e2
  rfl
def zfr:Ty (List D.ShardVar):=tSl 270 zib
instance {W:Base}:Reads W zfr:=inferInstanceAs (Reads W (tSl 270 zib))
theorem zij {w:World}{cs:List Value}{xs:(List D.ShardVar)}(h:zfr.ro w cs xs):∃ A c,cs=[.slice A xs.length c]:=slForm h

def zia:Ty D.ShardRedex:=tMap (fun c=>(c.A,c.B,())) (tPair ty24 (tPair ty24 tUnit))
instance {W:Base}:Reads W zia:=inferInstanceAs (Reads W (tMap (fun c:D.ShardRedex=>(c.A,c.B,())) (tPair ty24 (tPair ty24 tUnit))))
theorem ze5 {w:World}{cs:List Value}{c:D.ShardRedex}(h:zia.ro w cs c):cs=[.int .i64 c.A.Machine,.int .i64 c.A.Kind,.int .i64 c.A.Index,.int .i64 c.B.Machine,.int .i64 c.B.Kind,.int .i64 c.B.Index]:=by
  obtain⟨c0,d0,rfl,h0,c1,d1,rfl,h1,hz⟩:=h
  subst hz
  have e0:=z9q h0
  subst e0
  have e1:=z9q h1
  subst e1
  rfl
def zfq:Ty (List D.ShardRedex):=tSl 273 zia
instance {W:Base}:Reads W zfq:=inferInstanceAs (Reads W (tSl 273 zia))
theorem zii {w:World}{cs:List Value}{xs:(List D.ShardRedex)}(h:zfq.ro w cs xs):∃ A c,cs=[.slice A xs.length c]:=slForm h

def zgN:Ty D.Shard:=tMap (fun c=>(c.Cells,c.Vars,c.Redexes,())) (tPair zfs (tPair zfr (tPair zfq tUnit)))
instance {W:Base}:Reads W zgN:=inferInstanceAs (Reads W (tMap (fun c:D.Shard=>(c.Cells,c.Vars,c.Redexes,())) (tPair zfs (tPair zfr (tPair zfq tUnit)))))
theorem zas {w:World}{cs:List Value}{c:D.Shard}(h:zgN.ro w cs c):∃ A0 k0 A1 k1 A2 k2,cs=[.slice A0 c.Cells.length k0,.slice A1 c.Vars.length k1,.slice A2 c.Redexes.length k2]∧zfs.ro w [.slice A0 c.Cells.length k0] c.Cells∧zfr.ro w [.slice A1 c.Vars.length k1] c.Vars∧zfq.ro w [.slice A2 c.Redexes.length k2] c.Redexes:=by
  obtain⟨c0,d0,rfl,h0,c1,d1,rfl,h1,c2,d2,rfl,h2,hz⟩:=h
  subst hz
  obtain⟨o,H,e0⟩:=zik h0
  subst e0
  obtain⟨q,O,e1⟩:=zij h1
  subst e1
  obtain⟨G,X,e2⟩:=zii h2
  subst e2
  exact⟨o,H,q,O,G,X,rfl,h0,h1,h2⟩
def ty22:Ty (List D.Shard):=tSl 141 zgN
instance {W:Base}:Reads W ty22:=inferInstanceAs (Reads W (tSl 141 zgN))
theorem zjf {w:World}{cs:List Value}{xs:(List D.Shard)}(h:ty22.ro w cs xs):∃ A c,cs=[.slice A xs.length c]:=slForm h

def ty26:Ty D.Grid:=tMap (fun c=>(c.Shards,c.Root,())) (tPair ty22 (tPair ty24 tUnit))
instance {W:Base}:Reads W ty26:=inferInstanceAs (Reads W (tMap (fun c:D.Grid=>(c.Shards,c.Root,())) (tPair ty22 (tPair ty24 tUnit))))
theorem zcS {w:World}{cs:List Value}{c:D.Grid}(h:ty26.ro w cs c):∃ A0 k0,cs=[.slice A0 c.Shards.length k0,.int .i64 c.Root.Machine,.int .i64 c.Root.Kind,.int .i64 c.Root.Index]∧ty22.ro w [.slice A0 c.Shards.length k0] c.Shards:=by
  obtain⟨c0,d0,rfl,h0,c1,d1,rfl,h1,hz⟩:=h
  subst hz
  obtain⟨o,q,e0⟩:=zjf h0
  subst e0
  have e1:=z9q h1
  subst e1
  exact⟨o,q,rfl,h0⟩
def z8D:Ty D.Port:=tMap (fun c=>(c.Agent,c.Slot,())) (tPair tInt (tPair tInt tUnit))
instance {W:Base}:Reads W z8D:=inferInstanceAs (Reads W (tMap (fun c:D.Port=>(c.Agent,c.Slot,())) (tPair tInt (tPair tInt tUnit))))
theorem z2n {w:World}{cs:List Value}{c:D.Port}(h:z8D.ro w cs c):cs=[.int .i64 c.Agent,.int .i64 c.Slot]:=by
  obtain⟨c0,d0,rfl,h0,c1,d1,rfl,h1,hz⟩:=h
  subst hz
  subst h0
  subst h1
  rfl
theorem zft {w:World}{cs:List Value}{c:D.Port}{G:List Nat}(h:z8D.own w cs c G):cs=[.int .i64 c.Agent,.int .i64 c.Slot]∧(All []).A w G:=by
  obtain⟨c0,d0,H0,K0,rfl,rfl,h0,c1,d1,H1,K1,rfl,rfl,h1,hz,hk⟩:=h
  subst hz;subst hk
  obtain⟨e0,k0⟩:=h0;subst e0;subst k0
  obtain⟨e1,k1⟩:=h1;subst e1;subst k1
  refine⟨rfl,?_⟩
  show(All _).A w _
  exact cast (congrArg _ (by simp)) (show(All _).A w ([]) from rfl)
theorem z6C {w:World}{c:D.Port}  {G:List Nat}(h:(All []).A w G):z8D.own w [.int .i64 c.Agent,.int .i64 c.Slot] c G:=by
  have hz:G=[]:=h
  subst hz
  exact cast (congrArg _ (by simp)) (show z8D.own w [.int .i64 c.Agent,.int .i64 c.Slot] c (_) from⟨_,_,_,_,rfl,rfl,⟨rfl,rfl⟩,⟨_,_,_,_,rfl,rfl,⟨rfl,rfl⟩,⟨rfl,rfl⟩⟩⟩)
theorem zaR {W:Base}{w:World}{B:List Res}{cs:List Value}{c:D.Port}(h:St W w (Own z8D cs c::B)):cs=[.int .i64 c.Agent,.int .i64 c.Slot]∧St W w ([]++B):=by
  obtain⟨G,hA,_⟩:=h.sep.head
  obtain⟨rfl,_⟩:=zft hA
  refine⟨rfl,St.splitAll (h.conv fun G hG=>?_)⟩
  exact(zft hG).2
theorem z8C {W:Base}{w:World}{B:List Res}{c:D.Port}  (h:St W w ([]++B)):St W w (Own z8D [.int .i64 c.Agent,.int .i64 c.Slot] c::B):=(St.fuseAll h).conv fun _ hG=>z6C hG

def zq:Ty (List D.Port):=tSl 129 z8D
instance {W:Base}:Reads W zq:=inferInstanceAs (Reads W (tSl 129 z8D))
theorem zee {w:World}{cs:List Value}{xs:(List D.Port)}(h:zq.ro w cs xs):∃ A c,cs=[.slice A xs.length c]:=slForm h

def z6b:Ty D.Agent:=tMap (fun c=>(c.Kind,c.Level,c.Value,c.Data,c.Ports,())) (tPair tInt (tPair tInt (tPair tInt (tPair ty45 (tPair zq tUnit)))))
instance {W:Base}:Reads W z6b:=inferInstanceAs (Reads W (tMap (fun c:D.Agent=>(c.Kind,c.Level,c.Value,c.Data,c.Ports,())) (tPair tInt (tPair tInt (tPair tInt (tPair ty45 (tPair zq tUnit)))))))
theorem zU {w:World}{cs:List Value}{c:D.Agent}(h:z6b.ro w cs c):∃ A0 k0 A1 k1,cs=[.int .i64 c.Kind,.int .i64 c.Level,.int .i64 c.Value,.slice A0 c.Data.length k0,.slice A1 c.Ports.length k1]∧ty45.ro w [.slice A0 c.Data.length k0] c.Data∧zq.ro w [.slice A1 c.Ports.length k1] c.Ports:=by
  obtain⟨c0,d0,rfl,h0,c1,d1,rfl,h1,c2,d2,rfl,h2,c3,d3,rfl,h3,c4,d4,rfl,h4,hz⟩:=h
  subst hz
  subst h0
  subst h1
  subst h2
  obtain⟨o,G,e3⟩:=z1a h3
  subst e3
  obtain⟨q,H,e4⟩:=zee h4
  subst e4
  exact⟨o,G,q,H,rfl,h3,h4⟩
theorem zed {w:World}(c:D.Agent){A0:Option Addr}{k0:Nat}{A1:Option Addr}{k1:Nat}(h0:ty45.ro w [.slice A0 c.Data.length k0] c.Data) (h1:zq.ro w [.slice A1 c.Ports.length k1] c.Ports):z6b.ro w [.int .i64 c.Kind,.int .i64 c.Level,.int .i64 c.Value,.slice A0 c.Data.length k0,.slice A1 c.Ports.length k1] c:=
  ⟨_,_,rfl,rfl,⟨_,_,rfl,rfl,⟨_,_,rfl,rfl,⟨_,_,rfl,h0,⟨_,_,rfl,h1,rfl⟩⟩⟩⟩⟩
theorem zfx {w:World}{cs:List Value}{c:D.Agent}{G:List Nat}(h:z6b.own w cs c G):∃ A0 k0 A1 k1,cs=[.int .i64 c.Kind,.int .i64 c.Level,.int .i64 c.Value,.slice A0 c.Data.length k0,.slice A1 c.Ports.length k1]∧(All [Own ty45 [.slice A0 c.Data.length k0] c.Data,Own zq [.slice A1 c.Ports.length k1] c.Ports]).A w G:=by
  obtain⟨c0,d0,H0,K0,rfl,rfl,h0,c1,d1,H1,K1,rfl,rfl,h1,c2,d2,H2,K2,rfl,rfl,h2,c3,d3,H3,K3,rfl,rfl,h3,c4,d4,H4,K4,rfl,rfl,h4,hz,hk⟩:=h
  subst hz;subst hk
  obtain⟨e0,k0⟩:=h0;subst e0;subst k0
  obtain⟨e1,k1⟩:=h1;subst e1;subst k1
  obtain⟨e2,k2⟩:=h2;subst e2;subst k2
  obtain⟨o,H,e3⟩:=slFormO h3
  subst e3
  obtain⟨q,O,e4⟩:=slFormO h4
  subst e4
  refine⟨o,H,q,O,rfl,?_⟩
  show(All _).A w _
  exact cast (congrArg _ (by simp)) (show(All _).A w (H3++(H4++([]))) from⟨_,_,rfl,h3,⟨_,_,rfl,h4,rfl⟩⟩)
theorem ziq {w:World}{c:D.Agent}{A0:Option Addr}{k0:Nat}{A1:Option Addr}{k1:Nat}{G:List Nat}(h:(All [Own ty45 [.slice A0 c.Data.length k0] c.Data,Own zq [.slice A1 c.Ports.length k1] c.Ports]).A w G):z6b.own w [.int .i64 c.Kind,.int .i64 c.Level,.int .i64 c.Value,.slice A0 c.Data.length k0,.slice A1 c.Ports.length k1] c G:=by
  obtain⟨G0,R0,rfl,h0,G1,R1,rfl,h1,hz⟩:=h
  have hz':R1=[]:=hz
  subst hz'
  exact cast (congrArg _ (by simp)) (show z6b.own w [.int .i64 c.Kind,.int .i64 c.Level,.int .i64 c.Value,.slice A0 c.Data.length k0,.slice A1 c.Ports.length k1] c (_) from⟨_,_,_,_,rfl,rfl,⟨rfl,rfl⟩,⟨_,_,_,_,rfl,rfl,⟨rfl,rfl⟩,⟨_,_,_,_,rfl,rfl,⟨rfl,rfl⟩,⟨_,_,_,_,rfl,rfl,h0,⟨_,_,_,_,rfl,rfl,h1,⟨rfl,rfl⟩⟩⟩⟩⟩⟩)
theorem zaS {W:Base}{w:World}{B:List Res}{cs:List Value}{c:D.Agent}(h:St W w (Own z6b cs c::B)):∃ A0 k0 A1 k1,cs=[.int .i64 c.Kind,.int .i64 c.Level,.int .i64 c.Value,.slice A0 c.Data.length k0,.slice A1 c.Ports.length k1]∧St W w ([Own ty45 [.slice A0 c.Data.length k0] c.Data,Own zq [.slice A1 c.Ports.length k1] c.Ports]++B):=by
  obtain⟨G,hA,_⟩:=h.sep.head
  obtain⟨A0,k0,A1,k1,rfl,_⟩:=zfx hA
  refine⟨A0,k0,A1,k1,rfl,St.splitAll (h.conv fun G hG=>?_)⟩
  obtain⟨X0,Y0,X1,Y1,he,hh⟩:=zfx hG
  simp only [List.cons.injEq,Value.slice.injEq,and_true,true_and] at he
  obtain⟨⟨rfl,rfl⟩,⟨rfl,rfl⟩⟩:=he
  exact hh
theorem z5r {W:Base}{w:World}{B:List Res}{c:D.Agent}{A0:Option Addr}{k0:Nat}{A1:Option Addr}{k1:Nat}(h:St W w ([Own ty45 [.slice A0 c.Data.length k0] c.Data,Own zq [.slice A1 c.Ports.length k1] c.Ports]++B)):St W w (Own z6b [.int .i64 c.Kind,.int .i64 c.Level,.int .i64 c.Value,.slice A0 c.Data.length k0,.slice A1 c.Ports.length k1] c::B):=(St.fuseAll h).conv fun _ hG=>ziq hG

def ty28:Ty (List D.Agent):=tSl 118 z6b
instance {W:Base}:Reads W ty28:=inferInstanceAs (Reads W (tSl 118 z6b))
theorem zfk {w:World}{cs:List Value}{xs:(List D.Agent)}(h:ty28.ro w cs xs):∃ A c,cs=[.slice A xs.length c]:=slForm h

def ty30:Ty D.Net:=tMap (fun c=>(c.Agents,())) (tPair ty28 tUnit)
instance {W:Base}:Reads W ty30:=inferInstanceAs (Reads W (tMap (fun c:D.Net=>(c.Agents,())) (tPair ty28 tUnit)))
theorem z2Y {w:World}{cs:List Value}{c:D.Net}(h:ty30.ro w cs c):∃ A0 k0,cs=[.slice A0 c.Agents.length k0]∧ty28.ro w [.slice A0 c.Agents.length k0] c.Agents:=by
  obtain⟨c0,d0,rfl,h0,hz⟩:=h
  subst hz
  obtain⟨o,q,e0⟩:=zfk h0
  subst e0
  exact⟨o,q,rfl,h0⟩
theorem z6J {w:World}(c:D.Net){A0:Option Addr}{k0:Nat}(h0:ty28.ro w [.slice A0 c.Agents.length k0] c.Agents):ty30.ro w [.slice A0 c.Agents.length k0] c:=
  ⟨_,_,rfl,h0,rfl⟩
def ty34:Ty D.Address:=tMap (fun c=>(c.Machine,c.Kind,c.Index,())) (tPair tInt (tPair tInt (tPair tInt tUnit)))
instance {W:Base}:Reads W ty34:=inferInstanceAs (Reads W (tMap (fun c:D.Address=>(c.Machine,c.Kind,c.Index,())) (tPair tInt (tPair tInt (tPair tInt tUnit)))))
theorem zQ {w:World}{cs:List Value}{c:D.Address}(h:ty34.ro w cs c):cs=[.int .i64 c.Machine,.int .i64 c.Kind,.int .i64 c.Index]:=by
  obtain⟨c0,d0,rfl,h0,c1,d1,rfl,h1,c2,d2,rfl,h2,hz⟩:=h
  subst hz
  subst h0
  subst h1
  subst h2
  rfl
theorem zO {w:World}(c:D.Address)  :ty34.ro w [.int .i64 c.Machine,.int .i64 c.Kind,.int .i64 c.Index] c:=
  ⟨_,_,rfl,rfl,⟨_,_,rfl,rfl,⟨_,_,rfl,rfl,rfl⟩⟩⟩
theorem zb1 {w:World}{cs:List Value}{c:D.Address}{G:List Nat}(h:ty34.own w cs c G):cs=[.int .i64 c.Machine,.int .i64 c.Kind,.int .i64 c.Index]∧(All []).A w G:=by
  obtain⟨c0,d0,H0,K0,rfl,rfl,h0,c1,d1,H1,K1,rfl,rfl,h1,c2,d2,H2,K2,rfl,rfl,h2,hz,hk⟩:=h
  subst hz;subst hk
  obtain⟨e0,k0⟩:=h0;subst e0;subst k0
  obtain⟨e1,k1⟩:=h1;subst e1;subst k1
  obtain⟨e2,k2⟩:=h2;subst e2;subst k2
  refine⟨rfl,?_⟩
  show(All _).A w _
  exact cast (congrArg _ (by simp)) (show(All _).A w ([]) from rfl)
theorem z86 {w:World}{c:D.Address}  {G:List Nat}(h:(All []).A w G):ty34.own w [.int .i64 c.Machine,.int .i64 c.Kind,.int .i64 c.Index] c G:=by
  have hz:G=[]:=h
  subst hz
  exact cast (congrArg _ (by simp)) (show ty34.own w [.int .i64 c.Machine,.int .i64 c.Kind,.int .i64 c.Index] c (_) from⟨_,_,_,_,rfl,rfl,⟨rfl,rfl⟩,⟨_,_,_,_,rfl,rfl,⟨rfl,rfl⟩,⟨_,_,_,_,rfl,rfl,⟨rfl,rfl⟩,⟨rfl,rfl⟩⟩⟩⟩)
theorem zi7 {W:Base}{w:World}{B:List Res}{cs:List Value}{c:D.Address}(h:St W w (Own ty34 cs c::B)):cs=[.int .i64 c.Machine,.int .i64 c.Kind,.int .i64 c.Index]∧St W w ([]++B):=by
  obtain⟨G,hA,_⟩:=h.sep.head
  obtain⟨rfl,_⟩:=zb1 hA
  refine⟨rfl,St.splitAll (h.conv fun G hG=>?_)⟩
  exact(zb1 hG).2
theorem ze3 {W:Base}{w:World}{B:List Res}{c:D.Address}  (h:St W w ([]++B)):St W w (Own ty34 [.int .i64 c.Machine,.int .i64 c.Kind,.int .i64 c.Index] c::B):=(St.fuseAll h).conv fun _ hG=>z86 hG

def ty82:Ty (List D.Address):=tSl 34 ty34
instance {W:Base}:Reads W ty82:=inferInstanceAs (Reads W (tSl 34 ty34))
theorem zja {w:World}{cs:List Value}{xs:(List D.Address)}(h:ty82.ro w cs xs):∃ A c,cs=[.slice A xs.length c]:=slForm h

def z6K:Ty D.ShardCell:=tMap (fun c=>(c.Kind,c.Level,c.Value,c.Data,c.Aux,())) (tPair tInt (tPair tInt (tPair tInt (tPair ty45 (tPair ty82 tUnit)))))
instance {W:Base}:Reads W z6K:=inferInstanceAs (Reads W (tMap (fun c:D.ShardCell=>(c.Kind,c.Level,c.Value,c.Data,c.Aux,())) (tPair tInt (tPair tInt (tPair tInt (tPair ty45 (tPair ty82 tUnit)))))))
theorem zt {w:World}{cs:List Value}{c:D.ShardCell}(h:z6K.ro w cs c):∃ A0 k0 A1 k1,cs=[.int .i64 c.Kind,.int .i64 c.Level,.int .i64 c.Value,.slice A0 c.Data.length k0,.slice A1 c.Aux.length k1]∧ty45.ro w [.slice A0 c.Data.length k0] c.Data∧ty82.ro w [.slice A1 c.Aux.length k1] c.Aux:=by
  obtain⟨c0,d0,rfl,h0,c1,d1,rfl,h1,c2,d2,rfl,h2,c3,d3,rfl,h3,c4,d4,rfl,h4,hz⟩:=h
  subst hz
  subst h0
  subst h1
  subst h2
  obtain⟨o,G,e3⟩:=z1a h3
  subst e3
  obtain⟨q,H,e4⟩:=zja h4
  subst e4
  exact⟨o,G,q,H,rfl,h3,h4⟩
theorem zea {w:World}(c:D.ShardCell){A0:Option Addr}{k0:Nat}{A1:Option Addr}{k1:Nat}(h0:ty45.ro w [.slice A0 c.Data.length k0] c.Data) (h1:ty82.ro w [.slice A1 c.Aux.length k1] c.Aux):z6K.ro w [.int .i64 c.Kind,.int .i64 c.Level,.int .i64 c.Value,.slice A0 c.Data.length k0,.slice A1 c.Aux.length k1] c:=
  ⟨_,_,rfl,rfl,⟨_,_,rfl,rfl,⟨_,_,rfl,rfl,⟨_,_,rfl,h0,⟨_,_,rfl,h1,rfl⟩⟩⟩⟩⟩
theorem zfv {w:World}{cs:List Value}{c:D.ShardCell}{G:List Nat}(h:z6K.own w cs c G):∃ A0 k0 A1 k1,cs=[.int .i64 c.Kind,.int .i64 c.Level,.int .i64 c.Value,.slice A0 c.Data.length k0,.slice A1 c.Aux.length k1]∧(All [Own ty45 [.slice A0 c.Data.length k0] c.Data,Own ty82 [.slice A1 c.Aux.length k1] c.Aux]).A w G:=by
  obtain⟨c0,d0,H0,K0,rfl,rfl,h0,c1,d1,H1,K1,rfl,rfl,h1,c2,d2,H2,K2,rfl,rfl,h2,c3,d3,H3,K3,rfl,rfl,h3,c4,d4,H4,K4,rfl,rfl,h4,hz,hk⟩:=h
  subst hz;subst hk
  obtain⟨e0,k0⟩:=h0;subst e0;subst k0
  obtain⟨e1,k1⟩:=h1;subst e1;subst k1
  obtain⟨e2,k2⟩:=h2;subst e2;subst k2
  obtain⟨o,H,e3⟩:=slFormO h3
  subst e3
  obtain⟨q,O,e4⟩:=slFormO h4
  subst e4
  refine⟨o,H,q,O,rfl,?_⟩
  show(All _).A w _
  exact cast (congrArg _ (by simp)) (show(All _).A w (H3++(H4++([]))) from⟨_,_,rfl,h3,⟨_,_,rfl,h4,rfl⟩⟩)
theorem zeb {w:World}{c:D.ShardCell}{A0:Option Addr}{k0:Nat}{A1:Option Addr}{k1:Nat}{G:List Nat}(h:(All [Own ty45 [.slice A0 c.Data.length k0] c.Data,Own ty82 [.slice A1 c.Aux.length k1] c.Aux]).A w G):z6K.own w [.int .i64 c.Kind,.int .i64 c.Level,.int .i64 c.Value,.slice A0 c.Data.length k0,.slice A1 c.Aux.length k1] c G:=by
  obtain⟨G0,R0,rfl,h0,G1,R1,rfl,h1,hz⟩:=h
  have hz':R1=[]:=hz
  subst hz'
  exact cast (congrArg _ (by simp)) (show z6K.own w [.int .i64 c.Kind,.int .i64 c.Level,.int .i64 c.Value,.slice A0 c.Data.length k0,.slice A1 c.Aux.length k1] c (_) from⟨_,_,_,_,rfl,rfl,⟨rfl,rfl⟩,⟨_,_,_,_,rfl,rfl,⟨rfl,rfl⟩,⟨_,_,_,_,rfl,rfl,⟨rfl,rfl⟩,⟨_,_,_,_,rfl,rfl,h0,⟨_,_,_,_,rfl,rfl,h1,⟨rfl,rfl⟩⟩⟩⟩⟩⟩)
theorem zgO {W:Base}{w:World}{B:List Res}{cs:List Value}{c:D.ShardCell}(h:St W w (Own z6K cs c::B)):∃ A0 k0 A1 k1,cs=[.int .i64 c.Kind,.int .i64 c.Level,.int .i64 c.Value,.slice A0 c.Data.length k0,.slice A1 c.Aux.length k1]∧St W w ([Own ty45 [.slice A0 c.Data.length k0] c.Data,Own ty82 [.slice A1 c.Aux.length k1] c.Aux]++B):=by
  obtain⟨G,hA,_⟩:=h.sep.head
  obtain⟨A0,k0,A1,k1,rfl,_⟩:=zfv hA
  refine⟨A0,k0,A1,k1,rfl,St.splitAll (h.conv fun G hG=>?_)⟩
  obtain⟨X0,Y0,X1,Y1,he,hh⟩:=zfv hG
  simp only [List.cons.injEq,Value.slice.injEq,and_true,true_and] at he
  obtain⟨⟨rfl,rfl⟩,⟨rfl,rfl⟩⟩:=he
  exact hh
theorem zcV {W:Base}{w:World}{B:List Res}{c:D.ShardCell}{A0:Option Addr}{k0:Nat}{A1:Option Addr}{k1:Nat}(h:St W w ([Own ty45 [.slice A0 c.Data.length k0] c.Data,Own ty82 [.slice A1 c.Aux.length k1] c.Aux]++B)):St W w (Own z6K [.int .i64 c.Kind,.int .i64 c.Level,.int .i64 c.Value,.slice A0 c.Data.length k0,.slice A1 c.Aux.length k1] c::B):=(St.fuseAll h).conv fun _ hG=>zeb hG

def ty81:Ty (List D.ShardCell):=tSl 126 z6K
instance {W:Base}:Reads W ty81:=inferInstanceAs (Reads W (tSl 126 z6K))
theorem zjc {w:World}{cs:List Value}{xs:(List D.ShardCell)}(h:ty81.ro w cs xs):∃ A c,cs=[.slice A xs.length c]:=slForm h

def z9R:Ty D.ShardVar:=tMap (fun c=>(c.Used,c.Full,c.Held,())) (tPair tBool (tPair tBool (tPair ty34 tUnit)))
instance {W:Base}:Reads W z9R:=inferInstanceAs (Reads W (tMap (fun c:D.ShardVar=>(c.Used,c.Full,c.Held,())) (tPair tBool (tPair tBool (tPair ty34 tUnit)))))
theorem z1O {w:World}{cs:List Value}{c:D.ShardVar}(h:z9R.ro w cs c):cs=[.bool c.Used,.bool c.Full,.int .i64 c.Held.Machine,.int .i64 c.Held.Kind,.int .i64 c.Held.Index]:=by
  obtain⟨c0,d0,rfl,h0,c1,d1,rfl,h1,c2,d2,rfl,h2,hz⟩:=h
  subst hz
  subst h0
  subst h1
  have e2:=zQ h2
  subst e2
  rfl
theorem zfo {w:World}{cs:List Value}{c:D.ShardVar}{G:List Nat}(h:z9R.own w cs c G):cs=[.bool c.Used,.bool c.Full,.int .i64 c.Held.Machine,.int .i64 c.Held.Kind,.int .i64 c.Held.Index]∧(All []).A w G:=by
  obtain⟨c0,d0,H0,K0,rfl,rfl,h0,c1,d1,H1,K1,rfl,rfl,h1,c2,d2,H2,K2,rfl,rfl,h2,hz,hk⟩:=h
  subst hz;subst hk
  obtain⟨e0,k0⟩:=h0;subst e0;subst k0
  obtain⟨e1,k1⟩:=h1;subst e1;subst k1
  obtain⟨e2,g2⟩:=zb1 h2
  subst e2
  refine⟨rfl,?_⟩
  exact cast (congrArg _ (by simp)) g2
theorem ze7 {w:World}{c:D.ShardVar}  {G:List Nat}(h:(All []).A w G):z9R.own w [.bool c.Used,.bool c.Full,.int .i64 c.Held.Machine,.int .i64 c.Held.Kind,.int .i64 c.Held.Index] c G:=by
  have hz:G=[]:=h
  subst hz
  exact cast (congrArg _ (by simp)) (show z9R.own w [.bool c.Used,.bool c.Full,.int .i64 c.Held.Machine,.int .i64 c.Held.Kind,.int .i64 c.Held.Index] c (_) from⟨_,_,_,_,rfl,rfl,⟨rfl,rfl⟩,⟨_,_,_,_,rfl,rfl,⟨rfl,rfl⟩,⟨_,_,_,_,rfl,rfl,(z86 (c:=c.Held) rfl),⟨rfl,rfl⟩⟩⟩⟩)
theorem zgL {W:Base}{w:World}{B:List Res}{cs:List Value}{c:D.ShardVar}(h:St W w (Own z9R cs c::B)):cs=[.bool c.Used,.bool c.Full,.int .i64 c.Held.Machine,.int .i64 c.Held.Kind,.int .i64 c.Held.Index]∧St W w ([]++B):=by
  obtain⟨G,hA,_⟩:=h.sep.head
  obtain⟨rfl,_⟩:=zfo hA
  refine⟨rfl,St.splitAll (h.conv fun G hG=>?_)⟩
  exact(zfo hG).2
theorem zcT {W:Base}{w:World}{B:List Res}{c:D.ShardVar}  (h:St W w ([]++B)):St W w (Own z9R [.bool c.Used,.bool c.Full,.int .i64 c.Held.Machine,.int .i64 c.Held.Kind,.int .i64 c.Held.Index] c::B):=(St.fuseAll h).conv fun _ hG=>ze7 hG

def z8V:Ty (List D.ShardVar):=tSl 154 z9R
instance {W:Base}:Reads W z8V:=inferInstanceAs (Reads W (tSl 154 z9R))
theorem zio {w:World}{cs:List Value}{xs:(List D.ShardVar)}(h:z8V.ro w cs xs):∃ A c,cs=[.slice A xs.length c]:=slForm h

def zbC:Ty D.ShardRedex:=tMap (fun c=>(c.A,c.B,())) (tPair ty34 (tPair ty34 tUnit))
instance {W:Base}:Reads W zbC:=inferInstanceAs (Reads W (tMap (fun c:D.ShardRedex=>(c.A,c.B,())) (tPair ty34 (tPair ty34 tUnit))))
theorem z6A {w:World}{cs:List Value}{c:D.ShardRedex}(h:zbC.ro w cs c):cs=[.int .i64 c.A.Machine,.int .i64 c.A.Kind,.int .i64 c.A.Index,.int .i64 c.B.Machine,.int .i64 c.B.Kind,.int .i64 c.B.Index]:=by
  obtain⟨c0,d0,rfl,h0,c1,d1,rfl,h1,hz⟩:=h
  subst hz
  have e0:=zQ h0
  subst e0
  have e1:=zQ h1
  subst e1
  rfl
theorem zfp {w:World}{cs:List Value}{c:D.ShardRedex}{G:List Nat}(h:zbC.own w cs c G):cs=[.int .i64 c.A.Machine,.int .i64 c.A.Kind,.int .i64 c.A.Index,.int .i64 c.B.Machine,.int .i64 c.B.Kind,.int .i64 c.B.Index]∧(All []).A w G:=by
  obtain⟨c0,d0,H0,K0,rfl,rfl,h0,c1,d1,H1,K1,rfl,rfl,h1,hz,hk⟩:=h
  subst hz;subst hk
  obtain⟨e0,g0⟩:=zb1 h0
  subst e0
  obtain⟨e1,g1⟩:=zb1 h1
  subst e1
  refine⟨rfl,?_⟩
  exact cast (congrArg _ (by simp)) (allApp g0 g1)
theorem ze8 {w:World}{c:D.ShardRedex}  {G:List Nat}(h:(All []).A w G):zbC.own w [.int .i64 c.A.Machine,.int .i64 c.A.Kind,.int .i64 c.A.Index,.int .i64 c.B.Machine,.int .i64 c.B.Kind,.int .i64 c.B.Index] c G:=by
  have hz:G=[]:=h
  subst hz
  exact cast (congrArg _ (by simp)) (show zbC.own w [.int .i64 c.A.Machine,.int .i64 c.A.Kind,.int .i64 c.A.Index,.int .i64 c.B.Machine,.int .i64 c.B.Kind,.int .i64 c.B.Index] c (_) from⟨_,_,_,_,rfl,rfl,(z86 (c:=c.A) rfl),⟨_,_,_,_,rfl,rfl,(z86 (c:=c.B) rfl),⟨rfl,rfl⟩⟩⟩)
theorem zgM {W:Base}{w:World}{B:List Res}{cs:List Value}{c:D.ShardRedex}(h:St W w (Own zbC cs c::B)):cs=[.int .i64 c.A.Machine,.int .i64 c.A.Kind,.int .i64 c.A.Index,.int .i64 c.B.Machine,.int .i64 c.B.Kind,.int .i64 c.B.Index]∧St W w ([]++B):=by
  obtain⟨G,hA,_⟩:=h.sep.head
  obtain⟨rfl,_⟩:=zfp hA
  refine⟨rfl,St.splitAll (h.conv fun G hG=>?_)⟩
  exact(zfp hG).2
theorem zcU {W:Base}{w:World}{B:List Res}{c:D.ShardRedex}  (h:St W w ([]++B)):St W w (Own zbC [.int .i64 c.A.Machine,.int .i64 c.A.Kind,.int .i64 c.A.Index,.int .i64 c.B.Machine,.int .i64 c.B.Kind,.int .i64 c.B.Index] c::B):=(St.fuseAll h).conv fun _ hG=>ze8 hG

def z9s:Ty (List D.ShardRedex):=tSl 152 zbC
instance {W:Base}:Reads W z9s:=inferInstanceAs (Reads W (tSl 152 zbC))
theorem zin {w:World}{cs:List Value}{xs:(List D.ShardRedex)}(h:z9s.ro w cs xs):∃ A c,cs=[.slice A xs.length c]:=slForm h

def z9W:Ty D.Shard:=tMap (fun c=>(c.Cells,c.Vars,c.Redexes,())) (tPair ty81 (tPair z8V (tPair z9s tUnit)))
instance {W:Base}:Reads W z9W:=inferInstanceAs (Reads W (tMap (fun c:D.Shard=>(c.Cells,c.Vars,c.Redexes,())) (tPair ty81 (tPair z8V (tPair z9s tUnit)))))
theorem z18 {w:World}{cs:List Value}{c:D.Shard}(h:z9W.ro w cs c):∃ A0 k0 A1 k1 A2 k2,cs=[.slice A0 c.Cells.length k0,.slice A1 c.Vars.length k1,.slice A2 c.Redexes.length k2]∧ty81.ro w [.slice A0 c.Cells.length k0] c.Cells∧z8V.ro w [.slice A1 c.Vars.length k1] c.Vars∧z9s.ro w [.slice A2 c.Redexes.length k2] c.Redexes:=by
  obtain⟨c0,d0,rfl,h0,c1,d1,rfl,h1,c2,d2,rfl,h2,hz⟩:=h
  subst hz
  obtain⟨o,H,e0⟩:=zjc h0
  subst e0
  obtain⟨q,O,e1⟩:=zio h1
  subst e1
  obtain⟨G,X,e2⟩:=zin h2
  subst e2
  exact⟨o,H,q,O,G,X,rfl,h0,h1,h2⟩
theorem zfw {w:World}{cs:List Value}{c:D.Shard}{G:List Nat}(h:z9W.own w cs c G):∃ A0 k0 A1 k1 A2 k2,cs=[.slice A0 c.Cells.length k0,.slice A1 c.Vars.length k1,.slice A2 c.Redexes.length k2]∧(All [Own ty81 [.slice A0 c.Cells.length k0] c.Cells,Own z8V [.slice A1 c.Vars.length k1] c.Vars,Own z9s [.slice A2 c.Redexes.length k2] c.Redexes]).A w G:=by
  obtain⟨c0,d0,H0,K0,rfl,rfl,h0,c1,d1,H1,K1,rfl,rfl,h1,c2,d2,H2,K2,rfl,rfl,h2,hz,hk⟩:=h
  subst hz;subst hk
  obtain⟨o,O,e0⟩:=slFormO h0
  subst e0
  obtain⟨q,X,e1⟩:=slFormO h1
  subst e1
  obtain⟨H,Y,e2⟩:=slFormO h2
  subst e2
  refine⟨o,O,q,X,H,Y,rfl,?_⟩
  show(All _).A w _
  exact cast (congrArg _ (by simp)) (show(All _).A w (H0++(H1++(H2++([])))) from⟨_,_,rfl,h0,⟨_,_,rfl,h1,⟨_,_,rfl,h2,rfl⟩⟩⟩)
theorem zec {w:World}{c:D.Shard}{A0:Option Addr}{k0:Nat}{A1:Option Addr}{k1:Nat}{A2:Option Addr}{k2:Nat}{G:List Nat}(h:(All [Own ty81 [.slice A0 c.Cells.length k0] c.Cells,Own z8V [.slice A1 c.Vars.length k1] c.Vars,Own z9s [.slice A2 c.Redexes.length k2] c.Redexes]).A w G):z9W.own w [.slice A0 c.Cells.length k0,.slice A1 c.Vars.length k1,.slice A2 c.Redexes.length k2] c G:=by
  obtain⟨G0,R0,rfl,h0,G1,R1,rfl,h1,G2,R2,rfl,h2,hz⟩:=h
  have hz':R2=[]:=hz
  subst hz'
  exact cast (congrArg _ (by simp)) (show z9W.own w [.slice A0 c.Cells.length k0,.slice A1 c.Vars.length k1,.slice A2 c.Redexes.length k2] c (_) from⟨_,_,_,_,rfl,rfl,h0,⟨_,_,_,_,rfl,rfl,h1,⟨_,_,_,_,rfl,rfl,h2,⟨rfl,rfl⟩⟩⟩⟩)
theorem zgP {W:Base}{w:World}{B:List Res}{cs:List Value}{c:D.Shard}(h:St W w (Own z9W cs c::B)):∃ A0 k0 A1 k1 A2 k2,cs=[.slice A0 c.Cells.length k0,.slice A1 c.Vars.length k1,.slice A2 c.Redexes.length k2]∧St W w ([Own ty81 [.slice A0 c.Cells.length k0] c.Cells,Own z8V [.slice A1 c.Vars.length k1] c.Vars,Own z9s [.slice A2 c.Redexes.length k2] c.Redexes]++B):=by
  obtain⟨G,hA,_⟩:=h.sep.head
  obtain⟨A0,k0,A1,k1,A2,k2,rfl,_⟩:=zfw hA
  refine⟨A0,k0,A1,k1,A2,k2,rfl,St.splitAll (h.conv fun G hG=>?_)⟩
  obtain⟨X0,Y0,X1,Y1,X2,Y2,he,hh⟩:=zfw hG
  simp only [List.cons.injEq,Value.slice.injEq,and_true,true_and] at he
  obtain⟨⟨rfl,rfl⟩,⟨rfl,rfl⟩,⟨rfl,rfl⟩⟩:=he
  exact hh
theorem zcW {W:Base}{w:World}{B:List Res}{c:D.Shard}{A0:Option Addr}{k0:Nat}{A1:Option Addr}{k1:Nat}{A2:Option Addr}{k2:Nat}(h:St W w ([Own ty81 [.slice A0 c.Cells.length k0] c.Cells,Own z8V [.slice A1 c.Vars.length k1] c.Vars,Own z9s [.slice A2 c.Redexes.length k2] c.Redexes]++B)):St W w (Own z9W [.slice A0 c.Cells.length k0,.slice A1 c.Vars.length k1,.slice A2 c.Redexes.length k2] c::B):=(St.fuseAll h).conv fun _ hG=>zec hG

def ty33:Ty (List D.Shard):=tSl 123 z9W
instance {W:Base}:Reads W ty33:=inferInstanceAs (Reads W (tSl 123 z9W))
theorem zjd {w:World}{cs:List Value}{xs:(List D.Shard)}(h:ty33.ro w cs xs):∃ A c,cs=[.slice A xs.length c]:=slForm h

def ty36:Ty D.Grid:=tMap (fun c=>(c.Shards,c.Root,())) (tPair ty33 (tPair ty34 tUnit))
instance {W:Base}:Reads W ty36:=inferInstanceAs (Reads W (tMap (fun c:D.Grid=>(c.Shards,c.Root,())) (tPair ty33 (tPair ty34 tUnit))))
theorem z2d {w:World}{cs:List Value}{c:D.Grid}(h:ty36.ro w cs c):∃ A0 k0,cs=[.slice A0 c.Shards.length k0,.int .i64 c.Root.Machine,.int .i64 c.Root.Kind,.int .i64 c.Root.Index]∧ty33.ro w [.slice A0 c.Shards.length k0] c.Shards:=by
  obtain⟨c0,d0,rfl,h0,c1,d1,rfl,h1,hz⟩:=h
  subst hz
  obtain⟨o,q,e0⟩:=zjd h0
  subst e0
  have e1:=zQ h1
  subst e1
  exact⟨o,q,rfl,h0⟩
theorem z7m {w:World}(c:D.Grid){A0:Option Addr}{k0:Nat}(h0:ty33.ro w [.slice A0 c.Shards.length k0] c.Shards):ty36.ro w [.slice A0 c.Shards.length k0,.int .i64 c.Root.Machine,.int .i64 c.Root.Kind,.int .i64 c.Root.Index] c:=
  ⟨_,_,rfl,h0,⟨_,_,rfl,(zO c.Root ),rfl⟩⟩
def ty44:Ty (List (List Int)):=tSl 45 ty45
instance {W:Base}:Reads W ty44:=inferInstanceAs (Reads W (tSl 45 ty45))
theorem zb0 {w:World}{cs:List Value}{xs:(List (List Int))}(h:ty44.ro w cs xs):∃ A c,cs=[.slice A xs.length c]:=slForm h

def zbB:Ty D.thing:=tMap (fun c=>(c.at_,c.slot,c.own,())) (tPair ty34 (tPair tInt (tPair tBool tUnit)))
instance {W:Base}:Reads W zbB:=inferInstanceAs (Reads W (tMap (fun c:D.thing=>(c.at_,c.slot,c.own,())) (tPair ty34 (tPair tInt (tPair tBool tUnit)))))
theorem zar {w:World}{cs:List Value}{c:D.thing}(h:zbB.ro w cs c):cs=[.int .i64 c.at_.Machine,.int .i64 c.at_.Kind,.int .i64 c.at_.Index,.int .i64 c.slot,.bool c.own]:=by
  obtain⟨c0,d0,rfl,h0,c1,d1,rfl,h1,c2,d2,rfl,h2,hz⟩:=h
  subst hz
  have e0:=zQ h0
  subst e0
  subst h1
  subst h2
  rfl
theorem zig {w:World}(c:D.thing)  :zbB.ro w [.int .i64 c.at_.Machine,.int .i64 c.at_.Kind,.int .i64 c.at_.Index,.int .i64 c.slot,.bool c.own] c:=
  ⟨_,_,rfl,(zO c.at_ ),⟨_,_,rfl,rfl,⟨_,_,rfl,rfl,rfl⟩⟩⟩
theorem zaq {w:World}{c:D.thing}  {G:List Nat}(h:(All []).A w G):zbB.own w [.int .i64 c.at_.Machine,.int .i64 c.at_.Kind,.int .i64 c.at_.Index,.int .i64 c.slot,.bool c.own] c G:=by
  have hz:G=[]:=h
  subst hz
  exact cast (congrArg _ (by simp)) (show zbB.own w [.int .i64 c.at_.Machine,.int .i64 c.at_.Kind,.int .i64 c.at_.Index,.int .i64 c.slot,.bool c.own] c (_) from⟨_,_,_,_,rfl,rfl,(z86 (c:=c.at_) rfl),⟨_,_,_,_,rfl,rfl,⟨rfl,rfl⟩,⟨_,_,_,_,rfl,rfl,⟨rfl,rfl⟩,⟨rfl,rfl⟩⟩⟩⟩)
def zcg:Ty D.statement:=tMap (fun c=>(c.a,c.b,())) (tPair zbB (tPair zbB tUnit))
instance {W:Base}:Reads W zcg:=inferInstanceAs (Reads W (tMap (fun c:D.statement=>(c.a,c.b,())) (tPair zbB (tPair zbB tUnit))))
theorem z9r {w:World}{cs:List Value}{c:D.statement}(h:zcg.ro w cs c):cs=[.int .i64 c.a.at_.Machine,.int .i64 c.a.at_.Kind,.int .i64 c.a.at_.Index,.int .i64 c.a.slot,.bool c.a.own,.int .i64 c.b.at_.Machine,.int .i64 c.b.at_.Kind,.int .i64 c.b.at_.Index,.int .i64 c.b.slot,.bool c.b.own]:=by
  obtain⟨c0,d0,rfl,h0,c1,d1,rfl,h1,hz⟩:=h
  subst hz
  have e0:=zar h0
  subst e0
  have e1:=zar h1
  subst e1
  rfl
theorem zap {w:World}{c:D.statement}  {G:List Nat}(h:(All []).A w G):zcg.own w [.int .i64 c.a.at_.Machine,.int .i64 c.a.at_.Kind,.int .i64 c.a.at_.Index,.int .i64 c.a.slot,.bool c.a.own,.int .i64 c.b.at_.Machine,.int .i64 c.b.at_.Kind,.int .i64 c.b.at_.Index,.int .i64 c.b.slot,.bool c.b.own] c G:=by
  have hz:G=[]:=h
  subst hz
  exact cast (congrArg _ (by simp)) (show zcg.own w [.int .i64 c.a.at_.Machine,.int .i64 c.a.at_.Kind,.int .i64 c.a.at_.Index,.int .i64 c.a.slot,.bool c.a.own,.int .i64 c.b.at_.Machine,.int .i64 c.b.at_.Kind,.int .i64 c.b.at_.Index,.int .i64 c.b.slot,.bool c.b.own] c (_) from⟨_,_,_,_,rfl,rfl,(zaq (c:=c.a) rfl),⟨_,_,_,_,rfl,rfl,(zaq (c:=c.b) rfl),⟨rfl,rfl⟩⟩⟩)
def ty86:Ty (List D.statement):=tSl 169 zcg
instance {W:Base}:Reads W ty86:=inferInstanceAs (Reads W (tSl 169 zcg))
theorem zj9 {w:World}{cs:List Value}{xs:(List D.statement)}(h:ty86.ro w cs xs):∃ A c,cs=[.slice A xs.length c]:=slForm h

def zjh:Ty D.l27Links:=tMap (fun c=>(c.agents,c.ports,c.cells,c.vars,c.ends,c.pairs,())) (tPair ty28 (tPair zq (tPair ty44 (tPair ty44 (tPair ty44 (tPair ty44 tUnit))))))
instance {W:Base}:Reads W zjh:=inferInstanceAs (Reads W (tMap (fun c:D.l27Links=>(c.agents,c.ports,c.cells,c.vars,c.ends,c.pairs,())) (tPair ty28 (tPair zq (tPair ty44 (tPair ty44 (tPair ty44 (tPair ty44 tUnit))))))))
theorem ze9 {w:World}{cs:List Value}{c:D.l27Links}(h:zjh.ro w cs c):∃ A0 k0 A1 k1 A2 k2 A3 k3 A4 k4 A5 k5,cs=[.slice A0 c.agents.length k0,.slice A1 c.ports.length k1,.slice A2 c.cells.length k2,.slice A3 c.vars.length k3,.slice A4 c.ends.length k4,.slice A5 c.pairs.length k5]∧ty28.ro w [.slice A0 c.agents.length k0] c.agents∧zq.ro w [.slice A1 c.ports.length k1] c.ports∧ty44.ro w [.slice A2 c.cells.length k2] c.cells∧ty44.ro w [.slice A3 c.vars.length k3] c.vars∧ty44.ro w [.slice A4 c.ends.length k4] c.ends∧ty44.ro w [.slice A5 c.pairs.length k5] c.pairs:=by
  obtain⟨c0,d0,rfl,h0,c1,d1,rfl,h1,c2,d2,rfl,h2,c3,d3,rfl,h3,c4,d4,rfl,h4,c5,d5,rfl,h5,hz⟩:=h
  subst hz
  obtain⟨o,Y,e0⟩:=zfk h0
  subst e0
  obtain⟨q,Z,e1⟩:=zee h1
  subst e1
  obtain⟨G,a0,e2⟩:=zb0 h2
  subst e2
  obtain⟨H,b0,e3⟩:=zb0 h3
  subst e3
  obtain⟨O,f0,e4⟩:=zb0 h4
  subst e4
  obtain⟨X,g0,e5⟩:=zb0 h5
  subst e5
  exact⟨o,Y,q,Z,G,a0,H,b0,O,f0,X,g0,rfl,h0,h1,h2,h3,h4,h5⟩
theorem z6B {w:World}(c:D.l27Links){A0:Option Addr}{k0:Nat}{A1:Option Addr}{k1:Nat}{A2:Option Addr}{k2:Nat}{A3:Option Addr}{k3:Nat}{A4:Option Addr}{k4:Nat}{A5:Option Addr}{k5:Nat}(h0:ty28.ro w [.slice A0 c.agents.length k0] c.agents) (h1:zq.ro w [.slice A1 c.ports.length k1] c.ports) (h2:ty44.ro w [.slice A2 c.cells.length k2] c.cells) (h3:ty44.ro w [.slice A3 c.vars.length k3] c.vars) (h4:ty44.ro w [.slice A4 c.ends.length k4] c.ends) (h5:ty44.ro w [.slice A5 c.pairs.length k5] c.pairs):zjh.ro w [.slice A0 c.agents.length k0,.slice A1 c.ports.length k1,.slice A2 c.cells.length k2,.slice A3 c.vars.length k3,.slice A4 c.ends.length k4,.slice A5 c.pairs.length k5] c:=
  ⟨_,_,rfl,h0,⟨_,_,rfl,h1,⟨_,_,rfl,h2,⟨_,_,rfl,h3,⟨_,_,rfl,h4,⟨_,_,rfl,h5,rfl⟩⟩⟩⟩⟩⟩
def zf8:D.Address→Value:=fun c=>.agg ⟨[.int .i64 c.Machine,.int .i64 c.Kind,.int .i64 c.Index]⟩
theorem zjT:KeyOk Tryz.prog 34 zf8:=KeyOk.struct ttok (cells:=fun c:D.Address=>[.int .i64 c.Machine,.int .i64 c.Kind,.int .i64 c.Index]) (b:=fun x y=>(((x.Machine:Int) == y.Machine) && (((x.Kind:Int) == y.Kind) && (((x.Index:Int) == y.Index) && true)))) rfl rfl (fun _ _=>rfl) (fun x y=>by cases x;cases y;simp [zho,and_assoc]) (fun _=>rfl) (fun {x y} h=>by cases x;cases y;simpa [and_assoc] using h)
def zih:Ty (List (D.Address × Int)):=tMp zf8 (Value.int .i64)
instance {W:Base}:Reads W zih:=inferInstanceAs (Reads W (tMp zf8 (Value.int .i64)))
theorem zeS:MapOk Tryz.prog 159 34 2 zf8 (Value.int .i64) (0:Int):=⟨by kernel_rfl,by kernel_rfl,zjT⟩

def zjg:Ty (List Int):=tSl 3 tInt
instance {W:Base}:Reads W zjg:=inferInstanceAs (Reads W (tSl 3 tInt))
def zgs:D.thing→Value:=fun c=>.agg ⟨[.int .i64 c.at_.Machine,.int .i64 c.at_.Kind,.int .i64 c.at_.Index,.int .i64 c.slot,.bool c.own]⟩
theorem znr:KeyOk Tryz.prog 164 zgs:=KeyOk.struct ttok (cells:=fun c:D.thing=>[.int .i64 c.at_.Machine,.int .i64 c.at_.Kind,.int .i64 c.at_.Index,.int .i64 c.slot,.bool c.own]) (b:=fun x y=>((((x.at_.Machine:Int) == y.at_.Machine) && (((x.at_.Kind:Int) == y.at_.Kind) && (((x.at_.Index:Int) == y.at_.Index) && true))) && (((x.slot:Int) == y.slot) && ((x.own == y.own) && true)))) rfl rfl (fun _ _=>rfl) (fun x y=>by rcases x with⟨⟨_,_,_⟩,_,_⟩;rcases y with⟨⟨_,_,_⟩,_,_⟩;simp [zho,and_assoc]) (fun _=>rfl) (fun {x y} h=>by rcases x with⟨⟨_,_,_⟩,_,_⟩;rcases y with⟨⟨_,_,_⟩,_,_⟩;simpa [and_assoc] using h)
def zcf:Ty (List (D.thing × (List Int))):=tMpS zgs zjg
instance {W:Base}:Reads W zcf:=inferInstanceAs (Reads W (tMpS zgs zjg))
theorem zif {w:World}{cs:List Value}{xs:(List (D.thing × (List Int)))}(h:zcf.ro w cs xs):∃ g,cs=[.map (some g)]:=mpsForm h
theorem z9K:MapOk Tryz.prog 223 164 226 zgs (id:Value→Value) (.slice none 0 0):=⟨by kernel_rfl,by kernel_rfl,znr⟩

def zmT:Ty D.assembler:=tMap (fun c=>(c.list_,c.ends,())) (tPair ty86 (tPair zcf tUnit))
instance {W:Base}:Reads W zmT:=inferInstanceAs (Reads W (tMap (fun c:D.assembler=>(c.list_,c.ends,())) (tPair ty86 (tPair zcf tUnit))))
theorem zie {w:World}{cs:List Value}{c:D.assembler}(h:zmT.ro w cs c):∃ A0 k0 A1,cs=[.slice A0 c.list_.length k0,.map (some A1)]∧ty86.ro w [.slice A0 c.list_.length k0] c.list_∧zcf.ro w [.map (some A1)] c.ends:=by
  obtain⟨c0,d0,rfl,h0,c1,d1,rfl,h1,hz⟩:=h
  subst hz
  obtain⟨o,G,e0⟩:=zj9 h0
  subst e0
  obtain⟨q,e1⟩:=zif h1
  subst e1
  exact⟨o,G,q,rfl,h0,h1⟩
theorem zid {w:World}(c:D.assembler){A0:Option Addr}{k0:Nat}{A1:Nat}(h0:ty86.ro w [.slice A0 c.list_.length k0] c.list_) (h1:zcf.ro w [.map (some A1)] c.ends):zmT.ro w [.slice A0 c.list_.length k0,.map (some A1)] c:=
  ⟨_,_,rfl,h0,⟨_,_,rfl,h1,rfl⟩⟩
def zb2:Ty (List Bool):=tSl 4 tBool
instance {W:Base}:Reads W zb2:=inferInstanceAs (Reads W (tSl 4 tBool))
def zaQ:Ty (List (D.Address × Int)):=tMp zf8 (Value.int .i64)
instance {W:Base}:Reads W zaQ:=inferInstanceAs (Reads W (tMp zf8 (Value.int .i64)))
theorem zax:MapOk Tryz.prog 275 34 3 zf8 (Value.int .i64) (0:Int):=⟨by kernel_rfl,by kernel_rfl,zjT⟩

def zcR:Ty (List (Int × Int)):=tMp (Value.int .i64) (Value.int .i64)
instance {W:Base}:Reads W zcR:=inferInstanceAs (Reads W (tMp (Value.int .i64) (Value.int .i64)))
theorem zcF:MapOk Tryz.prog 277 2 2 (Value.int .i64) (Value.int .i64) (0:Int):=⟨by kernel_rfl,by kernel_rfl,(KeyOk.int (by kernel_rfl))⟩

def zaP:Ty D.traversal:=tMap (fun c=>(c.list_,c.code,c.least,())) (tPair ty45 (tPair ty45 (tPair tInt tUnit)))
instance {W:Base}:Reads W zaP:=inferInstanceAs (Reads W (tMap (fun c:D.traversal=>(c.list_,c.code,c.least,())) (tPair ty45 (tPair ty45 (tPair tInt tUnit)))))
theorem ze4 {w:World}{cs:List Value}{c:D.traversal}(h:zaP.ro w cs c):∃ A0 k0 A1 k1,cs=[.slice A0 c.list_.length k0,.slice A1 c.code.length k1,.int .i64 c.least]∧ty45.ro w [.slice A0 c.list_.length k0] c.list_∧ty45.ro w [.slice A1 c.code.length k1] c.code:=by
  obtain⟨c0,d0,rfl,h0,c1,d1,rfl,h1,c2,d2,rfl,h2,hz⟩:=h
  subst hz
  obtain⟨o,G,e0⟩:=z1a h0
  subst e0
  obtain⟨q,H,e1⟩:=z1a h1
  subst e1
  subst h2
  exact⟨o,G,q,H,rfl,h0,h1⟩
theorem zfm {w:World}{cs:List Value}{c:D.traversal}{G:List Nat}(h:zaP.own w cs c G):∃ A0 k0 A1 k1,cs=[.slice A0 c.list_.length k0,.slice A1 c.code.length k1,.int .i64 c.least]∧(All [Own ty45 [.slice A0 c.list_.length k0] c.list_,Own ty45 [.slice A1 c.code.length k1] c.code]).A w G:=by
  obtain⟨c0,d0,H0,K0,rfl,rfl,h0,c1,d1,H1,K1,rfl,rfl,h1,c2,d2,H2,K2,rfl,rfl,h2,hz,hk⟩:=h
  subst hz;subst hk
  obtain⟨o,H,e0⟩:=slFormO h0
  subst e0
  obtain⟨q,O,e1⟩:=slFormO h1
  subst e1
  obtain⟨e2,k2⟩:=h2;subst e2;subst k2
  refine⟨o,H,q,O,rfl,?_⟩
  show(All _).A w _
  exact cast (congrArg _ (by simp)) (show(All _).A w (H0++(H1++([]))) from⟨_,_,rfl,h0,⟨_,_,rfl,h1,rfl⟩⟩)
theorem zi8 {w:World}{c:D.traversal}{A0:Option Addr}{k0:Nat}{A1:Option Addr}{k1:Nat}{G:List Nat}(h:(All [Own ty45 [.slice A0 c.list_.length k0] c.list_,Own ty45 [.slice A1 c.code.length k1] c.code]).A w G):zaP.own w [.slice A0 c.list_.length k0,.slice A1 c.code.length k1,.int .i64 c.least] c G:=by
  obtain⟨G0,R0,rfl,h0,G1,R1,rfl,h1,hz⟩:=h
  have hz':R1=[]:=hz
  subst hz'
  exact cast (congrArg _ (by simp)) (show zaP.own w [.slice A0 c.list_.length k0,.slice A1 c.code.length k1,.int .i64 c.least] c (_) from⟨_,_,_,_,rfl,rfl,h0,⟨_,_,_,_,rfl,rfl,h1,⟨_,_,_,_,rfl,rfl,⟨rfl,rfl⟩,⟨rfl,rfl⟩⟩⟩⟩)
theorem zgJ {W:Base}{w:World}{B:List Res}{cs:List Value}{c:D.traversal}(h:St W w (Own zaP cs c::B)):∃ A0 k0 A1 k1,cs=[.slice A0 c.list_.length k0,.slice A1 c.code.length k1,.int .i64 c.least]∧St W w ([Own ty45 [.slice A0 c.list_.length k0] c.list_,Own ty45 [.slice A1 c.code.length k1] c.code]++B):=by
  obtain⟨G,hA,_⟩:=h.sep.head
  obtain⟨A0,k0,A1,k1,rfl,_⟩:=zfm hA
  refine⟨A0,k0,A1,k1,rfl,St.splitAll (h.conv fun G hG=>?_)⟩
  obtain⟨X0,Y0,X1,Y1,he,hh⟩:=zfm hG
  simp only [List.cons.injEq,Value.slice.injEq,and_true,true_and] at he
  obtain⟨⟨rfl,rfl⟩,⟨rfl,rfl⟩⟩:=he
  exact hh
theorem zcQ {W:Base}{w:World}{B:List Res}{c:D.traversal}{A0:Option Addr}{k0:Nat}{A1:Option Addr}{k1:Nat}(h:St W w ([Own ty45 [.slice A0 c.list_.length k0] c.list_,Own ty45 [.slice A1 c.code.length k1] c.code]++B)):St W w (Own zaP [.slice A0 c.list_.length k0,.slice A1 c.code.length k1,.int .i64 c.least] c::B):=(St.fuseAll h).conv fun _ hG=>zi8 hG

def zi9:Ty (List D.traversal):=tSl 283 zaP
instance {W:Base}:Reads W zi9:=inferInstanceAs (Reads W (tSl 283 zaP))
def zmS:Ty (List D.thing):=tSl 164 zbB
instance {W:Base}:Reads W zmS:=inferInstanceAs (Reads W (tSl 164 zbB))
def zje:Ty (List (Int × Bool)):=tMp (Value.int .i64) Value.bool
instance {W:Base}:Reads W zje:=inferInstanceAs (Reads W (tMp (Value.int .i64) Value.bool))
theorem zeR:MapOk Tryz.prog 306 2 4 (Value.int .i64) Value.bool false:=⟨by kernel_rfl,by kernel_rfl,(KeyOk.int (by kernel_rfl))⟩

end Go.E


namespace Go.E
open Go.RowKit
set_option linter.unusedVariables false
set_option linter.unusedSimpArgs false


inductive Rd (σ τ ρ:Type) where
  | next (s:σ)
  | brk (t:τ)
  | ret (r:ρ)

def iter {σ τ ρ:Type}(body:σ→Option (Rd σ τ ρ)):Nat→σ→Option (τ ⊕ ρ)
  | 0,_=>none
  | n+1,s=>match body s with
    | none=>none
    | some (.next s')=>iter body n s'
    | some (.brk t)=>some (.inl t)
    | some (.ret r)=>some (.inr r)

def idx {α:Type}(xs:List α) (i:Int):Option α:=if 0≤i then xs[i.toNat]? else none

theorem zo {α:Type}{xs:List α}{i:Int}{x:α}(h:idx xs i=some x):0≤i∧xs[i.toNat]? = some x:=by
  unfold idx at h
  split at h
  · exact⟨by assumption,h⟩
  · cases h


def aft {τ A:Type}(o:τ ⊕ A) (k:τ→Option A):Option A:=
  match o with
  | .inl t=>k t
  | .inr a=>some a

theorem z6 {τ A:Type}(t:τ) (k:τ→Option A):aft (.inl t) k=k t:=rfl

theorem zoQ {c:Bool}(h:c=false):¬ c=true:=by rw [h];simp

theorem bind_some {α β:Type}{x:Option α}{f:α→Option β}{b:β}(h:x.bind f=some b):∃ a,x=some a∧f a=some b:=by
  cases x with
  | none=>cases h
  | some a=>exact⟨a,rfl,h⟩

section
variable {P:Program}{n:Nat}{Q:Post}{F:Fr}{w:World}


theorem WP.iter {c:Code}{σ τ ρ:Type}(J:σ→Fr→World→Prop) (body:σ→Option (Rd σ τ ρ)){k:Nat}{s:σ}{out:τ ⊕ ρ}(hm:iter body k s=some out) (h0:J s F w)
    (round:∀ s F w k o,J s F w→body s=some o→(match o with | .next s'=>Go.E.iter body k s'=some out | .brk t=>out=.inl t | .ret r=>out=.inr r)→
      WP P n c (Q.after (fun F' w'=>∃ s' F'',F'.Has F''∧o=.next s'∧J s' F'' w')) F w):WP P n (.loop c) Q F w:=by
  refine WP.loop (σ:={ p:Nat × σ // Go.E.iter body p.1 p.2=some out }) (fun p F w=>J p.1.2 F w) (fun p=>p.1.1) ⟨(k,s),hm⟩ h0 ?_
  rintro⟨⟨k,s⟩,hk⟩ F w hJ
  cases k with
  | zero=>cases hk
  | succ k=>
    have hk':=hk
    simp only [Go.E.iter] at hk'
    cases hb:body s with
    | none=>rw [hb] at hk';cases hk'
    | some o=>
      rw [hb] at hk'
      refine(round s F w k o hJ hb ?_).mono ?_
      · cases o with
        | next s'=>exact hk'
        | brk t=>simp only [Option.some.injEq] at hk';exact hk'.symm
        | ret r=>simp only [Option.some.injEq] at hk';exact hk'.symm
      · intro e F' w' q
        cases e with
        | normal=>
          obtain⟨s',F2,hh,rfl,hJ'⟩:=q
          exact⟨⟨(k,s'),hk'⟩,F2,hh,hJ',Nat.lt_succ_self k⟩
        | _=>exact q


theorem WP.cut {c:Code}{τ:Type}(J:τ→Fr→World→Prop) (hk:∀ t F w,J t F w→Q .normal F w) (h:WP P n c (Q.after (fun F w=>∃ t F',F.Has F'∧J t F' w)) F w):WP P n c Q F w:=
  fun a ha=>wp_mono (h a ha) fun e a' w' ⟨F1,hf,q⟩=>by
    cases e with
    | normal=>obtain⟨t,F',hh,ht⟩:=q;exact⟨F',hf.weak hh,hk t F' w' ht⟩
    | _=>exact⟨F1,hf,q⟩

theorem RW.know {ops rest:List Oper}(i:Nat){v u:Value}(hg:F.get i=some v) (e:v=u) (h:RW P n ops Q rest ((i,u)::F) w):RW P n ops Q rest F w:=fun a ha=>
  h a ⟨ha.1,ha.2.1,fun j x hx=>by
    rw [Fr.get_cons] at hx
    split at hx
    · rename_i hj;subst hj;simp only [Option.some.injEq] at hx;subst hx;rw [← e];exact ha.2.2 _ _ hg
    · exact ha.2.2 _ _ hx⟩

theorem DW.know {ops:List Oper}{w0:World}{W9:Base}{wr:Nat→Bool}{fuel:Nat}{listed:Array Bool}(i:Nat){v u:Value}(hg:F.get i=some v) (e:v=u) (h:DW P n ops Q W9 w0 wr fuel listed ((i,u)::F) w):DW P n ops Q W9 w0 wr fuel listed F w:=fun hs he hv a ha=>
  h hs he hv a ⟨ha.1,ha.2.1,fun j x hx=>by
    rw [Fr.get_cons] at hx
    split at hx
    · rename_i hj;subst hj;simp only [Option.some.injEq] at hx;subst hx;rw [← e];exact ha.2.2 _ _ hg
    · exact ha.2.2 _ _ hx⟩

theorem DM.know {ops:List Oper}{w0:World}{W9:Base}{wm fuel k m:Nat}(i:Nat){v u:Value}(hg:F.get i=some v) (e:v=u) (h:DM P n ops Q W9 w0 wm fuel k m ((i,u)::F) w):DM P n ops Q W9 w0 wm fuel k m F w:=fun l hl=>DW.know i hg e (h l hl)

theorem ziW {α:Type}{xs:List α}{l h:Nat}(h2:h≤xs.length):((xs.take h).drop l).length=h - l:=by
  rw [List.length_drop,List.length_take,Nat.min_eq_left h2]

theorem ResIs.agg {T:TT}(ht:TTok P T){a:Tmp}{t:Nat}{q:Addr}(h:F.get a=some (.pointer (some q))){i:TI}(hi:T.get t=some i) (hag:i.agg=true){cs:List Value}(hat:At w q cs) (hl:Nat.beq cs.length i.size=true):
    ResIs P F w (.cell a t) (.agg ⟨cs⟩):=.cell h (by
  have hr:=run_loadCells_list (P:=P) w q cs fun j u hu=>hat j u hu
  rw [Nat.eq_of_beq_eq_true hl] at hr
  simp [loadVar,ht.isAgg hi,ht.sizeOf hi,hag,hr])

theorem ResIs.one {T:TT}(ht:TTok P T){a:Tmp}{t:Nat}{q:Addr}(h:F.get a=some (.pointer (some q))){i:TI}(hi:T.get t=some i) (hag:i.agg=false){c:Value}(hat:At w q [c]):
    ResIs P F w (.cell a t) c:=.cell h (by
  have hc:w.cell? q=some c:=by have:=hat 0 c rfl;simpa [Addr.add] using this
  simp [loadVar,ht.isAgg hi,hag,run_load,hc])

theorem At.sub {p:Addr}{cs:List Value}(h:At w p cs) (off m:Nat):At w (p.add off) ((cs.drop off).take m):=h.part fun j u hu=>by
  rw [List.getElem?_take] at hu
  split at hu
  · simpa using hu
  · cases hu
end
end Go.E


namespace Go.E
open Go.RowKit
set_option linter.unusedVariables false
set_option linter.unusedSimpArgs false

def I64 (n:Int):Prop:=-9223372036854775808≤n∧n≤9223372036854775807

theorem zjW {n:Int}(h:(Lit.int .i64 n).wf=true):I64 n:=by
  have h1:IntKind.i64.min = -9223372036854775808:=rfl
  have h2:IntKind.i64.max=9223372036854775807:=rfl
  simp only [Lit.wf,Bool.and_eq_true,decide_eq_true_eq,h1,h2] at h
  exact h

theorem zoB {n:Int}(h:I64 n):w64 n=n:=by
  obtain⟨h1,h2⟩:=h
  have e:w64 n=if n % 18446744073709551616≥9223372036854775808 then n % 18446744073709551616 - 18446744073709551616 else n % 18446744073709551616:=by
    unfold w64 IntKind.wrap
    show(if(true && decide (n % (2 ^ 64:Int)≥(2 ^ 63:Int)))=true then n % (2 ^ 64:Int) - (2 ^ 64:Int) else n % (2 ^ 64:Int))=_
    simp
  rw [e]
  split<;>omega

def Opens (P:Program) (t:TypeId){α:Type}(T:Ty α) (wf:α→Prop):Prop:=
  P.cellsOf t=T.size∧∀ {H:Type}{enc:TypeId × Value→H}{w:World}{base:Nat}{spare:Nat→Bool}{held:Bool}{fuel:Nat}{cs:List Value}{x:DataW H × List MemPlace},
    DataW.trod enc P w base spare held fuel t cs=some x→∃ a,T.ro w cs a∧wf a

theorem Opens.int {P:Program}{t:TypeId}(ht:P.underlying t=some (.int .i64)) (hc:P.cellsOf t=1):Opens P t tInt I64:=
  ⟨hc,fun h=>by
    obtain⟨n,rfl,_,hw⟩:=DataW.trod_int ht h
    exact⟨n,rfl,zjW hw⟩⟩

theorem Opens.bool {P:Program}{t:TypeId}(ht:P.underlying t=some .bool) (hc:P.cellsOf t=1):Opens P t tBool fun _=>True:=
  ⟨hc,fun h=>by
    obtain⟨n,rfl,_⟩:=DataW.trod_bool ht h
    exact⟨n,rfl,trivial⟩⟩

theorem Opens.str {P:Program}{t:TypeId}(ht:P.underlying t=some .string) (hc:P.cellsOf t=1):Opens P t tStr fun s=>s.size≤maxLen:=
  ⟨hc,fun h=>by
    obtain⟨n,rfl,_,hw⟩:=DataW.trod_string ht h
    exact⟨n,rfl,hw⟩⟩

theorem At.append {w:World}{p:Addr}{cs es:List Value}(ha:At w p cs) (hb:At w (p.add cs.length) es):At w p (cs++es):=fun j u hu=>by
  rcases Nat.lt_or_ge j cs.length with h | h
  · rw [List.getElem?_append_left h] at hu
    exact ha j u hu
  · rw [List.getElem?_append_right h] at hu
    have:=hb (j - cs.length) u hu
    rw [zmO] at this
    rwa [show cs.length+(j - cs.length)=j by omega] at this

theorem zfT {α:Type}{T:Ty α}{wf:α→Prop}{w:World}{a:Addr}{base:Nat}:∀ (n:Nat),(∀ i,i<n→∃ cs',w.cells? base (a.add (i*T.size)) T.size=some cs'∧∃ x,T.ro w cs' x∧wf x)→
    ∃ (xs:List α) (els:List Value),xs.length=n∧Els T w els xs∧At w a els∧∀ x,x∈xs→wf x
  | 0,_=>⟨[],[],rfl,rfl,fun j u hu=>by simp at hu,fun x hx=>by cases hx⟩
  | n+1,h=>by
    obtain⟨xs,els,hl,he,ha,hw⟩:=zfT n fun i hi=>h i (Nat.lt_succ_of_lt hi)
    obtain⟨cs',hc,x,hx,hwx⟩:=h n (Nat.lt_succ_self n)
    refine⟨xs++[x],els++cs',by simp [hl],he.append ⟨cs',[],by simp,hx,rfl⟩,ha.append ?_,fun y hy=>?_⟩
    · obtain⟨_,hcl,hat⟩:=World.cells?_some hc
      intro j u hu
      have hj:=(List.getElem?_eq_some_iff.1 hu).1
      rw [he.length,hl,hat j (by omega)]
      exact hu
    · rcases List.mem_append.1 hy with hy | hy
      · exact hw y hy
      · simp only [List.mem_singleton] at hy;subst hy;exact hwx

def WfL {α:Type}(wf:α→Prop) (xs:List α):Prop:=xs.length≤maxLen∧∀ x,x∈xs→wf x

theorem Opens.sl {P:Program}{t e:TypeId}{α:Type}{T:Ty α}{wf:α→Prop}(ht:P.underlying t=some (.slice e)) (hc:P.cellsOf t=1) (ho:Opens P e T wf):Opens P t (tSl e T) (WfL wf):=
  ⟨hc,by
    intro H enc w base spare held fuel cs x h
    rcases Go.Deep.open_slice ht h with⟨rfl,_⟩ | ⟨a,len,cap,m,n,D,Pl,rfl,_,hl,hm,hmm,_,hi⟩
    · exact⟨[],⟨none,0,[],rfl,Nat.le_refl _,rfl,fun h=>absurd rfl h⟩,⟨Nat.zero_le _,fun x hx=>by cases hx⟩⟩
    · have hlm:len≤m:=by rw [hmm];split<;>omega
      rw [ho.1] at hi
      obtain⟨xs,els,hxl,he,ha,hw⟩:=zfT (T:=T) (wf:=wf) (w:=w) (a:=a) (base:=base) len fun i hil=>by
        obtain⟨cs',h1,h2⟩:=hi i (by omega)
        exact⟨cs',h1,ho.2 h2⟩
      subst hxl
      exact⟨xs,⟨some a,cap,els,rfl,hl,he,fun _=>⟨a,rfl,ha⟩⟩,⟨by omega,hw⟩⟩⟩


def OpensF (P:Program) (o:Nat) (fs:List Field){α:Type}(T:Ty α) (wf:α→Prop):Prop:=
  ∀ {H:Type}{enc:TypeId × Value→H}{w:World}{base:Nat}{spare:Nat→Bool}{held:Bool}{fuel:Nat}{cs:List Value},
    (∀ (i:Nat) (f:Field),fs[i]? = some f→∃ x,DataW.trod enc P w base spare held fuel f.type ((cs.drop f.offset).take (P.cellsOf f.type))=some x)→∃ a,T.ro w ((cs.drop o).take T.size) a∧wf a

theorem OpensF.nil {P:Program}{o:Nat}:OpensF P o [] tUnit fun _=>True:=fun _=>⟨(),by show List.take 0 _=[];simp,trivial⟩

theorem OpensF.cons {P:Program}{o o':Nat}{f:Field}{fs:List Field}{α β:Type}{T:Ty α}{U:Ty β}{wf:α→Prop}{wg:β→Prop}(ho:Opens P f.type T wf) (hf:f.offset=o) (h':o'=o+T.size) (hr:OpensF P o' fs U wg):
    OpensF P o (f::fs) (tPair T U) fun x=>wf x.1∧wg x.2:=by
  intro H enc w base spare held fuel cs h
  obtain⟨x,hx⟩:=h 0 f rfl
  obtain⟨a,h1,h2⟩:=ho.2 hx
  obtain⟨b,h3,h4⟩:=hr (cs:=cs) fun i g hg=>h (i+1) g hg
  subst h'
  refine⟨(a,b),⟨_,_,?_,h1,h3⟩,h2,h4⟩
  rw [ho.1,hf]
  show List.take (T.size+U.size) _=_
  rw [List.take_add,List.drop_drop]

theorem Opens.struct {P:Program}{t:TypeId}{fs:Array Field}{α β:Type}{T:Ty α}{wf:α→Prop}{f:β→α}(ht:P.underlying t=some (.struct fs)) (hc:P.cellsOf t=T.size) (h:OpensF P 0 fs.toList T wf) (hs:∀ a,∃ b,f b=a):
    Opens P t (tMap f T) fun b=>wf (f b):=
  ⟨hc,by
    intro H enc w base spare held fuel cs x hx
    obtain⟨xs,n,_,_,hl,hxl,hf⟩:=DataW.trod_struct ht hx
    obtain⟨a,h1,h2⟩:=h (cs:=cs) (w:=w) (enc:=enc) (base:=base) (spare:=spare) (held:=held) (fuel:=n) fun i g hg=>by
      have hi:i<fs.size:=by simpa using (List.getElem?_eq_some_iff.1 hg).1
      exact⟨xs[i]'(by omega),(hf i g (by simpa using hg)).trans (List.getElem?_eq_getElem _)⟩
    obtain⟨b,rfl⟩:=hs a
    refine⟨b,?_,h2⟩
    show T.ro w cs (f b)
    rwa [List.drop_zero,List.take_of_length_le (by omega)] at h1⟩

section
variable {H:Type}{enc:TypeId × Value→H}{P:Program}{w:World}{base b0:Nat}{spare:Nat→Bool}{held:Bool}{r:Reach}{t:TypeId}{v:Value}{d:DataW H}{p:List MemPlace}

theorem zj3 {α:Type}{T:Ty α}{wf:α→Prop}{fs:Array Field}(ht:P.underlying t=some (.struct fs)) (ho:Opens P t T wf) (hv:Value.okWide P w r b0 t v) (h:DataW.Trod enc P w base spare held t v d p):
    ∃ cs x,v=.agg ⟨cs⟩∧T.ro w cs x∧wf x:=by
  obtain⟨cs,rfl,_⟩:=WideShapes.okWide_struct ht hv
  obtain⟨fuel,hf⟩:=h
  obtain⟨x,h1,h2⟩:=ho.2 hf
  exact⟨cs.toList,x,rfl,h1,h2⟩

end

theorem Ret.out {Q:Value→World→Prop}{e:Ending}{w:World}(h:Ret Q e w):∃ v,e=.returned v∧Q v w:=by
  cases e with
  | returned v=>exact⟨v,rfl,h⟩
  | _=>exact False.elim h
end Go.E


namespace Go.E
set_option linter.unusedVariables false
set_option linter.unusedSimpArgs false

theorem z7 {n:Int}(h0:-9223372036854775808≤n) (h1:n≤9223372036854775807):w64 n=n:=zoB ⟨h0,h1⟩


theorem zc {σ τ ρ:Type}{body:σ→Option (Rd σ τ ρ)}(I:Nat→σ→Prop) (n:Nat) (Q:τ ⊕ ρ→Prop)
    (step:∀ i s,i<n→I i s→(∃ s',body s=some (.next s')∧I (i+1) s')∨(∃ r,body s=some (.ret r)∧Q (.inr r))∨∃ t,body s=some (.brk t)∧Q (.inl t))
    (last:∀ s,I n s→(∃ r,body s=some (.ret r)∧Q (.inr r))∨∃ t,body s=some (.brk t)∧Q (.inl t)):
    ∀ {fuel i s},i≤n→n - i<fuel→I i s→∃ o,iter body fuel s=some o∧Q o
  | 0,i,s,_,hf,_=>by omega
  | fuel+1,i,s,hi,hf,hI=>by
    have done:((∃ r,body s=some (.ret r)∧Q (.inr r))∨∃ t,body s=some (.brk t)∧Q (.inl t))→∃ o,iter body (fuel+1) s=some o∧Q o:=by
      rintro(⟨r,h1,h2⟩ | ⟨t,h1,h2⟩)
      · exact⟨_,by simp only [iter,h1],h2⟩
      · exact⟨_,by simp only [iter,h1],h2⟩
    rcases Nat.lt_or_ge i n with h | h
    · rcases step i s h hI with⟨s',h1,h2⟩ | h1
      · obtain⟨o,h3,h4⟩:=zc I n Q step last (fuel:=fuel) (i:=i+1) h (by omega) h2
        exact⟨o,by simp only [iter,h1];exact h3,h4⟩
      · exact done h1
    · obtain rfl:i=n:=by omega
      exact done (last s hI)

def sumL {α:Type}(f:α→Nat):List α→Nat
  | []=>0
  | x::xs=>f x+sumL f xs


def szL {α:Type}(f:α→Nat) (xs:List α):Nat:=xs.length+sumL f xs

theorem zhm {α:Type}{f:α→Nat}{x:α}:∀ {xs:List α},x∈xs→f x≤sumL f xs
  | y::xs,h=>by
    rcases List.mem_cons.1 h with rfl | h
    · exact Nat.le_add_right _ _
    · exact Nat.le_trans (zhm h) (Nat.le_add_left _ _)

theorem z9F {α:Type}{f:α→Nat}:∀ {xs ys:List α},sumL f (xs++ys)=sumL f xs+sumL f ys
  | [],ys=>by simp [sumL]
  | x::xs,ys=>by simp only [List.cons_append,sumL,z9F (xs:=xs),Nat.add_assoc]

theorem zd1 {α:Type}{f:α→Nat}{xs:List α}{i:Nat}{x:α}(h:xs[i]? = some x):sumL f (xs.take (i+1))=sumL f (xs.take i)+f x:=by
  rw [List.take_add_one,h,z9F]
  simp [sumL]

theorem z8F {α:Type}{f:α→Nat}{xs:List α}{n:Nat}(h:szL f xs≤n):xs.length≤n:=by unfold szL at h;omega
theorem z8E {α:Type}{f:α→Nat}{xs:List α}{n:Nat}(h:szL f xs≤n){x:α}(hx:x∈xs):f x≤n:=by
  have:=zhm (f:=f) hx
  unfold szL at h;omega
theorem zav {α:Type}{f:α→Nat}(hf:∀ x,f x=0):∀ (xs:List α),szL f xs=xs.length
  | []=>rfl
  | x::xs=>by
    have:=zav hf xs
    unfold szL at this ⊢
    simp only [sumL,hf,List.length_cons]
    omega

theorem z8 {α:Type}{xs:List α}{i:Nat}{x:α}(h:xs[i]? = some x):idx xs (i:Int)=some x:=by
  unfold idx
  simp [h]

theorem z1r {α:Type}{xs:List α}{i:Nat}(h:i<xs.length):∃ x,xs[i]? = some x:=⟨_,List.getElem?_eq_getElem h⟩
theorem lt_t {a b:Int}(h:a<b):(decide (a<b)=true)=True:=by simp [h]
theorem lt_f {a b:Int}(h:¬ a<b):(decide (a<b)=true)=False:=by simp [h]


def SzOk (n:Nat) (l:Int) (o:Option Int):Prop:=∃ r,o=some r∧(r<0∨0≤r∧r+(n:Int)=l)

theorem SzOk.fail {n:Nat}{l:Int}:SzOk n l (some (-1)):=⟨_,rfl,.inl (by decide)⟩
theorem SzOk.same {l:Int}(h:0≤l):SzOk 0 l (some l):=⟨_,rfl,.inr ⟨h,by omega⟩⟩

theorem SzOk.bind {n m k:Nat}{l:Int}{o:Option Int}{f:Int→Option Int}(h:SzOk n l o) (hk:k=n+m) (g:∀ r,0≤r→r≤l→SzOk m r (f r)):
    SzOk k l (o.bind fun r=>if decide (r<0)=true then some (-1) else f r):=by
  obtain⟨r,rfl,h⟩:=h
  subst hk
  show SzOk _ _ (if decide (r<0)=true then some (-1) else f r)
  rcases h with h | ⟨h1,h2⟩
  · simp only [lt_t h,if_true];exact SzOk.fail
  · simp only [lt_f (show ¬ r<0 by omega),if_false]
    obtain⟨s,h3,h4⟩:=g r h1 (by omega)
    exact⟨s,h3,h4.imp id fun⟨h5,h6⟩=>⟨h5,by omega⟩⟩

theorem SzOk.sub {n m k:Nat}{l:Int}{f:Int→Option Int}(h0:0≤l) (h1:l≤1048576) (hn:n≤maxLen) (hk:k=n+m) (g:∀ r,0≤r→r≤l→SzOk m r (f r)):
    SzOk k l (if decide (w64 (l - (n:Int))<0)=true then some (-1) else f (w64 (l - (n:Int)))):=by
  have hm:maxLen=9223372036854775807:=rfl
  rw [z7 (show -9223372036854775808≤l - (n:Int) by omega) (by omega)]
  subst hk
  by_cases h:l - (n:Int)<0
  · simp only [lt_t h,if_true];exact SzOk.fail
  · simp only [lt_f h,if_false]
    obtain⟨s,h3,h4⟩:=g _ (show 0≤l - (n:Int) by omega) (by omega)
    exact⟨s,h3,h4.imp id fun⟨h5,h6⟩=>⟨h5,by omega⟩⟩

theorem SzOk.sub2 {n m k:Nat}{l z:Int}{e:Option Int}(h0:0≤l) (h1:l≤1048576) (hn:n≤maxLen) (hk:k=n+m) (hz:w64 (l - (n:Int))=z) (g:0≤z→z≤l→SzOk m z e):
    SzOk k l (if decide (z<0)=true then some (-1) else e):=by
  have hm:maxLen=9223372036854775807:=rfl
  rw [z7 (show -9223372036854775808≤l - (n:Int) by omega) (by omega)] at hz
  subst hk
  by_cases h:z<0
  · simp only [lt_t h,if_true];exact SzOk.fail
  · simp only [lt_f h,if_false]
    obtain⟨s,h3,h4⟩:=g (by omega) (by omega)
    exact⟨s,h3,h4.imp id fun⟨h5,h6⟩=>⟨h5,by omega⟩⟩


theorem SzOk.loop {α:Type}{f:α→Nat}{xs:List α}{body:Int × Int→Option (Rd (Int × Int) Int Int)}{j:Int→Option Int}{l:Int}{fuel:Nat}(hl:xs.length≤maxLen) (hf:18446744073709551616≤fuel) (h0:0≤l) (h1:l≤1048576) (hj:∀ t,j t=some t)
    (step:∀ (i:Nat) (x:α) (l:Int),xs[i]? = some x→0≤l→l≤1048576→body (l,i)=some (.ret (-1))∨∃ r,body (l,i)=some (.next (r,w64 (i+1)))∧0≤r∧r+(f x:Int)=l)
    (last:∀ l,body (l,xs.length)=some (.brk l)):SzOk (sumL f xs) l ((iter body fuel (l,0)).bind fun o=>aft o j):=by
  have hm:maxLen=9223372036854775807:=rfl
  obtain⟨o,h2,h3⟩:=zc (body:=body) (fun i s=>s.2=(i:Int)∧0≤s.1∧s.1+(sumL f (xs.take i):Int)=l) xs.length (fun o=>match o with | .inl t=>0≤t∧t+(sumL f xs:Int)=l | .inr r=>r = -1) (by
    rintro i ⟨s,t⟩ hi ⟨h2,h3,h4⟩
    dsimp only at h2 h3 h4
    subst h2
    obtain⟨x,hx⟩:=z1r hi
    rcases step i x s hx h3 (by omega) with h | ⟨r,h5,h6,h7⟩
    · exact .inr (.inl ⟨_,h,rfl⟩)
    · refine .inl ⟨_,h5,?_,h6,?_⟩
      · show w64 _=_
        rw [z7 (by omega) (by omega)];simp
      · rw [zd1 hx]
        show r+_=l
        omega) (by
    rintro⟨s,t⟩ ⟨h2,h3,h4⟩
    dsimp only at h2 h3 h4
    subst h2
    refine .inr ⟨_,last s,h3,?_⟩
    rwa [List.take_length] at h4) (fuel:=fuel) (i:=0) (s:=(l,0)) (Nat.zero_le _) (by omega) ⟨rfl,h0,by simp [sumL]⟩
  rw [h2]
  cases o with
  | inl t=>exact⟨t,hj t,.inr h3⟩
  | inr r=>exact⟨r,rfl,.inl (by rw [show r = -1 from h3];decide)⟩


theorem z9D {α:Type}{xs:List α}{z:α}{body:Int × List α→Option (Rd (Int × List α) (List α) (List α))}{j:List α→Option (List α)}{fuel:Nat}(hl:xs.length≤1048576) (hf:18446744073709551616≤fuel) (hj:∀ t,j t=some t)
    (step:∀ (i:Nat) (x:α) (out:List α),xs[i]? = some x→out.length=xs.length→body (i,out)=some (.next (w64 (i+1),out.set i x)))
    (last:∀ out,body (xs.length,out)=some (.brk out)):
    (if decide (0≤(xs.length:Int)∧(xs.length:Int)≤4294967296)=true then((iter body fuel (0,List.replicate (xs.length:Int).toNat z)).bind fun o=>aft o j) else none)=some xs:=by
  rw [if_pos (by simp;omega)]
  obtain⟨o,h2,h3⟩:=zc (body:=body) (fun i s=>s.1=(i:Int)∧s.2.length=xs.length∧s.2.take i=xs.take i) xs.length (fun o=>o=.inl xs) (by
    rintro i ⟨s,t⟩ hi ⟨h2,h3,h4⟩
    dsimp only at h2 h3 h4
    subst h2
    obtain⟨x,hx⟩:=z1r hi
    refine .inl ⟨_,step i x t hx h3,?_,by simpa using h3,?_⟩
    · show w64 _=_
      rw [z7 (by omega) (by omega)];simp
    · show(t.set i x).take (i+1)=_
      rw [List.take_add_one,List.take_add_one,hx,List.take_set_of_le (Nat.le_refl _),h4,List.getElem?_set_self (by omega)]) (by
    rintro⟨s,t⟩ ⟨h2,h3,h4⟩
    dsimp only at h2 h3 h4
    subst h2
    refine .inr ⟨_,last t,?_⟩
    rw [List.take_length,List.take_of_length_le (by omega)] at h4
    rw [h4]) (fuel:=fuel) (i:=0) (s:=(0,List.replicate (xs.length:Int).toNat z)) (Nat.zero_le _) (by omega) ⟨rfl,by simp,by simp⟩
  rw [h2,h3]
  exact hj xs


theorem z2w (s:ByteArray):seqb s s=true:=by simp [seqb]


theorem z7j {τ ρ:Type}{n:Nat}{body:Int→Option (Rd Int τ ρ)}{j:τ→Option ρ}{fuel:Nat}{t:τ}{b:ρ}(hl:n≤maxLen) (hf:18446744073709551616≤fuel) (hj:j t=some b)
    (step:∀ (i:Nat),i<n→body i=some (.next (w64 (i+1)))) (last:body n=some (.brk t)):((iter body fuel 0).bind fun o=>aft o j)=some b:=by
  have hm:maxLen=9223372036854775807:=rfl
  obtain⟨o,h2,h3⟩:=zc (body:=body) (fun i s=>s=(i:Int)) n (fun o=>o=.inl t) (by
    rintro i s hi rfl
    exact .inl ⟨_,step i hi,by rw [z7 (by omega) (by omega)];simp⟩) (by
    rintro s rfl
    exact .inr ⟨_,last,rfl⟩) (fuel:=fuel) (i:=0) (s:=0) (Nat.zero_le _) (by omega) rfl
  rw [h2,h3]
  exact hj


end Go.E


namespace Go.E
open Go.RowKit
set_option linter.unusedVariables false

def D.Address.wf (x:D.Address):Prop:=I64 x.Machine∧I64 x.Kind∧I64 x.Index∧True
def D.Address.sz (x:D.Address):Nat:=0
def D.Port.wf (x:D.Port):Prop:=I64 x.Agent∧I64 x.Slot∧True
def D.Port.sz (x:D.Port):Nat:=0
def D.ShardVar.wf (x:D.ShardVar):Prop:=True∧True∧D.Address.wf x.Held∧True
def D.ShardVar.sz (x:D.ShardVar):Nat:=0
def D.ShardRedex.wf (x:D.ShardRedex):Prop:=D.Address.wf x.A∧D.Address.wf x.B∧True
def D.ShardRedex.sz (x:D.ShardRedex):Nat:=0
def D.Agent.wf (x:D.Agent):Prop:=I64 x.Kind∧I64 x.Level∧I64 x.Value∧WfL I64 x.Data∧WfL D.Port.wf x.Ports∧True
def D.Agent.sz (x:D.Agent):Nat:=x.Data.length+(x.Ports.length+(0))
def D.ShardCell.wf (x:D.ShardCell):Prop:=I64 x.Kind∧I64 x.Level∧I64 x.Value∧WfL I64 x.Data∧WfL D.Address.wf x.Aux∧True
def D.ShardCell.sz (x:D.ShardCell):Nat:=x.Data.length+(x.Aux.length+(0))
def D.Net.wf (x:D.Net):Prop:=WfL D.Agent.wf x.Agents∧True
def D.Net.sz (x:D.Net):Nat:=szL D.Agent.sz x.Agents+(0)
def D.Shard.wf (x:D.Shard):Prop:=WfL D.ShardCell.wf x.Cells∧WfL D.ShardVar.wf x.Vars∧WfL D.ShardRedex.wf x.Redexes∧True
def D.Shard.sz (x:D.Shard):Nat:=szL D.ShardCell.sz x.Cells+(x.Vars.length+(x.Redexes.length+(0)))
def D.Grid.wf (x:D.Grid):Prop:=WfL D.Shard.wf x.Shards∧D.Address.wf x.Root∧True
def D.Grid.sz (x:D.Grid):Nat:=szL D.Shard.sz x.Shards+(0)
def D.Parcel.wf (x:D.Parcel):Prop:=I64 x.Kind∧D.ShardCell.wf x.Cell∧D.Address.wf x.A∧D.Address.wf x.B∧True
def D.Parcel.sz (x:D.Parcel):Nat:=D.ShardCell.sz x.Cell+(0)
def D.Cluster.wf (x:D.Cluster):Prop:=D.Grid.wf x.Grid∧WfL (WfL D.Parcel.wf) x.Channels∧WfL (WfL I64) x.Counts∧WfL I64 x.Sent∧WfL I64 x.Got∧True
def D.Cluster.sz (x:D.Cluster):Nat:=D.Grid.sz x.Grid+(szL (fun x=>szL D.Parcel.sz x) x.Channels+(szL (fun x=>x.length) x.Counts+(x.Sent.length+(x.Got.length+(0)))))
end Go.E


namespace Go.E
set_option linter.unusedVariables false
set_option linter.unusedSimpArgs false


theorem eqLoop {α τ ρ:Type}[DecidableEq α] {xs ys:List α}{body:Int→Option (Rd Int τ ρ)}{fuel:Nat}{t:τ}{v:ρ}(hl:xs.length≤maxLen) (hf:18446744073709551616≤fuel) (he:xs.length=ys.length)
    (step:∀ (i:Nat) (a b:α),i<xs.length→xs[i]? = some a→ys[i]? = some b→body i=if a=b then some (.next (w64 (i+1))) else some (.ret v)) (last:body xs.length=some (.brk t)):
    iter body fuel 0=some (if xs=ys then .inl t else .inr v):=by
  have hm:maxLen=9223372036854775807:=rfl
  obtain⟨o,h2,h3⟩:=zc (body:=body) (fun i s=>s=(i:Int)∧xs.take i=ys.take i) xs.length (fun o=>o=if xs=ys then .inl t else .inr v) (by
    rintro i s hi ⟨rfl,h⟩
    obtain⟨a,ha⟩:=z1r hi
    obtain⟨b,hb⟩:=z1r (he ▸ hi:i<ys.length)
    have hs:=step i a b hi ha hb
    by_cases e:a=b
    · rw [if_pos e] at hs
      refine .inl ⟨_,hs,by rw [z7 (by omega) (by omega)];simp,?_⟩
      rw [List.take_add_one,List.take_add_one,h,ha,hb,e]
    · rw [if_neg e] at hs
      refine .inr (.inl ⟨_,hs,?_⟩)
      rw [if_neg]
      rintro rfl
      rw [ha] at hb
      exact e (Option.some.inj hb)) (by
    rintro s ⟨rfl,h⟩
    rw [List.take_length,he,List.take_length] at h
    exact .inr ⟨_,last,by rw [if_pos h]⟩) (fuel:=fuel) (i:=0) (s:=0) (Nat.zero_le _) (by omega) ⟨rfl,by simp⟩
  rw [h2,h3]


theorem eqWhole {α τ:Type}[DecidableEq α] {xs ys:List α}{body:Int→Option (Rd Int τ Bool)}{j:τ→Option Bool}{fuel:Nat}{t:τ}(hl:xs.length≤maxLen) (hf:18446744073709551616≤fuel) (hj:j t=some true)
    (step:∀ (i:Nat) (a b:α),i<xs.length→xs[i]? = some a→ys[i]? = some b→body i=if a=b then some (.next (w64 (i+1))) else some (.ret false)) (last:body xs.length=some (.brk t)):
    (if((xs.length:Int) != (ys.length:Int))=true then some false else((iter body fuel 0).bind fun o=>aft o j))=some (decide (xs=ys)):=by
  by_cases he:xs.length=ys.length
  · rw [if_neg (by simp [he]),eqLoop hl hf he step last]
    by_cases h:xs=ys
    · rw [if_pos h,decide_eq_true h];exact hj
    · rw [if_neg h,decide_eq_false h];rfl
  · rw [if_pos (by simp;omega),decide_eq_false (fun h=>he (by rw [h]))]


theorem askLoop {α τ ρ:Type}{xs:List α}{body:Int→Option (Rd Int τ ρ)}{fuel:Nat}{t:τ}{p:α→Bool}{g:Int→ρ}(hl:xs.length≤maxLen) (hf:18446744073709551616≤fuel)
    (step:∀ (i:Nat) (x:α),i<xs.length→xs[i]? = some x→body i=if p x=true then some (.ret (g i)) else some (.next (w64 (i+1)))) (last:body xs.length=some (.brk t)):
    (xs.any p=false∧iter body fuel 0=some (.inl t))∨(xs.any p=true∧∃ i:Nat,i<xs.length∧iter body fuel 0=some (.inr (g i))):=by
  have hm:maxLen=9223372036854775807:=rfl
  obtain⟨o,h2,h3⟩:=zc (body:=body) (fun i s=>s=(i:Int)∧(xs.take i).any p=false) xs.length (fun o=>(xs.any p=false∧o=.inl t)∨(xs.any p=true∧∃ i:Nat,i<xs.length∧o=.inr (g i))) (by
    rintro i s hi ⟨rfl,ha⟩
    obtain⟨x,hx⟩:=z1r hi
    have hs:=step i x hi hx
    cases hp:p x with
    | true=>
      rw [hp,if_pos rfl] at hs
      exact .inr (.inl ⟨_,hs,.inr ⟨List.any_eq_true.2 ⟨x,List.mem_of_getElem? hx,hp⟩,i,hi,rfl⟩⟩)
    | false=>
      rw [hp,if_neg (by simp)] at hs
      refine .inl ⟨_,hs,by rw [z7 (by omega) (by omega)];simp,?_⟩
      rw [List.take_add_one,hx,List.any_append,ha]
      simp [hp]) (by
    rintro s ⟨rfl,ha⟩
    rw [List.take_length] at ha
    exact .inr ⟨_,last,.inl ⟨ha,rfl⟩⟩) (fuel:=fuel) (i:=0) (s:=0) (Nat.zero_le _) (by omega) ⟨rfl,by simp⟩
  rcases h3 with⟨h3,rfl⟩ | ⟨h3,i,hi,rfl⟩
  · exact .inl ⟨h3,h2⟩
  · exact .inr ⟨h3,i,hi,h2⟩


theorem askOne {α τ ρ:Type}{xs:List α}{body:Int→Option (Rd Int τ ρ)}{j:τ→Option ρ}{fuel:Nat}{t:τ}{p:α→Bool}{v:ρ}(hl:xs.length≤maxLen) (hf:18446744073709551616≤fuel)
    (step:∀ (i:Nat) (x:α),i<xs.length→xs[i]? = some x→body i=if p x=true then some (.ret v) else some (.next (w64 (i+1)))) (last:body xs.length=some (.brk t)):
    ((iter body fuel 0).bind fun o=>aft o j)=if xs.any p=true then some v else j t:=by
  rcases askLoop (g:=fun _=>v) hl hf step last with⟨h1,h2⟩ | ⟨h1,i,_,h2⟩
  · rw [h2,h1];rfl
  · rw [h2,h1];rfl


theorem askIndex {α τ:Type}{xs:List α}{body:Int→Option (Rd Int τ Int)}{j:τ→Option Int}{fuel:Nat}{t:τ}{p:α→Bool}(hl:xs.length≤maxLen) (hf:18446744073709551616≤fuel) (hj:j t=some (-1))
    (step:∀ (i:Nat) (x:α),i<xs.length→xs[i]? = some x→body i=if p x=true then some (.ret i) else some (.next (w64 (i+1)))) (last:body xs.length=some (.brk t)):
    ∃ r,((iter body fuel 0).bind fun o=>aft o j)=some r∧decide (r≥0)=xs.any p:=by
  rcases askLoop (g:=fun i=>i) hl hf step last with⟨h1,h2⟩ | ⟨h1,i,_,h2⟩
  · exact⟨-1,by rw [h2];exact hj,by rw [h1];decide⟩
  · exact⟨i,by rw [h2];rfl,by rw [h1];exact decide_eq_true (by omega)⟩
end Go.E
namespace Go.E

end Go.E


