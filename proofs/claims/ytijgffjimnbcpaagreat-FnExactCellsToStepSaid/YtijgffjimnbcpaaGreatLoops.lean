/- The types of the data, as tables and as plain Lean types (written by program). Conditions: none. -/
import Derived.Test.YtijgffjimnbcpaaGreatMaps
import Derived.Test.YtijgffjimnbcpaaGreatProg
import Derived.KernelRfl
import Derived.Deep.Slices
import Derived.ChangeArms
import Derived.ProofKit
import Derived.OpenShut
import Derived.WideShapes
namespace Go.E
open Go.RowKit Go.Proofs
set_option linter.unusedVariables false
set_option linter.unusedSimpArgs false


def tt:TT:=[
  ⟨2,.int .i64,1,[.int .i64 0],8⟩,
  ⟨3,.int .i64,1,[.int .i64 0],8⟩,
  ⟨4,.bool,1,[.bool false],1⟩,
  ⟨22,.slice 121,1,[.slice none 0 0],24⟩,
  ⟨24,.struct [(0,1,false,2),(1,1,false,2)],2,[.int .i64 0,.int .i64 0],16⟩,
  ⟨25,.slice 129,1,[.slice none 0 0],24⟩,
  ⟨27,.struct [(0,1,false,22),(1,1,false,2),(2,2,true,24),(4,1,false,25)],5,[.slice none 0 0,.int .i64 0,.int .i64 0,.int .i64 0,.slice none 0 0],72⟩,
  ⟨29,.slice 83,1,[.slice none 0 0],24⟩,
  ⟨30,.struct [(0,1,false,2),(1,1,false,2)],2,[.int .i64 0,.int .i64 0],16⟩,
  ⟨31,.slice 87,1,[.slice none 0 0],24⟩,
  ⟨33,.struct [(0,1,false,29),(1,1,false,2),(2,2,true,30),(4,1,false,31)],5,[.slice none 0 0,.int .i64 0,.int .i64 0,.int .i64 0,.slice none 0 0],72⟩,
  ⟨40,.slice 148,1,[.slice none 0 0],24⟩,
  ⟨42,.struct [(0,1,false,40)],1,[.slice none 0 0],24⟩,
  ⟨47,.slice 160,1,[.slice none 0 0],24⟩,
  ⟨49,.struct [(0,1,false,47)],1,[.slice none 0 0],24⟩,
  ⟨51,.slice 107,1,[.slice none 0 0],24⟩,
  ⟨53,.struct [(0,5,true,33),(5,1,false,51),(6,1,false,2)],7,[.slice none 0 0,.int .i64 0,.int .i64 0,.int .i64 0,.slice none 0 0,.slice none 0 0,.int .i64 0],104⟩,
  ⟨60,.slice 49,1,[.slice none 0 0],24⟩,
  ⟨64,.slice 42,1,[.slice none 0 0],24⟩,
  ⟨71,.ptr 33,1,[.pointer none],8⟩,
  ⟨78,.other,1,[.map none],8⟩,
  ⟨80,.slice 2,1,[.slice none 0 0],24⟩,
  ⟨81,.slice 30,1,[.slice none 0 0],24⟩,
  ⟨83,.struct [(0,1,false,2),(1,1,false,2),(2,1,false,2),(3,1,false,80),(4,1,false,81)],5,[.int .i64 0,.int .i64 0,.int .i64 0,.slice none 0 0,.slice none 0 0],72⟩,
  ⟨87,.struct [(0,1,false,2),(1,1,false,2)],2,[.int .i64 0,.int .i64 0],16⟩,
  ⟨99,.ptr 42,1,[.pointer none],8⟩,
  ⟨105,.slice 222,1,[.slice none 0 0],24⟩,
  ⟨107,.struct [(0,1,false,2),(1,1,false,2),(2,1,false,31),(3,1,false,105),(4,1,false,80)],5,[.int .i64 0,.int .i64 0,.slice none 0 0,.slice none 0 0,.slice none 0 0],88⟩,
  ⟨108,.ptr 107,1,[.pointer none],8⟩,
  ⟨114,.ptr 182,1,[.pointer none],8⟩,
  ⟨119,.slice 24,1,[.slice none 0 0],24⟩,
  ⟨121,.struct [(0,1,false,2),(1,1,false,2),(2,1,false,2),(3,1,false,80),(4,1,false,119)],5,[.int .i64 0,.int .i64 0,.int .i64 0,.slice none 0 0,.slice none 0 0],72⟩,
  ⟨124,.ptr 83,1,[.pointer none],8⟩,
  ⟨129,.struct [(0,1,false,2),(1,1,false,2)],2,[.int .i64 0,.int .i64 0],16⟩,
  ⟨139,.slice 141,1,[.slice none 0 0],24⟩,
  ⟨141,.struct [(0,1,false,2),(1,1,false,2)],2,[.int .i64 0,.int .i64 0],16⟩,
  ⟨148,.struct [(0,1,false,2),(1,1,false,2),(2,1,false,2),(3,1,false,80),(4,1,false,139)],5,[.int .i64 0,.int .i64 0,.int .i64 0,.slice none 0 0,.slice none 0 0],72⟩,
  ⟨149,.other,1,[.map none],8⟩,
  ⟨158,.slice 240,1,[.slice none 0 0],24⟩,
  ⟨160,.struct [(0,1,false,2),(1,1,false,2),(2,1,false,2),(3,1,false,80),(4,1,false,158)],5,[.int .i64 0,.int .i64 0,.int .i64 0,.slice none 0 0,.slice none 0 0],72⟩,
  ⟨162,.ptr 148,1,[.pointer none],8⟩,
  ⟨182,.struct [(0,5,true,33),(5,1,false,64)],6,[.slice none 0 0,.int .i64 0,.int .i64 0,.int .i64 0,.slice none 0 0,.slice none 0 0],96⟩,
  ⟨183,.ptr 187,1,[.pointer none],8⟩,
  ⟨185,.other,1,[.map none],8⟩,
  ⟨187,.struct [(0,1,true,42),(1,1,false,64),(2,1,false,185)],3,[.slice none 0 0,.slice none 0 0,.map none],56⟩,
  ⟨192,.slice 213,1,[.slice none 0 0],24⟩,
  ⟨213,.struct [(0,2,true,141),(2,2,true,141)],4,[.int .i64 0,.int .i64 0,.int .i64 0,.int .i64 0],32⟩,
  ⟨222,.struct [(0,2,true,30),(2,2,true,30)],4,[.int .i64 0,.int .i64 0,.int .i64 0,.int .i64 0],32⟩,
  ⟨235,.slice 3,1,[.slice none 0 0],24⟩,
  ⟨240,.struct [(0,1,false,2),(1,1,false,2)],2,[.int .i64 0,.int .i64 0],16⟩]

def zerosOk (P:Program):TT→Prop
  | []=>True
  | i::r=>(P.info? i.id).map (fun j=>j.zero.map (fun v=>v.cells.toList))=some (some i.zero)∧zerosOk P r

theorem z9k {P:Program}:∀ {T:TT},zerosOk P T→∀ i,i∈T→(P.info? i.id).map (fun j=>j.zero.map (fun v=>v.cells.toList))=some (some i.zero)
  | [],_,i,h=>by cases h
  | _::_,⟨h1,h2⟩,i,h=>by
    rcases List.mem_cons.1 h with rfl | h
    · exact h1
    · exact z9k h2 i h

theorem zgR:tt.all (infoOk Tryz.prog)=true:=by kernel_rfl
theorem zfs:zerosOk Tryz.prog tt:=⟨by kernel_rfl,by kernel_rfl,by kernel_rfl,by kernel_rfl,by kernel_rfl,by kernel_rfl,by kernel_rfl,by kernel_rfl,by kernel_rfl,by kernel_rfl,by kernel_rfl,by kernel_rfl,by kernel_rfl,by kernel_rfl,by kernel_rfl,by kernel_rfl,by kernel_rfl,by kernel_rfl,by kernel_rfl,by kernel_rfl,by kernel_rfl,by kernel_rfl,by kernel_rfl,by kernel_rfl,by kernel_rfl,by kernel_rfl,by kernel_rfl,by kernel_rfl,by kernel_rfl,by kernel_rfl,by kernel_rfl,by kernel_rfl,by kernel_rfl,by kernel_rfl,by kernel_rfl,by kernel_rfl,by kernel_rfl,by kernel_rfl,by kernel_rfl,by kernel_rfl,by kernel_rfl,by kernel_rfl,by kernel_rfl,by kernel_rfl,by kernel_rfl,by kernel_rfl,by kernel_rfl,by kernel_rfl,by kernel_rfl,by kernel_rfl,trivial⟩
theorem ttok:TTok Tryz.prog tt:=⟨List.all_eq_true.1 zgR,z9k zfs⟩
theorem mixed:Tryz.prog.follows .mixedOrders=true:=by kernel_rfl

def tNilM:Ty Unit:=tFlat (fun _=>Value.map none) fun _=>rfl
instance {W:World}:Reads W tNilM:=⟨fun _=>trivial⟩

structure D.Word where
  Tag:Int
  At:Int
deriving Inhabited, DecidableEq

structure D.Cell where
  Kind:Int
  Level:Int
  Value:Int
  Data:(List Int)
  Words:(List D.Word)
deriving Inhabited, DecidableEq

structure D.Pair where
  A:Int
  B:Int
deriving Inhabited, DecidableEq

structure D.Memory where
  Cells:(List D.Cell)
  Free:Int
  Root:D.Word
  Redexes:(List D.Pair)
deriving Inhabited, DecidableEq

structure D.Port where
  Agent:Int
  Slot:Int
deriving Inhabited, DecidableEq

structure D.Agent where
  Kind:Int
  Level:Int
  Value:Int
  Data:(List Int)
  Ports:(List D.Port)
deriving Inhabited, DecidableEq

structure D.Net where
  Agents:(List D.Agent)
deriving Inhabited, DecidableEq

structure D.Link where
  A:D.Word
  B:D.Word
deriving Inhabited, DecidableEq

structure D.Worker where
  Phase:Int
  Victim:Int
  Redexes:(List D.Pair)
  Links:(List D.Link)
  Counts:(List Int)
deriving Inhabited, DecidableEq

structure D.Pool where
  Memory:D.Memory
  Workers:(List D.Worker)
  Active:Int
deriving Inhabited, DecidableEq

structure D.machine where
  Memory:D.Memory
  book:(List D.Net)
deriving Inhabited, DecidableEq

structure D.rewriter where
  Net:D.Net
  book:(List D.Net)
  removed:Unit
deriving Inhabited, DecidableEq

structure D.Wire where
  A:D.Port
  B:D.Port
deriving Inhabited, DecidableEq

def ty80:Ty (List Int):=tSl 2 tInt
instance {W:World}:Reads W ty80:=inferInstanceAs (Reads W (tSl 2 tInt))
theorem z89 {w:World}{cs:List Value}{xs:(List Int)}(h:ty80.ro w cs xs):∃ A c,cs=[.slice A xs.length c]:=slForm h

def ty24:Ty D.Word:=tMap (fun c=>(c.Tag,c.At,())) (tPair tInt (tPair tInt tUnit))
instance {W:World}:Reads W ty24:=inferInstanceAs (Reads W (tMap (fun c:D.Word=>(c.Tag,c.At,())) (tPair tInt (tPair tInt tUnit))))
theorem z9n {w:World}{cs:List Value}{c:D.Word}(h:ty24.ro w cs c):cs=[.int .i64 c.Tag,.int .i64 c.At]:=by
  obtain⟨c0,d0,rfl,h0,c1,d1,rfl,h1,hz⟩:=h
  subst hz
  subst h0
  subst h1
  rfl
theorem zdN {w:World}(c:D.Word)  :ty24.ro w [.int .i64 c.Tag,.int .i64 c.At] c:=
  ⟨_,_,rfl,rfl,⟨_,_,rfl,rfl,rfl⟩⟩
def zb5:Ty (List D.Word):=tSl 24 ty24
instance {W:World}:Reads W zb5:=inferInstanceAs (Reads W (tSl 24 ty24))
theorem zdf {w:World}{cs:List Value}{xs:(List D.Word)}(h:zb5.ro w cs xs):∃ A c,cs=[.slice A xs.length c]:=slForm h

def zch:Ty D.Cell:=tMap (fun c=>(c.Kind,c.Level,c.Value,c.Data,c.Words,())) (tPair tInt (tPair tInt (tPair tInt (tPair ty80 (tPair zb5 tUnit)))))
instance {W:World}:Reads W zch:=inferInstanceAs (Reads W (tMap (fun c:D.Cell=>(c.Kind,c.Level,c.Value,c.Data,c.Words,())) (tPair tInt (tPair tInt (tPair tInt (tPair ty80 (tPair zb5 tUnit)))))))
theorem z7T {w:World}{cs:List Value}{c:D.Cell}(h:zch.ro w cs c):∃ A0 k0 A1 k1,cs=[.int .i64 c.Kind,.int .i64 c.Level,.int .i64 c.Value,.slice A0 c.Data.length k0,.slice A1 c.Words.length k1]∧ty80.ro w [.slice A0 c.Data.length k0] c.Data∧zb5.ro w [.slice A1 c.Words.length k1] c.Words:=by
  obtain⟨c0,d0,rfl,h0,c1,d1,rfl,h1,c2,d2,rfl,h2,c3,d3,rfl,h3,c4,d4,rfl,h4,hz⟩:=h
  subst hz
  subst h0
  subst h1
  subst h2
  obtain⟨d,u,e3⟩:=z89 h3
  subst e3
  obtain⟨o,y,e4⟩:=zdf h4
  subst e4
  exact⟨d,u,o,y,rfl,h3,h4⟩
def ty22:Ty (List D.Cell):=tSl 121 zch
instance {W:World}:Reads W ty22:=inferInstanceAs (Reads W (tSl 121 zch))
theorem zdO {w:World}{cs:List Value}{xs:(List D.Cell)}(h:ty22.ro w cs xs):∃ A c,cs=[.slice A xs.length c]:=slForm h

def zde:Ty D.Pair:=tMap (fun c=>(c.A,c.B,())) (tPair tInt (tPair tInt tUnit))
instance {W:World}:Reads W zde:=inferInstanceAs (Reads W (tMap (fun c:D.Pair=>(c.A,c.B,())) (tPair tInt (tPair tInt tUnit))))
theorem zaa {w:World}{cs:List Value}{c:D.Pair}(h:zde.ro w cs c):cs=[.int .i64 c.A,.int .i64 c.B]:=by
  obtain⟨c0,d0,rfl,h0,c1,d1,rfl,h1,hz⟩:=h
  subst hz
  subst h0
  subst h1
  rfl
def ty25:Ty (List D.Pair):=tSl 129 zde
instance {W:World}:Reads W ty25:=inferInstanceAs (Reads W (tSl 129 zde))
theorem zdM {w:World}{cs:List Value}{xs:(List D.Pair)}(h:ty25.ro w cs xs):∃ A c,cs=[.slice A xs.length c]:=slForm h

def ty27:Ty D.Memory:=tMap (fun c=>(c.Cells,c.Free,c.Root,c.Redexes,())) (tPair ty22 (tPair tInt (tPair ty24 (tPair ty25 tUnit))))
instance {W:World}:Reads W ty27:=inferInstanceAs (Reads W (tMap (fun c:D.Memory=>(c.Cells,c.Free,c.Root,c.Redexes,())) (tPair ty22 (tPair tInt (tPair ty24 (tPair ty25 tUnit))))))
theorem z9m {w:World}{cs:List Value}{c:D.Memory}(h:ty27.ro w cs c):∃ A0 k0 A1 k1,cs=[.slice A0 c.Cells.length k0,.int .i64 c.Free,.int .i64 c.Root.Tag,.int .i64 c.Root.At,.slice A1 c.Redexes.length k1]∧ty22.ro w [.slice A0 c.Cells.length k0] c.Cells∧ty25.ro w [.slice A1 c.Redexes.length k1] c.Redexes:=by
  obtain⟨c0,d0,rfl,h0,c1,d1,rfl,h1,c2,d2,rfl,h2,c3,d3,rfl,h3,hz⟩:=h
  subst hz
  obtain⟨d,u,e0⟩:=zdO h0
  subst e0
  subst h1
  have e2:=z9n h2
  subst e2
  obtain⟨o,y,e3⟩:=zdM h3
  subst e3
  exact⟨d,u,o,y,rfl,h0,h3⟩
def ty30:Ty D.Word:=tMap (fun c=>(c.Tag,c.At,())) (tPair tInt (tPair tInt tUnit))
instance {W:World}:Reads W ty30:=inferInstanceAs (Reads W (tMap (fun c:D.Word=>(c.Tag,c.At,())) (tPair tInt (tPair tInt tUnit))))
theorem z21 {w:World}{cs:List Value}{c:D.Word}(h:ty30.ro w cs c):cs=[.int .i64 c.Tag,.int .i64 c.At]:=by
  obtain⟨c0,d0,rfl,h0,c1,d1,rfl,h1,hz⟩:=h
  subst hz
  subst h0
  subst h1
  rfl
theorem z72 {w:World}(c:D.Word)  :ty30.ro w [.int .i64 c.Tag,.int .i64 c.At] c:=
  ⟨_,_,rfl,rfl,⟨_,_,rfl,rfl,rfl⟩⟩
theorem z8c {w:World}{c:D.Word}  {G:List Nat}(h:(All []).A w G):ty30.own w [.int .i64 c.Tag,.int .i64 c.At] c G:=by
  have hz:G=[]:=h
  subst hz
  exact cast (congrArg _ (by simp)) (show ty30.own w [.int .i64 c.Tag,.int .i64 c.At] c (_) from⟨_,_,_,_,rfl,rfl,⟨rfl,rfl⟩,⟨_,_,_,_,rfl,rfl,⟨rfl,rfl⟩,⟨rfl,rfl⟩⟩⟩)
theorem zd5 {W w:World}{B:List Res}{c:D.Word}  (h:St W w ([]++B)):St W w (Own ty30 [.int .i64 c.Tag,.int .i64 c.At] c::B):=(St.fuseAll h).conv fun _ hG=>z8c hG

def ty81:Ty (List D.Word):=tSl 30 ty30
instance {W:World}:Reads W ty81:=inferInstanceAs (Reads W (tSl 30 ty30))
theorem zdF {w:World}{cs:List Value}{xs:(List D.Word)}(h:ty81.ro w cs xs):∃ A c,cs=[.slice A xs.length c]:=slForm h

def ty83:Ty D.Cell:=tMap (fun c=>(c.Kind,c.Level,c.Value,c.Data,c.Words,())) (tPair tInt (tPair tInt (tPair tInt (tPair ty80 (tPair ty81 tUnit)))))
instance {W:World}:Reads W ty83:=inferInstanceAs (Reads W (tMap (fun c:D.Cell=>(c.Kind,c.Level,c.Value,c.Data,c.Words,())) (tPair tInt (tPair tInt (tPair tInt (tPair ty80 (tPair ty81 tUnit)))))))
theorem z4 {w:World}{cs:List Value}{c:D.Cell}(h:ty83.ro w cs c):∃ A0 k0 A1 k1,cs=[.int .i64 c.Kind,.int .i64 c.Level,.int .i64 c.Value,.slice A0 c.Data.length k0,.slice A1 c.Words.length k1]∧ty80.ro w [.slice A0 c.Data.length k0] c.Data∧ty81.ro w [.slice A1 c.Words.length k1] c.Words:=by
  obtain⟨c0,d0,rfl,h0,c1,d1,rfl,h1,c2,d2,rfl,h2,c3,d3,rfl,h3,c4,d4,rfl,h4,hz⟩:=h
  subst hz
  subst h0
  subst h1
  subst h2
  obtain⟨d,u,e3⟩:=z89 h3
  subst e3
  obtain⟨o,y,e4⟩:=zdF h4
  subst e4
  exact⟨d,u,o,y,rfl,h3,h4⟩
theorem z6y {w:World}(c:D.Cell){A0:Option Addr}{k0:Nat}{A1:Option Addr}{k1:Nat}(h0:ty80.ro w [.slice A0 c.Data.length k0] c.Data) (h1:ty81.ro w [.slice A1 c.Words.length k1] c.Words):ty83.ro w [.int .i64 c.Kind,.int .i64 c.Level,.int .i64 c.Value,.slice A0 c.Data.length k0,.slice A1 c.Words.length k1] c:=
  ⟨_,_,rfl,rfl,⟨_,_,rfl,rfl,⟨_,_,rfl,rfl,⟨_,_,rfl,h0,⟨_,_,rfl,h1,rfl⟩⟩⟩⟩⟩
theorem zaY {w:World}{c:D.Cell}{A0:Option Addr}{k0:Nat}{A1:Option Addr}{k1:Nat}{G:List Nat}(h:(All [Own ty80 [.slice A0 c.Data.length k0] c.Data,Own ty81 [.slice A1 c.Words.length k1] c.Words]).A w G):ty83.own w [.int .i64 c.Kind,.int .i64 c.Level,.int .i64 c.Value,.slice A0 c.Data.length k0,.slice A1 c.Words.length k1] c G:=by
  obtain⟨G0,R0,rfl,h0,G1,R1,rfl,h1,hz⟩:=h
  have hz':R1=[]:=hz
  subst hz'
  exact cast (congrArg _ (by simp)) (show ty83.own w [.int .i64 c.Kind,.int .i64 c.Level,.int .i64 c.Value,.slice A0 c.Data.length k0,.slice A1 c.Words.length k1] c (_) from⟨_,_,_,_,rfl,rfl,⟨rfl,rfl⟩,⟨_,_,_,_,rfl,rfl,⟨rfl,rfl⟩,⟨_,_,_,_,rfl,rfl,⟨rfl,rfl⟩,⟨_,_,_,_,rfl,rfl,h0,⟨_,_,_,_,rfl,rfl,h1,⟨rfl,rfl⟩⟩⟩⟩⟩⟩)
theorem za5 {W w:World}{B:List Res}{c:D.Cell}{A0:Option Addr}{k0:Nat}{A1:Option Addr}{k1:Nat}(h:St W w ([Own ty80 [.slice A0 c.Data.length k0] c.Data,Own ty81 [.slice A1 c.Words.length k1] c.Words]++B)):St W w (Own ty83 [.int .i64 c.Kind,.int .i64 c.Level,.int .i64 c.Value,.slice A0 c.Data.length k0,.slice A1 c.Words.length k1] c::B):=(St.fuseAll h).conv fun _ hG=>zaY hG

def ty29:Ty (List D.Cell):=tSl 83 ty83
instance {W:World}:Reads W ty29:=inferInstanceAs (Reads W (tSl 83 ty83))
theorem zdL {w:World}{cs:List Value}{xs:(List D.Cell)}(h:ty29.ro w cs xs):∃ A c,cs=[.slice A xs.length c]:=slForm h

def ty87:Ty D.Pair:=tMap (fun c=>(c.A,c.B,())) (tPair tInt (tPair tInt tUnit))
instance {W:World}:Reads W ty87:=inferInstanceAs (Reads W (tMap (fun c:D.Pair=>(c.A,c.B,())) (tPair tInt (tPair tInt tUnit))))
theorem z1i {w:World}{cs:List Value}{c:D.Pair}(h:ty87.ro w cs c):cs=[.int .i64 c.A,.int .i64 c.B]:=by
  obtain⟨c0,d0,rfl,h0,c1,d1,rfl,h1,hz⟩:=h
  subst hz
  subst h0
  subst h1
  rfl
theorem zaW {w:World}(c:D.Pair)  :ty87.ro w [.int .i64 c.A,.int .i64 c.B] c:=
  ⟨_,_,rfl,rfl,⟨_,_,rfl,rfl,rfl⟩⟩
theorem zaX {w:World}{c:D.Pair}  {G:List Nat}(h:(All []).A w G):ty87.own w [.int .i64 c.A,.int .i64 c.B] c G:=by
  have hz:G=[]:=h
  subst hz
  exact cast (congrArg _ (by simp)) (show ty87.own w [.int .i64 c.A,.int .i64 c.B] c (_) from⟨_,_,_,_,rfl,rfl,⟨rfl,rfl⟩,⟨_,_,_,_,rfl,rfl,⟨rfl,rfl⟩,⟨rfl,rfl⟩⟩⟩)
theorem zd3 {W w:World}{B:List Res}{c:D.Pair}  (h:St W w ([]++B)):St W w (Own ty87 [.int .i64 c.A,.int .i64 c.B] c::B):=(St.fuseAll h).conv fun _ hG=>zaX hG

def ty31:Ty (List D.Pair):=tSl 87 ty87
instance {W:World}:Reads W ty31:=inferInstanceAs (Reads W (tSl 87 ty87))
theorem zdK {w:World}{cs:List Value}{xs:(List D.Pair)}(h:ty31.ro w cs xs):∃ A c,cs=[.slice A xs.length c]:=slForm h

def ty33:Ty D.Memory:=tMap (fun c=>(c.Cells,c.Free,c.Root,c.Redexes,())) (tPair ty29 (tPair tInt (tPair ty30 (tPair ty31 tUnit))))
instance {W:World}:Reads W ty33:=inferInstanceAs (Reads W (tMap (fun c:D.Memory=>(c.Cells,c.Free,c.Root,c.Redexes,())) (tPair ty29 (tPair tInt (tPair ty30 (tPair ty31 tUnit))))))
theorem zp {w:World}{cs:List Value}{c:D.Memory}(h:ty33.ro w cs c):∃ A0 k0 A1 k1,cs=[.slice A0 c.Cells.length k0,.int .i64 c.Free,.int .i64 c.Root.Tag,.int .i64 c.Root.At,.slice A1 c.Redexes.length k1]∧ty29.ro w [.slice A0 c.Cells.length k0] c.Cells∧ty31.ro w [.slice A1 c.Redexes.length k1] c.Redexes:=by
  obtain⟨c0,d0,rfl,h0,c1,d1,rfl,h1,c2,d2,rfl,h2,c3,d3,rfl,h3,hz⟩:=h
  subst hz
  obtain⟨d,u,e0⟩:=zdL h0
  subst e0
  subst h1
  have e2:=z21 h2
  subst e2
  obtain⟨o,y,e3⟩:=zdK h3
  subst e3
  exact⟨d,u,o,y,rfl,h0,h3⟩
theorem z6z {w:World}(c:D.Memory){A0:Option Addr}{k0:Nat}{A1:Option Addr}{k1:Nat}(h0:ty29.ro w [.slice A0 c.Cells.length k0] c.Cells) (h1:ty31.ro w [.slice A1 c.Redexes.length k1] c.Redexes):ty33.ro w [.slice A0 c.Cells.length k0,.int .i64 c.Free,.int .i64 c.Root.Tag,.int .i64 c.Root.At,.slice A1 c.Redexes.length k1] c:=
  ⟨_,_,rfl,h0,⟨_,_,rfl,rfl,⟨_,_,rfl,(z72 c.Root ),⟨_,_,rfl,h1,rfl⟩⟩⟩⟩
def z4s:Ty D.Port:=tMap (fun c=>(c.Agent,c.Slot,())) (tPair tInt (tPair tInt tUnit))
instance {W:World}:Reads W z4s:=inferInstanceAs (Reads W (tMap (fun c:D.Port=>(c.Agent,c.Slot,())) (tPair tInt (tPair tInt tUnit))))
theorem zY {w:World}{cs:List Value}{c:D.Port}(h:z4s.ro w cs c):cs=[.int .i64 c.Agent,.int .i64 c.Slot]:=by
  obtain⟨c0,d0,rfl,h0,c1,d1,rfl,h1,hz⟩:=h
  subst hz
  subst h0
  subst h1
  rfl
theorem z69 {w:World}(c:D.Port)  :z4s.ro w [.int .i64 c.Agent,.int .i64 c.Slot] c:=
  ⟨_,_,rfl,rfl,⟨_,_,rfl,rfl,rfl⟩⟩
theorem z4f {w:World}{c:D.Port}  {G:List Nat}(h:(All []).A w G):z4s.own w [.int .i64 c.Agent,.int .i64 c.Slot] c G:=by
  have hz:G=[]:=h
  subst hz
  exact cast (congrArg _ (by simp)) (show z4s.own w [.int .i64 c.Agent,.int .i64 c.Slot] c (_) from⟨_,_,_,_,rfl,rfl,⟨rfl,rfl⟩,⟨_,_,_,_,rfl,rfl,⟨rfl,rfl⟩,⟨rfl,rfl⟩⟩⟩)
theorem zcg {W w:World}{B:List Res}{c:D.Port}  (h:St W w ([]++B)):St W w (Own z4s [.int .i64 c.Agent,.int .i64 c.Slot] c::B):=(St.fuseAll h).conv fun _ hG=>z4f hG

def z2R:Ty (List D.Port):=tSl 141 z4s
instance {W:World}:Reads W z2R:=inferInstanceAs (Reads W (tSl 141 z4s))
theorem zdd {w:World}{cs:List Value}{xs:(List D.Port)}(h:z2R.ro w cs xs):∃ A c,cs=[.slice A xs.length c]:=slForm h

def z6i:Ty D.Agent:=tMap (fun c=>(c.Kind,c.Level,c.Value,c.Data,c.Ports,())) (tPair tInt (tPair tInt (tPair tInt (tPair ty80 (tPair z2R tUnit)))))
instance {W:World}:Reads W z6i:=inferInstanceAs (Reads W (tMap (fun c:D.Agent=>(c.Kind,c.Level,c.Value,c.Data,c.Ports,())) (tPair tInt (tPair tInt (tPair tInt (tPair ty80 (tPair z2R tUnit)))))))
theorem z6 {w:World}{cs:List Value}{c:D.Agent}(h:z6i.ro w cs c):∃ A0 k0 A1 k1,cs=[.int .i64 c.Kind,.int .i64 c.Level,.int .i64 c.Value,.slice A0 c.Data.length k0,.slice A1 c.Ports.length k1]∧ty80.ro w [.slice A0 c.Data.length k0] c.Data∧z2R.ro w [.slice A1 c.Ports.length k1] c.Ports:=by
  obtain⟨c0,d0,rfl,h0,c1,d1,rfl,h1,c2,d2,rfl,h2,c3,d3,rfl,h3,c4,d4,rfl,h4,hz⟩:=h
  subst hz
  subst h0
  subst h1
  subst h2
  obtain⟨d,u,e3⟩:=z89 h3
  subst e3
  obtain⟨o,y,e4⟩:=zdd h4
  subst e4
  exact⟨d,u,o,y,rfl,h3,h4⟩
theorem z6x {w:World}(c:D.Agent){A0:Option Addr}{k0:Nat}{A1:Option Addr}{k1:Nat}(h0:ty80.ro w [.slice A0 c.Data.length k0] c.Data) (h1:z2R.ro w [.slice A1 c.Ports.length k1] c.Ports):z6i.ro w [.int .i64 c.Kind,.int .i64 c.Level,.int .i64 c.Value,.slice A0 c.Data.length k0,.slice A1 c.Ports.length k1] c:=
  ⟨_,_,rfl,rfl,⟨_,_,rfl,rfl,⟨_,_,rfl,rfl,⟨_,_,rfl,h0,⟨_,_,rfl,h1,rfl⟩⟩⟩⟩⟩
theorem zb4 {w:World}{cs:List Value}{c:D.Agent}{G:List Nat}(h:z6i.own w cs c G):∃ A0 k0 A1 k1,cs=[.int .i64 c.Kind,.int .i64 c.Level,.int .i64 c.Value,.slice A0 c.Data.length k0,.slice A1 c.Ports.length k1]∧(All [Own ty80 [.slice A0 c.Data.length k0] c.Data,Own z2R [.slice A1 c.Ports.length k1] c.Ports]).A w G:=by
  obtain⟨c0,d0,H0,K0,rfl,rfl,h0,c1,d1,H1,K1,rfl,rfl,h1,c2,d2,H2,K2,rfl,rfl,h2,c3,d3,H3,K3,rfl,rfl,h3,c4,d4,H4,K4,rfl,rfl,h4,hz,hk⟩:=h
  subst hz;subst hk
  obtain⟨e0,k0⟩:=h0;subst e0;subst k0
  obtain⟨e1,k1⟩:=h1;subst e1;subst k1
  obtain⟨e2,k2⟩:=h2;subst e2;subst k2
  obtain⟨d,u,e3⟩:=slFormO h3
  subst e3
  obtain⟨o,y,e4⟩:=slFormO h4
  subst e4
  refine⟨d,u,o,y,rfl,?_⟩
  show(All _).A w _
  exact cast (congrArg _ (by simp)) (show(All _).A w (H3++(H4++([]))) from⟨_,_,rfl,h3,⟨_,_,rfl,h4,rfl⟩⟩)
theorem za9 {w:World}{c:D.Agent}{A0:Option Addr}{k0:Nat}{A1:Option Addr}{k1:Nat}{G:List Nat}(h:(All [Own ty80 [.slice A0 c.Data.length k0] c.Data,Own z2R [.slice A1 c.Ports.length k1] c.Ports]).A w G):z6i.own w [.int .i64 c.Kind,.int .i64 c.Level,.int .i64 c.Value,.slice A0 c.Data.length k0,.slice A1 c.Ports.length k1] c G:=by
  obtain⟨G0,R0,rfl,h0,G1,R1,rfl,h1,hz⟩:=h
  have hz':R1=[]:=hz
  subst hz'
  exact cast (congrArg _ (by simp)) (show z6i.own w [.int .i64 c.Kind,.int .i64 c.Level,.int .i64 c.Value,.slice A0 c.Data.length k0,.slice A1 c.Ports.length k1] c (_) from⟨_,_,_,_,rfl,rfl,⟨rfl,rfl⟩,⟨_,_,_,_,rfl,rfl,⟨rfl,rfl⟩,⟨_,_,_,_,rfl,rfl,⟨rfl,rfl⟩,⟨_,_,_,_,rfl,rfl,h0,⟨_,_,_,_,rfl,rfl,h1,⟨rfl,rfl⟩⟩⟩⟩⟩⟩)
theorem zcf {W w:World}{B:List Res}{cs:List Value}{c:D.Agent}(h:St W w (Own z6i cs c::B)):∃ A0 k0 A1 k1,cs=[.int .i64 c.Kind,.int .i64 c.Level,.int .i64 c.Value,.slice A0 c.Data.length k0,.slice A1 c.Ports.length k1]∧St W w ([Own ty80 [.slice A0 c.Data.length k0] c.Data,Own z2R [.slice A1 c.Ports.length k1] c.Ports]++B):=by
  obtain⟨G,hA,_⟩:=h.sep.head
  obtain⟨A0,k0,A1,k1,rfl,_⟩:=zb4 hA
  refine⟨A0,k0,A1,k1,rfl,St.splitAll (h.conv fun G hG=>?_)⟩
  obtain⟨X0,Y0,X1,Y1,he,hh⟩:=zb4 hG
  simp only [List.cons.injEq,Value.slice.injEq,and_true,true_and] at he
  obtain⟨⟨rfl,rfl⟩,⟨rfl,rfl⟩⟩:=he
  exact hh
theorem z6A {W w:World}{B:List Res}{c:D.Agent}{A0:Option Addr}{k0:Nat}{A1:Option Addr}{k1:Nat}(h:St W w ([Own ty80 [.slice A0 c.Data.length k0] c.Data,Own z2R [.slice A1 c.Ports.length k1] c.Ports]++B)):St W w (Own z6i [.int .i64 c.Kind,.int .i64 c.Level,.int .i64 c.Value,.slice A0 c.Data.length k0,.slice A1 c.Ports.length k1] c::B):=(St.fuseAll h).conv fun _ hG=>za9 hG

def ty40:Ty (List D.Agent):=tSl 148 z6i
instance {W:World}:Reads W ty40:=inferInstanceAs (Reads W (tSl 148 z6i))
theorem zdJ {w:World}{cs:List Value}{xs:(List D.Agent)}(h:ty40.ro w cs xs):∃ A c,cs=[.slice A xs.length c]:=slForm h

def ty42:Ty D.Net:=tMap (fun c=>(c.Agents,())) (tPair ty40 tUnit)
instance {W:World}:Reads W ty42:=inferInstanceAs (Reads W (tMap (fun c:D.Net=>(c.Agents,())) (tPair ty40 tUnit)))
theorem z15 {w:World}{cs:List Value}{c:D.Net}(h:ty42.ro w cs c):∃ A0 k0,cs=[.slice A0 c.Agents.length k0]∧ty40.ro w [.slice A0 c.Agents.length k0] c.Agents:=by
  obtain⟨c0,d0,rfl,h0,hz⟩:=h
  subst hz
  obtain⟨d,o,e0⟩:=zdJ h0
  subst e0
  exact⟨d,o,rfl,h0⟩
theorem z8b {w:World}(c:D.Net){A0:Option Addr}{k0:Nat}(h0:ty40.ro w [.slice A0 c.Agents.length k0] c.Agents):ty42.ro w [.slice A0 c.Agents.length k0] c:=
  ⟨_,_,rfl,h0,rfl⟩
theorem zb0 {w:World}{c:D.Net}{A0:Option Addr}{k0:Nat}{G:List Nat}(h:(All [Own ty40 [.slice A0 c.Agents.length k0] c.Agents]).A w G):ty42.own w [.slice A0 c.Agents.length k0] c G:=by
  obtain⟨G0,R0,rfl,h0,hz⟩:=h
  have hz':R0=[]:=hz
  subst hz'
  exact cast (congrArg _ (by simp)) (show ty42.own w [.slice A0 c.Agents.length k0] c (_) from⟨_,_,_,_,rfl,rfl,h0,⟨rfl,rfl⟩⟩)
theorem zd4 {W w:World}{B:List Res}{c:D.Net}{A0:Option Addr}{k0:Nat}(h:St W w ([Own ty40 [.slice A0 c.Agents.length k0] c.Agents]++B)):St W w (Own ty42 [.slice A0 c.Agents.length k0] c::B):=(St.fuseAll h).conv fun _ hG=>zb0 hG

def zd6:Ty D.Port:=tMap (fun c=>(c.Agent,c.Slot,())) (tPair tInt (tPair tInt tUnit))
instance {W:World}:Reads W zd6:=inferInstanceAs (Reads W (tMap (fun c:D.Port=>(c.Agent,c.Slot,())) (tPair tInt (tPair tInt tUnit))))
theorem za6 {w:World}{cs:List Value}{c:D.Port}(h:zd6.ro w cs c):cs=[.int .i64 c.Agent,.int .i64 c.Slot]:=by
  obtain⟨c0,d0,rfl,h0,c1,d1,rfl,h1,hz⟩:=h
  subst hz
  subst h0
  subst h1
  rfl
def zb2:Ty (List D.Port):=tSl 240 zd6
instance {W:World}:Reads W zb2:=inferInstanceAs (Reads W (tSl 240 zd6))
theorem zdb {w:World}{cs:List Value}{xs:(List D.Port)}(h:zb2.ro w cs xs):∃ A c,cs=[.slice A xs.length c]:=slForm h

def zce:Ty D.Agent:=tMap (fun c=>(c.Kind,c.Level,c.Value,c.Data,c.Ports,())) (tPair tInt (tPair tInt (tPair tInt (tPair ty80 (tPair zb2 tUnit)))))
instance {W:World}:Reads W zce:=inferInstanceAs (Reads W (tMap (fun c:D.Agent=>(c.Kind,c.Level,c.Value,c.Data,c.Ports,())) (tPair tInt (tPair tInt (tPair tInt (tPair ty80 (tPair zb2 tUnit)))))))
theorem z7S {w:World}{cs:List Value}{c:D.Agent}(h:zce.ro w cs c):∃ A0 k0 A1 k1,cs=[.int .i64 c.Kind,.int .i64 c.Level,.int .i64 c.Value,.slice A0 c.Data.length k0,.slice A1 c.Ports.length k1]∧ty80.ro w [.slice A0 c.Data.length k0] c.Data∧zb2.ro w [.slice A1 c.Ports.length k1] c.Ports:=by
  obtain⟨c0,d0,rfl,h0,c1,d1,rfl,h1,c2,d2,rfl,h2,c3,d3,rfl,h3,c4,d4,rfl,h4,hz⟩:=h
  subst hz
  subst h0
  subst h1
  subst h2
  obtain⟨d,u,e3⟩:=z89 h3
  subst e3
  obtain⟨o,y,e4⟩:=zdb h4
  subst e4
  exact⟨d,u,o,y,rfl,h3,h4⟩
def ty47:Ty (List D.Agent):=tSl 160 zce
instance {W:World}:Reads W ty47:=inferInstanceAs (Reads W (tSl 160 zce))
theorem zdG {w:World}{cs:List Value}{xs:(List D.Agent)}(h:ty47.ro w cs xs):∃ A c,cs=[.slice A xs.length c]:=slForm h

def ty49:Ty D.Net:=tMap (fun c=>(c.Agents,())) (tPair ty47 tUnit)
instance {W:World}:Reads W ty49:=inferInstanceAs (Reads W (tMap (fun c:D.Net=>(c.Agents,())) (tPair ty47 tUnit)))
theorem z8a {w:World}{cs:List Value}{c:D.Net}(h:ty49.ro w cs c):∃ A0 k0,cs=[.slice A0 c.Agents.length k0]∧ty47.ro w [.slice A0 c.Agents.length k0] c.Agents:=by
  obtain⟨c0,d0,rfl,h0,hz⟩:=h
  subst hz
  obtain⟨d,o,e0⟩:=zdG h0
  subst e0
  exact⟨d,o,rfl,h0⟩
def ty60:Ty (List D.Net):=tSl 49 ty49
instance {W:World}:Reads W ty60:=inferInstanceAs (Reads W (tSl 49 ty49))
def ty64:Ty (List D.Net):=tSl 42 ty42
instance {W:World}:Reads W ty64:=inferInstanceAs (Reads W (tSl 42 ty42))
theorem zaZ {w:World}{cs:List Value}{xs:(List D.Net)}(h:ty64.ro w cs xs):∃ A c,cs=[.slice A xs.length c]:=slForm h

def zfr:Ty D.machine:=tMap (fun c=>(c.Memory,c.book,())) (tPair ty33 (tPair ty64 tUnit))
instance {W:World}:Reads W zfr:=inferInstanceAs (Reads W (tMap (fun c:D.machine=>(c.Memory,c.book,())) (tPair ty33 (tPair ty64 tUnit))))
theorem zda {w:World}{cs:List Value}{c:D.machine}(h:zfr.ro w cs c):∃ A0 k0 A1 k1 A2 k2,cs=[.slice A0 c.Memory.Cells.length k0,.int .i64 c.Memory.Free,.int .i64 c.Memory.Root.Tag,.int .i64 c.Memory.Root.At,.slice A1 c.Memory.Redexes.length k1,.slice A2 c.book.length k2]∧ty29.ro w [.slice A0 c.Memory.Cells.length k0] c.Memory.Cells∧ty31.ro w [.slice A1 c.Memory.Redexes.length k1] c.Memory.Redexes∧ty64.ro w [.slice A2 c.book.length k2] c.book:=by
  obtain⟨c0,d0,rfl,h0,c1,d1,rfl,h1,hz⟩:=h
  subst hz
  obtain⟨d,z,o,G,e0,u,y⟩:=zp h0
  subst e0
  obtain⟨H,L,e1⟩:=zaZ h1
  subst e1
  exact⟨d,z,o,G,H,L,rfl,u,y,h1⟩
theorem zd9 {w:World}(c:D.machine){A0:Option Addr}{k0:Nat}{A1:Option Addr}{k1:Nat}{A2:Option Addr}{k2:Nat}(h0:ty29.ro w [.slice A0 c.Memory.Cells.length k0] c.Memory.Cells) (h1:ty31.ro w [.slice A1 c.Memory.Redexes.length k1] c.Memory.Redexes) (h2:ty64.ro w [.slice A2 c.book.length k2] c.book):zfr.ro w [.slice A0 c.Memory.Cells.length k0,.int .i64 c.Memory.Free,.int .i64 c.Memory.Root.Tag,.int .i64 c.Memory.Root.At,.slice A1 c.Memory.Redexes.length k1,.slice A2 c.book.length k2] c:=
  ⟨_,_,rfl,(z6z c.Memory h0 h1),⟨_,_,rfl,h2,rfl⟩⟩
def zfq:Ty D.rewriter:=tMap (fun c=>(c.Net,c.book,c.removed,())) (tPair ty42 (tPair ty64 (tPair tNilM tUnit)))
instance {W:World}:Reads W zfq:=inferInstanceAs (Reads W (tMap (fun c:D.rewriter=>(c.Net,c.book,c.removed,())) (tPair ty42 (tPair ty64 (tPair tNilM tUnit)))))
theorem zd8 {w:World}{cs:List Value}{c:D.rewriter}(h:zfq.ro w cs c):∃ A0 k0 A1 k1,cs=[.slice A0 c.Net.Agents.length k0,.slice A1 c.book.length k1,.map none]∧ty40.ro w [.slice A0 c.Net.Agents.length k0] c.Net.Agents∧ty64.ro w [.slice A1 c.book.length k1] c.book:=by
  obtain⟨c0,d0,rfl,h0,c1,d1,rfl,h1,c2,d2,rfl,h2,hz⟩:=h
  subst hz
  obtain⟨d,u,e0,o⟩:=z15 h0
  subst e0
  obtain⟨y,z,e1⟩:=zaZ h1
  subst e1
  subst h2
  exact⟨d,u,y,z,rfl,o,h1⟩
theorem zd7 {w:World}(c:D.rewriter){A0:Option Addr}{k0:Nat}{A1:Option Addr}{k1:Nat}(h0:ty40.ro w [.slice A0 c.Net.Agents.length k0] c.Net.Agents) (h1:ty64.ro w [.slice A1 c.book.length k1] c.book):zfq.ro w [.slice A0 c.Net.Agents.length k0,.slice A1 c.book.length k1,.map none] c:=
  ⟨_,_,rfl,(z8b c.Net h0),⟨_,_,rfl,h1,⟨_,_,rfl,rfl,rfl⟩⟩⟩
def z9Z:Ty D.Wire:=tMap (fun c=>(c.A,c.B,())) (tPair z4s (tPair z4s tUnit))
instance {W:World}:Reads W z9Z:=inferInstanceAs (Reads W (tMap (fun c:D.Wire=>(c.A,c.B,())) (tPair z4s (tPair z4s tUnit))))
theorem za8 {w:World}{cs:List Value}{c:D.Wire}(h:z9Z.ro w cs c):cs=[.int .i64 c.A.Agent,.int .i64 c.A.Slot,.int .i64 c.B.Agent,.int .i64 c.B.Slot]:=by
  obtain⟨c0,d0,rfl,h0,c1,d1,rfl,h1,hz⟩:=h
  subst hz
  have e0:=zY h0
  subst e0
  have e1:=zY h1
  subst e1
  rfl
theorem za7 {w:World}{c:D.Wire}  {G:List Nat}(h:(All []).A w G):z9Z.own w [.int .i64 c.A.Agent,.int .i64 c.A.Slot,.int .i64 c.B.Agent,.int .i64 c.B.Slot] c G:=by
  have hz:G=[]:=h
  subst hz
  exact cast (congrArg _ (by simp)) (show z9Z.own w [.int .i64 c.A.Agent,.int .i64 c.A.Slot,.int .i64 c.B.Agent,.int .i64 c.B.Slot] c (_) from⟨_,_,_,_,rfl,rfl,(z4f (c:=c.A) rfl),⟨_,_,_,_,rfl,rfl,(z4f (c:=c.B) rfl),⟨rfl,rfl⟩⟩⟩)
def z80:Ty (List D.Wire):=tSl 213 z9Z
instance {W:World}:Reads W z80:=inferInstanceAs (Reads W (tSl 213 z9Z))
def zas:Ty (List Int):=tSl 3 tInt
instance {W:World}:Reads W zas:=inferInstanceAs (Reads W (tSl 3 tInt))
end Go.E


namespace Go.E
open Go.RowKit
set_option linter.unusedVariables false
set_option linter.unusedSimpArgs false

theorem Quiet.idxAddr {P:Program}{T:TT}(ht:TTok P T){n:Nat}{F:Fr}{α:Type}{U:Ty α}{g k ln:Nat}{o:Oper}{t e':Nat}{x ix:Operand}{i j:TI}
    {kd:IntKind}{m:Int}(ho:o.op=.indexAddr t x ix) (hi:T.get t=some i) (hd:i.d=.slice e') (hj:T.get e'=some j) (hs:U.size=j.size) (hx:F.ev x=some (.slice (some ⟨g,0,none⟩) ln k)) (hm:F.ev ix=some (.int kd m))
    (h0:0≤m) (hlt:m.toNat<ln) (w:World):Quiet P n F w o (.pointer (some ⟨g,m.toNat*U.size,none⟩)):=fun a w' ha _=>by
  unfold execOp
  rw [ho]
  have hmm:m<ln:=by omega
  simp [ha.ev hx,ha.ev hm,Instr.indexAt,asIntOf,Go.underlying,ht.slice hi hd,h0,hmm,ht.sizeOf hj,zcC,hs]

section
variable {P:Program}{n:Nat}{Q:Post}{F:Fr}{W w w0 w1 W9:World}{ops:List Oper}{wm fuel kk mm:Nat}{sk:List (List Nat × Nat)}{o:Oper}{T:TT}

theorem DM.idxHole (ht:TTok P T){α:Type}{U:Ty α}{A:Option Addr}{k ln:Nat}(hA:∃ g,A=some ⟨g,0,none⟩) (hsk:skOf ops=sk∧ops.length=kk) (ii m':Nat) (hmm:mm ||| 2 ^ ii=m') (hwi:wm.testBit ii=false) (hni:nthv ops ii=some o) (hf:freeM sk (2 ^ kk - 1) mm ii=true) (hg:guardOf ops F o=some true){t e':Nat}{x ix:Operand}{i j:TI}
    {kd:IntKind}{m:Int}(ho:o.op=.indexAddr t x ix) (hi:T.get t=some i) (hd:i.d=.slice e') (hj:T.get e'=some j) (hs:U.size=j.size) (hx:F.ev x=some (.slice A ln k)) (hm:F.ev ix=some (.int kd m))
    (h0:0≤m) (hlt:m.toNat<ln){d:Nat}(hd':o.dst=some d) (hn:Nat.blt d n=true)
    (h:∀ q,ElAt U A m.toNat q→DM P n ops Q W9 w0 wm fuel kk m' ((d,.pointer (some q))::F) w):DM P n ops Q W9 w0 wm (fuel+1) kk mm F w:=by
  obtain⟨g,rfl⟩:=hA
  exact DM.quietP hsk ii m' hmm hwi hni hf hg (Quiet.idxAddr ht ho hi hd hj hs hx hm h0 hlt) hd' hn (h _ ⟨g,rfl,rfl⟩)

theorem DM.focus (ht:TTok P T){α:Type}{U:Ty α}{B:List Res}{e:Nat}{A:Option Addr}{k ln:Nat}{xs:List α}{a:α}(hS:St W w1 (Own (tSl e U) [.slice A ln k] xs::B)) (hsk:skOf ops=sk∧ops.length=kk) (ii m':Nat) (hmm:mm ||| 2 ^ ii=m') (hwi:wm.testBit ii=false) (hni:nthv ops ii=some o) (hf:freeM sk (2 ^ kk - 1) mm ii=true) (hg:guardOf ops F o=some true){t e':Nat}{x ix:Operand}{i j:TI}
    {kd:IntKind}{m:Int}(ho:o.op=.indexAddr t x ix) (hi:T.get t=some i) (hd:i.d=.slice e') (hj:T.get e'=some j) (hs:U.size=j.size) (hx:F.ev x=some (.slice A ln k)) (hm:F.ev ix=some (.int kd m))
    (h0:0≤m) (ha:xs[m.toNat]? = some a){d:Nat}(hd':o.dst=some d) (hn:Nat.blt d n=true)
    (h:∀ q es,ElAt U A m.toNat q→St W w1 (Hole U e (.slice A ln k) xs m.toNat es::Own U es a::B)→DM P n ops Q W w0 wm fuel kk m' ((d,.pointer (some q))::F) w):DM P n ops Q W w0 wm (fuel+1) kk mm F w:=by
  have hlt:=(List.getElem?_eq_some_iff.1 ha).1
  obtain⟨es,h1⟩:=hS.focusN ha
  have hl:=hS.lenEq
  exact DM.idxHole ht (U:=U) (hS.ownAddr hlt) hsk ii m' hmm hwi hni hf hg ho hi hd hj hs hx hm h0 (by omega) hd' hn fun q hq=>h q es hq h1

theorem DM.idxOwnN (ht:TTok P T){α:Type}{U:Ty α}{B:List Res}{e:Nat}{A:Option Addr}{k ln:Nat}{xs:List α}(hS:St W w1 (Own (tSl e U) [.slice A ln k] xs::B)) (hsk:skOf ops=sk∧ops.length=kk) (ii m':Nat) (hmm:mm ||| 2 ^ ii=m') (hwi:wm.testBit ii=false) (hni:nthv ops ii=some o) (hf:freeM sk (2 ^ kk - 1) mm ii=true) (hg:guardOf ops F o=some true){t e':Nat}{x ix:Operand}{i j:TI}
    {kd:IntKind}{m:Int}(ho:o.op=.indexAddr t x ix) (hi:T.get t=some i) (hd:i.d=.slice e') (hj:T.get e'=some j) (hs:U.size=j.size) (hx:F.ev x=some (.slice A ln k)) (hm:F.ev ix=some (.int kd m))
    (h0:0≤m) (hlt:m.toNat<xs.length){d:Nat}(hd':o.dst=some d) (hn:Nat.blt d n=true)
    (h:∀ q,(∃ g,A=some ⟨g,0,none⟩∧q=⟨g,m.toNat*U.size,none⟩)→DM P n ops Q W w0 wm fuel kk m' ((d,.pointer (some q))::F) w):DM P n ops Q W w0 wm (fuel+1) kk mm F w:=by
  have hl:=hS.lenEq
  exact DM.idxHole ht (U:=U) (hS.ownAddr hlt) hsk ii m' hmm hwi hni hf hg ho hi hd hj hs hx hm h0 (by omega) hd' hn h


theorem LM.idxHole (ht:TTok P T){α:Type}{U:Ty α}{A:Option Addr}{k ln:Nat}(hA:∃ g,A=some ⟨g,0,none⟩) (hsk:skOf ops=sk∧ops.length=kk){ii:Nat}(m':Nat) (hm':mm ||| 2 ^ ii=m') (hwi:wm.testBit ii=false) (hni:nthv ops ii=some o) (hg:guardOf ops F o=some true){t e':Nat}{x ix:Operand}{i j:TI}
    {kd:IntKind}{m:Int}(ho:o.op=.indexAddr t x ix) (hi:T.get t=some i) (hd:i.d=.slice e') (hj:T.get e'=some j) (hs:U.size=j.size) (hx:F.ev x=some (.slice A ln k)) (hm:F.ev ix=some (.int kd m))
    (h0:0≤m) (hlt:m.toNat<ln){d:Nat}(hd':o.dst=some d) (hn:Nat.blt d n=true)
    (h:∀ q,ElAt U A m.toNat q→DM P n ops Q W9 w0 wm fuel kk m' ((d,.pointer (some q))::F) w):LM P n ops Q W9 w0 wm fuel kk mm ii F w:=by
  obtain⟨g,rfl⟩:=hA
  exact LM.quietL hsk m' hm' hwi hni hg (Quiet.idxAddr ht ho hi hd hj hs hx hm h0 hlt w) hd' hn (h _ ⟨g,rfl,rfl⟩)

theorem LM.focus (ht:TTok P T){α:Type}{U:Ty α}{B:List Res}{e:Nat}{A:Option Addr}{k ln:Nat}{xs:List α}{a:α}(hS:St W w1 (Own (tSl e U) [.slice A ln k] xs::B)) (hsk:skOf ops=sk∧ops.length=kk){ii:Nat}(m':Nat) (hm':mm ||| 2 ^ ii=m') (hwi:wm.testBit ii=false) (hni:nthv ops ii=some o) (hg:guardOf ops F o=some true){t e':Nat}{x ix:Operand}{i j:TI}
    {kd:IntKind}{m:Int}(ho:o.op=.indexAddr t x ix) (hi:T.get t=some i) (hd:i.d=.slice e') (hj:T.get e'=some j) (hs:U.size=j.size) (hx:F.ev x=some (.slice A ln k)) (hm:F.ev ix=some (.int kd m))
    (h0:0≤m) (ha:xs[m.toNat]? = some a){d:Nat}(hd':o.dst=some d) (hn:Nat.blt d n=true)
    (h:∀ q es,ElAt U A m.toNat q→St W w1 (Hole U e (.slice A ln k) xs m.toNat es::Own U es a::B)→DM P n ops Q W w0 wm fuel kk m' ((d,.pointer (some q))::F) w):LM P n ops Q W w0 wm fuel kk mm ii F w:=by
  have hlt:=(List.getElem?_eq_some_iff.1 ha).1
  obtain⟨es,h1⟩:=hS.focusN ha
  have hl:=hS.lenEq
  exact LM.idxHole ht (U:=U) (hS.ownAddr hlt) hsk m' hm' hwi hni hg ho hi hd hj hs hx hm h0 (by omega) hd' hn fun q hq=>h q es hq h1

theorem LM.idxOwnN (ht:TTok P T){α:Type}{U:Ty α}{B:List Res}{e:Nat}{A:Option Addr}{k ln:Nat}{xs:List α}(hS:St W w1 (Own (tSl e U) [.slice A ln k] xs::B)) (hsk:skOf ops=sk∧ops.length=kk){ii:Nat}(m':Nat) (hm':mm ||| 2 ^ ii=m') (hwi:wm.testBit ii=false) (hni:nthv ops ii=some o) (hg:guardOf ops F o=some true){t e':Nat}{x ix:Operand}{i j:TI}
    {kd:IntKind}{m:Int}(ho:o.op=.indexAddr t x ix) (hi:T.get t=some i) (hd:i.d=.slice e') (hj:T.get e'=some j) (hs:U.size=j.size) (hx:F.ev x=some (.slice A ln k)) (hm:F.ev ix=some (.int kd m))
    (h0:0≤m) (hlt:m.toNat<xs.length){d:Nat}(hd':o.dst=some d) (hn:Nat.blt d n=true)
    (h:∀ q,(∃ g,A=some ⟨g,0,none⟩∧q=⟨g,m.toNat*U.size,none⟩)→DM P n ops Q W w0 wm fuel kk m' ((d,.pointer (some q))::F) w):LM P n ops Q W w0 wm fuel kk mm ii F w:=by
  have hl:=hS.lenEq
  exact LM.idxHole ht (U:=U) (hS.ownAddr hlt) hsk m' hm' hwi hni hg ho hi hd hj hs hx hm h0 (by omega) hd' hn h

theorem LM.storeElN (ht:TTok P T){α:Type}{U:Ty α}{B:List Res}{e:Nat}{A:Option Addr}{k ln:Nat}{xs:List α}{y:α}{es':List Value}(hS:St W w (Own (tSl e U) [.slice A ln k] xs::Own U es' y::B)) (hsk:skOf ops=sk∧ops.length=kk){ii:Nat}(m':Nat) (hm':mm ||| 2 ^ ii=m') (hwi:wm.testBit ii=true) (hni:nthv ops ii=some o) (hg:guardOf ops F o=some true)
    {t:Nat}{x yv:Operand}(ho:o.op=.store t x yv) (hd:o.dst=none){j:TI}(hj:T.get t=some j) (hs:U.size=j.size){q:Addr}(hx:F.ev x=some (.pointer (some q))){m:Nat}(hlt:m<xs.length)
    (hq:∃ g,A=some ⟨g,0,none⟩∧q=⟨g,m*U.size,none⟩){v:Value}(hy:F.ev yv=some v) (hc:cellsV v=es')
    (h:∀ w',St W w' (Own (tSl e U) [.slice A ln k] (xs.set m y)::B)→DM P n ops Q W w0 wm fuel kk m' F w'):LM P n ops Q W w0 wm fuel kk mm ii F w:=by
  have hl:=hS.lenEq
  subst hl
  obtain⟨w',h1,h2⟩:=z9B (P:=P) ht hS hlt hq hj hs
  have h3:St W w' (Own (tSl e U) [.slice A xs.length k] (xs.set m y)::B):=by simpa using h2
  refine LM.unitW hsk m' hm' hwi hni hg (w':=w') (fun a ha=>?_) hd h3.ext (h w' h3)
  unfold execOp
  rw [ho]
  simp [ha.ev hx,ha.ev hy,Instr.storeAt,Instr.sureAddr,h1 v hc]

theorem zaA (ht:TTok P T){α:Type}{U:Ty α}{e:Nat}{A:Option Addr}{k m:Nat}{xs:List α}{es es':List Value}{B:List Res}(hS:St W w (Hole U e (.slice A xs.length k) xs m es::B)){q:Addr}(hq:ElAt U A m q)
    {t:Nat}{i:TI}(hi:T.get t=some i){q':Addr}(off:Nat) (hq':q'=q.add off){v:Value}(hl:Nat.beq (cellsV v).length i.size=true)
    (h1:oneCells (cellsV v)=true) (hs:setAt es off (cellsV v)=some es'):∃ w',(storeVar t q' v).run P w=.ok () w'∧St W w' (Hole U e (.slice A xs.length k) xs m es'::B):=by
  obtain⟨G,⟨g,cap,c1,c2,rst,G1,G2,hv,hh,a1,a2,a3,a4,a5,a6,k1,k2,hG⟩,_,hlo⟩:=hS.sep.head
  obtain⟨g',rfl,rfl⟩:=hq
  simp only [Value.slice.injEq,Option.some.injEq,Addr.mk.injEq,and_true,true_and] at hv
  obtain⟨rfl,rfl⟩:=hv
  have hset:=z7k (c1:=c1) (c2:=c2) (rest:=rst) hs
  rw [a4] at hset
  obtain⟨w',r1,r2,r3,r4,r5,r6,r7⟩:=z1S (P:=P) g' (m*U.size+off) e (cellsV v) 0 w _ ((c1++(es'++c2))++rst) h1 hh (by rw [Nat.add_zero];exact hset)
  have hge:W.heap.size≤g':=hlo g' (by rw [hG];simp)
  refine⟨w',?_,⟨r5.trans hS.ext.os,r6.trans hS.ext.tape,r7.trans hS.ext.output,by rw [r4];exact hS.le,fun b hb=>?_⟩,?_⟩
  · have hsz:v.cells.size=i.size:=by
      rw [← Array.length_toList,z4e];exact Nat.eq_of_beq_eq_true hl
    simp [storeVar,ht.sizeOf hi,hsz,z4e,hq',z9i,r1]
  · rw [r3 b (by omega)];exact hS.ext.block b hb
  · refine hS.sep.upd hS.le fun G' hG' hnd' _=>?_
    obtain⟨g1,cap1,d1,d2,rst1,H1,H2,hv1,hh1,b1,b2,b3,b4,b5,b6,l1,l2,rfl⟩:=hG'
    simp only [Value.slice.injEq,Option.some.injEq,Addr.mk.injEq,and_true,true_and] at hv1
    obtain⟨rfl,rfl⟩:=hv1
    rw [hh1] at hh
    simp only [Option.some.injEq,Obj.cells.injEq,Array.mk.injEq,and_true] at hh
    have hset1:=z7k (c1:=d1) (c2:=d2) (rest:=rst1) hs
    have e1:d1.length=c1.length:=by rw [b4,a4]
    rw [hh,e1] at hset1
    rw [← a4] at hset
    have e2:(c1++(es'++c2))++rst=(d1++(es'++d2))++rst1:=Option.some.inj (hset.symm.trans hset1)
    have hle:=z7D _ _ _ _ hs
    simp only [List.nodup_cons,List.mem_append,not_or] at hnd'
    refine⟨g'::(H1++H2),⟨g',k,d1,d2,rst1,H1,H2,rfl,by rw [r2,e2],b1,b2,?_,b4,by rw [hle];exact b5,b6,l1.loc fun b hb=>r3 b (by rintro rfl;exact hnd'.1.1 hb),l2.loc fun b hb=>r3 b (by rintro rfl;exact hnd'.1.2 hb),rfl⟩,by simpa using hnd',fun b hb=>.inl hb,fun b hb hn=>r3 b (by rintro rfl;exact hn (by simp))⟩
    rw [← b3]
    simp only [List.length_append,hle]

theorem LM.storeHoleN (ht:TTok P T){α:Type}{U:Ty α}{e:Nat}{A:Option Addr}{k m ln:Nat}{xs:List α}{es es':List Value}{B:List Res}(hS:St W w (Hole U e (.slice A ln k) xs m es::B)){q:Addr}(hq:ElAt U A m q)
    (hsk:skOf ops=sk∧ops.length=kk){ii:Nat}(m':Nat) (hm':mm ||| 2 ^ ii=m') (hwi:wm.testBit ii=true) (hni:nthv ops ii=some o) (hg:guardOf ops F o=some true){t:Nat}{x y:Operand}(ho:o.op=.store t x y) (hd:o.dst=none)
    {i:TI}(hi:T.get t=some i){q':Addr}(hx:F.ev x=some (.pointer (some q'))) (off:Nat) (hq':q'=q.add off){v:Value}(hy:F.ev y=some v) (hl:Nat.beq (cellsV v).length i.size=true)
    (h1:oneCells (cellsV v)=true) (hs:setAt es off (cellsV v)=some es') (h:∀ w',St W w' (Hole U e (.slice A ln k) xs m es'::B)→DM P n ops Q W w0 wm fuel kk m' F w'):LM P n ops Q W w0 wm fuel kk mm ii F w:=by
  obtain⟨hn,_,_⟩:=hS.hole_len
  subst hn
  obtain⟨w',r1,r2⟩:=zaA (P:=P) ht hS hq hi off hq' hl h1 hs
  refine LM.unitW hsk m' hm' hwi hni hg (w':=w') (fun a ha=>?_) hd r2.ext (h w' r2)
  unfold execOp
  rw [ho]
  simp [ha.ev hx,ha.ev hy,Instr.storeAt,Instr.sureAddr,r1]


theorem makeCap (ht:TTok P T){α:Type}{U:Ty α}{Rs:List Res}(hS:St W w Rs){t e:Nat}{i j:TI}{k1 k2:IntKind}{m:Int}(hi:T.get t=some i) (hd:i.d=.slice e)
    (hj:T.get e=some j) (hs:U.size=j.size) (h0:0≤m) (hb:m*(j.bytes:Int)≤281474976710656) (h:m≤maxLen):
    ∃ A k w',(Instr.makeSlice t (.int k1 0) (.int k2 m)).run P w=.ok (.slice A ([]:List α).length k) w'∧Ext w w'∧St W w' (Own (tSl e U) [.slice A ([]:List α).length k] []::Rs):=by
  obtain⟨jj,hjj,hsz,hby,zz,hzz,hzc⟩:=ht.info hj
  have hmx:m≤9223372036854775807:=by simpa [maxLen] using h
  have hr:=run_make (P:=P) w t e jj zz (ht.slice hi hd) hjj hzz k1 k2 0 m (Int.le_refl _) h0 (by rw [hby,Int.mul_comm];exact hb) hmx
  have hzl:j.zero.length=U.size:=by rw [hs];exact ht.zlen hj
  have hcells:madeCells zz.cells (m.toNat*jj.size)=⟨chunks m.toNat j.zero⟩:=by
    rw [← z6c j.zero m.toNat,hzl,hs,hsz,show zz.cells=⟨j.zero⟩ from by rw [← hzc]]
  rw [hcells] at hr
  refine⟨some ⟨w.heap.size,0,none⟩,m.toNat,w.alloc (.cells ⟨chunks m.toNat j.zero⟩ e),by simpa using hr,Ext.alloc w _,?_⟩
  have hcl:∀ k:Nat,(chunks k j.zero).length=k*U.size:=fun k=>by
    induction k with
    | zero=>simp [chunks]
    | succ k ih=>simp [chunks,ih,hzl,Nat.succ_mul,Nat.add_comm]
  have hown:=z74 (w:=w.alloc (.cells ⟨chunks m.toNat j.zero⟩ e)) (e:=e) (U:=U) (xs:=([]:List α)) (g:=w.heap.size) (cap:=m.toNat) (els:=[]) (rest:=chunks m.toNat j.zero) (K:=[])
    (by simpa using heap_alloc_new w _) (by simp) (by have:(m.toNat:Int)=m:=Int.toNat_of_nonneg h0;omega) (by simp [hcl]) (by simp) ⟨rfl,rfl⟩
  exact hS.join (Ns:=[Own (tSl e U) [.slice (some ⟨w.heap.size,0,none⟩) ([]:List α).length m.toNat] []])
    ⟨Ext.alloc _ _,⟨[w.heap.size],hown,by simp,fun g hg=>by simp at hg;subst hg;exact⟨Nat.le_refl _,by simp⟩,trivial⟩⟩

theorem RW.makeCap (ht:TTok P T){rest:List Oper}{α:Type}{U:Ty α}{Rs:List Res}(hS:St W w Rs) (hg:guardOf ops F o=some true){t e:Nat}{l c:Operand}{i j:TI}{k1 k2:IntKind}{m:Int}(ho:o.op=.makeSlice t l c) (hi:T.get t=some i) (hd:i.d=.slice e)
    (hj:T.get e=some j) (hs:U.size=j.size) (hl:F.ev l=some (.int k1 0)) (hc:F.ev c=some (.int k2 m)) (h0:0≤m) (hb:m*(j.bytes:Int)≤281474976710656) (u:m≤maxLen)
    {d:Nat}(hd':o.dst=some d) (hn:Nat.blt d n=true)
    (h:∀ A k w',Ext w w'→St W w' (Own (tSl e U) [.slice A ([]:List α).length k] []::Rs)→RW P n ops Q rest ((d,.slice A ([]:List α).length k)::F) w'):RW P n ops Q (o::rest) F w:=by
  obtain⟨A,k,w',h1,h2,h3⟩:=Go.E.makeCap (P:=P) (k1:=k1) (k2:=k2) ht hS hi hd hj hs h0 hb u
  refine RW.ok hg (fun a ha=>?_) hd' hn (h A k w' h2 h3)
  unfold execOp
  rw [ho]
  simp [ha.ev hl,ha.ev hc,h1]

theorem LM.makeCap (ht:TTok P T){α:Type}{U:Ty α}{Rs:List Res}(hS:St W w Rs) (hsk:skOf ops=sk∧ops.length=kk){ii:Nat}(m':Nat) (hm':mm ||| 2 ^ ii=m') (hwi:wm.testBit ii=false) (hni:nthv ops ii=some o) (hg:guardOf ops F o=some true){t e:Nat}{l c:Operand}{i j:TI}{k1 k2:IntKind}{m:Int}(ho:o.op=.makeSlice t l c) (hi:T.get t=some i) (hd:i.d=.slice e)
    (hj:T.get e=some j) (hs:U.size=j.size) (hl:F.ev l=some (.int k1 0)) (hc:F.ev c=some (.int k2 m)) (h0:0≤m) (hb:m*(j.bytes:Int)≤281474976710656) (u:m≤maxLen)
    {d:Nat}(hd':o.dst=some d) (hn:Nat.blt d n=true)
    (h:∀ A k w',Ext w w'→St W w' (Own (tSl e U) [.slice A ([]:List α).length k] []::Rs)→DM P n ops Q W w0 wm fuel kk m' ((d,.slice A ([]:List α).length k)::F) w'):LM P n ops Q W w0 wm fuel kk mm ii F w:=by
  obtain⟨A,k,w',h1,h2,h3⟩:=Go.E.makeCap (P:=P) (k1:=k1) (k2:=k2) ht hS hi hd hj hs h0 hb u
  refine LM.okD hsk m' hm' hwi hni hg (fun a ha=>?_) hd' hn h2 (h A k w' h2 h3)
  unfold execOp
  rw [ho]
  simp [ha.ev hl,ha.ev hc,h1]
end
end Go.E


namespace Go.E
open Go.RowKit
set_option linter.unusedVariables false
set_option linter.unusedSimpArgs false


inductive Rd (σ τ ρ:Type) where
  | next (s:σ)
  | brk (t:τ)
  | ret (r:ρ)

def iter {σ τ ρ:Type}(body:σ→Option (Rd σ τ ρ)):Nat→σ→Option (τ ⊕ ρ)
  | 0,_=>none
  | n+1,s=>match body s with
    | none=>none
    | some (.next s')=>iter body n s'
    | some (.brk t)=>some (.inl t)
    | some (.ret r)=>some (.inr r)

def idx {α:Type}(xs:List α) (i:Int):Option α:=if 0≤i then xs[i.toNat]? else none

theorem z65 {α:Type}{xs:List α}{i:Int}{x:α}(h:idx xs i=some x):0≤i∧xs[i.toNat]? = some x:=by
  unfold idx at h
  split at h
  · exact⟨by assumption,h⟩
  · cases h


def aft {τ A:Type}(o:τ ⊕ A) (k:τ→Option A):Option A:=
  match o with
  | .inl t=>k t
  | .inr a=>some a

theorem zi {τ A:Type}(t:τ) (k:τ→Option A):aft (.inl t) k=k t:=rfl

theorem zgU {c:Bool}(h:c=false):¬ c=true:=by rw [h];simp

theorem bind_some {α β:Type}{x:Option α}{f:α→Option β}{b:β}(h:x.bind f=some b):∃ a,x=some a∧f a=some b:=by
  cases x with
  | none=>cases h
  | some a=>exact⟨a,rfl,h⟩

section
variable {P:Program}{n:Nat}{Q:Post}{F:Fr}{w:World}


theorem WP.iter {c:Code}{σ τ ρ:Type}(J:σ→Fr→World→Prop) (body:σ→Option (Rd σ τ ρ)){k:Nat}{s:σ}{out:τ ⊕ ρ}(hm:iter body k s=some out) (h0:J s F w)
    (round:∀ s F w k o,J s F w→body s=some o→(match o with | .next s'=>Go.E.iter body k s'=some out | .brk t=>out=.inl t | .ret r=>out=.inr r)→
      WP P n c (Q.after (fun F' w'=>∃ s' F'',F'.Has F''∧o=.next s'∧J s' F'' w')) F w):WP P n (.loop c) Q F w:=by
  refine WP.loop (σ:={ p:Nat × σ // Go.E.iter body p.1 p.2=some out }) (fun p F w=>J p.1.2 F w) (fun p=>p.1.1) ⟨(k,s),hm⟩ h0 ?_
  rintro⟨⟨k,s⟩,hk⟩ F w hJ
  cases k with
  | zero=>cases hk
  | succ k=>
    have hk':=hk
    simp only [Go.E.iter] at hk'
    cases hb:body s with
    | none=>rw [hb] at hk';cases hk'
    | some o=>
      rw [hb] at hk'
      refine(round s F w k o hJ hb ?_).mono ?_
      · cases o with
        | next s'=>exact hk'
        | brk t=>simp only [Option.some.injEq] at hk';exact hk'.symm
        | ret r=>simp only [Option.some.injEq] at hk';exact hk'.symm
      · intro e F' w' q
        cases e with
        | normal=>
          obtain⟨s',F2,hh,rfl,hJ'⟩:=q
          exact⟨⟨(k,s'),hk'⟩,F2,hh,hJ',Nat.lt_succ_self k⟩
        | _=>exact q


theorem WP.cut {c:Code}{τ:Type}(J:τ→Fr→World→Prop) (hk:∀ t F w,J t F w→Q .normal F w) (h:WP P n c (Q.after (fun F w=>∃ t F',F.Has F'∧J t F' w)) F w):WP P n c Q F w:=
  fun a ha=>wp_mono (h a ha) fun e a' w' ⟨F1,hf,q⟩=>by
    cases e with
    | normal=>obtain⟨t,F',hh,ht⟩:=q;exact⟨F',hf.weak hh,hk t F' w' ht⟩
    | _=>exact⟨F1,hf,q⟩

theorem RW.know {ops rest:List Oper}(i:Nat){v u:Value}(hg:F.get i=some v) (e:v=u) (h:RW P n ops Q rest ((i,u)::F) w):RW P n ops Q rest F w:=fun a ha=>
  h a ⟨ha.1,ha.2.1,fun j x hx=>by
    rw [Fr.get_cons] at hx
    split at hx
    · rename_i hj;subst hj;simp only [Option.some.injEq] at hx;subst hx;rw [← e];exact ha.2.2 _ _ hg
    · exact ha.2.2 _ _ hx⟩

theorem DW.know {ops:List Oper}{w0 W9:World}{wr:Nat→Bool}{fuel:Nat}{listed:Array Bool}(i:Nat){v u:Value}(hg:F.get i=some v) (e:v=u) (h:DW P n ops Q W9 w0 wr fuel listed ((i,u)::F) w):DW P n ops Q W9 w0 wr fuel listed F w:=fun hs he hv a ha=>
  h hs he hv a ⟨ha.1,ha.2.1,fun j x hx=>by
    rw [Fr.get_cons] at hx
    split at hx
    · rename_i hj;subst hj;simp only [Option.some.injEq] at hx;subst hx;rw [← e];exact ha.2.2 _ _ hg
    · exact ha.2.2 _ _ hx⟩

theorem DM.know {ops:List Oper}{w0 W9:World}{wm fuel k m:Nat}(i:Nat){v u:Value}(hg:F.get i=some v) (e:v=u) (h:DM P n ops Q W9 w0 wm fuel k m ((i,u)::F) w):DM P n ops Q W9 w0 wm fuel k m F w:=fun l hl=>DW.know i hg e (h l hl)

theorem ResIs.agg {T:TT}(ht:TTok P T){a:Tmp}{t:Nat}{q:Addr}(h:F.get a=some (.pointer (some q))){i:TI}(hi:T.get t=some i) (hag:i.agg=true){cs:List Value}(hat:At w q cs) (hl:Nat.beq cs.length i.size=true):
    ResIs P F w (.cell a t) (.agg ⟨cs⟩):=.cell h (by
  have hr:=run_loadCells_list (P:=P) w q cs fun j u hu=>hat j u hu
  rw [Nat.eq_of_beq_eq_true hl] at hr
  simp [loadVar,ht.isAgg hi,ht.sizeOf hi,hag,hr])

theorem ResIs.one {T:TT}(ht:TTok P T){a:Tmp}{t:Nat}{q:Addr}(h:F.get a=some (.pointer (some q))){i:TI}(hi:T.get t=some i) (hag:i.agg=false){c:Value}(hat:At w q [c]):
    ResIs P F w (.cell a t) c:=.cell h (by
  have hc:w.cell? q=some c:=by have:=hat 0 c rfl;simpa [Addr.add] using this
  simp [loadVar,ht.isAgg hi,hag,run_load,hc])

theorem At.sub {p:Addr}{cs:List Value}(h:At w p cs) (off m:Nat):At w (p.add off) ((cs.drop off).take m):=h.part fun j u hu=>by
  rw [List.getElem?_take] at hu
  split at hu
  · simpa using hu
  · cases hu
end
end Go.E


namespace Go.E
open Go.RowKit
set_option linter.unusedVariables false
set_option linter.unusedSimpArgs false

def I64 (n:Int):Prop:=-9223372036854775808≤n∧n≤9223372036854775807

theorem zbA {n:Int}(h:(Lit.int .i64 n).wf=true):I64 n:=by
  have h1:IntKind.i64.min = -9223372036854775808:=rfl
  have h2:IntKind.i64.max=9223372036854775807:=rfl
  simp only [Lit.wf,Bool.and_eq_true,decide_eq_true_eq,h1,h2] at h
  exact h

theorem zgQ {n:Int}(h:I64 n):w64 n=n:=by
  obtain⟨h1,h2⟩:=h
  have e:w64 n=if n % 18446744073709551616≥9223372036854775808 then n % 18446744073709551616 - 18446744073709551616 else n % 18446744073709551616:=by
    unfold w64 IntKind.wrap
    show(if(true && decide (n % (2 ^ 64:Int)≥(2 ^ 63:Int)))=true then n % (2 ^ 64:Int) - (2 ^ 64:Int) else n % (2 ^ 64:Int))=_
    simp
  rw [e]
  split<;>omega

def Opens (P:Program) (t:TypeId){α:Type}(T:Ty α) (wf:α→Prop):Prop:=
  P.cellsOf t=T.size∧∀ {H:Type}{enc:TypeId × Value→H}{w:World}{base:Nat}{spare:Nat→Bool}{held:Bool}{fuel:Nat}{cs:List Value}{x:DataW H × List MemPlace},
    DataW.trod enc P w base spare held fuel t cs=some x→∃ a,T.ro w cs a∧wf a

theorem Opens.int {P:Program}{t:TypeId}(ht:P.underlying t=some (.int .i64)) (hc:P.cellsOf t=1):Opens P t tInt I64:=
  ⟨hc,fun h=>by
    obtain⟨n,rfl,_,hw⟩:=DataW.trod_int ht h
    exact⟨n,rfl,zbA hw⟩⟩

theorem Opens.bool {P:Program}{t:TypeId}(ht:P.underlying t=some .bool) (hc:P.cellsOf t=1):Opens P t tBool fun _=>True:=
  ⟨hc,fun h=>by
    obtain⟨n,rfl,_⟩:=DataW.trod_bool ht h
    exact⟨n,rfl,trivial⟩⟩

theorem Opens.str {P:Program}{t:TypeId}(ht:P.underlying t=some .string) (hc:P.cellsOf t=1):Opens P t tStr fun s=>s.size≤maxLen:=
  ⟨hc,fun h=>by
    obtain⟨n,rfl,_,hw⟩:=DataW.trod_string ht h
    exact⟨n,rfl,hw⟩⟩

theorem At.append {w:World}{p:Addr}{cs es:List Value}(ha:At w p cs) (hb:At w (p.add cs.length) es):At w p (cs++es):=fun j u hu=>by
  rcases Nat.lt_or_ge j cs.length with h | h
  · rw [List.getElem?_append_left h] at hu
    exact ha j u hu
  · rw [List.getElem?_append_right h] at hu
    have:=hb (j - cs.length) u hu
    rw [zfp] at this
    rwa [show cs.length+(j - cs.length)=j by omega] at this

theorem zbx {α:Type}{T:Ty α}{wf:α→Prop}{w:World}{a:Addr}{base:Nat}:∀ (n:Nat),(∀ i,i<n→∃ cs',w.cells? base (a.add (i*T.size)) T.size=some cs'∧∃ x,T.ro w cs' x∧wf x)→
    ∃ (xs:List α) (els:List Value),xs.length=n∧Els T w els xs∧At w a els∧∀ x,x∈xs→wf x
  | 0,_=>⟨[],[],rfl,rfl,fun j u hu=>by simp at hu,fun x hx=>by cases hx⟩
  | n+1,h=>by
    obtain⟨xs,els,hl,he,ha,hw⟩:=zbx n fun i hi=>h i (Nat.lt_succ_of_lt hi)
    obtain⟨cs',hc,x,hx,hwx⟩:=h n (Nat.lt_succ_self n)
    refine⟨xs++[x],els++cs',by simp [hl],he.append ⟨cs',[],by simp,hx,rfl⟩,ha.append ?_,fun y hy=>?_⟩
    · obtain⟨_,hcl,hat⟩:=World.cells?_some hc
      intro j u hu
      have hj:=(List.getElem?_eq_some_iff.1 hu).1
      rw [he.length,hl,hat j (by omega)]
      exact hu
    · rcases List.mem_append.1 hy with hy | hy
      · exact hw y hy
      · simp only [List.mem_singleton] at hy;subst hy;exact hwx

def WfL {α:Type}(wf:α→Prop) (xs:List α):Prop:=xs.length≤maxLen∧∀ x,x∈xs→wf x

theorem Opens.sl {P:Program}{t e:TypeId}{α:Type}{T:Ty α}{wf:α→Prop}(ht:P.underlying t=some (.slice e)) (hc:P.cellsOf t=1) (ho:Opens P e T wf):Opens P t (tSl e T) (WfL wf):=
  ⟨hc,by
    intro H enc w base spare held fuel cs x h
    rcases Go.Deep.open_slice ht h with⟨rfl,_⟩ | ⟨a,len,cap,m,n,D,Pl,rfl,_,hl,hm,hmm,_,hi⟩
    · exact⟨[],⟨none,0,[],rfl,Nat.le_refl _,rfl,fun h=>absurd rfl h⟩,⟨Nat.zero_le _,fun x hx=>by cases hx⟩⟩
    · have hlm:len≤m:=by rw [hmm];split<;>omega
      rw [ho.1] at hi
      obtain⟨xs,els,hxl,he,ha,hw⟩:=zbx (T:=T) (wf:=wf) (w:=w) (a:=a) (base:=base) len fun i hil=>by
        obtain⟨cs',h1,h2⟩:=hi i (by omega)
        exact⟨cs',h1,ho.2 h2⟩
      subst hxl
      exact⟨xs,⟨some a,cap,els,rfl,hl,he,fun _=>⟨a,rfl,ha⟩⟩,⟨by omega,hw⟩⟩⟩


def OpensF (P:Program) (o:Nat) (fs:List Field){α:Type}(T:Ty α) (wf:α→Prop):Prop:=
  ∀ {H:Type}{enc:TypeId × Value→H}{w:World}{base:Nat}{spare:Nat→Bool}{held:Bool}{fuel:Nat}{cs:List Value},
    (∀ (i:Nat) (f:Field),fs[i]? = some f→∃ x,DataW.trod enc P w base spare held fuel f.type ((cs.drop f.offset).take (P.cellsOf f.type))=some x)→∃ a,T.ro w ((cs.drop o).take T.size) a∧wf a

theorem OpensF.nil {P:Program}{o:Nat}:OpensF P o [] tUnit fun _=>True:=fun _=>⟨(),by show List.take 0 _=[];simp,trivial⟩

theorem OpensF.cons {P:Program}{o o':Nat}{f:Field}{fs:List Field}{α β:Type}{T:Ty α}{U:Ty β}{wf:α→Prop}{wg:β→Prop}(ho:Opens P f.type T wf) (hf:f.offset=o) (h':o'=o+T.size) (hr:OpensF P o' fs U wg):
    OpensF P o (f::fs) (tPair T U) fun x=>wf x.1∧wg x.2:=by
  intro H enc w base spare held fuel cs h
  obtain⟨x,hx⟩:=h 0 f rfl
  obtain⟨a,h1,h2⟩:=ho.2 hx
  obtain⟨b,h3,h4⟩:=hr (cs:=cs) fun i g hg=>h (i+1) g hg
  subst h'
  refine⟨(a,b),⟨_,_,?_,h1,h3⟩,h2,h4⟩
  rw [ho.1,hf]
  show List.take (T.size+U.size) _=_
  rw [List.take_add,List.drop_drop]

theorem Opens.struct {P:Program}{t:TypeId}{fs:Array Field}{α β:Type}{T:Ty α}{wf:α→Prop}{f:β→α}(ht:P.underlying t=some (.struct fs)) (hc:P.cellsOf t=T.size) (h:OpensF P 0 fs.toList T wf) (hs:∀ a,∃ b,f b=a):
    Opens P t (tMap f T) fun b=>wf (f b):=
  ⟨hc,by
    intro H enc w base spare held fuel cs x hx
    obtain⟨xs,n,_,_,hl,hxl,hf⟩:=DataW.trod_struct ht hx
    obtain⟨a,h1,h2⟩:=h (cs:=cs) (w:=w) (enc:=enc) (base:=base) (spare:=spare) (held:=held) (fuel:=n) fun i g hg=>by
      have hi:i<fs.size:=by simpa using (List.getElem?_eq_some_iff.1 hg).1
      exact⟨xs[i]'(by omega),(hf i g (by simpa using hg)).trans (List.getElem?_eq_getElem _)⟩
    obtain⟨b,rfl⟩:=hs a
    refine⟨b,?_,h2⟩
    show T.ro w cs (f b)
    rwa [List.drop_zero,List.take_of_length_le (by omega)] at h1⟩

section
variable {H:Type}{enc:TypeId × Value→H}{P:Program}{w:World}{base b0:Nat}{spare:Nat→Bool}{held:Bool}{r:Reach}{t:TypeId}{v:Value}{d:DataW H}{p:List MemPlace}

theorem zdB {α:Type}{T:Ty α}{wf:α→Prop}{fs:Array Field}(ht:P.underlying t=some (.struct fs)) (ho:Opens P t T wf) (hv:Value.okWide P w r b0 t v) (h:DataW.Trod enc P w base spare held t v d p):
    ∃ cs x,v=.agg ⟨cs⟩∧T.ro w cs x∧wf x:=by
  obtain⟨cs,rfl,_⟩:=WideShapes.okWide_struct ht hv
  obtain⟨fuel,hf⟩:=h
  obtain⟨x,h1,h2⟩:=ho.2 hf
  exact⟨cs.toList,x,rfl,h1,h2⟩

theorem zfo {e:TypeId}{α:Type}{T:Ty α}{wf:α→Prop}(ht:P.underlying t=some (.slice e)) (ho:Opens P t (tSl e T) (WfL wf)) (hv:Value.okWide P w r b0 t v) (h:DataW.Trod enc P w base spare held t v d p):
    ∃ A c x,v=.slice A x.length c∧(tSl e T).ro w [.slice A x.length c] x∧WfL wf x:=by
  obtain⟨A,l,c,rfl⟩:=WideShapes.okWide_slice ht hv
  obtain⟨fuel,hf⟩:=h
  obtain⟨x,h1,h2⟩:=ho.2 hf
  obtain⟨A',c',els,he,h3⟩:=h1
  simp only [Value.cells,List.cons.injEq,Value.slice.injEq,and_true] at he
  obtain⟨rfl,rfl,rfl⟩:=he
  exact⟨A,c,x,rfl,⟨A,c,els,rfl,h3⟩,h2⟩

theorem zgM (ht:P.underlying t=some (.int .i64)) (hv:Value.okWide P w r b0 t v) (h:DataW.Trod enc P w base spare held t v d p):∃ x,v=.int .i64 x∧I64 x:=by
  obtain⟨x,rfl,_,_,hw⟩:=ChangeShapes.open_int ht hv h
  exact⟨x,rfl,zbA hw⟩

end

theorem Ret.out {Q:Value→World→Prop}{e:Ending}{w:World}(h:Ret Q e w):∃ v,e=.returned v∧Q v w:=by
  cases e with
  | returned v=>exact⟨v,rfl,h⟩
  | _=>exact False.elim h
end Go.E


namespace Go.E
set_option linter.unusedVariables false
set_option linter.unusedSimpArgs false

theorem zo {n:Int}(h0:-9223372036854775808≤n) (h1:n≤9223372036854775807):w64 n=n:=zgQ ⟨h0,h1⟩


theorem z2C {σ τ ρ:Type}{body:σ→Option (Rd σ τ ρ)}(I:Nat→σ→Prop) (n:Nat) (Q:τ ⊕ ρ→Prop)
    (step:∀ i s,i<n→I i s→(∃ s',body s=some (.next s')∧I (i+1) s')∨(∃ r,body s=some (.ret r)∧Q (.inr r))∨∃ t,body s=some (.brk t)∧Q (.inl t))
    (last:∀ s,I n s→(∃ r,body s=some (.ret r)∧Q (.inr r))∨∃ t,body s=some (.brk t)∧Q (.inl t)):
    ∀ {fuel i s},i≤n→n - i<fuel→I i s→∃ o,iter body fuel s=some o∧Q o
  | 0,i,s,_,hf,_=>by omega
  | fuel+1,i,s,hi,hf,hI=>by
    have done:((∃ r,body s=some (.ret r)∧Q (.inr r))∨∃ t,body s=some (.brk t)∧Q (.inl t))→∃ o,iter body (fuel+1) s=some o∧Q o:=by
      rintro(⟨r,h1,h2⟩ | ⟨t,h1,h2⟩)
      · exact⟨_,by simp only [iter,h1],h2⟩
      · exact⟨_,by simp only [iter,h1],h2⟩
    rcases Nat.lt_or_ge i n with h | h
    · rcases step i s h hI with⟨s',h1,h2⟩ | h1
      · obtain⟨o,h3,h4⟩:=z2C I n Q step last (fuel:=fuel) (i:=i+1) h (by omega) h2
        exact⟨o,by simp only [iter,h1];exact h3,h4⟩
      · exact done h1
    · obtain rfl:i=n:=by omega
      exact done (last s hI)

def sumL {α:Type}(f:α→Nat):List α→Nat
  | []=>0
  | x::xs=>f x+sumL f xs


def szL {α:Type}(f:α→Nat) (xs:List α):Nat:=xs.length+sumL f xs

theorem z7j {α:Type}{f:α→Nat}{x:α}:∀ {xs:List α},x∈xs→f x≤sumL f xs
  | y::xs,h=>by
    rcases List.mem_cons.1 h with rfl | h
    · exact Nat.le_add_right _ _
    · exact Nat.le_trans (z7j h) (Nat.le_add_left _ _)

theorem z6a {α:Type}{f:α→Nat}:∀ {xs ys:List α},sumL f (xs++ys)=sumL f xs+sumL f ys
  | [],ys=>by simp [sumL]
  | x::xs,ys=>by simp only [List.cons_append,sumL,z6a (xs:=xs),Nat.add_assoc]

theorem zbi {α:Type}{f:α→Nat}{xs:List α}{i:Nat}{x:α}(h:xs[i]? = some x):sumL f (xs.take (i+1))=sumL f (xs.take i)+f x:=by
  rw [List.take_add_one,h,z6a]
  simp [sumL]

theorem z8H {α:Type}{f:α→Nat}{xs:List α}{n:Nat}(h:szL f xs≤n):xs.length≤n:=by unfold szL at h;omega
theorem z5N {α:Type}{f:α→Nat}{xs:List α}{n:Nat}(h:szL f xs≤n){x:α}(hx:x∈xs):f x≤n:=by
  have:=z7j (f:=f) hx
  unfold szL at h;omega
theorem zL {α:Type}{xs:List α}{i:Nat}{x:α}(h:xs[i]? = some x):idx xs (i:Int)=some x:=by
  unfold idx
  simp [h]

theorem z5H {α:Type}{xs:List α}{i:Nat}(h:i<xs.length):∃ x,xs[i]? = some x:=⟨_,List.getElem?_eq_getElem h⟩
theorem lt_t {a b:Int}(h:a<b):(decide (a<b)=true)=True:=by simp [h]
theorem lt_f {a b:Int}(h:¬ a<b):(decide (a<b)=true)=False:=by simp [h]


def SzOk (n:Nat) (l:Int) (o:Option Int):Prop:=∃ r,o=some r∧(r<0∨0≤r∧r+(n:Int)=l)

theorem SzOk.fail {n:Nat}{l:Int}:SzOk n l (some (-1)):=⟨_,rfl,.inl (by decide)⟩
theorem SzOk.same {l:Int}(h:0≤l):SzOk 0 l (some l):=⟨_,rfl,.inr ⟨h,by omega⟩⟩

theorem SzOk.bind {n m k:Nat}{l:Int}{o:Option Int}{f:Int→Option Int}(h:SzOk n l o) (hk:k=n+m) (g:∀ r,0≤r→r≤l→SzOk m r (f r)):
    SzOk k l (o.bind fun r=>if decide (r<0)=true then some (-1) else f r):=by
  obtain⟨r,rfl,h⟩:=h
  subst hk
  show SzOk _ _ (if decide (r<0)=true then some (-1) else f r)
  rcases h with h | ⟨h1,h2⟩
  · simp only [lt_t h,if_true];exact SzOk.fail
  · simp only [lt_f (show ¬ r<0 by omega),if_false]
    obtain⟨s,h3,h4⟩:=g r h1 (by omega)
    exact⟨s,h3,h4.imp id fun⟨h5,h6⟩=>⟨h5,by omega⟩⟩

theorem SzOk.sub {n m k:Nat}{l:Int}{f:Int→Option Int}(h0:0≤l) (h1:l≤1048576) (hn:n≤maxLen) (hk:k=n+m) (g:∀ r,0≤r→r≤l→SzOk m r (f r)):
    SzOk k l (if decide (w64 (l - (n:Int))<0)=true then some (-1) else f (w64 (l - (n:Int)))):=by
  have hm:maxLen=9223372036854775807:=rfl
  rw [zo (show -9223372036854775808≤l - (n:Int) by omega) (by omega)]
  subst hk
  by_cases h:l - (n:Int)<0
  · simp only [lt_t h,if_true];exact SzOk.fail
  · simp only [lt_f h,if_false]
    obtain⟨s,h3,h4⟩:=g _ (show 0≤l - (n:Int) by omega) (by omega)
    exact⟨s,h3,h4.imp id fun⟨h5,h6⟩=>⟨h5,by omega⟩⟩

theorem SzOk.sub2 {n m k:Nat}{l z:Int}{e:Option Int}(h0:0≤l) (h1:l≤1048576) (hn:n≤maxLen) (hk:k=n+m) (hz:w64 (l - (n:Int))=z) (g:0≤z→z≤l→SzOk m z e):
    SzOk k l (if decide (z<0)=true then some (-1) else e):=by
  have hm:maxLen=9223372036854775807:=rfl
  rw [zo (show -9223372036854775808≤l - (n:Int) by omega) (by omega)] at hz
  subst hk
  by_cases h:z<0
  · simp only [lt_t h,if_true];exact SzOk.fail
  · simp only [lt_f h,if_false]
    obtain⟨s,h3,h4⟩:=g (by omega) (by omega)
    exact⟨s,h3,h4.imp id fun⟨h5,h6⟩=>⟨h5,by omega⟩⟩


theorem SzOk.loop {α:Type}{f:α→Nat}{xs:List α}{body:Int × Int→Option (Rd (Int × Int) Int Int)}{j:Int→Option Int}{l:Int}{fuel:Nat}(hl:xs.length≤maxLen) (hf:18446744073709551616≤fuel) (h0:0≤l) (h1:l≤1048576) (hj:∀ t,j t=some t)
    (step:∀ (i:Nat) (x:α) (l:Int),xs[i]? = some x→0≤l→l≤1048576→body (l,i)=some (.ret (-1))∨∃ r,body (l,i)=some (.next (r,w64 (i+1)))∧0≤r∧r+(f x:Int)=l)
    (last:∀ l,body (l,xs.length)=some (.brk l)):SzOk (sumL f xs) l ((iter body fuel (l,0)).bind fun o=>aft o j):=by
  have hm:maxLen=9223372036854775807:=rfl
  obtain⟨o,h2,h3⟩:=z2C (body:=body) (fun i s=>s.2=(i:Int)∧0≤s.1∧s.1+(sumL f (xs.take i):Int)=l) xs.length (fun o=>match o with | .inl t=>0≤t∧t+(sumL f xs:Int)=l | .inr r=>r = -1) (by
    rintro i ⟨s,t⟩ hi ⟨h2,h3,h4⟩
    dsimp only at h2 h3 h4
    subst h2
    obtain⟨x,hx⟩:=z5H hi
    rcases step i x s hx h3 (by omega) with h | ⟨r,h5,h6,h7⟩
    · exact .inr (.inl ⟨_,h,rfl⟩)
    · refine .inl ⟨_,h5,?_,h6,?_⟩
      · show w64 _=_
        rw [zo (by omega) (by omega)];simp
      · rw [zbi hx]
        show r+_=l
        omega) (by
    rintro⟨s,t⟩ ⟨h2,h3,h4⟩
    dsimp only at h2 h3 h4
    subst h2
    refine .inr ⟨_,last s,h3,?_⟩
    rwa [List.take_length] at h4) (fuel:=fuel) (i:=0) (s:=(l,0)) (Nat.zero_le _) (by omega) ⟨rfl,h0,by simp [sumL]⟩
  rw [h2]
  cases o with
  | inl t=>exact⟨t,hj t,.inr h3⟩
  | inr r=>exact⟨r,rfl,.inl (by rw [show r = -1 from h3];decide)⟩


theorem z6J {α:Type}{xs:List α}{z:α}{body:Int × List α→Option (Rd (Int × List α) (List α) (List α))}{j:List α→Option (List α)}{fuel:Nat}(hl:xs.length≤1048576) (hf:18446744073709551616≤fuel) (hj:∀ t,j t=some t)
    (step:∀ (i:Nat) (x:α) (out:List α),xs[i]? = some x→out.length=xs.length→body (i,out)=some (.next (w64 (i+1),out.set i x)))
    (last:∀ out,body (xs.length,out)=some (.brk out)):
    (if decide (0≤(xs.length:Int)∧(xs.length:Int)≤4294967296)=true then((iter body fuel (0,List.replicate (xs.length:Int).toNat z)).bind fun o=>aft o j) else none)=some xs:=by
  rw [if_pos (by simp;omega)]
  obtain⟨o,h2,h3⟩:=z2C (body:=body) (fun i s=>s.1=(i:Int)∧s.2.length=xs.length∧s.2.take i=xs.take i) xs.length (fun o=>o=.inl xs) (by
    rintro i ⟨s,t⟩ hi ⟨h2,h3,h4⟩
    dsimp only at h2 h3 h4
    subst h2
    obtain⟨x,hx⟩:=z5H hi
    refine .inl ⟨_,step i x t hx h3,?_,by simpa using h3,?_⟩
    · show w64 _=_
      rw [zo (by omega) (by omega)];simp
    · show(t.set i x).take (i+1)=_
      rw [List.take_add_one,List.take_add_one,hx,List.take_set_of_le (Nat.le_refl _),h4,List.getElem?_set_self (by omega)]) (by
    rintro⟨s,t⟩ ⟨h2,h3,h4⟩
    dsimp only at h2 h3 h4
    subst h2
    refine .inr ⟨_,last t,?_⟩
    rw [List.take_length,List.take_of_length_le (by omega)] at h4
    rw [h4]) (fuel:=fuel) (i:=0) (s:=(0,List.replicate (xs.length:Int).toNat z)) (Nat.zero_le _) (by omega) ⟨rfl,by simp,by simp⟩
  rw [h2,h3]
  exact hj xs


theorem z2U (s:ByteArray):seqb s s=true:=by simp [seqb]


theorem z6g {τ ρ:Type}{n:Nat}{body:Int→Option (Rd Int τ ρ)}{j:τ→Option ρ}{fuel:Nat}{t:τ}{b:ρ}(hl:n≤maxLen) (hf:18446744073709551616≤fuel) (hj:j t=some b)
    (step:∀ (i:Nat),i<n→body i=some (.next (w64 (i+1)))) (last:body n=some (.brk t)):((iter body fuel 0).bind fun o=>aft o j)=some b:=by
  have hm:maxLen=9223372036854775807:=rfl
  obtain⟨o,h2,h3⟩:=z2C (body:=body) (fun i s=>s=(i:Int)) n (fun o=>o=.inl t) (by
    rintro i s hi rfl
    exact .inl ⟨_,step i hi,by rw [zo (by omega) (by omega)];simp⟩) (by
    rintro s rfl
    exact .inr ⟨_,last,rfl⟩) (fuel:=fuel) (i:=0) (s:=0) (Nat.zero_le _) (by omega) rfl
  rw [h2,h3]
  exact hj


end Go.E


namespace Go.E
set_option linter.unusedVariables false
set_option linter.unusedSimpArgs false


theorem askLoop {α τ ρ:Type}{xs:List α}{body:Int→Option (Rd Int τ ρ)}{fuel:Nat}{t:τ}{p:α→Bool}{g:Int→ρ}(hl:xs.length≤maxLen) (hf:18446744073709551616≤fuel)
    (step:∀ (i:Nat) (x:α),i<xs.length→xs[i]? = some x→body i=if p x=true then some (.ret (g i)) else some (.next (w64 (i+1)))) (last:body xs.length=some (.brk t)):
    (xs.any p=false∧iter body fuel 0=some (.inl t))∨(xs.any p=true∧∃ i:Nat,i<xs.length∧iter body fuel 0=some (.inr (g i))):=by
  have hm:maxLen=9223372036854775807:=rfl
  obtain⟨o,h2,h3⟩:=z2C (body:=body) (fun i s=>s=(i:Int)∧(xs.take i).any p=false) xs.length (fun o=>(xs.any p=false∧o=.inl t)∨(xs.any p=true∧∃ i:Nat,i<xs.length∧o=.inr (g i))) (by
    rintro i s hi ⟨rfl,ha⟩
    obtain⟨x,hx⟩:=z5H hi
    have hs:=step i x hi hx
    cases hp:p x with
    | true=>
      rw [hp,if_pos rfl] at hs
      exact .inr (.inl ⟨_,hs,.inr ⟨List.any_eq_true.2 ⟨x,List.mem_of_getElem? hx,hp⟩,i,hi,rfl⟩⟩)
    | false=>
      rw [hp,if_neg (by simp)] at hs
      refine .inl ⟨_,hs,by rw [zo (by omega) (by omega)];simp,?_⟩
      rw [List.take_add_one,hx,List.any_append,ha]
      simp [hp]) (by
    rintro s ⟨rfl,ha⟩
    rw [List.take_length] at ha
    exact .inr ⟨_,last,.inl ⟨ha,rfl⟩⟩) (fuel:=fuel) (i:=0) (s:=0) (Nat.zero_le _) (by omega) ⟨rfl,by simp⟩
  rcases h3 with⟨h3,rfl⟩ | ⟨h3,i,hi,rfl⟩
  · exact .inl ⟨h3,h2⟩
  · exact .inr ⟨h3,i,hi,h2⟩


theorem askOne {α τ ρ:Type}{xs:List α}{body:Int→Option (Rd Int τ ρ)}{j:τ→Option ρ}{fuel:Nat}{t:τ}{p:α→Bool}{v:ρ}(hl:xs.length≤maxLen) (hf:18446744073709551616≤fuel)
    (step:∀ (i:Nat) (x:α),i<xs.length→xs[i]? = some x→body i=if p x=true then some (.ret v) else some (.next (w64 (i+1)))) (last:body xs.length=some (.brk t)):
    ((iter body fuel 0).bind fun o=>aft o j)=if xs.any p=true then some v else j t:=by
  rcases askLoop (g:=fun _=>v) hl hf step last with⟨h1,h2⟩ | ⟨h1,i,_,h2⟩
  · rw [h2,h1];rfl
  · rw [h2,h1];rfl


theorem askIndex {α τ:Type}{xs:List α}{body:Int→Option (Rd Int τ Int)}{j:τ→Option Int}{fuel:Nat}{t:τ}{p:α→Bool}(hl:xs.length≤maxLen) (hf:18446744073709551616≤fuel) (hj:j t=some (-1))
    (step:∀ (i:Nat) (x:α),i<xs.length→xs[i]? = some x→body i=if p x=true then some (.ret i) else some (.next (w64 (i+1)))) (last:body xs.length=some (.brk t)):
    ∃ r,((iter body fuel 0).bind fun o=>aft o j)=some r∧decide (r≥0)=xs.any p:=by
  rcases askLoop (g:=fun i=>i) hl hf step last with⟨h1,h2⟩ | ⟨h1,i,_,h2⟩
  · exact⟨-1,by rw [h2];exact hj,by rw [h1];decide⟩
  · exact⟨i,by rw [h2];rfl,by rw [h1];exact decide_eq_true (by omega)⟩
end Go.E
namespace Go.E

end Go.E


