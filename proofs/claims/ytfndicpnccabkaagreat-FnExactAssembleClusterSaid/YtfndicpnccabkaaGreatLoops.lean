/- The types of the data, as tables and as plain Lean types (written by program). Conditions: none. -/
import Derived.Test.YtfndicpnccabkaaGreatMapS
import Derived.Test.YtfndicpnccabkaaGreatProg
import Derived.KernelRfl
import Derived.Deep.Slices
import Derived.ChangeArms
import Derived.ProofKit
import Derived.OpenShut
import Derived.WideShapes
set_option linter.unusedVariables false
set_option linter.unusedSimpArgs false
namespace Go.E
open Go.RowKit Go.Proofs


variable {W:Base}{w:World}
theorem ax {W:Base}{w w':World}{Rs:List Res}{p:Addr}{cs:List Value}(hE:Ext W w)(hS:St w w' Rs)(h:At W p cs):At w' p cs:=At.ext (hE.trans hS.ext) h
abbrev EN (f:Nat):Prop:=Enters Tryz.prog f
theorem en {f:Nat}{g}{c}(h:Tryz.prog.funcs[f]? = some g)(hb:g.body=some c:=by exact rfl)(hn:(g.name == "runtime.NumGoroutine")=false:=by kernel_rfl):EN f:=⟨g,c,h,hb,hn⟩
theorem tR {P:Program}{F:Fr}{w:World}{t:Tmp}{v:Value}(h:F.get t=some v):ResAll P F w [.tmp t] [v]:=.cons (.tmp h) .nil
abbrev CL (f:Nat)(a:Array Value)(w:World)(Q:Ending→World→Prop):Prop:=Calls Tryz.prog f a w Q
abbrev iv (n:Int):Value:=.int .i64 n
abbrev RB (w:World)(r:Bool):=Ret fun v w8=>v=.bool r∧St w w8 []
abbrev RI (w:World)(r:Int):=Ret fun v w8=>v=.int .i64 r∧St w w8 []
theorem fL0:Flat (zd z2z (zd z2z (zd z2z z2W))):=(Flat.pair Flat.int (Flat.pair Flat.int (Flat.pair Flat.int Flat.unit)))
theorem fL1:Flat (zd z2z (zd zbY z2W)):=(Flat.pair Flat.int (Flat.pair Flat.bool Flat.unit))
theorem fL2:Flat (zd z2z (zd z2z z2W)):=(Flat.pair Flat.int (Flat.pair Flat.int Flat.unit))
def tt:TT:=[
 ⟨2,.int .i64,1,[iv 0],8⟩,
 ⟨3,.int .i64,1,[iv 0],8⟩,
 ⟨4,.bool,1,[.bool false],1⟩,
 ⟨5,.int .u8,1,[.int .u8 0],1⟩,
 ⟨9,.str,1,[.string ⟨#[]⟩],16⟩,
 ⟨22,.slice 141,1,[.slice none 0 0],24⟩,
 ⟨24,.struct [(0,1,false,2),(1,1,false,2),(2,1,false,2)],3,[iv 0,iv 0,iv 0],24⟩,
 ⟨26,.struct [(0,1,false,22),(1,3,true,24)],4,[.slice none 0 0,iv 0,iv 0,iv 0],48⟩,
 ⟨28,.slice 118,1,[.slice none 0 0],24⟩,
 ⟨30,.struct [(0,1,false,28)],1,[.slice none 0 0],24⟩,
 ⟨33,.slice 123,1,[.slice none 0 0],24⟩,
 ⟨34,.struct [(0,1,false,2),(1,1,false,2),(2,1,false,2)],3,[iv 0,iv 0,iv 0],24⟩,
 ⟨36,.struct [(0,1,false,33),(1,3,true,34)],4,[.slice none 0 0,iv 0,iv 0,iv 0],48⟩,
 ⟨43,.slice 178,1,[.slice none 0 0],24⟩,
 ⟨44,.slice 45,1,[.slice none 0 0],24⟩,
 ⟨45,.slice 2,1,[.slice none 0 0],24⟩,
 ⟨47,.struct [(0,4,true,26),(4,1,false,43),(5,1,false,44),(6,1,false,45),(7,1,false,45)],8,[.slice none 0 0,iv 0,iv 0,iv 0,.slice none 0 0,.slice none 0 0,.slice none 0 0,.slice none 0 0],144⟩,
 ⟨50,.slice 181,1,[.slice none 0 0],24⟩,
 ⟨52,.struct [(0,4,true,36),(4,1,false,50),(5,1,false,44),(6,1,false,45),(7,1,false,45)],8,[.slice none 0 0,iv 0,iv 0,iv 0,.slice none 0 0,.slice none 0 0,.slice none 0 0,.slice none 0 0],144⟩,
 ⟨57,.slice 196,1,[.slice none 0 0],24⟩,
 ⟨59,.struct [(0,1,false,57)],1,[.slice none 0 0],24⟩,
 ⟨72,.ptr 36,1,[.pointer none],8⟩,
 ⟨73,.ptr 143,1,[.pointer none],8⟩,
 ⟨81,.slice 126,1,[.slice none 0 0],24⟩,
 ⟨82,.slice 34,1,[.slice none 0 0],24⟩,
 ⟨86,.slice 169,1,[.slice none 0 0],24⟩,
 ⟨96,.ptr 52,1,[.pointer none],8⟩,
 ⟨107,.ptr 30,1,[.pointer none],8⟩,
 ⟨113,.ptr 115,1,[.pointer none],8⟩,
 ⟨115,.struct [(0,1,false,107),(1,1,false,45),(2,4,true,36),(6,1,false,82)],7,[.pointer none,.slice none 0 0,.slice none 0 0,iv 0,iv 0,iv 0,.slice none 0 0],104⟩,
 ⟨116,.slice 129,1,[.slice none 0 0],24⟩,
 ⟨118,.struct [(0,1,false,2),(1,1,false,2),(2,1,false,2),(3,1,false,45),(4,1,false,116)],5,[iv 0,iv 0,iv 0,.slice none 0 0,.slice none 0 0],72⟩,
 ⟨119,.ptr 123,1,[.pointer none],8⟩,
 ⟨120,.slice 154,1,[.slice none 0 0],24⟩,
 ⟨121,.slice 152,1,[.slice none 0 0],24⟩,
 ⟨123,.struct [(0,1,false,81),(1,1,false,120),(2,1,false,121)],3,[.slice none 0 0,.slice none 0 0,.slice none 0 0],72⟩,
 ⟨126,.struct [(0,1,false,2),(1,1,false,2),(2,1,false,2),(3,1,false,45),(4,1,false,82)],5,[iv 0,iv 0,iv 0,.slice none 0 0,.slice none 0 0],72⟩,
 ⟨129,.struct [(0,1,false,2),(1,1,false,2)],2,[iv 0,iv 0],16⟩,
 ⟨137,.slice 237,1,[.slice none 0 0],24⟩,
 ⟨138,.slice 270,1,[.slice none 0 0],24⟩,
 ⟨139,.slice 273,1,[.slice none 0 0],24⟩,
 ⟨141,.struct [(0,1,false,137),(1,1,false,138),(2,1,false,139)],3,[.slice none 0 0,.slice none 0 0,.slice none 0 0],72⟩,
 ⟨143,.struct [(0,1,false,28),(1,1,false,116),(2,1,false,44),(3,1,false,44),(4,1,false,44),(5,1,false,44)],6,[.slice none 0 0,.slice none 0 0,.slice none 0 0,.slice none 0 0,.slice none 0 0,.slice none 0 0],144⟩,
 ⟨145,.ptr 126,1,[.pointer none],8⟩,
 ⟨152,.struct [(0,3,true,34),(3,3,true,34)],6,[iv 0,iv 0,iv 0,iv 0,iv 0,iv 0],48⟩,
 ⟨154,.struct [(0,1,false,4),(1,1,false,4),(2,3,true,34)],5,[.bool false,.bool false,iv 0,iv 0,iv 0],32⟩,
 ⟨159,.other,1,[.map none],8⟩,
 ⟨161,.ptr 225,1,[.pointer none],8⟩,
 ⟨164,.struct [(0,3,true,34),(3,1,false,2),(4,1,false,4)],5,[iv 0,iv 0,iv 0,iv 0,.bool false],40⟩,
 ⟨169,.struct [(0,5,true,164),(5,5,true,164)],10,[iv 0,iv 0,iv 0,iv 0,.bool false,iv 0,iv 0,iv 0,iv 0,.bool false],80⟩,
 ⟨178,.slice 239,1,[.slice none 0 0],24⟩,
 ⟨181,.slice 189,1,[.slice none 0 0],24⟩,
 ⟨189,.struct [(0,1,false,2),(1,5,true,126),(6,3,true,34),(9,3,true,34)],12,[iv 0,iv 0,iv 0,iv 0,.slice none 0 0,.slice none 0 0,iv 0,iv 0,iv 0,iv 0,iv 0,iv 0],128⟩,
 ⟨194,.slice 299,1,[.slice none 0 0],24⟩,
 ⟨196,.struct [(0,1,false,2),(1,1,false,2),(2,1,false,2),(3,1,false,45),(4,1,false,194)],5,[iv 0,iv 0,iv 0,.slice none 0 0,.slice none 0 0],72⟩,
 ⟨198,.ptr 118,1,[.pointer none],8⟩,
 ⟨200,.slice 203,1,[.slice none 0 0],24⟩,
 ⟨203,.struct [(0,2,true,129),(2,2,true,129)],4,[iv 0,iv 0,iv 0,iv 0],32⟩,
 ⟨223,.other,1,[.map none],8⟩,
 ⟨225,.struct [(0,1,false,86),(1,1,false,223)],2,[.slice none 0 0,.map none],32⟩,
 ⟨226,.slice 3,1,[.slice none 0 0],24⟩,
 ⟨235,.slice 24,1,[.slice none 0 0],24⟩,
 ⟨237,.struct [(0,1,false,2),(1,1,false,2),(2,1,false,2),(3,1,false,45),(4,1,false,235)],5,[iv 0,iv 0,iv 0,.slice none 0 0,.slice none 0 0],72⟩,
 ⟨239,.struct [(0,1,false,2),(1,5,true,237),(6,3,true,24),(9,3,true,24)],12,[iv 0,iv 0,iv 0,iv 0,.slice none 0 0,.slice none 0 0,iv 0,iv 0,iv 0,iv 0,iv 0,iv 0],128⟩,
 ⟨242,.ptr 189,1,[.pointer none],8⟩,
 ⟨266,.slice 4,1,[.slice none 0 0],24⟩,
 ⟨270,.struct [(0,1,false,4),(1,1,false,4),(2,3,true,24)],5,[.bool false,.bool false,iv 0,iv 0,iv 0],32⟩,
 ⟨273,.struct [(0,3,true,24),(3,3,true,24)],6,[iv 0,iv 0,iv 0,iv 0,iv 0,iv 0],48⟩,
 ⟨275,.other,1,[.map none],8⟩,
 ⟨277,.other,1,[.map none],8⟩,
 ⟨280,.slice 283,1,[.slice none 0 0],24⟩,
 ⟨283,.struct [(0,1,false,45),(1,1,false,45),(2,1,false,2)],3,[.slice none 0 0,.slice none 0 0,iv 0],56⟩,
 ⟨299,.struct [(0,1,false,2),(1,1,false,2)],2,[iv 0,iv 0],16⟩,
 ⟨304,.slice 164,1,[.slice none 0 0],24⟩,
 ⟨306,.other,1,[.map none],8⟩,
 ⟨310,.int .u64,1,[.int .u64 0],8⟩,
 ⟨314,.int .i64,1,[iv 0],8⟩,
 ⟨322,.int .u32,1,[.int .u32 0],4⟩,
 ⟨324,.int .u64,1,[.int .u64 0],8⟩,
 ⟨330,.int .u64,1,[.int .u64 0],8⟩,
 ⟨334,.ptr 3,1,[.pointer none],8⟩,
 ⟨338,.ptr 330,1,[.pointer none],8⟩]

def zoC (P:Program):TT→Prop
 | []=>True
 | i::r=>(P.info? i.id).map (fun j=>j.zero.map (fun v=>v.cells.toList))=some (some i.zero)∧zoC P r

theorem zia {P:Program}:∀ {T:TT},zoC P T→∀ i,i∈T→(P.info? i.id).map (fun j=>j.zero.map (fun v=>v.cells.toList))=some (some i.zero)
 | [],_,i,h=>by cases h
 | _::_,⟨h1,h2⟩,i,h=>by
  rcases List.mem_cons.1 h with rfl | h
  ·exact h1
  ·exact zia h2 i h

theorem zxA:tt.all (zkE Tryz.prog)=true:=by kernel_rfl
theorem zvd:zoC Tryz.prog tt:=⟨by kernel_rfl,by kernel_rfl,by kernel_rfl,by kernel_rfl,by kernel_rfl,by kernel_rfl,by kernel_rfl,by kernel_rfl,by kernel_rfl,by kernel_rfl,by kernel_rfl,by kernel_rfl,by kernel_rfl,by kernel_rfl,by kernel_rfl,by kernel_rfl,by kernel_rfl,by kernel_rfl,by kernel_rfl,by kernel_rfl,by kernel_rfl,by kernel_rfl,by kernel_rfl,by kernel_rfl,by kernel_rfl,by kernel_rfl,by kernel_rfl,by kernel_rfl,by kernel_rfl,by kernel_rfl,by kernel_rfl,by kernel_rfl,by kernel_rfl,by kernel_rfl,by kernel_rfl,by kernel_rfl,by kernel_rfl,by kernel_rfl,by kernel_rfl,by kernel_rfl,by kernel_rfl,by kernel_rfl,by kernel_rfl,by kernel_rfl,by kernel_rfl,by kernel_rfl,by kernel_rfl,by kernel_rfl,by kernel_rfl,by kernel_rfl,by kernel_rfl,by kernel_rfl,by kernel_rfl,by kernel_rfl,by kernel_rfl,by kernel_rfl,by kernel_rfl,by kernel_rfl,by kernel_rfl,by kernel_rfl,by kernel_rfl,by kernel_rfl,by kernel_rfl,by kernel_rfl,by kernel_rfl,by kernel_rfl,by kernel_rfl,by kernel_rfl,by kernel_rfl,by kernel_rfl,by kernel_rfl,by kernel_rfl,by kernel_rfl,by kernel_rfl,by kernel_rfl,by kernel_rfl,by kernel_rfl,by kernel_rfl,by kernel_rfl,by kernel_rfl,by kernel_rfl,by kernel_rfl,trivial⟩
theorem ttok:TTok Tryz.prog tt:=⟨List.all_eq_true.1 zxA,zia zvd⟩
theorem mixed:Tryz.prog.follows .mixedOrders=true:=by kernel_rfl

structure Qb where
 Qj:Int
 Qi:Int
 Qo:Int
deriving Inhabited, DecidableEq

structure Qa where
 Qi:Int
 QC:Int
 Value:Int
 Data:(List Int)
 QM:(List Qb)
deriving Inhabited, DecidableEq

structure Qn where
 QZ:Bool
 Qa0:Bool
 QU:Qb
deriving Inhabited, DecidableEq

structure Qm where
 A:Qb
 B:Qb
deriving Inhabited, DecidableEq

structure Qp where
 Cells:(List Qa)
 QJ:(List Qn)
 Qs:(List Qm)
deriving Inhabited, DecidableEq

structure D.Qk where
 Qf:(List Qp)
 QO:Qb
deriving Inhabited, DecidableEq

structure Qx where
 Qe:Int
 Qa2:Int
deriving Inhabited, DecidableEq

structure D.Qe where
 Qi:Int
 QC:Int
 Value:Int
 Data:(List Int)
 Qy:(List Qx)
deriving Inhabited, DecidableEq

structure QV where
 QG:(List D.Qe)
deriving Inhabited, DecidableEq

structure Qh where
 Qi:Int
 Qz:Qa
 A:Qb
 B:Qb
deriving Inhabited, DecidableEq

structure Qv where
 Qk:D.Qk
 Qd:(List (List Qh))
 QL:(List (List Int))
 QY:(List Int)
 Got:(List Int)
deriving Inhabited, DecidableEq

structure QH where
 at_:Qb
 slot:Int
 own:Bool
deriving Inhabited, DecidableEq

structure D.Qc where
 a:QH
 b:QH
deriving Inhabited, DecidableEq

structure Qg where
 Qq:(List D.Qe)
 Qu:(List Qx)
 cells:(List (List Int))
 QK:(List (List Int))
 ends:(List (List Int))
 Qt:(List (List Int))
deriving Inhabited, DecidableEq

structure QX where
 QS:(List D.Qc)
 ends:(List (QH×(List Int)))
deriving Inhabited, DecidableEq

structure QB where
 QS:(List Int)
 code:(List Int)
 Qa1:Int
deriving Inhabited, DecidableEq

abbrev L9:=List Int
abbrev LA:=List D.Qe
abbrev LB:=List Qa
abbrev LC:=List D.Qc
abbrev LD:=List Qb
abbrev LE:=List Qh
abbrev LF:=List Qx
abbrev LG:=List Qp
abbrev LH:=List Qn
abbrev LJ:=List Bool
abbrev LK:=List Qm
abbrev LL:=List QB
abbrev LN:=List QH
abbrev LO:=List (List Int)
def ty45:Ty (List Int):=tSl 2 z2z
instance {W:Base}:Reads W ty45:=inferInstanceAs (Reads W (tSl 2 z2z))
theorem zL {w:World}{cs:List Value}{xs:(List Int)}(h:ty45.ro w cs xs):∃ A c,cs=[.slice A xs.length c]:=z9J h

def ty24:Ty Qb:=zb4 (fun c=>(c.Qj,c.Qi,c.Qo,())) (zd z2z (zd z2z (zd z2z z2W)))
instance {W:Base}:Reads W ty24:=inferInstanceAs (Reads W (zb4 (fun c:Qb=>(c.Qj,c.Qi,c.Qo,())) (zd z2z (zd z2z (zd z2z z2W)))))
theorem zb3 {w:World}{cs:List Value}{c:Qb}(h:ty24.ro w cs c):cs=[iv c.Qj,iv c.Qi,iv c.Qo]:=by
 obtain⟨c0,d0,rfl,h0,c1,d1,rfl,h1,c2,d2,rfl,h2,hz⟩:=h
 subst hz
 subst h0
 subst h1
 subst h2
 rfl
theorem zbV {w:World}(c:Qb)  :ty24.ro w [iv c.Qj,iv c.Qi,iv c.Qo] c:=
 ⟨_,_,rfl,rfl,⟨_,_,rfl,rfl,⟨_,_,rfl,rfl,rfl⟩⟩⟩
def zjN:Ty (List Qb):=tSl 24 ty24
instance {W:Base}:Reads W zjN:=inferInstanceAs (Reads W (tSl 24 ty24))
theorem zqG {w:World}{cs:List Value}{xs:(List Qb)}(h:zjN.ro w cs xs):∃ A c,cs=[.slice A xs.length c]:=z9J h

def zjM:Ty Qa:=zb4 (fun c=>(c.Qi,c.QC,c.Value,c.Data,c.QM,())) (zd z2z (zd z2z (zd z2z (zd ty45 (zd zjN z2W)))))
instance {W:Base}:Reads W zjM:=inferInstanceAs (Reads W (zb4 (fun c:Qa=>(c.Qi,c.QC,c.Value,c.Data,c.QM,())) (zd z2z (zd z2z (zd z2z (zd ty45 (zd zjN z2W)))))))
theorem zd7 {w:World}{cs:List Value}{c:Qa}(h:zjM.ro w cs c):∃ A0 k0 A1 k1,cs=[iv c.Qi,iv c.QC,iv c.Value,.slice A0 c.Data.length k0,.slice A1 c.QM.length k1]∧ty45.ro w [.slice A0 c.Data.length k0] c.Data∧zjN.ro w [.slice A1 c.QM.length k1] c.QM:=by
 obtain⟨c0,d0,rfl,h0,c1,d1,rfl,h1,c2,d2,rfl,h2,c3,d3,rfl,h3,c4,d4,rfl,h4,hz⟩:=h
 subst hz
 subst h0
 subst h1
 subst h2
 obtain⟨o,G,e3⟩:=zL h3
 subst e3
 obtain⟨q,H,e4⟩:=zqG h4
 subst e4
 exact⟨o,G,q,H,rfl,h3,h4⟩
theorem zkh {w:World}(c:Qa){A0:Option Addr}{k0:Nat}{A1:Option Addr}{k1:Nat}(h0:ty45.ro w [.slice A0 c.Data.length k0] c.Data)(h1:zjN.ro w [.slice A1 c.QM.length k1] c.QM):zjM.ro w [iv c.Qi,iv c.QC,iv c.Value,.slice A0 c.Data.length k0,.slice A1 c.QM.length k1] c:=
 ⟨_,_,rfl,rfl,⟨_,_,rfl,rfl,⟨_,_,rfl,rfl,⟨_,_,rfl,h0,⟨_,_,rfl,h1,rfl⟩⟩⟩⟩⟩
def zn1:Ty (List Qa):=tSl 237 zjM
instance {W:Base}:Reads W zn1:=inferInstanceAs (Reads W (tSl 237 zjM))
theorem zqP {w:World}{cs:List Value}{xs:(List Qa)}(h:zn1.ro w cs xs):∃ A c,cs=[.slice A xs.length c]:=z9J h

def zqF:Ty Qn:=zb4 (fun c=>(c.QZ,c.Qa0,c.QU,())) (zd zbY (zd zbY (zd ty24 z2W)))
instance {W:Base}:Reads W zqF:=inferInstanceAs (Reads W (zb4 (fun c:Qn=>(c.QZ,c.Qa0,c.QU,())) (zd zbY (zd zbY (zd ty24 z2W)))))
theorem zkg {w:World}{cs:List Value}{c:Qn}(h:zqF.ro w cs c):cs=[.bool c.QZ,.bool c.Qa0,iv c.QU.Qj,iv c.QU.Qi,iv c.QU.Qo]:=by
 obtain⟨c0,d0,rfl,h0,c1,d1,rfl,h1,c2,d2,rfl,h2,hz⟩:=h
 subst hz
 subst h0
 subst h1
 have e2:=zb3 h2
 subst e2
 rfl
def zn0:Ty (List Qn):=tSl 270 zqF
instance {W:Base}:Reads W zn0:=inferInstanceAs (Reads W (tSl 270 zqF))
theorem zqO {w:World}{cs:List Value}{xs:(List Qn)}(h:zn0.ro w cs xs):∃ A c,cs=[.slice A xs.length c]:=z9J h

def zqE:Ty Qm:=zb4 (fun c=>(c.A,c.B,())) (zd ty24 (zd ty24 z2W))
instance {W:Base}:Reads W zqE:=inferInstanceAs (Reads W (zb4 (fun c:Qm=>(c.A,c.B,())) (zd ty24 (zd ty24 z2W))))
theorem zkf {w:World}{cs:List Value}{c:Qm}(h:zqE.ro w cs c):cs=[iv c.A.Qj,iv c.A.Qi,iv c.A.Qo,iv c.B.Qj,iv c.B.Qi,iv c.B.Qo]:=by
 obtain⟨c0,d0,rfl,h0,c1,d1,rfl,h1,hz⟩:=h
 subst hz
 have e0:=zb3 h0
 subst e0
 have e1:=zb3 h1
 subst e1
 rfl
def zmZ:Ty (List Qm):=tSl 273 zqE
instance {W:Base}:Reads W zmZ:=inferInstanceAs (Reads W (tSl 273 zqE))
theorem zqN {w:World}{cs:List Value}{xs:(List Qm)}(h:zmZ.ro w cs xs):∃ A c,cs=[.slice A xs.length c]:=z9J h

def zoS:Ty Qp:=zb4 (fun c=>(c.Cells,c.QJ,c.Qs,())) (zd zn1 (zd zn0 (zd zmZ z2W)))
instance {W:Base}:Reads W zoS:=inferInstanceAs (Reads W (zb4 (fun c:Qp=>(c.Cells,c.QJ,c.Qs,())) (zd zn1 (zd zn0 (zd zmZ z2W)))))
theorem zeO {w:World}{cs:List Value}{c:Qp}(h:zoS.ro w cs c):∃ A0 k0 A1 k1 A2 k2,cs=[.slice A0 c.Cells.length k0,.slice A1 c.QJ.length k1,.slice A2 c.Qs.length k2]∧zn1.ro w [.slice A0 c.Cells.length k0] c.Cells∧zn0.ro w [.slice A1 c.QJ.length k1] c.QJ∧zmZ.ro w [.slice A2 c.Qs.length k2] c.Qs:=by
 obtain⟨c0,d0,rfl,h0,c1,d1,rfl,h1,c2,d2,rfl,h2,hz⟩:=h
 subst hz
 obtain⟨o,H,e0⟩:=zqP h0
 subst e0
 obtain⟨q,O,e1⟩:=zqO h1
 subst e1
 obtain⟨G,X,e2⟩:=zqN h2
 subst e2
 exact⟨o,H,q,O,G,X,rfl,h0,h1,h2⟩
def ty22:Ty (List Qp):=tSl 141 zoS
instance {W:Base}:Reads W ty22:=inferInstanceAs (Reads W (tSl 141 zoS))
theorem zrW {w:World}{cs:List Value}{xs:(List Qp)}(h:ty22.ro w cs xs):∃ A c,cs=[.slice A xs.length c]:=z9J h

def ty26:Ty D.Qk:=zb4 (fun c=>(c.Qf,c.QO,())) (zd ty22 (zd ty24 z2W))
instance {W:Base}:Reads W ty26:=inferInstanceAs (Reads W (zb4 (fun c:D.Qk=>(c.Qf,c.QO,())) (zd ty22 (zd ty24 z2W))))
theorem zif {w:World}{cs:List Value}{c:D.Qk}(h:ty26.ro w cs c):∃ A0 k0,cs=[.slice A0 c.Qf.length k0,iv c.QO.Qj,iv c.QO.Qi,iv c.QO.Qo]∧ty22.ro w [.slice A0 c.Qf.length k0] c.Qf:=by
 obtain⟨c0,d0,rfl,h0,c1,d1,rfl,h1,hz⟩:=h
 subst hz
 obtain⟨o,q,e0⟩:=zrW h0
 subst e0
 have e1:=zb3 h1
 subst e1
 exact⟨o,q,rfl,h0⟩
theorem zmV {w:World}(c:D.Qk){A0:Option Addr}{k0:Nat}(h0:ty22.ro w [.slice A0 c.Qf.length k0] c.Qf):ty26.ro w [.slice A0 c.Qf.length k0,iv c.QO.Qj,iv c.QO.Qi,iv c.QO.Qo] c:=
 ⟨_,_,rfl,h0,⟨_,_,rfl,(zbV c.QO ),rfl⟩⟩
def zbX:Ty Qx:=zb4 (fun c=>(c.Qe,c.Qa2,())) (zd z2z (zd z2z z2W))
instance {W:Base}:Reads W zbX:=inferInstanceAs (Reads W (zb4 (fun c:Qx=>(c.Qe,c.Qa2,())) (zd z2z (zd z2z z2W))))
theorem z3e {w:World}{cs:List Value}{c:Qx}(h:zbX.ro w cs c):cs=[iv c.Qe,iv c.Qa2]:=by
 obtain⟨c0,d0,rfl,h0,c1,d1,rfl,h1,hz⟩:=h
 subst hz
 subst h0
 subst h1
 rfl
theorem zn2 {w:World}{cs:List Value}{c:Qx}{G:List Nat}(h:zbX.own w cs c G):cs=[iv c.Qe,iv c.Qa2]∧(All []).A w G:=by
 obtain⟨c0,d0,H0,K0,rfl,rfl,h0,c1,d1,H1,K1,rfl,rfl,h1,hz,hk⟩:=h
 subst hz;subst hk
 obtain⟨e0,k0⟩:=h0;subst e0;subst k0
 obtain⟨e1,k1⟩:=h1;subst e1;subst k1
 refine⟨rfl,?_⟩
 show(All _).A w _
 exact cast (congrArg _ (by simp)) (show(All _).A w ([]) from rfl)
theorem z8Z {w:World}{c:Qx}  {G:List Nat}(h:(All []).A w G):zbX.own w [iv c.Qe,iv c.Qa2] c G:=by
 have hz:G=[]:=h
 subst hz
 exact cast (congrArg _ (by simp)) (show zbX.own w [iv c.Qe,iv c.Qa2] c (_) from⟨_,_,_,_,rfl,rfl,⟨rfl,rfl⟩,⟨_,_,_,_,rfl,rfl,⟨rfl,rfl⟩,⟨rfl,rfl⟩⟩⟩)
theorem zfk {B:List Res}{cs:List Value}{c:Qx}(h:St W w (Own zbX cs c::B)):cs=[iv c.Qe,iv c.Qa2]∧St W w ([]++B):=by
 obtain⟨G,hA,_⟩:=h.sep.head
 obtain⟨rfl,_⟩:=zn2 hA
 refine⟨rfl,St.splitAll (h.conv fun G hG=>?_)⟩
 exact(zn2 hG).2
theorem zbW {B:List Res}{c:Qx}  (h:St W w ([]++B)):St W w (Own zbX [iv c.Qe,iv c.Qa2] c::B):=(St.fuseAll h).conv fun _ hG=>z8Z hG

def z13:Ty (List Qx):=tSl 129 zbX
instance {W:Base}:Reads W z13:=inferInstanceAs (Reads W (tSl 129 zbX))
theorem zkq {w:World}{cs:List Value}{xs:(List Qx)}(h:z13.ro w cs xs):∃ A c,cs=[.slice A xs.length c]:=z9J h

def z8n:Ty D.Qe:=zb4 (fun c=>(c.Qi,c.QC,c.Value,c.Data,c.Qy,())) (zd z2z (zd z2z (zd z2z (zd ty45 (zd z13 z2W)))))
instance {W:Base}:Reads W z8n:=inferInstanceAs (Reads W (zb4 (fun c:D.Qe=>(c.Qi,c.QC,c.Value,c.Data,c.Qy,())) (zd z2z (zd z2z (zd z2z (zd ty45 (zd z13 z2W)))))))
theorem z1m {w:World}{cs:List Value}{c:D.Qe}(h:z8n.ro w cs c):∃ A0 k0 A1 k1,cs=[iv c.Qi,iv c.QC,iv c.Value,.slice A0 c.Data.length k0,.slice A1 c.Qy.length k1]∧ty45.ro w [.slice A0 c.Data.length k0] c.Data∧z13.ro w [.slice A1 c.Qy.length k1] c.Qy:=by
 obtain⟨c0,d0,rfl,h0,c1,d1,rfl,h1,c2,d2,rfl,h2,c3,d3,rfl,h3,c4,d4,rfl,h4,hz⟩:=h
 subst hz
 subst h0
 subst h1
 subst h2
 obtain⟨o,G,e3⟩:=zL h3
 subst e3
 obtain⟨q,H,e4⟩:=zkq h4
 subst e4
 exact⟨o,G,q,H,rfl,h3,h4⟩
theorem zkp {w:World}(c:D.Qe){A0:Option Addr}{k0:Nat}{A1:Option Addr}{k1:Nat}(h0:ty45.ro w [.slice A0 c.Data.length k0] c.Data)(h1:z13.ro w [.slice A1 c.Qy.length k1] c.Qy):z8n.ro w [iv c.Qi,iv c.QC,iv c.Value,.slice A0 c.Data.length k0,.slice A1 c.Qy.length k1] c:=
 ⟨_,_,rfl,rfl,⟨_,_,rfl,rfl,⟨_,_,rfl,rfl,⟨_,_,rfl,h0,⟨_,_,rfl,h1,rfl⟩⟩⟩⟩⟩
theorem zn5 {w:World}{cs:List Value}{c:D.Qe}{G:List Nat}(h:z8n.own w cs c G):∃ A0 k0 A1 k1,cs=[iv c.Qi,iv c.QC,iv c.Value,.slice A0 c.Data.length k0,.slice A1 c.Qy.length k1]∧(All [Own ty45 [.slice A0 c.Data.length k0] c.Data,Own z13 [.slice A1 c.Qy.length k1] c.Qy]).A w G:=by
 obtain⟨c0,d0,H0,K0,rfl,rfl,h0,c1,d1,H1,K1,rfl,rfl,h1,c2,d2,H2,K2,rfl,rfl,h2,c3,d3,H3,K3,rfl,rfl,h3,c4,d4,H4,K4,rfl,rfl,h4,hz,hk⟩:=h
 subst hz;subst hk
 obtain⟨e0,k0⟩:=h0;subst e0;subst k0
 obtain⟨e1,k1⟩:=h1;subst e1;subst k1
 obtain⟨e2,k2⟩:=h2;subst e2;subst k2
 obtain⟨o,H,e3⟩:=zc1 h3
 subst e3
 obtain⟨q,O,e4⟩:=zc1 h4
 subst e4
 refine⟨o,H,q,O,rfl,?_⟩
 show(All _).A w _
 exact cast (congrArg _ (by simp)) (show(All _).A w (H3++(H4++([]))) from⟨_,_,rfl,h3,⟨_,_,rfl,h4,rfl⟩⟩)
theorem zqT {w:World}{c:D.Qe}{A0:Option Addr}{k0:Nat}{A1:Option Addr}{k1:Nat}{G:List Nat}(h:(All [Own ty45 [.slice A0 c.Data.length k0] c.Data,Own z13 [.slice A1 c.Qy.length k1] c.Qy]).A w G):z8n.own w [iv c.Qi,iv c.QC,iv c.Value,.slice A0 c.Data.length k0,.slice A1 c.Qy.length k1] c G:=by
 obtain⟨G0,R0,rfl,h0,G1,R1,rfl,h1,hz⟩:=h
 have o:R1=[]:=hz
 subst o
 exact cast (congrArg _ (by simp)) (show z8n.own w [iv c.Qi,iv c.QC,iv c.Value,.slice A0 c.Data.length k0,.slice A1 c.Qy.length k1] c (_) from⟨_,_,_,_,rfl,rfl,⟨rfl,rfl⟩,⟨_,_,_,_,rfl,rfl,⟨rfl,rfl⟩,⟨_,_,_,_,rfl,rfl,⟨rfl,rfl⟩,⟨_,_,_,_,rfl,rfl,h0,⟨_,_,_,_,rfl,rfl,h1,⟨rfl,rfl⟩⟩⟩⟩⟩⟩)
theorem zfm {B:List Res}{cs:List Value}{c:D.Qe}(h:St W w (Own z8n cs c::B)):∃ A0 k0 A1 k1,cs=[iv c.Qi,iv c.QC,iv c.Value,.slice A0 c.Data.length k0,.slice A1 c.Qy.length k1]∧St W w ([Own ty45 [.slice A0 c.Data.length k0] c.Data,Own z13 [.slice A1 c.Qy.length k1] c.Qy]++B):=by
 obtain⟨G,hA,_⟩:=h.sep.head
 obtain⟨A0,k0,A1,k1,rfl,_⟩:=zn5 hA
 refine⟨A0,k0,A1,k1,rfl,St.splitAll (h.conv fun G hG=>?_)⟩
 obtain⟨X0,Y0,X1,Y1,he,hh⟩:=zn5 hG
 simp only[List.cons.injEq,Value.slice.injEq,and_true,true_and] at he
 obtain⟨⟨rfl,rfl⟩,⟨rfl,rfl⟩⟩:=he
 exact hh
theorem z7i {B:List Res}{c:D.Qe}{A0:Option Addr}{k0:Nat}{A1:Option Addr}{k1:Nat}(h:St W w ([Own ty45 [.slice A0 c.Data.length k0] c.Data,Own z13 [.slice A1 c.Qy.length k1] c.Qy]++B)):St W w (Own z8n [iv c.Qi,iv c.QC,iv c.Value,.slice A0 c.Data.length k0,.slice A1 c.Qy.length k1] c::B):=(St.fuseAll h).conv fun _ hG=>zqT hG

def ty28:Ty (List D.Qe):=tSl 118 z8n
instance {W:Base}:Reads W ty28:=inferInstanceAs (Reads W (tSl 118 z8n))
theorem zmT {w:World}{cs:List Value}{xs:(List D.Qe)}(h:ty28.ro w cs xs):∃ A c,cs=[.slice A xs.length c]:=z9J h

def ty30:Ty QV:=zb4 (fun c=>(c.QG,())) (zd ty28 z2W)
instance {W:Base}:Reads W ty30:=inferInstanceAs (Reads W (zb4 (fun c:QV=>(c.QG,())) (zd ty28 z2W)))
theorem z48 {w:World}{cs:List Value}{c:QV}(h:ty30.ro w cs c):∃ A0 k0,cs=[.slice A0 c.QG.length k0]∧ty28.ro w [.slice A0 c.QG.length k0] c.QG:=by
 obtain⟨c0,d0,rfl,h0,hz⟩:=h
 subst hz
 obtain⟨o,q,e0⟩:=zmT h0
 subst e0
 exact⟨o,q,rfl,h0⟩
theorem z9b {w:World}(c:QV){A0:Option Addr}{k0:Nat}(h0:ty28.ro w [.slice A0 c.QG.length k0] c.QG):ty30.ro w [.slice A0 c.QG.length k0] c:=
 ⟨_,_,rfl,h0,rfl⟩
def ty34:Ty Qb:=zb4 (fun c=>(c.Qj,c.Qi,c.Qo,())) (zd z2z (zd z2z (zd z2z z2W)))
instance {W:Base}:Reads W ty34:=inferInstanceAs (Reads W (zb4 (fun c:Qb=>(c.Qj,c.Qi,c.Qo,())) (zd z2z (zd z2z (zd z2z z2W)))))
theorem z1f {w:World}{cs:List Value}{c:Qb}(h:ty34.ro w cs c):cs=[iv c.Qj,iv c.Qi,iv c.Qo]:=by
 obtain⟨c0,d0,rfl,h0,c1,d1,rfl,h1,c2,d2,rfl,h2,hz⟩:=h
 subst hz
 subst h0
 subst h1
 subst h2
 rfl
theorem zM {w:World}(c:Qb)  :ty34.ro w [iv c.Qj,iv c.Qi,iv c.Qo] c:=
 ⟨_,_,rfl,rfl,⟨_,_,rfl,rfl,⟨_,_,rfl,rfl,rfl⟩⟩⟩
theorem zdz {w:World}{cs:List Value}{c:Qb}{G:List Nat}(h:ty34.own w cs c G):cs=[iv c.Qj,iv c.Qi,iv c.Qo]∧(All []).A w G:=by
 obtain⟨c0,d0,H0,K0,rfl,rfl,h0,c1,d1,H1,K1,rfl,rfl,h1,c2,d2,H2,K2,rfl,rfl,h2,hz,hk⟩:=h
 subst hz;subst hk
 obtain⟨e0,k0⟩:=h0;subst e0;subst k0
 obtain⟨e1,k1⟩:=h1;subst e1;subst k1
 obtain⟨e2,k2⟩:=h2;subst e2;subst k2
 refine⟨rfl,?_⟩
 show(All _).A w _
 exact cast (congrArg _ (by simp)) (show(All _).A w ([]) from rfl)
theorem z8q {w:World}{c:Qb}  {G:List Nat}(h:(All []).A w G):ty34.own w [iv c.Qj,iv c.Qi,iv c.Qo] c G:=by
 have hz:G=[]:=h
 subst hz
 exact cast (congrArg _ (by simp)) (show ty34.own w [iv c.Qj,iv c.Qi,iv c.Qo] c (_) from⟨_,_,_,_,rfl,rfl,⟨rfl,rfl⟩,⟨_,_,_,_,rfl,rfl,⟨rfl,rfl⟩,⟨_,_,_,_,rfl,rfl,⟨rfl,rfl⟩,⟨rfl,rfl⟩⟩⟩⟩)
theorem zqB {B:List Res}{cs:List Value}{c:Qb}(h:St W w (Own ty34 cs c::B)):cs=[iv c.Qj,iv c.Qi,iv c.Qo]∧St W w ([]++B):=by
 obtain⟨G,hA,_⟩:=h.sep.head
 obtain⟨rfl,_⟩:=zdz hA
 refine⟨rfl,St.splitAll (h.conv fun G hG=>?_)⟩
 exact(zdz hG).2
theorem zkd {B:List Res}{c:Qb}  (h:St W w ([]++B)):St W w (Own ty34 [iv c.Qj,iv c.Qi,iv c.Qo] c::B):=(St.fuseAll h).conv fun _ hG=>z8q hG

def ty82:Ty (List Qb):=tSl 34 ty34
instance {W:Base}:Reads W ty82:=inferInstanceAs (Reads W (tSl 34 ty34))
theorem zrQ {w:World}{cs:List Value}{xs:(List Qb)}(h:ty82.ro w cs xs):∃ A c,cs=[.slice A xs.length c]:=z9J h

def z90:Ty Qa:=zb4 (fun c=>(c.Qi,c.QC,c.Value,c.Data,c.QM,())) (zd z2z (zd z2z (zd z2z (zd ty45 (zd ty82 z2W)))))
instance {W:Base}:Reads W z90:=inferInstanceAs (Reads W (zb4 (fun c:Qa=>(c.Qi,c.QC,c.Value,c.Data,c.QM,())) (zd z2z (zd z2z (zd z2z (zd ty45 (zd ty82 z2W)))))))
theorem zO {w:World}{cs:List Value}{c:Qa}(h:z90.ro w cs c):∃ A0 k0 A1 k1,cs=[iv c.Qi,iv c.QC,iv c.Value,.slice A0 c.Data.length k0,.slice A1 c.QM.length k1]∧ty45.ro w [.slice A0 c.Data.length k0] c.Data∧ty82.ro w [.slice A1 c.QM.length k1] c.QM:=by
 obtain⟨c0,d0,rfl,h0,c1,d1,rfl,h1,c2,d2,rfl,h2,c3,d3,rfl,h3,c4,d4,rfl,h4,hz⟩:=h
 subst hz
 subst h0
 subst h1
 subst h2
 obtain⟨o,G,e3⟩:=zL h3
 subst e3
 obtain⟨q,H,e4⟩:=zrQ h4
 subst e4
 exact⟨o,G,q,H,rfl,h3,h4⟩
theorem z6y {w:World}(c:Qa){A0:Option Addr}{k0:Nat}{A1:Option Addr}{k1:Nat}(h0:ty45.ro w [.slice A0 c.Data.length k0] c.Data)(h1:ty82.ro w [.slice A1 c.QM.length k1] c.QM):z90.ro w [iv c.Qi,iv c.QC,iv c.Value,.slice A0 c.Data.length k0,.slice A1 c.QM.length k1] c:=
 ⟨_,_,rfl,rfl,⟨_,_,rfl,rfl,⟨_,_,rfl,rfl,⟨_,_,rfl,h0,⟨_,_,rfl,h1,rfl⟩⟩⟩⟩⟩
theorem zik {w:World}{cs:List Value}{c:Qa}{G:List Nat}(h:z90.own w cs c G):∃ A0 k0 A1 k1,cs=[iv c.Qi,iv c.QC,iv c.Value,.slice A0 c.Data.length k0,.slice A1 c.QM.length k1]∧(All [Own ty45 [.slice A0 c.Data.length k0] c.Data,Own ty82 [.slice A1 c.QM.length k1] c.QM]).A w G:=by
 obtain⟨c0,d0,H0,K0,rfl,rfl,h0,c1,d1,H1,K1,rfl,rfl,h1,c2,d2,H2,K2,rfl,rfl,h2,c3,d3,H3,K3,rfl,rfl,h3,c4,d4,H4,K4,rfl,rfl,h4,hz,hk⟩:=h
 subst hz;subst hk
 obtain⟨e0,k0⟩:=h0;subst e0;subst k0
 obtain⟨e1,k1⟩:=h1;subst e1;subst k1
 obtain⟨e2,k2⟩:=h2;subst e2;subst k2
 obtain⟨o,H,e3⟩:=zc1 h3
 subst e3
 obtain⟨q,O,e4⟩:=zc1 h4
 subst e4
 refine⟨o,H,q,O,rfl,?_⟩
 show(All _).A w _
 exact cast (congrArg _ (by simp)) (show(All _).A w (H3++(H4++([]))) from⟨_,_,rfl,h3,⟨_,_,rfl,h4,rfl⟩⟩)
theorem zgw {w:World}{c:Qa}{A0:Option Addr}{k0:Nat}{A1:Option Addr}{k1:Nat}{G:List Nat}(h:(All [Own ty45 [.slice A0 c.Data.length k0] c.Data,Own ty82 [.slice A1 c.QM.length k1] c.QM]).A w G):z90.own w [iv c.Qi,iv c.QC,iv c.Value,.slice A0 c.Data.length k0,.slice A1 c.QM.length k1] c G:=by
 obtain⟨G0,R0,rfl,h0,G1,R1,rfl,h1,hz⟩:=h
 have o:R1=[]:=hz
 subst o
 exact cast (congrArg _ (by simp)) (show z90.own w [iv c.Qi,iv c.QC,iv c.Value,.slice A0 c.Data.length k0,.slice A1 c.QM.length k1] c (_) from⟨_,_,_,_,rfl,rfl,⟨rfl,rfl⟩,⟨_,_,_,_,rfl,rfl,⟨rfl,rfl⟩,⟨_,_,_,_,rfl,rfl,⟨rfl,rfl⟩,⟨_,_,_,_,rfl,rfl,h0,⟨_,_,_,_,rfl,rfl,h1,⟨rfl,rfl⟩⟩⟩⟩⟩⟩)
theorem zoT {B:List Res}{cs:List Value}{c:Qa}(h:St W w (Own z90 cs c::B)):∃ A0 k0 A1 k1,cs=[iv c.Qi,iv c.QC,iv c.Value,.slice A0 c.Data.length k0,.slice A1 c.QM.length k1]∧St W w ([Own ty45 [.slice A0 c.Data.length k0] c.Data,Own ty82 [.slice A1 c.QM.length k1] c.QM]++B):=by
 obtain⟨G,hA,_⟩:=h.sep.head
 obtain⟨A0,k0,A1,k1,rfl,_⟩:=zik hA
 refine⟨A0,k0,A1,k1,rfl,St.splitAll (h.conv fun G hG=>?_)⟩
 obtain⟨X0,Y0,X1,Y1,he,hh⟩:=zik hG
 simp only[List.cons.injEq,Value.slice.injEq,and_true,true_and] at he
 obtain⟨⟨rfl,rfl⟩,⟨rfl,rfl⟩⟩:=he
 exact hh
theorem zij {B:List Res}{c:Qa}{A0:Option Addr}{k0:Nat}{A1:Option Addr}{k1:Nat}(h:St W w ([Own ty45 [.slice A0 c.Data.length k0] c.Data,Own ty82 [.slice A1 c.QM.length k1] c.QM]++B)):St W w (Own z90 [iv c.Qi,iv c.QC,iv c.Value,.slice A0 c.Data.length k0,.slice A1 c.QM.length k1] c::B):=(St.fuseAll h).conv fun _ hG=>zgw hG

def ty81:Ty (List Qa):=tSl 126 z90
instance {W:Base}:Reads W ty81:=inferInstanceAs (Reads W (tSl 126 z90))
theorem zrR {w:World}{cs:List Value}{xs:(List Qa)}(h:ty81.ro w cs xs):∃ A c,cs=[.slice A xs.length c]:=z9J h

def ze7:Ty Qn:=zb4 (fun c=>(c.QZ,c.Qa0,c.QU,())) (zd zbY (zd zbY (zd ty34 z2W)))
instance {W:Base}:Reads W ze7:=inferInstanceAs (Reads W (zb4 (fun c:Qn=>(c.QZ,c.Qa0,c.QU,())) (zd zbY (zd zbY (zd ty34 z2W)))))
theorem z3d {w:World}{cs:List Value}{c:Qn}(h:ze7.ro w cs c):cs=[.bool c.QZ,.bool c.Qa0,iv c.QU.Qj,iv c.QU.Qi,iv c.QU.Qo]:=by
 obtain⟨c0,d0,rfl,h0,c1,d1,rfl,h1,c2,d2,rfl,h2,hz⟩:=h
 subst hz
 subst h0
 subst h1
 have e2:=z1f h2
 subst e2
 rfl
theorem zmX {w:World}{cs:List Value}{c:Qn}{G:List Nat}(h:ze7.own w cs c G):cs=[.bool c.QZ,.bool c.Qa0,iv c.QU.Qj,iv c.QU.Qi,iv c.QU.Qo]∧(All []).A w G:=by
 obtain⟨c0,d0,H0,K0,rfl,rfl,h0,c1,d1,H1,K1,rfl,rfl,h1,c2,d2,H2,K2,rfl,rfl,h2,hz,hk⟩:=h
 subst hz;subst hk
 obtain⟨e0,k0⟩:=h0;subst e0;subst k0
 obtain⟨e1,k1⟩:=h1;subst e1;subst k1
 obtain⟨e2,g2⟩:=zdz h2
 subst e2
 refine⟨rfl,?_⟩
 exact cast (congrArg _ (by simp)) g2
theorem zkk {w:World}{c:Qn}  {G:List Nat}(h:(All []).A w G):ze7.own w [.bool c.QZ,.bool c.Qa0,iv c.QU.Qj,iv c.QU.Qi,iv c.QU.Qo] c G:=by
 have hz:G=[]:=h
 subst hz
 exact cast (congrArg _ (by simp)) (show ze7.own w [.bool c.QZ,.bool c.Qa0,iv c.QU.Qj,iv c.QU.Qi,iv c.QU.Qo] c (_) from⟨_,_,_,_,rfl,rfl,⟨rfl,rfl⟩,⟨_,_,_,_,rfl,rfl,⟨rfl,rfl⟩,⟨_,_,_,_,rfl,rfl,(z8q (c:=c.QU) rfl),⟨rfl,rfl⟩⟩⟩⟩)
theorem zoQ {B:List Res}{cs:List Value}{c:Qn}(h:St W w (Own ze7 cs c::B)):cs=[.bool c.QZ,.bool c.Qa0,iv c.QU.Qj,iv c.QU.Qi,iv c.QU.Qo]∧St W w ([]++B):=by
 obtain⟨G,hA,_⟩:=h.sep.head
 obtain⟨rfl,_⟩:=zmX hA
 refine⟨rfl,St.splitAll (h.conv fun G hG=>?_)⟩
 exact(zmX hG).2
theorem zih {B:List Res}{c:Qn}  (h:St W w ([]++B)):St W w (Own ze7 [.bool c.QZ,.bool c.Qa0,iv c.QU.Qj,iv c.QU.Qi,iv c.QU.Qo] c::B):=(St.fuseAll h).conv fun _ hG=>zkk hG

def zcu:Ty (List Qn):=tSl 154 ze7
instance {W:Base}:Reads W zcu:=inferInstanceAs (Reads W (tSl 154 ze7))
theorem zqS {w:World}{cs:List Value}{xs:(List Qn)}(h:zcu.ro w cs xs):∃ A c,cs=[.slice A xs.length c]:=z9J h

def zgv:Ty Qm:=zb4 (fun c=>(c.A,c.B,())) (zd ty34 (zd ty34 z2W))
instance {W:Base}:Reads W zgv:=inferInstanceAs (Reads W (zb4 (fun c:Qm=>(c.A,c.B,())) (zd ty34 (zd ty34 z2W))))
theorem zaS {w:World}{cs:List Value}{c:Qm}(h:zgv.ro w cs c):cs=[iv c.A.Qj,iv c.A.Qi,iv c.A.Qo,iv c.B.Qj,iv c.B.Qi,iv c.B.Qo]:=by
 obtain⟨c0,d0,rfl,h0,c1,d1,rfl,h1,hz⟩:=h
 subst hz
 have e0:=z1f h0
 subst e0
 have e1:=z1f h1
 subst e1
 rfl
theorem zmY {w:World}{cs:List Value}{c:Qm}{G:List Nat}(h:zgv.own w cs c G):cs=[iv c.A.Qj,iv c.A.Qi,iv c.A.Qo,iv c.B.Qj,iv c.B.Qi,iv c.B.Qo]∧(All []).A w G:=by
 obtain⟨c0,d0,H0,K0,rfl,rfl,h0,c1,d1,H1,K1,rfl,rfl,h1,hz,hk⟩:=h
 subst hz;subst hk
 obtain⟨e0,g0⟩:=zdz h0
 subst e0
 obtain⟨e1,g1⟩:=zdz h1
 subst e1
 refine⟨rfl,?_⟩
 exact cast (congrArg _ (by simp)) (zqx g0 g1)
theorem zkm {w:World}{c:Qm}  {G:List Nat}(h:(All []).A w G):zgv.own w [iv c.A.Qj,iv c.A.Qi,iv c.A.Qo,iv c.B.Qj,iv c.B.Qi,iv c.B.Qo] c G:=by
 have hz:G=[]:=h
 subst hz
 exact cast (congrArg _ (by simp)) (show zgv.own w [iv c.A.Qj,iv c.A.Qi,iv c.A.Qo,iv c.B.Qj,iv c.B.Qi,iv c.B.Qo] c (_) from⟨_,_,_,_,rfl,rfl,(z8q (c:=c.A) rfl),⟨_,_,_,_,rfl,rfl,(z8q (c:=c.B) rfl),⟨rfl,rfl⟩⟩⟩)
theorem zoR {B:List Res}{cs:List Value}{c:Qm}(h:St W w (Own zgv cs c::B)):cs=[iv c.A.Qj,iv c.A.Qi,iv c.A.Qo,iv c.B.Qj,iv c.B.Qi,iv c.B.Qo]∧St W w ([]++B):=by
 obtain⟨G,hA,_⟩:=h.sep.head
 obtain⟨rfl,_⟩:=zmY hA
 refine⟨rfl,St.splitAll (h.conv fun G hG=>?_)⟩
 exact(zmY hG).2
theorem zii {B:List Res}{c:Qm}  (h:St W w ([]++B)):St W w (Own zgv [iv c.A.Qj,iv c.A.Qi,iv c.A.Qo,iv c.B.Qj,iv c.B.Qi,iv c.B.Qo] c::B):=(St.fuseAll h).conv fun _ hG=>zkm hG

def zd9:Ty (List Qm):=tSl 152 zgv
instance {W:Base}:Reads W zd9:=inferInstanceAs (Reads W (tSl 152 zgv))
theorem zqR {w:World}{cs:List Value}{xs:(List Qm)}(h:zd9.ro w cs xs):∃ A c,cs=[.slice A xs.length c]:=z9J h

def zed:Ty Qp:=zb4 (fun c=>(c.Cells,c.QJ,c.Qs,())) (zd ty81 (zd zcu (zd zd9 z2W)))
instance {W:Base}:Reads W zed:=inferInstanceAs (Reads W (zb4 (fun c:Qp=>(c.Cells,c.QJ,c.Qs,())) (zd ty81 (zd zcu (zd zd9 z2W)))))
theorem z1J {w:World}{cs:List Value}{c:Qp}(h:zed.ro w cs c):∃ A0 k0 A1 k1 A2 k2,cs=[.slice A0 c.Cells.length k0,.slice A1 c.QJ.length k1,.slice A2 c.Qs.length k2]∧ty81.ro w [.slice A0 c.Cells.length k0] c.Cells∧zcu.ro w [.slice A1 c.QJ.length k1] c.QJ∧zd9.ro w [.slice A2 c.Qs.length k2] c.Qs:=by
 obtain⟨c0,d0,rfl,h0,c1,d1,rfl,h1,c2,d2,rfl,h2,hz⟩:=h
 subst hz
 obtain⟨o,H,e0⟩:=zrR h0
 subst e0
 obtain⟨q,O,e1⟩:=zqS h1
 subst e1
 obtain⟨G,X,e2⟩:=zqR h2
 subst e2
 exact⟨o,H,q,O,G,X,rfl,h0,h1,h2⟩
theorem zn4 {w:World}{cs:List Value}{c:Qp}{G:List Nat}(h:zed.own w cs c G):∃ A0 k0 A1 k1 A2 k2,cs=[.slice A0 c.Cells.length k0,.slice A1 c.QJ.length k1,.slice A2 c.Qs.length k2]∧(All [Own ty81 [.slice A0 c.Cells.length k0] c.Cells,Own zcu [.slice A1 c.QJ.length k1] c.QJ,Own zd9 [.slice A2 c.Qs.length k2] c.Qs]).A w G:=by
 obtain⟨c0,d0,H0,K0,rfl,rfl,h0,c1,d1,H1,K1,rfl,rfl,h1,c2,d2,H2,K2,rfl,rfl,h2,hz,hk⟩:=h
 subst hz;subst hk
 obtain⟨o,O,e0⟩:=zc1 h0
 subst e0
 obtain⟨q,X,e1⟩:=zc1 h1
 subst e1
 obtain⟨H,Y,e2⟩:=zc1 h2
 subst e2
 refine⟨o,O,q,X,H,Y,rfl,?_⟩
 show(All _).A w _
 exact cast (congrArg _ (by simp)) (show(All _).A w (H0++(H1++(H2++([])))) from⟨_,_,rfl,h0,⟨_,_,rfl,h1,⟨_,_,rfl,h2,rfl⟩⟩⟩)
theorem zko {w:World}{c:Qp}{A0:Option Addr}{k0:Nat}{A1:Option Addr}{k1:Nat}{A2:Option Addr}{k2:Nat}{G:List Nat}(h:(All [Own ty81 [.slice A0 c.Cells.length k0] c.Cells,Own zcu [.slice A1 c.QJ.length k1] c.QJ,Own zd9 [.slice A2 c.Qs.length k2] c.Qs]).A w G):zed.own w [.slice A0 c.Cells.length k0,.slice A1 c.QJ.length k1,.slice A2 c.Qs.length k2] c G:=by
 obtain⟨G0,R0,rfl,h0,G1,R1,rfl,h1,G2,R2,rfl,h2,hz⟩:=h
 have o:R2=[]:=hz
 subst o
 exact cast (congrArg _ (by simp)) (show zed.own w [.slice A0 c.Cells.length k0,.slice A1 c.QJ.length k1,.slice A2 c.Qs.length k2] c (_) from⟨_,_,_,_,rfl,rfl,h0,⟨_,_,_,_,rfl,rfl,h1,⟨_,_,_,_,rfl,rfl,h2,⟨rfl,rfl⟩⟩⟩⟩)
theorem zoU {B:List Res}{cs:List Value}{c:Qp}(h:St W w (Own zed cs c::B)):∃ A0 k0 A1 k1 A2 k2,cs=[.slice A0 c.Cells.length k0,.slice A1 c.QJ.length k1,.slice A2 c.Qs.length k2]∧St W w ([Own ty81 [.slice A0 c.Cells.length k0] c.Cells,Own zcu [.slice A1 c.QJ.length k1] c.QJ,Own zd9 [.slice A2 c.Qs.length k2] c.Qs]++B):=by
 obtain⟨G,hA,_⟩:=h.sep.head
 obtain⟨A0,k0,A1,k1,A2,k2,rfl,_⟩:=zn4 hA
 refine⟨A0,k0,A1,k1,A2,k2,rfl,St.splitAll (h.conv fun G hG=>?_)⟩
 obtain⟨X0,Y0,X1,Y1,X2,Y2,he,hh⟩:=zn4 hG
 simp only[List.cons.injEq,Value.slice.injEq,and_true,true_and] at he
 obtain⟨⟨rfl,rfl⟩,⟨rfl,rfl⟩,⟨rfl,rfl⟩⟩:=he
 exact hh
theorem zim {B:List Res}{c:Qp}{A0:Option Addr}{k0:Nat}{A1:Option Addr}{k1:Nat}{A2:Option Addr}{k2:Nat}(h:St W w ([Own ty81 [.slice A0 c.Cells.length k0] c.Cells,Own zcu [.slice A1 c.QJ.length k1] c.QJ,Own zd9 [.slice A2 c.Qs.length k2] c.Qs]++B)):St W w (Own zed [.slice A0 c.Cells.length k0,.slice A1 c.QJ.length k1,.slice A2 c.Qs.length k2] c::B):=(St.fuseAll h).conv fun _ hG=>zko hG

def ty33:Ty (List Qp):=tSl 123 zed
instance {W:Base}:Reads W ty33:=inferInstanceAs (Reads W (tSl 123 zed))
theorem zrU {w:World}{cs:List Value}{xs:(List Qp)}(h:ty33.ro w cs xs):∃ A c,cs=[.slice A xs.length c]:=z9J h

def ty36:Ty D.Qk:=zb4 (fun c=>(c.Qf,c.QO,())) (zd ty33 (zd ty34 z2W))
instance {W:Base}:Reads W ty36:=inferInstanceAs (Reads W (zb4 (fun c:D.Qk=>(c.Qf,c.QO,())) (zd ty33 (zd ty34 z2W))))
theorem z4D {w:World}{cs:List Value}{c:D.Qk}(h:ty36.ro w cs c):∃ A0 k0,cs=[.slice A0 c.Qf.length k0,iv c.QO.Qj,iv c.QO.Qi,iv c.QO.Qo]∧ty33.ro w [.slice A0 c.Qf.length k0] c.Qf:=by
 obtain⟨c0,d0,rfl,h0,c1,d1,rfl,h1,hz⟩:=h
 subst hz
 obtain⟨o,q,e0⟩:=zrU h0
 subst e0
 have e1:=z1f h1
 subst e1
 exact⟨o,q,rfl,h0⟩
theorem z6x {w:World}(c:D.Qk){A0:Option Addr}{k0:Nat}(h0:ty33.ro w [.slice A0 c.Qf.length k0] c.Qf):ty36.ro w [.slice A0 c.Qf.length k0,iv c.QO.Qj,iv c.QO.Qi,iv c.QO.Qo] c:=
 ⟨_,_,rfl,h0,⟨_,_,rfl,(zM c.QO ),rfl⟩⟩
def zoN:Ty Qh:=zb4 (fun c=>(c.Qi,c.Qz,c.A,c.B,())) (zd z2z (zd zjM (zd ty24 (zd ty24 z2W))))
instance {W:Base}:Reads W zoN:=inferInstanceAs (Reads W (zb4 (fun c:Qh=>(c.Qi,c.Qz,c.A,c.B,())) (zd z2z (zd zjM (zd ty24 (zd ty24 z2W))))))
theorem zeL {w:World}{cs:List Value}{c:Qh}(h:zoN.ro w cs c):∃ A0 k0 A1 k1,cs=[iv c.Qi,iv c.Qz.Qi,iv c.Qz.QC,iv c.Qz.Value,.slice A0 c.Qz.Data.length k0,.slice A1 c.Qz.QM.length k1,iv c.A.Qj,iv c.A.Qi,iv c.A.Qo,iv c.B.Qj,iv c.B.Qi,iv c.B.Qo]∧ty45.ro w [.slice A0 c.Qz.Data.length k0] c.Qz.Data∧zjN.ro w [.slice A1 c.Qz.QM.length k1] c.Qz.QM:=by
 obtain⟨c0,d0,rfl,h0,c1,d1,rfl,h1,c2,d2,rfl,h2,c3,d3,rfl,h3,hz⟩:=h
 subst hz
 subst h0
 obtain⟨o,O,q,X,e1,G,H⟩:=zd7 h1
 subst e1
 have e2:=zb3 h2
 subst e2
 have e3:=zb3 h3
 subst e3
 exact⟨o,O,q,X,rfl,G,H⟩
def zoP:Ty (List Qh):=tSl 239 zoN
instance {W:Base}:Reads W zoP:=inferInstanceAs (Reads W (tSl 239 zoN))
theorem zkj {w:World}{cs:List Value}{xs:(List Qh)}(h:zoP.ro w cs xs):∃ A c,cs=[.slice A xs.length c]:=z9J h

def ty43:Ty (List (List Qh)):=tSl 178 zoP
instance {W:Base}:Reads W ty43:=inferInstanceAs (Reads W (tSl 178 zoP))
theorem zrT {w:World}{cs:List Value}{xs:(List (List Qh))}(h:ty43.ro w cs xs):∃ A c,cs=[.slice A xs.length c]:=z9J h

def ty44:Ty (List (List Int)):=tSl 45 ty45
instance {W:Base}:Reads W ty44:=inferInstanceAs (Reads W (tSl 45 ty45))
theorem zd6 {w:World}{cs:List Value}{xs:(List (List Int))}(h:ty44.ro w cs xs):∃ A c,cs=[.slice A xs.length c]:=z9J h

def ty47:Ty Qv:=zb4 (fun c=>(c.Qk,c.Qd,c.QL,c.QY,c.Got,())) (zd ty26 (zd ty43 (zd ty44 (zd ty45 (zd ty45 z2W)))))
instance {W:Base}:Reads W ty47:=inferInstanceAs (Reads W (zb4 (fun c:Qv=>(c.Qk,c.Qd,c.QL,c.QY,c.Got,())) (zd ty26 (zd ty43 (zd ty44 (zd ty45 (zd ty45 z2W)))))))
theorem zic {w:World}{cs:List Value}{c:Qv}(h:ty47.ro w cs c):∃ A0 k0 A1 k1 A2 k2 A3 k3 A4 k4,cs=[.slice A0 c.Qk.Qf.length k0,iv c.Qk.QO.Qj,iv c.Qk.QO.Qi,iv c.Qk.QO.Qo,.slice A1 c.Qd.length k1,.slice A2 c.QL.length k2,.slice A3 c.QY.length k3,.slice A4 c.Got.length k4]∧ty22.ro w [.slice A0 c.Qk.Qf.length k0] c.Qk.Qf∧ty43.ro w [.slice A1 c.Qd.length k1] c.Qd∧ty44.ro w [.slice A2 c.QL.length k2] c.QL∧ty45.ro w [.slice A3 c.QY.length k3] c.QY∧ty45.ro w [.slice A4 c.Got.length k4] c.Got:=by
 obtain⟨c0,d0,rfl,h0,c1,d1,rfl,h1,c2,d2,rfl,h2,c3,d3,rfl,h3,c4,d4,rfl,h4,hz⟩:=h
 subst hz
 obtain⟨o,G,e0,q⟩:=zif h0
 subst e0
 obtain⟨H,Z,e1⟩:=zrT h1
 subst e1
 obtain⟨O,a0,e2⟩:=zd6 h2
 subst e2
 obtain⟨X,b0,e3⟩:=zL h3
 subst e3
 obtain⟨Y,f0,e4⟩:=zL h4
 subst e4
 exact⟨o,G,H,Z,O,a0,X,b0,Y,f0,rfl,q,h1,h2,h3,h4⟩
def zdA:Ty Qh:=zb4 (fun c=>(c.Qi,c.Qz,c.A,c.B,())) (zd z2z (zd z90 (zd ty34 (zd ty34 z2W))))
instance {W:Base}:Reads W zdA:=inferInstanceAs (Reads W (zb4 (fun c:Qh=>(c.Qi,c.Qz,c.A,c.B,())) (zd z2z (zd z90 (zd ty34 (zd ty34 z2W))))))
theorem z3D {w:World}{cs:List Value}{c:Qh}(h:zdA.ro w cs c):∃ A0 k0 A1 k1,cs=[iv c.Qi,iv c.Qz.Qi,iv c.Qz.QC,iv c.Qz.Value,.slice A0 c.Qz.Data.length k0,.slice A1 c.Qz.QM.length k1,iv c.A.Qj,iv c.A.Qi,iv c.A.Qo,iv c.B.Qj,iv c.B.Qi,iv c.B.Qo]∧ty45.ro w [.slice A0 c.Qz.Data.length k0] c.Qz.Data∧ty82.ro w [.slice A1 c.Qz.QM.length k1] c.Qz.QM:=by
 obtain⟨c0,d0,rfl,h0,c1,d1,rfl,h1,c2,d2,rfl,h2,c3,d3,rfl,h3,hz⟩:=h
 subst hz
 subst h0
 obtain⟨o,O,q,X,e1,G,H⟩:=zO h1
 subst e1
 have e2:=z1f h2
 subst e2
 have e3:=z1f h3
 subst e3
 exact⟨o,O,q,X,rfl,G,H⟩
theorem zmW {w:World}{cs:List Value}{c:Qh}{G:List Nat}(h:zdA.own w cs c G):∃ A0 k0 A1 k1,cs=[iv c.Qi,iv c.Qz.Qi,iv c.Qz.QC,iv c.Qz.Value,.slice A0 c.Qz.Data.length k0,.slice A1 c.Qz.QM.length k1,iv c.A.Qj,iv c.A.Qi,iv c.A.Qo,iv c.B.Qj,iv c.B.Qi,iv c.B.Qo]∧(All [Own ty45 [.slice A0 c.Qz.Data.length k0] c.Qz.Data,Own ty82 [.slice A1 c.Qz.QM.length k1] c.Qz.QM]).A w G:=by
 obtain⟨c0,d0,H0,K0,rfl,rfl,h0,c1,d1,H1,K1,rfl,rfl,h1,c2,d2,H2,K2,rfl,rfl,h2,c3,d3,H3,K3,rfl,rfl,h3,hz,hk⟩:=h
 subst hz;subst hk
 obtain⟨e0,k0⟩:=h0;subst e0;subst k0
 obtain⟨o,H,q,O,e1,g1⟩:=zik h1
 subst e1
 obtain⟨e2,g2⟩:=zdz h2
 subst e2
 obtain⟨e3,g3⟩:=zdz h3
 subst e3
 refine⟨o,H,q,O,rfl,?_⟩
 exact cast (congrArg _ (by simp)) (zqx g1 (zqx g2 g3))
theorem zki {w:World}{c:Qh}{A0:Option Addr}{k0:Nat}{A1:Option Addr}{k1:Nat}{G:List Nat}(h:(All [Own ty45 [.slice A0 c.Qz.Data.length k0] c.Qz.Data,Own ty82 [.slice A1 c.Qz.QM.length k1] c.Qz.QM]).A w G):zdA.own w [iv c.Qi,iv c.Qz.Qi,iv c.Qz.QC,iv c.Qz.Value,.slice A0 c.Qz.Data.length k0,.slice A1 c.Qz.QM.length k1,iv c.A.Qj,iv c.A.Qi,iv c.A.Qo,iv c.B.Qj,iv c.B.Qi,iv c.B.Qo] c G:=by
 obtain⟨G0,R0,rfl,h0,G1,R1,rfl,h1,hz⟩:=h
 have o:R1=[]:=hz
 subst o
 exact cast (congrArg _ (by simp)) (show zdA.own w [iv c.Qi,iv c.Qz.Qi,iv c.Qz.QC,iv c.Qz.Value,.slice A0 c.Qz.Data.length k0,.slice A1 c.Qz.QM.length k1,iv c.A.Qj,iv c.A.Qi,iv c.A.Qo,iv c.B.Qj,iv c.B.Qi,iv c.B.Qo] c (_) from⟨_,_,_,_,rfl,rfl,⟨rfl,rfl⟩,⟨_,_,_,_,rfl,rfl,(zgw (c:=c.Qz) ⟨_,_,rfl,h0,⟨_,_,rfl,h1,rfl⟩⟩),⟨_,_,_,_,rfl,rfl,(z8q (c:=c.A) rfl),⟨_,_,_,_,rfl,rfl,(z8q (c:=c.B) rfl),⟨rfl,rfl⟩⟩⟩⟩⟩)
theorem zoO {B:List Res}{cs:List Value}{c:Qh}(h:St W w (Own zdA cs c::B)):∃ A0 k0 A1 k1,cs=[iv c.Qi,iv c.Qz.Qi,iv c.Qz.QC,iv c.Qz.Value,.slice A0 c.Qz.Data.length k0,.slice A1 c.Qz.QM.length k1,iv c.A.Qj,iv c.A.Qi,iv c.A.Qo,iv c.B.Qj,iv c.B.Qi,iv c.B.Qo]∧St W w ([Own ty45 [.slice A0 c.Qz.Data.length k0] c.Qz.Data,Own ty82 [.slice A1 c.Qz.QM.length k1] c.Qz.QM]++B):=by
 obtain⟨G,hA,_⟩:=h.sep.head
 obtain⟨A0,k0,A1,k1,rfl,_⟩:=zmW hA
 refine⟨A0,k0,A1,k1,rfl,St.splitAll (h.conv fun G hG=>?_)⟩
 obtain⟨X0,Y0,X1,Y1,he,hh⟩:=zmW hG
 simp only[List.cons.injEq,Value.slice.injEq,and_true,true_and] at he
 obtain⟨⟨rfl,rfl⟩,⟨rfl,rfl⟩⟩:=he
 exact hh
theorem zig {B:List Res}{c:Qh}{A0:Option Addr}{k0:Nat}{A1:Option Addr}{k1:Nat}(h:St W w ([Own ty45 [.slice A0 c.Qz.Data.length k0] c.Qz.Data,Own ty82 [.slice A1 c.Qz.QM.length k1] c.Qz.QM]++B)):St W w (Own zdA [iv c.Qi,iv c.Qz.Qi,iv c.Qz.QC,iv c.Qz.Value,.slice A0 c.Qz.Data.length k0,.slice A1 c.Qz.QM.length k1,iv c.A.Qj,iv c.A.Qi,iv c.A.Qo,iv c.B.Qj,iv c.B.Qi,iv c.B.Qo] c::B):=(St.fuseAll h).conv fun _ hG=>zki hG

def zdB:Ty (List Qh):=tSl 189 zdA
instance {W:Base}:Reads W zdB:=inferInstanceAs (Reads W (tSl 189 zdA))
theorem z3E {w:World}{cs:List Value}{xs:(List Qh)}(h:zdB.ro w cs xs):∃ A c,cs=[.slice A xs.length c]:=z9J h

def ty50:Ty (List (List Qh)):=tSl 181 zdB
instance {W:Base}:Reads W ty50:=inferInstanceAs (Reads W (tSl 181 zdB))
theorem zrS {w:World}{cs:List Value}{xs:(List (List Qh))}(h:ty50.ro w cs xs):∃ A c,cs=[.slice A xs.length c]:=z9J h

def ty52:Ty Qv:=zb4 (fun c=>(c.Qk,c.Qd,c.QL,c.QY,c.Got,())) (zd ty36 (zd ty50 (zd ty44 (zd ty45 (zd ty45 z2W)))))
instance {W:Base}:Reads W ty52:=inferInstanceAs (Reads W (zb4 (fun c:Qv=>(c.Qk,c.Qd,c.QL,c.QY,c.Got,())) (zd ty36 (zd ty50 (zd ty44 (zd ty45 (zd ty45 z2W)))))))
theorem z7A {w:World}{cs:List Value}{c:Qv}(h:ty52.ro w cs c):∃ A0 k0 A1 k1 A2 k2 A3 k3 A4 k4,cs=[.slice A0 c.Qk.Qf.length k0,iv c.Qk.QO.Qj,iv c.Qk.QO.Qi,iv c.Qk.QO.Qo,.slice A1 c.Qd.length k1,.slice A2 c.QL.length k2,.slice A3 c.QY.length k3,.slice A4 c.Got.length k4]∧ty33.ro w [.slice A0 c.Qk.Qf.length k0] c.Qk.Qf∧ty50.ro w [.slice A1 c.Qd.length k1] c.Qd∧ty44.ro w [.slice A2 c.QL.length k2] c.QL∧ty45.ro w [.slice A3 c.QY.length k3] c.QY∧ty45.ro w [.slice A4 c.Got.length k4] c.Got:=by
 obtain⟨c0,d0,rfl,h0,c1,d1,rfl,h1,c2,d2,rfl,h2,c3,d3,rfl,h3,c4,d4,rfl,h4,hz⟩:=h
 subst hz
 obtain⟨o,G,e0,q⟩:=z4D h0
 subst e0
 obtain⟨H,Z,e1⟩:=zrS h1
 subst e1
 obtain⟨O,a0,e2⟩:=zd6 h2
 subst e2
 obtain⟨X,b0,e3⟩:=zL h3
 subst e3
 obtain⟨Y,f0,e4⟩:=zL h4
 subst e4
 exact⟨o,G,H,Z,O,a0,X,b0,Y,f0,rfl,q,h1,h2,h3,h4⟩
theorem zec {w:World}(c:Qv){A0:Option Addr}{k0:Nat}{A1:Option Addr}{k1:Nat}{A2:Option Addr}{k2:Nat}{A3:Option Addr}{k3:Nat}{A4:Option Addr}{k4:Nat}(h0:ty33.ro w [.slice A0 c.Qk.Qf.length k0] c.Qk.Qf)(h1:ty50.ro w [.slice A1 c.Qd.length k1] c.Qd)(h2:ty44.ro w [.slice A2 c.QL.length k2] c.QL)(h3:ty45.ro w [.slice A3 c.QY.length k3] c.QY)(h4:ty45.ro w [.slice A4 c.Got.length k4] c.Got):ty52.ro w [.slice A0 c.Qk.Qf.length k0,iv c.Qk.QO.Qj,iv c.Qk.QO.Qi,iv c.Qk.QO.Qo,.slice A1 c.Qd.length k1,.slice A2 c.QL.length k2,.slice A3 c.QY.length k3,.slice A4 c.Got.length k4] c:=
 ⟨_,_,rfl,(z6x c.Qk h0),⟨_,_,rfl,h1,⟨_,_,rfl,h2,⟨_,_,rfl,h3,⟨_,_,rfl,h4,rfl⟩⟩⟩⟩⟩
def zgu:Ty QH:=zb4 (fun c=>(c.at_,c.slot,c.own,())) (zd ty34 (zd z2z (zd zbY z2W)))
instance {W:Base}:Reads W zgu:=inferInstanceAs (Reads W (zb4 (fun c:QH=>(c.at_,c.slot,c.own,())) (zd ty34 (zd z2z (zd zbY z2W)))))
theorem zeN {w:World}{cs:List Value}{c:QH}(h:zgu.ro w cs c):cs=[iv c.at_.Qj,iv c.at_.Qi,iv c.at_.Qo,iv c.slot,.bool c.own]:=by
 obtain⟨c0,d0,rfl,h0,c1,d1,rfl,h1,c2,d2,rfl,h2,hz⟩:=h
 subst hz
 have e0:=z1f h0
 subst e0
 subst h1
 subst h2
 rfl
theorem zqL {w:World}(c:QH)  :zgu.ro w [iv c.at_.Qj,iv c.at_.Qi,iv c.at_.Qo,iv c.slot,.bool c.own] c:=
 ⟨_,_,rfl,(zM c.at_ ),⟨_,_,rfl,rfl,⟨_,_,rfl,rfl,rfl⟩⟩⟩
theorem zeM {w:World}{c:QH}  {G:List Nat}(h:(All []).A w G):zgu.own w [iv c.at_.Qj,iv c.at_.Qi,iv c.at_.Qo,iv c.slot,.bool c.own] c G:=by
 have hz:G=[]:=h
 subst hz
 exact cast (congrArg _ (by simp)) (show zgu.own w [iv c.at_.Qj,iv c.at_.Qi,iv c.at_.Qo,iv c.slot,.bool c.own] c (_) from⟨_,_,_,_,rfl,rfl,(z8q (c:=c.at_) rfl),⟨_,_,_,_,rfl,rfl,⟨rfl,rfl⟩,⟨_,_,_,_,rfl,rfl,⟨rfl,rfl⟩,⟨rfl,rfl⟩⟩⟩⟩)
def zfK:Ty D.Qc:=zb4 (fun c=>(c.a,c.b,())) (zd zgu (zd zgu z2W))
instance {W:Base}:Reads W zfK:=inferInstanceAs (Reads W (zb4 (fun c:D.Qc=>(c.a,c.b,())) (zd zgu (zd zgu z2W))))
theorem zd8 {w:World}{cs:List Value}{c:D.Qc}(h:zfK.ro w cs c):cs=[iv c.a.at_.Qj,iv c.a.at_.Qi,iv c.a.at_.Qo,iv c.a.slot,.bool c.a.own,iv c.b.at_.Qj,iv c.b.at_.Qi,iv c.b.at_.Qo,iv c.b.slot,.bool c.b.own]:=by
 obtain⟨c0,d0,rfl,h0,c1,d1,rfl,h1,hz⟩:=h
 subst hz
 have e0:=zeN h0
 subst e0
 have e1:=zeN h1
 subst e1
 rfl
theorem zbS {w:World}{c:D.Qc}  {G:List Nat}(h:(All []).A w G):zfK.own w [iv c.a.at_.Qj,iv c.a.at_.Qi,iv c.a.at_.Qo,iv c.a.slot,.bool c.a.own,iv c.b.at_.Qj,iv c.b.at_.Qi,iv c.b.at_.Qo,iv c.b.slot,.bool c.b.own] c G:=by
 have hz:G=[]:=h
 subst hz
 exact cast (congrArg _ (by simp)) (show zfK.own w [iv c.a.at_.Qj,iv c.a.at_.Qi,iv c.a.at_.Qo,iv c.a.slot,.bool c.a.own,iv c.b.at_.Qj,iv c.b.at_.Qi,iv c.b.at_.Qo,iv c.b.slot,.bool c.b.own] c (_) from⟨_,_,_,_,rfl,rfl,(zeM (c:=c.a) rfl),⟨_,_,_,_,rfl,rfl,(zeM (c:=c.b) rfl),⟨rfl,rfl⟩⟩⟩)
def ty86:Ty (List D.Qc):=tSl 169 zfK
instance {W:Base}:Reads W ty86:=inferInstanceAs (Reads W (tSl 169 zfK))
theorem zrP {w:World}{cs:List Value}{xs:(List D.Qc)}(h:ty86.ro w cs xs):∃ A c,cs=[.slice A xs.length c]:=z9J h

def zrY:Ty Qg:=zb4 (fun c=>(c.Qq,c.Qu,c.cells,c.QK,c.ends,c.Qt,())) (zd ty28 (zd z13 (zd ty44 (zd ty44 (zd ty44 (zd ty44 z2W))))))
instance {W:Base}:Reads W zrY:=inferInstanceAs (Reads W (zb4 (fun c:Qg=>(c.Qq,c.Qu,c.cells,c.QK,c.ends,c.Qt,())) (zd ty28 (zd z13 (zd ty44 (zd ty44 (zd ty44 (zd ty44 z2W))))))))
theorem zkn {w:World}{cs:List Value}{c:Qg}(h:zrY.ro w cs c):∃ A0 k0 A1 k1 A2 k2 A3 k3 A4 k4 A5 k5,cs=[.slice A0 c.Qq.length k0,.slice A1 c.Qu.length k1,.slice A2 c.cells.length k2,.slice A3 c.QK.length k3,.slice A4 c.ends.length k4,.slice A5 c.Qt.length k5]∧ty28.ro w [.slice A0 c.Qq.length k0] c.Qq∧z13.ro w [.slice A1 c.Qu.length k1] c.Qu∧ty44.ro w [.slice A2 c.cells.length k2] c.cells∧ty44.ro w [.slice A3 c.QK.length k3] c.QK∧ty44.ro w [.slice A4 c.ends.length k4] c.ends∧ty44.ro w [.slice A5 c.Qt.length k5] c.Qt:=by
 obtain⟨c0,d0,rfl,h0,c1,d1,rfl,h1,c2,d2,rfl,h2,c3,d3,rfl,h3,c4,d4,rfl,h4,c5,d5,rfl,h5,hz⟩:=h
 subst hz
 obtain⟨o,Y,e0⟩:=zmT h0
 subst e0
 obtain⟨q,Z,e1⟩:=zkq h1
 subst e1
 obtain⟨G,a0,e2⟩:=zd6 h2
 subst e2
 obtain⟨H,b0,e3⟩:=zd6 h3
 subst e3
 obtain⟨O,f0,e4⟩:=zd6 h4
 subst e4
 obtain⟨X,g0,e5⟩:=zd6 h5
 subst e5
 exact⟨o,Y,q,Z,G,a0,H,b0,O,f0,X,g0,rfl,h0,h1,h2,h3,h4,h5⟩
theorem zbT {w:World}(c:Qg){A0:Option Addr}{k0:Nat}{A1:Option Addr}{k1:Nat}{A2:Option Addr}{k2:Nat}{A3:Option Addr}{k3:Nat}{A4:Option Addr}{k4:Nat}{A5:Option Addr}{k5:Nat}(h0:ty28.ro w [.slice A0 c.Qq.length k0] c.Qq)(h1:z13.ro w [.slice A1 c.Qu.length k1] c.Qu)(h2:ty44.ro w [.slice A2 c.cells.length k2] c.cells)(h3:ty44.ro w [.slice A3 c.QK.length k3] c.QK)(h4:ty44.ro w [.slice A4 c.ends.length k4] c.ends)(h5:ty44.ro w [.slice A5 c.Qt.length k5] c.Qt):zrY.ro w [.slice A0 c.Qq.length k0,.slice A1 c.Qu.length k1,.slice A2 c.cells.length k2,.slice A3 c.QK.length k3,.slice A4 c.ends.length k4,.slice A5 c.Qt.length k5] c:=
 ⟨_,_,rfl,h0,⟨_,_,rfl,h1,⟨_,_,rfl,h2,⟨_,_,rfl,h3,⟨_,_,rfl,h4,⟨_,_,rfl,h5,rfl⟩⟩⟩⟩⟩⟩
def zmx:Qb→Value:=fun c=>.agg ⟨[iv c.Qj,iv c.Qi,iv c.Qo]⟩
theorem zsO:KeyOk Tryz.prog 34 zmx:=KeyOk.struct ttok (cells:=fun c:Qb=>[iv c.Qj,iv c.Qi,iv c.Qo]) (b:=fun x y=>(((x.Qj:Int) == y.Qj) && (((x.Qi:Int) == y.Qi) && (((x.Qo:Int) == y.Qo) && true)))) rfl rfl (fun _ _=>rfl) (fun x y=>by cases x;cases y;simp[zpJ,and_assoc]) (fun _=>rfl) (fun {x y} h=>by cases x;cases y;simpa [and_assoc] using h)
def zqM:Ty (List (Qb×Int)):=tMp zmx (Value.int .i64)
instance {W:Base}:Reads W zqM:=inferInstanceAs (Reads W (tMp zmx (Value.int .i64)))
theorem zmf:MapOk Tryz.prog 159 34 2 zmx (Value.int .i64) (0:Int):=⟨by kernel_rfl,by kernel_rfl,zsO⟩

def zrX:Ty (List Int):=tSl 3 z2z
instance {W:Base}:Reads W zrX:=inferInstanceAs (Reads W (tSl 3 z2z))
def zok:QH→Value:=fun c=>.agg ⟨[iv c.at_.Qj,iv c.at_.Qi,iv c.at_.Qo,iv c.slot,.bool c.own]⟩
theorem zvS:KeyOk Tryz.prog 164 zok:=KeyOk.struct ttok (cells:=fun c:QH=>[iv c.at_.Qj,iv c.at_.Qi,iv c.at_.Qo,iv c.slot,.bool c.own]) (b:=fun x y=>((((x.at_.Qj:Int) == y.at_.Qj) && (((x.at_.Qi:Int) == y.at_.Qi) && (((x.at_.Qo:Int) == y.at_.Qo) && true))) && (((x.slot:Int) == y.slot) && ((x.own == y.own) && true)))) rfl rfl (fun _ _=>rfl) (fun x y=>by rcases x with⟨⟨_,_,_⟩,_,_⟩;rcases y with⟨⟨_,_,_⟩,_,_⟩;simp[zpJ,and_assoc]) (fun _=>rfl) (fun {x y} h=>by rcases x with⟨⟨_,_,_⟩,_,_⟩;rcases y with⟨⟨_,_,_⟩,_,_⟩;simpa [and_assoc] using h)
def zhq:Ty (List (QH×(List Int))):=zoX zok zrX
instance {W:Base}:Reads W zhq:=inferInstanceAs (Reads W (zoX zok zrX))
theorem zqK {w:World}{cs:List Value}{xs:(List (QH×(List Int)))}(h:zhq.ro w cs xs):∃ g,cs=[.map (some g)]:=zxo h
theorem zdK:MapOk Tryz.prog 223 164 226 zok (id:Value→Value) (.slice none 0 0):=⟨by kernel_rfl,by kernel_rfl,zvS⟩

def zvc:Ty QX:=zb4 (fun c=>(c.QS,c.ends,())) (zd ty86 (zd zhq z2W))
instance {W:Base}:Reads W zvc:=inferInstanceAs (Reads W (zb4 (fun c:QX=>(c.QS,c.ends,())) (zd ty86 (zd zhq z2W))))
theorem zqJ {w:World}{cs:List Value}{c:QX}(h:zvc.ro w cs c):∃ A0 k0 A1,cs=[.slice A0 c.QS.length k0,.map (some A1)]∧ty86.ro w [.slice A0 c.QS.length k0] c.QS∧zhq.ro w [.map (some A1)] c.ends:=by
 obtain⟨c0,d0,rfl,h0,c1,d1,rfl,h1,hz⟩:=h
 subst hz
 obtain⟨o,G,e0⟩:=zrP h0
 subst e0
 obtain⟨q,e1⟩:=zqK h1
 subst e1
 exact⟨o,G,q,rfl,h0,h1⟩
theorem zqH {w:World}(c:QX){A0:Option Addr}{k0:Nat}{A1:Nat}(h0:ty86.ro w [.slice A0 c.QS.length k0] c.QS)(h1:zhq.ro w [.map (some A1)] c.ends):zvc.ro w [.slice A0 c.QS.length k0,.map (some A1)] c:=
 ⟨_,_,rfl,h0,⟨_,_,rfl,h1,rfl⟩⟩
def zfJ:Ty (List Bool):=tSl 4 zbY
instance {W:Base}:Reads W zfJ:=inferInstanceAs (Reads W (tSl 4 zbY))
def zfj:Ty (List (Qb×Int)):=tMp zmx (Value.int .i64)
instance {W:Base}:Reads W zfj:=inferInstanceAs (Reads W (tMp zmx (Value.int .i64)))
theorem zeU:MapOk Tryz.prog 275 34 3 zmx (Value.int .i64) (0:Int):=⟨by kernel_rfl,by kernel_rfl,zsO⟩

def zie:Ty (List (Int×Int)):=tMp (Value.int .i64) (Value.int .i64)
instance {W:Base}:Reads W zie:=inferInstanceAs (Reads W (tMp (Value.int .i64) (Value.int .i64)))
theorem zhZ:MapOk Tryz.prog 277 2 2 (Value.int .i64) (Value.int .i64) (0:Int):=⟨by kernel_rfl,by kernel_rfl,(KeyOk.int (by kernel_rfl))⟩

def zfi:Ty QB:=zb4 (fun c=>(c.QS,c.code,c.Qa1,())) (zd ty45 (zd ty45 (zd z2z z2W)))
instance {W:Base}:Reads W zfi:=inferInstanceAs (Reads W (zb4 (fun c:QB=>(c.QS,c.code,c.Qa1,())) (zd ty45 (zd ty45 (zd z2z z2W)))))
theorem zke {w:World}{cs:List Value}{c:QB}(h:zfi.ro w cs c):∃ A0 k0 A1 k1,cs=[.slice A0 c.QS.length k0,.slice A1 c.code.length k1,iv c.Qa1]∧ty45.ro w [.slice A0 c.QS.length k0] c.QS∧ty45.ro w [.slice A1 c.code.length k1] c.code:=by
 obtain⟨c0,d0,rfl,h0,c1,d1,rfl,h1,c2,d2,rfl,h2,hz⟩:=h
 subst hz
 obtain⟨o,G,e0⟩:=zL h0
 subst e0
 obtain⟨q,H,e1⟩:=zL h1
 subst e1
 subst h2
 exact⟨o,G,q,H,rfl,h0,h1⟩
theorem zmU {w:World}{cs:List Value}{c:QB}{G:List Nat}(h:zfi.own w cs c G):∃ A0 k0 A1 k1,cs=[.slice A0 c.QS.length k0,.slice A1 c.code.length k1,iv c.Qa1]∧(All [Own ty45 [.slice A0 c.QS.length k0] c.QS,Own ty45 [.slice A1 c.code.length k1] c.code]).A w G:=by
 obtain⟨c0,d0,H0,K0,rfl,rfl,h0,c1,d1,H1,K1,rfl,rfl,h1,c2,d2,H2,K2,rfl,rfl,h2,hz,hk⟩:=h
 subst hz;subst hk
 obtain⟨o,H,e0⟩:=zc1 h0
 subst e0
 obtain⟨q,O,e1⟩:=zc1 h1
 subst e1
 obtain⟨e2,k2⟩:=h2;subst e2;subst k2
 refine⟨o,H,q,O,rfl,?_⟩
 show(All _).A w _
 exact cast (congrArg _ (by simp)) (show(All _).A w (H0++(H1++([]))) from⟨_,_,rfl,h0,⟨_,_,rfl,h1,rfl⟩⟩)
theorem zqC {w:World}{c:QB}{A0:Option Addr}{k0:Nat}{A1:Option Addr}{k1:Nat}{G:List Nat}(h:(All [Own ty45 [.slice A0 c.QS.length k0] c.QS,Own ty45 [.slice A1 c.code.length k1] c.code]).A w G):zfi.own w [.slice A0 c.QS.length k0,.slice A1 c.code.length k1,iv c.Qa1] c G:=by
 obtain⟨G0,R0,rfl,h0,G1,R1,rfl,h1,hz⟩:=h
 have o:R1=[]:=hz
 subst o
 exact cast (congrArg _ (by simp)) (show zfi.own w [.slice A0 c.QS.length k0,.slice A1 c.code.length k1,iv c.Qa1] c (_) from⟨_,_,_,_,rfl,rfl,h0,⟨_,_,_,_,rfl,rfl,h1,⟨_,_,_,_,rfl,rfl,⟨rfl,rfl⟩,⟨rfl,rfl⟩⟩⟩⟩)
theorem zoM {B:List Res}{cs:List Value}{c:QB}(h:St W w (Own zfi cs c::B)):∃ A0 k0 A1 k1,cs=[.slice A0 c.QS.length k0,.slice A1 c.code.length k1,iv c.Qa1]∧St W w ([Own ty45 [.slice A0 c.QS.length k0] c.QS,Own ty45 [.slice A1 c.code.length k1] c.code]++B):=by
 obtain⟨G,hA,_⟩:=h.sep.head
 obtain⟨A0,k0,A1,k1,rfl,_⟩:=zmU hA
 refine⟨A0,k0,A1,k1,rfl,St.splitAll (h.conv fun G hG=>?_)⟩
 obtain⟨X0,Y0,X1,Y1,he,hh⟩:=zmU hG
 simp only[List.cons.injEq,Value.slice.injEq,and_true,true_and] at he
 obtain⟨⟨rfl,rfl⟩,⟨rfl,rfl⟩⟩:=he
 exact hh
theorem zid {B:List Res}{c:QB}{A0:Option Addr}{k0:Nat}{A1:Option Addr}{k1:Nat}(h:St W w ([Own ty45 [.slice A0 c.QS.length k0] c.QS,Own ty45 [.slice A1 c.code.length k1] c.code]++B)):St W w (Own zfi [.slice A0 c.QS.length k0,.slice A1 c.code.length k1,iv c.Qa1] c::B):=(St.fuseAll h).conv fun _ hG=>zqC hG

def zqD:Ty (List QB):=tSl 283 zfi
instance {W:Base}:Reads W zqD:=inferInstanceAs (Reads W (tSl 283 zfi))
def zvb:Ty (List QH):=tSl 164 zgu
instance {W:Base}:Reads W zvb:=inferInstanceAs (Reads W (tSl 164 zgu))
def zrV:Ty (List (Int×Bool)):=tMp (Value.int .i64) Value.bool
instance {W:Base}:Reads W zrV:=inferInstanceAs (Reads W (tMp (Value.int .i64) Value.bool))
theorem zme:MapOk Tryz.prog 306 2 4 (Value.int .i64) Value.bool false:=⟨by kernel_rfl,by kernel_rfl,(KeyOk.int (by kernel_rfl))⟩

end Go.E




namespace Go.E
open Go.RowKit


inductive Rd (σ τ ρ:Type) where
 | next (s:σ)
 | brk (t:τ)
 | ret (r:ρ)

def iter {σ τ ρ:Type}(body:σ→Option (Rd σ τ ρ)):Nat→σ→Option (τ ⊕ ρ)
 | 0,_=>none
 | n+1,s=>match body s with
  | none=>none
  | some (.next s')=>iter body n s'
  | some (.brk t)=>some (.inl t)
  | some (.ret r)=>some (.inr r)

def idx {α:Type}(xs:List α)(i:Int):Option α:=if 0≤i then xs[i.toNat]? else none

theorem zk {α:Type}{xs:List α}{i:Int}{x:α}(h:idx xs i=some x):0≤i∧xs[i.toNat]? = some x:=by
 unfold idx at h
 split at h
 ·exact⟨by assumption,h⟩
 ·cases h


def aft {τ A:Type}(o:τ ⊕ A)(k:τ→Option A):Option A:=
 match o with
 | .inl t=>k t
 | .inr a=>some a

theorem z8 {τ A:Type}(t:τ)(k:τ→Option A):aft (.inl t) k=k t:=rfl

theorem zy1 {c:Bool}(h:c=false):¬ c=true:=by rw[h];simp

theorem zuQ {α β:Type}{x:Option α}{f:α→Option β}{b:β}(h:x.bind f=some b):∃ a,x=some a∧f a=some b:=by
 cases x with
 | none=>cases h
 | some a=>exact⟨a,rfl,h⟩

section
variable {P:Program}{n:Nat}{Q:Post}{F:Fr}{w:World}


theorem WP.iter {c:Code}{σ τ ρ:Type}(J:σ→Fr→World→Prop)(body:σ→Option (Rd σ τ ρ)){k:Nat}{s:σ}{out:τ ⊕ ρ}(hm:iter body k s=some out)(h0:J s F w)
  (G:∀ s F w k o,J s F w→body s=some o→(match o with | .next s'=>Go.E.iter body k s'=some out | .brk t=>out=.inl t | .ret r=>out=.inr r)→
   WP P n c (Q.after (fun F' w'=>∃ s' H,F'.Has H∧o=.next s'∧J s' H w')) F w):WP P n (.loop c) Q F w:=by
 refine WP.loop (σ:={ p:Nat×σ // Go.E.iter body p.1 p.2=some out }) (fun p F w=>J p.1.2 F w) (fun p=>p.1.1) ⟨(k,s),hm⟩ h0 ?_
 rintro⟨⟨k,s⟩,hk⟩ F w hJ
 cases k with
 | zero=>cases hk
 | succ k=>
  have hk':=hk
  simp only[Go.E.iter] at hk'
  cases hb:body s with
  | none=>rw[hb] at hk';cases hk'
  | some o=>
   rw[hb] at hk'
   refine(G s F w k o hJ hb ?_).mono ?_
   ·cases o with
    | next s'=>exact hk'
    | brk t=>simp only[Option.some.injEq] at hk';exact hk'.symm
    | ret r=>simp only[Option.some.injEq] at hk';exact hk'.symm
   ·intro e F' w' q
    cases e with
    | normal=>
     obtain⟨s',F2,hh,rfl,O⟩:=q
     exact⟨⟨(k,s'),hk'⟩,F2,hh,O,Nat.lt_succ_self k⟩
    | _=>exact q


theorem WP.cut {c:Code}{τ:Type}(J:τ→Fr→World→Prop)(hk:∀ t F w,J t F w→Q .normal F w)(h:WP P n c (Q.after (fun F w=>∃ t F',F.Has F'∧J t F' w)) F w):WP P n c Q F w:=
 fun a ha=>wp_mono (h a ha) fun e a' w' ⟨F1,hf,q⟩=>by
  cases e with
  | normal=>obtain⟨t,F',hh,ht⟩:=q;exact⟨F',hf.weak hh,hk t F' w' ht⟩
  | _=>exact⟨F1,hf,q⟩

theorem RW.know {ops rest:List Oper}(i:Nat){v u:Value}(hg:F.get i=some v)(e:v=u)(h:RW P n ops Q rest ((i,u)::F) w):RW P n ops Q rest F w:=fun a ha=>
 h a ⟨ha.1,ha.2.1,fun j x hx=>by
  rw[Fr.get_cons] at hx
  split at hx
  ·rename_i hj;subst hj;simp only[Option.some.injEq] at hx;subst hx;rw[← e];exact ha.2.2 _ _ hg
  ·exact ha.2.2 _ _ hx⟩

theorem DW.know {ops:List Oper}{w0:World}{W9:Base}{wr:Nat→Bool}{fu:Nat}{o:Array Bool}(i:Nat){v u:Value}(hg:F.get i=some v)(e:v=u)(h:DW P n ops Q W9 w0 wr fu o ((i,u)::F) w):DW P n ops Q W9 w0 wr fu o F w:=fun hs he hv a ha=>
 h hs he hv a ⟨ha.1,ha.2.1,fun j x hx=>by
  rw[Fr.get_cons] at hx
  split at hx
  ·rename_i hj;subst hj;simp only[Option.some.injEq] at hx;subst hx;rw[← e];exact ha.2.2 _ _ hg
  ·exact ha.2.2 _ _ hx⟩

theorem DM.know {ops:List Oper}{w0:World}{W9:Base}{wm fu k m:Nat}(i:Nat){v u:Value}(hg:F.get i=some v)(e:v=u)(h:DM P n ops Q W9 w0 wm fu k m ((i,u)::F) w):DM P n ops Q W9 w0 wm fu k m F w:=fun l hl=>DW.know i hg e (h l hl)

theorem zrv {α:Type}{xs:List α}{l h:Nat}(h2:h≤xs.length):((xs.take h).drop l).length=h - l:=by
 rw[List.length_drop,List.length_take,Nat.min_eq_left h2]

theorem At.sub {p:Addr}{cs:List Value}(h:At w p cs)(off m:Nat):At w (p.add off) ((cs.drop off).take m):=h.part fun j u hu=>by
 rw[List.getElem?_take] at hu
 split at hu
 ·simpa using hu
 ·cases hu
end
end Go.E



namespace Go.E
open Go.RowKit

def I64 (n:Int):Prop:=-9223372036854775808≤n∧n≤9223372036854775807

theorem zsT {n:Int}(h:(Lit.int .i64 n).wf=true):I64 n:=by
 have h1:IntKind.i64.min = -9223372036854775808:=rfl
 have h2:IntKind.i64.max=9223372036854775807:=rfl
 simp only[Lit.wf,Bool.and_eq_true,decide_eq_true_eq,h1,h2] at h
 exact h

theorem zxz {n:Int}(h:I64 n):w64 n=n:=by
 obtain⟨h1,h2⟩:=h
 have e:w64 n=if n % 18446744073709551616≥9223372036854775808 then n % 18446744073709551616 - 18446744073709551616 else n % 18446744073709551616:=by
  unfold w64 IntKind.wrap
  show(if(true && decide (n % (2 ^ 64:Int)≥(2 ^ 63:Int)))=true then n % (2 ^ 64:Int) - (2 ^ 64:Int) else n % (2 ^ 64:Int))=_
  simp
 rw[e]
 split<;>omega

def Opens (P:Program)(t:TypeId){α:Type}(T:Ty α)(wf:α→Prop):Prop:=
 P.cellsOf t=T.size∧∀ {H:Type}{enc:TypeId×Value→H}{w:World}{base:Nat}{spare:Nat→Bool}{held:Bool}{fu:Nat}{cs:List Value}{x:DataW H×List MemPlace},
  DataW.trod enc P w base spare held fu t cs=some x→∃ a,T.ro w cs a∧wf a

theorem Opens.int {P:Program}{t:TypeId}(ht:P.underlying t=some (.int .i64))(hc:P.cellsOf t=1):Opens P t z2z I64:=
 ⟨hc,fun h=>by
  obtain⟨n,rfl,_,hw⟩:=DataW.trod_int ht h
  exact⟨n,rfl,zsT hw⟩⟩

theorem Opens.bool {P:Program}{t:TypeId}(ht:P.underlying t=some .bool)(hc:P.cellsOf t=1):Opens P t zbY fun _=>True:=
 ⟨hc,fun h=>by
  obtain⟨n,rfl,_⟩:=DataW.trod_bool ht h
  exact⟨n,rfl,trivial⟩⟩

theorem Opens.str {P:Program}{t:TypeId}(ht:P.underlying t=some .string)(hc:P.cellsOf t=1):Opens P t zxX fun s=>s.size≤maxLen:=
 ⟨hc,fun h=>by
  obtain⟨n,rfl,_,hw⟩:=DataW.trod_string ht h
  exact⟨n,rfl,hw⟩⟩

theorem At.append {w:World}{p:Addr}{cs es:List Value}(ha:At w p cs)(hb:At w (p.add cs.length) es):At w p (cs++es):=fun j u hu=>by
 rcases Nat.lt_or_ge j cs.length with h | h
 ·rw[List.getElem?_append_left h] at hu
  exact ha j u hu
 ·rw[List.getElem?_append_right h] at hu
  have:=hb (j - cs.length) u hu
  rw[zv0] at this
  rwa [show cs.length+(j - cs.length)=j by omega] at this

theorem znt {α:Type}{T:Ty α}{wf:α→Prop}{w:World}{a:Addr}{base:Nat}:∀ (n:Nat),(∀ i,i<n→∃ cs',w.cells? base (a.add (i*T.size)) T.size=some cs'∧∃ x,T.ro w cs' x∧wf x)→
  ∃ (xs:List α) (els:List Value),xs.length=n∧Els T w els xs∧At w a els∧∀ x,x∈xs→wf x
 | 0,_=>⟨[],[],rfl,rfl,fun j u hu=>by simp at hu,fun x hx=>by cases hx⟩
 | n+1,h=>by
  obtain⟨xs,els,hl,he,ha,hw⟩:=znt n fun i hi=>h i (Nat.lt_succ_of_lt hi)
  obtain⟨cs',hc,x,hx,q⟩:=h n (Nat.lt_succ_self n)
  refine⟨xs++[x],els++cs',by simp[hl],he.append ⟨cs',[],by simp,hx,rfl⟩,ha.append ?_,fun y hy=>?_⟩
  ·obtain⟨_,G,o⟩:=World.cells?_some hc
   intro j u hu
   have hj:=(List.getElem?_eq_some_iff.1 hu).1
   rw[he.length,hl,o j (by omega)]
   exact hu
  ·rcases List.mem_append.1 hy with hy | hy
   ·exact hw y hy
   ·simp only[List.mem_singleton] at hy;subst hy;exact q

def WfL {α:Type}(wf:α→Prop)(xs:List α):Prop:=xs.length≤maxLen∧∀ x,x∈xs→wf x

theorem Opens.sl {P:Program}{t e:TypeId}{α:Type}{T:Ty α}{wf:α→Prop}(ht:P.underlying t=some (.slice e))(hc:P.cellsOf t=1)(ho:Opens P e T wf):Opens P t (tSl e T) (WfL wf):=
 ⟨hc,by
  intro H enc w base spare held fu cs x h
  rcases Go.Deep.open_slice ht h with⟨rfl,_⟩ | ⟨a,len,cap,m,n,D,Pl,rfl,_,hl,hm,o,_,hi⟩
  ·exact⟨[],⟨none,0,[],rfl,Nat.le_refl _,rfl,fun h=>absurd rfl h⟩,⟨Nat.zero_le _,fun x hx=>by cases hx⟩⟩
  ·have O:len≤m:=by rw[o];split<;>omega
   rw[ho.1] at hi
   obtain⟨xs,els,q,he,ha,hw⟩:=znt (T:=T) (wf:=wf) (w:=w) (a:=a) (base:=base) len fun i G=>by
    obtain⟨cs',h1,h2⟩:=hi i (by omega)
    exact⟨cs',h1,ho.2 h2⟩
   subst q
   exact⟨xs,⟨some a,cap,els,rfl,hl,he,fun _=>⟨a,rfl,ha⟩⟩,⟨by omega,hw⟩⟩⟩


def z2x (P:Program)(o:Nat)(fs:List Field){α:Type}(T:Ty α)(wf:α→Prop):Prop:=
 ∀ {H:Type}{enc:TypeId×Value→H}{w:World}{base:Nat}{spare:Nat→Bool}{held:Bool}{fu:Nat}{cs:List Value},
  (∀ (i:Nat) (f:Field),fs[i]? = some f→∃ x,DataW.trod enc P w base spare held fu f.type ((cs.drop f.offset).take (P.cellsOf f.type))=some x)→∃ a,T.ro w ((cs.drop o).take T.size) a∧wf a

theorem z2x.nil {P:Program}{o:Nat}:z2x P o [] z2W fun _=>True:=fun _=>⟨(),by show List.take 0 _=[];simp,trivial⟩

theorem z2x.cons {P:Program}{o o':Nat}{f:Field}{fs:List Field}{α β:Type}{T:Ty α}{U:Ty β}{wf:α→Prop}{wg:β→Prop}(ho:Opens P f.type T wf)(hf:f.offset=o)(h':o'=o+T.size)(hr:z2x P o' fs U wg):
  z2x P o (f::fs) (zd T U) fun x=>wf x.1∧wg x.2:=by
 intro H enc w base spare held fu cs h
 obtain⟨x,hx⟩:=h 0 f rfl
 obtain⟨a,h1,h2⟩:=ho.2 hx
 obtain⟨b,h3,h4⟩:=hr (cs:=cs) fun i g hg=>h (i+1) g hg
 subst h'
 refine⟨(a,b),⟨_,_,?_,h1,h3⟩,h2,h4⟩
 rw[ho.1,hf]
 show List.take (T.size+U.size) _=_
 rw[List.take_add,List.drop_drop]

theorem Opens.struct {P:Program}{t:TypeId}{fs:Array Field}{α β:Type}{T:Ty α}{wf:α→Prop}{f:β→α}(ht:P.underlying t=some (.struct fs))(hc:P.cellsOf t=T.size)(h:z2x P 0 fs.toList T wf)(hs:∀ a,∃ b,f b=a):
  Opens P t (zb4 f T) fun b=>wf (f b):=
 ⟨hc,by
  intro H enc w base spare held fu cs x hx
  obtain⟨xs,n,_,_,hl,o,hf⟩:=DataW.trod_struct ht hx
  obtain⟨a,h1,h2⟩:=h (cs:=cs) (w:=w) (enc:=enc) (base:=base) (spare:=spare) (held:=held) (fu:=n) fun i g hg=>by
   have hi:i<fs.size:=by simpa using (List.getElem?_eq_some_iff.1 hg).1
   exact⟨xs[i]'(by omega),(hf i g (by simpa using hg)).trans (List.getElem?_eq_getElem _)⟩
  obtain⟨b,rfl⟩:=hs a
  refine⟨b,?_,h2⟩
  show T.ro w cs (f b)
  rwa [List.drop_zero,List.take_of_length_le (by omega)] at h1⟩

section
variable {H:Type}{enc:TypeId×Value→H}{P:Program}{w:World}{base b0:Nat}{spare:Nat→Bool}{held:Bool}{r:Reach}{t:TypeId}{v:Value}{d:DataW H}{p:List MemPlace}

theorem zrE {α:Type}{T:Ty α}{wf:α→Prop}{fs:Array Field}(ht:P.underlying t=some (.struct fs))(ho:Opens P t T wf)(hv:Value.okWide P w r b0 t v)(h:DataW.Trod enc P w base spare held t v d p):
  ∃ cs x,v=.agg ⟨cs⟩∧T.ro w cs x∧wf x:=by
 obtain⟨cs,rfl,_⟩:=WideShapes.okWide_struct ht hv
 obtain⟨fu,hf⟩:=h
 obtain⟨x,h1,h2⟩:=ho.2 hf
 exact⟨cs.toList,x,rfl,h1,h2⟩

end

theorem Ret.out {Q:Value→World→Prop}{e:Ending}{w:World}(h:Ret Q e w):∃ v,e=.returned v∧Q v w:=by
 cases e with
 | returned v=>exact⟨v,rfl,h⟩
 | _=>exact False.elim h
end Go.E



namespace Go.E

theorem zb {n:Int}(h0:-9223372036854775808≤n)(h1:n≤9223372036854775807):w64 n=n:=zxz ⟨h0,h1⟩


theorem zf {σ τ ρ:Type}{body:σ→Option (Rd σ τ ρ)}(I:Nat→σ→Prop)(n:Nat)(Q:τ ⊕ ρ→Prop)
  (step:∀ i s,i<n→I i s→(∃ s',body s=some (.next s')∧I (i+1) s')∨(∃ r,body s=some (.ret r)∧Q (.inr r))∨∃ t,body s=some (.brk t)∧Q (.inl t))
  (q:∀ s,I n s→(∃ r,body s=some (.ret r)∧Q (.inr r))∨∃ t,body s=some (.brk t)∧Q (.inl t)):
  ∀ {fu i s},i≤n→n - i<fu→I i s→∃ o,iter body fu s=some o∧Q o
 | 0,i,s,_,hf,_=>by omega
 | fu+1,i,s,hi,hf,hI=>by
  have done:((∃ r,body s=some (.ret r)∧Q (.inr r))∨∃ t,body s=some (.brk t)∧Q (.inl t))→∃ o,iter body (fu+1) s=some o∧Q o:=by
   rintro(⟨r,h1,h2⟩ | ⟨t,h1,h2⟩)
   ·exact⟨_,by simp only[iter,h1],h2⟩
   ·exact⟨_,by simp only[iter,h1],h2⟩
  rcases Nat.lt_or_ge i n with h | h
  ·rcases step i s h hI with⟨s',h1,h2⟩ | h1
   ·obtain⟨o,h3,h4⟩:=zf I n Q step q (fu:=fu) (i:=i+1) h (by omega) h2
    exact⟨o,by simp only[iter,h1];exact h3,h4⟩
   ·exact done h1
  ·obtain rfl:i=n:=by omega
   exact done (q s hI)

def sumL {α:Type}(f:α→Nat):List α→Nat
 | []=>0
 | x::xs=>f x+sumL f xs


def szL {α:Type}(f:α→Nat)(xs:List α):Nat:=xs.length+sumL f xs

theorem zpF {α:Type}{f:α→Nat}{x:α}:∀ {xs:List α},x∈xs→f x≤sumL f xs
 | y::xs,h=>by
  rcases List.mem_cons.1 h with rfl | h
  ·exact Nat.le_add_right _ _
  ·exact Nat.le_trans (zpF h) (Nat.le_add_left _ _)

theorem zdE {α:Type}{f:α→Nat}:∀ {xs ys:List α},sumL f (xs++ys)=sumL f xs+sumL f ys
 | [],ys=>by simp[sumL]
 | x::xs,ys=>by simp only[List.cons_append,sumL,zdE (xs:=xs),Nat.add_assoc]

theorem ziu {α:Type}{f:α→Nat}{xs:List α}{i:Nat}{x:α}(h:xs[i]? = some x):sumL f (xs.take (i+1))=sumL f (xs.take i)+f x:=by
 rw[List.take_add_one,h,zdE]
 simp[sumL]

theorem z4F {α:Type}{f:α→Nat}{xs:List α}{n:Nat}(h:szL f xs≤n):xs.length≤n:=by unfold szL at h;omega
theorem z4E {α:Type}{f:α→Nat}{xs:List α}{n:Nat}(h:szL f xs≤n){x:α}(hx:x∈xs):f x≤n:=by
 have:=zpF (f:=f) hx
 unfold szL at h;omega
theorem zeR {α:Type}{f:α→Nat}(hf:∀ x,f x=0):∀ (xs:List α),szL f xs=xs.length
 | []=>rfl
 | x::xs=>by
  have:=zeR hf xs
  unfold szL at this ⊢
  simp only[sumL,hf,List.length_cons]
  omega

theorem za {α:Type}{xs:List α}{i:Nat}{x:α}(h:xs[i]? = some x):idx xs (i:Int)=some x:=by
 unfold idx
 simp[h]

theorem z1j {α:Type}{xs:List α}{i:Nat}(h:i<xs.length):∃ x,xs[i]? = some x:=⟨_,List.getElem?_eq_getElem h⟩
theorem lt_t {a b:Int}(h:a<b):(decide (a<b)=true)=True:=by simp[h]
theorem lt_f {a b:Int}(h:¬ a<b):(decide (a<b)=true)=False:=by simp[h]


def z95 (n:Nat)(l:Int)(o:Option Int):Prop:=∃ r,o=some r∧(r<0∨0≤r∧r+(n:Int)=l)

theorem z95.fail {n:Nat}{l:Int}:z95 n l (some (-1)):=⟨_,rfl,.inl (by decide)⟩
theorem z95.same {l:Int}(h:0≤l):z95 0 l (some l):=⟨_,rfl,.inr ⟨h,by omega⟩⟩

theorem z95.bind {n m k:Nat}{l:Int}{o:Option Int}{f:Int→Option Int}(h:z95 n l o)(hk:k=n+m)(g:∀ r,0≤r→r≤l→z95 m r (f r)):
  z95 k l (o.bind fun r=>if decide (r<0)=true then some (-1) else f r):=by
 obtain⟨r,rfl,h⟩:=h
 subst hk
 show z95 _ _ (if decide (r<0)=true then some (-1) else f r)
 rcases h with h | ⟨h1,h2⟩
 ·simp only[lt_t h,if_true];exact z95.fail
 ·simp only[lt_f (show ¬ r<0 by omega),if_false]
  obtain⟨s,h3,h4⟩:=g r h1 (by omega)
  exact⟨s,h3,h4.imp id fun⟨h5,h6⟩=>⟨h5,by omega⟩⟩

theorem z95.sub {n m k:Nat}{l:Int}{f:Int→Option Int}(h0:0≤l)(h1:l≤1048576)(hn:n≤maxLen)(hk:k=n+m)(g:∀ r,0≤r→r≤l→z95 m r (f r)):
  z95 k l (if decide (w64 (l - (n:Int))<0)=true then some (-1) else f (w64 (l - (n:Int)))):=by
 have hm:maxLen=9223372036854775807:=rfl
 rw[zb (show -9223372036854775808≤l - (n:Int) by omega) (by omega)]
 subst hk
 by_cases h:l - (n:Int)<0
 ·simp only[lt_t h,if_true];exact z95.fail
 ·simp only[lt_f h,if_false]
  obtain⟨s,h3,h4⟩:=g _ (show 0≤l - (n:Int) by omega) (by omega)
  exact⟨s,h3,h4.imp id fun⟨h5,h6⟩=>⟨h5,by omega⟩⟩

theorem z95.sub2 {n m k:Nat}{l z:Int}{e:Option Int}(h0:0≤l)(h1:l≤1048576)(hn:n≤maxLen)(hk:k=n+m)(hz:w64 (l - (n:Int))=z)(g:0≤z→z≤l→z95 m z e):
  z95 k l (if decide (z<0)=true then some (-1) else e):=by
 have hm:maxLen=9223372036854775807:=rfl
 rw[zb (show -9223372036854775808≤l - (n:Int) by omega) (by omega)] at hz
 subst hk
 by_cases h:z<0
 ·simp only[lt_t h,if_true];exact z95.fail
 ·simp only[lt_f h,if_false]
  obtain⟨s,h3,h4⟩:=g (by omega) (by omega)
  exact⟨s,h3,h4.imp id fun⟨h5,h6⟩=>⟨h5,by omega⟩⟩


theorem z95.loop {α:Type}{f:α→Nat}{xs:List α}{body:Int×Int→Option (Rd (Int×Int) Int Int)}{j:Int→Option Int}{l:Int}{fu:Nat}(hl:xs.length≤maxLen)(hf:Big fu)(h0:0≤l)(h1:l≤1048576)(hj:∀ t,j t=some t)
  (step:∀ (i:Nat) (x:α) (l:Int),xs[i]? = some x→0≤l→l≤1048576→body (l,i)=some (.ret (-1))∨∃ r,body (l,i)=some (.next (r,w64 (i+1)))∧0≤r∧r+(f x:Int)=l)
  (q:∀ l,body (l,xs.length)=some (.brk l)):z95 (sumL f xs) l ((iter body fu (l,0)).bind fun o=>aft o j):=by
 have hm:maxLen=9223372036854775807:=rfl
 obtain⟨o,h2,h3⟩:=zf (body:=body) (fun i s=>s.2=(i:Int)∧0≤s.1∧s.1+(sumL f (xs.take i):Int)=l) xs.length (fun o=>match o with | .inl t=>0≤t∧t+(sumL f xs:Int)=l | .inr r=>r = -1) (by
  rintro i ⟨s,t⟩ hi ⟨h2,h3,h4⟩
  dsimp only at h2 h3 h4
  subst h2
  obtain⟨x,hx⟩:=z1j hi
  rcases step i x s hx h3 (by omega) with h | ⟨r,h5,h6,h7⟩
  ·exact .inr (.inl ⟨_,h,rfl⟩)
  ·refine .inl ⟨_,h5,?_,h6,?_⟩
   ·show w64 _=_
    rw[zb (by omega) (by omega)];simp
   ·rw[ziu hx]
    show r+_=l
    omega) (by
  rintro⟨s,t⟩ ⟨h2,h3,h4⟩
  dsimp only at h2 h3 h4
  subst h2
  refine .inr ⟨_,q s,h3,?_⟩
  rwa [List.take_length] at h4) (fu:=fu) (i:=0) (s:=(l,0)) (Nat.zero_le _) (by omega) ⟨rfl,h0,by simp[sumL]⟩
 rw[h2]
 cases o with
 | inl t=>exact⟨t,hj t,.inr h3⟩
 | inr r=>exact⟨r,rfl,.inl (by rw[show r = -1 from h3];decide)⟩


theorem zaA {α:Type}{xs:List α}{z:α}{body:Int×List α→Option (Rd (Int×List α) (List α) (List α))}{j:List α→Option (List α)}{fu:Nat}(hl:xs.length≤1048576)(hf:Big fu)(hj:∀ t,j t=some t)
  (step:∀ (i:Nat) (x:α) (out:List α),xs[i]? = some x→out.length=xs.length→body (i,out)=some (.next (w64 (i+1),out.set i x)))
  (q:∀ out,body (xs.length,out)=some (.brk out)):
  (if decide (0≤(xs.length:Int)∧(xs.length:Int)≤4294967296)=true then((iter body fu (0,List.replicate (xs.length:Int).toNat z)).bind fun o=>aft o j) else none)=some xs:=by
 rw[if_pos (by simp;omega)]
 obtain⟨o,h2,h3⟩:=zf (body:=body) (fun i s=>s.1=(i:Int)∧s.2.length=xs.length∧s.2.take i=xs.take i) xs.length (fun o=>o=.inl xs) (by
  rintro i ⟨s,t⟩ hi ⟨h2,h3,h4⟩
  dsimp only at h2 h3 h4
  subst h2
  obtain⟨x,hx⟩:=z1j hi
  refine .inl ⟨_,step i x t hx h3,?_,by simpa using h3,?_⟩
  ·show w64 _=_
   rw[zb (by omega) (by omega)];simp
  ·show(t.set i x).take (i+1)=_
   rw[List.take_add_one,List.take_add_one,hx,List.take_set_of_le (Nat.le_refl _),h4,List.getElem?_set_self (by omega)]) (by
  rintro⟨s,t⟩ ⟨h2,h3,h4⟩
  dsimp only at h2 h3 h4
  subst h2
  refine .inr ⟨_,q t,?_⟩
  rw[List.take_length,List.take_of_length_le (by omega)] at h4
  rw[h4]) (fu:=fu) (i:=0) (s:=(0,List.replicate (xs.length:Int).toNat z)) (Nat.zero_le _) (by omega) ⟨rfl,by simp,by simp⟩
 rw[h2,h3]
 exact hj xs


theorem z1O (s:ByteArray):seqb s s=true:=by simp[seqb]


theorem z7d {τ ρ:Type}{n:Nat}{body:Int→Option (Rd Int τ ρ)}{j:τ→Option ρ}{fu:Nat}{t:τ}{b:ρ}(hl:n≤maxLen)(hf:Big fu)(hj:j t=some b)
  (step:∀ (i:Nat),i<n→body i=some (.next (w64 (i+1))))(q:body n=some (.brk t)):((iter body fu 0).bind fun o=>aft o j)=some b:=by
 have hm:maxLen=9223372036854775807:=rfl
 obtain⟨o,h2,h3⟩:=zf (body:=body) (fun i s=>s=(i:Int)) n (fun o=>o=.inl t) (by
  rintro i s hi rfl
  exact .inl ⟨_,step i hi,by rw[zb (by omega) (by omega)];simp⟩) (by
  rintro s rfl
  exact .inr ⟨_,q,rfl⟩) (fu:=fu) (i:=0) (s:=0) (Nat.zero_le _) (by omega) rfl
 rw[h2,h3]
 exact hj


end Go.E



namespace Go.E
open Go.RowKit

def Qb.wf (x:Qb):Prop:=I64 x.Qj∧I64 x.Qi∧I64 x.Qo∧True
def Qb.sz (x:Qb):Nat:=0
def Qx.wf (x:Qx):Prop:=I64 x.Qe∧I64 x.Qa2∧True
def Qx.sz (x:Qx):Nat:=0
def Qn.wf (x:Qn):Prop:=True∧True∧Qb.wf x.QU∧True
def Qn.sz (x:Qn):Nat:=0
def Qm.wf (x:Qm):Prop:=Qb.wf x.A∧Qb.wf x.B∧True
def Qm.sz (x:Qm):Nat:=0
def D.Qe.wf (x:D.Qe):Prop:=I64 x.Qi∧I64 x.QC∧I64 x.Value∧WfL I64 x.Data∧WfL Qx.wf x.Qy∧True
def D.Qe.sz (x:D.Qe):Nat:=x.Data.length+(x.Qy.length+(0))
def Qa.wf (x:Qa):Prop:=I64 x.Qi∧I64 x.QC∧I64 x.Value∧WfL I64 x.Data∧WfL Qb.wf x.QM∧True
def Qa.sz (x:Qa):Nat:=x.Data.length+(x.QM.length+(0))
def QV.wf (x:QV):Prop:=WfL D.Qe.wf x.QG∧True
def QV.sz (x:QV):Nat:=szL D.Qe.sz x.QG+(0)
def Qp.wf (x:Qp):Prop:=WfL Qa.wf x.Cells∧WfL Qn.wf x.QJ∧WfL Qm.wf x.Qs∧True
def Qp.sz (x:Qp):Nat:=szL Qa.sz x.Cells+(x.QJ.length+(x.Qs.length+(0)))
def D.Qk.wf (x:D.Qk):Prop:=WfL Qp.wf x.Qf∧Qb.wf x.QO∧True
def D.Qk.sz (x:D.Qk):Nat:=szL Qp.sz x.Qf+(0)
def Qh.wf (x:Qh):Prop:=I64 x.Qi∧Qa.wf x.Qz∧Qb.wf x.A∧Qb.wf x.B∧True
def Qh.sz (x:Qh):Nat:=Qa.sz x.Qz+(0)
def Qv.wf (x:Qv):Prop:=D.Qk.wf x.Qk∧WfL (WfL Qh.wf) x.Qd∧WfL (WfL I64) x.QL∧WfL I64 x.QY∧WfL I64 x.Got∧True
def Qv.sz (x:Qv):Nat:=D.Qk.sz x.Qk+(szL (fun x=>szL Qh.sz x) x.Qd+(szL (fun x=>x.length) x.QL+(x.QY.length+(x.Got.length+(0)))))
end Go.E



namespace Go.E


theorem zxK {α τ ρ:Type}[DecidableEq α]{xs ys:List α}{body:Int→Option (Rd Int τ ρ)}{fu:Nat}{t:τ}{v:ρ}(hl:xs.length≤maxLen)(hf:Big fu)(he:xs.length=ys.length)
  (step:∀ (i:Nat) (a b:α),i<xs.length→xs[i]? = some a→ys[i]? = some b→body i=if a=b then some (.next (w64 (i+1))) else some (.ret v))(q:body xs.length=some (.brk t)):
  iter body fu 0=some (if xs=ys then .inl t else .inr v):=by
 have hm:maxLen=9223372036854775807:=rfl
 obtain⟨o,h2,h3⟩:=zf (body:=body) (fun i s=>s=(i:Int)∧xs.take i=ys.take i) xs.length (fun o=>o=if xs=ys then .inl t else .inr v) (by
  rintro i s hi ⟨rfl,h⟩
  obtain⟨a,ha⟩:=z1j hi
  obtain⟨b,hb⟩:=z1j (he ▸ hi:i<ys.length)
  have hs:=step i a b hi ha hb
  by_cases e:a=b
  ·rw[if_pos e] at hs
   refine .inl ⟨_,hs,by rw[zb (by omega) (by omega)];simp,?_⟩
   rw[List.take_add_one,List.take_add_one,h,ha,hb,e]
  ·rw[if_neg e] at hs
   refine .inr (.inl ⟨_,hs,?_⟩)
   rw[if_neg]
   rintro rfl
   rw[ha] at hb
   exact e (Option.some.inj hb)) (by
  rintro s ⟨rfl,h⟩
  rw[List.take_length,he,List.take_length] at h
  exact .inr ⟨_,q,by rw[if_pos h]⟩) (fu:=fu) (i:=0) (s:=0) (Nat.zero_le _) (by omega) ⟨rfl,by simp⟩
 rw[h2,h3]


theorem zmo {α τ:Type}[DecidableEq α]{xs ys:List α}{body:Int→Option (Rd Int τ Bool)}{j:τ→Option Bool}{fu:Nat}{t:τ}(hl:xs.length≤maxLen)(hf:Big fu)(hj:j t=some true)
  (step:∀ (i:Nat) (a b:α),i<xs.length→xs[i]? = some a→ys[i]? = some b→body i=if a=b then some (.next (w64 (i+1))) else some (.ret false))(q:body xs.length=some (.brk t)):
  (if((xs.length:Int) != (ys.length:Int))=true then some false else((iter body fu 0).bind fun o=>aft o j))=some (decide (xs=ys)):=by
 by_cases he:xs.length=ys.length
 ·rw[if_neg (by simp[he]),zxK hl hf he step q]
  by_cases h:xs=ys
  ·rw[if_pos h,dct h];exact hj
  ·rw[if_neg h,decide_eq_false h];rfl
 ·rw[if_pos (by simp;omega),decide_eq_false (fun h=>he (by rw[h]))]


theorem zuW {α τ ρ:Type}{xs:List α}{body:Int→Option (Rd Int τ ρ)}{fu:Nat}{t:τ}{p:α→Bool}{g:Int→ρ}(hl:xs.length≤maxLen)(hf:Big fu)
  (step:∀ (i:Nat) (x:α),i<xs.length→xs[i]? = some x→body i=if p x=true then some (.ret (g i)) else some (.next (w64 (i+1))))(q:body xs.length=some (.brk t)):
  (xs.any p=false∧iter body fu 0=some (.inl t))∨(xs.any p=true∧∃ i:Nat,i<xs.length∧iter body fu 0=some (.inr (g i))):=by
 have hm:maxLen=9223372036854775807:=rfl
 obtain⟨o,h2,h3⟩:=zf (body:=body) (fun i s=>s=(i:Int)∧(xs.take i).any p=false) xs.length (fun o=>(xs.any p=false∧o=.inl t)∨(xs.any p=true∧∃ i:Nat,i<xs.length∧o=.inr (g i))) (by
  rintro i s hi ⟨rfl,ha⟩
  obtain⟨x,hx⟩:=z1j hi
  have hs:=step i x hi hx
  cases hp:p x with
  | true=>
   rw[hp,if_pos rfl] at hs
   exact .inr (.inl ⟨_,hs,.inr ⟨List.any_eq_true.2 ⟨x,List.mem_of_getElem? hx,hp⟩,i,hi,rfl⟩⟩)
  | false=>
   rw[hp,if_neg (by simp)] at hs
   refine .inl ⟨_,hs,by rw[zb (by omega) (by omega)];simp,?_⟩
   rw[List.take_add_one,hx,List.any_append,ha]
   simp[hp]) (by
  rintro s ⟨rfl,ha⟩
  rw[List.take_length] at ha
  exact .inr ⟨_,q,.inl ⟨ha,rfl⟩⟩) (fu:=fu) (i:=0) (s:=0) (Nat.zero_le _) (by omega) ⟨rfl,by simp⟩
 rcases h3 with⟨h3,rfl⟩ | ⟨h3,i,hi,rfl⟩
 ·exact .inl ⟨h3,h2⟩
 ·exact .inr ⟨h3,i,hi,h2⟩


theorem zxP {α τ ρ:Type}{xs:List α}{body:Int→Option (Rd Int τ ρ)}{j:τ→Option ρ}{fu:Nat}{t:τ}{p:α→Bool}{v:ρ}(hl:xs.length≤maxLen)(hf:Big fu)
  (step:∀ (i:Nat) (x:α),i<xs.length→xs[i]? = some x→body i=if p x=true then some (.ret v) else some (.next (w64 (i+1))))(q:body xs.length=some (.brk t)):
  ((iter body fu 0).bind fun o=>aft o j)=if xs.any p=true then some v else j t:=by
 rcases zuW (g:=fun _=>v) hl hf step q with⟨h1,h2⟩ | ⟨h1,i,_,h2⟩
 ·rw[h2,h1];rfl
 ·rw[h2,h1];rfl


theorem zf3 {α τ:Type}{xs:List α}{body:Int→Option (Rd Int τ Int)}{j:τ→Option Int}{fu:Nat}{t:τ}{p:α→Bool}(hl:xs.length≤maxLen)(hf:Big fu)(hj:j t=some (-1))
  (step:∀ (i:Nat) (x:α),i<xs.length→xs[i]? = some x→body i=if p x=true then some (.ret i) else some (.next (w64 (i+1))))(q:body xs.length=some (.brk t)):
  ∃ r,((iter body fu 0).bind fun o=>aft o j)=some r∧decide (r≥0)=xs.any p:=by
 rcases zuW (g:=fun i=>i) hl hf step q with⟨h1,h2⟩ | ⟨h1,i,_,h2⟩
 ·exact⟨-1,by rw[h2];exact hj,by rw[h1];decide⟩
 ·exact⟨i,by rw[h2];rfl,by rw[h1];exact dct (by omega)⟩
end Go.E
namespace Go.E

end Go.E



