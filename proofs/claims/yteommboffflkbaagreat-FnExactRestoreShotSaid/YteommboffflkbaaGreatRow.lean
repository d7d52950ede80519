/- The types of the data, as tables and as plain Lean types (written by program). Conditions: none. -/
import Derived.Test.YteommboffflkbaaGreatMaps
import Derived.Test.YteommboffflkbaaGreatProg
import Derived.KernelRfl
import Derived.Deep.Slices
import Derived.ChangeArms
import Derived.ProofKit
import Derived.OpenShut
import Derived.WideShapes
namespace Go.E
open Go.RowKit Go.Proofs
set_option linter.unusedVariables false
set_option linter.unusedSimpArgs false


theorem ax {W w w':World}{Rs:List Res}{p:Addr}{cs:List Value}(hE:Ext W w) (hS:St w w' Rs) (h:At W p cs):At w' p cs:=At.ext (hE.trans hS.ext) h
abbrev EN (f:Nat):Prop:=Enters Tryz.prog f
theorem en {f:Nat}{g}{c}(h:Tryz.prog.funcs[f]? = some g) (hb:g.body=some c:=by exact rfl) (hn:(g.name == "runtime.NumGoroutine")=false:=by kernel_rfl):EN f:=⟨g,c,h,hb,hn⟩
theorem tR {P:Program}{F:Fr}{w:World}{t:Tmp}{v:Value}(h:F.get t=some v):ResAll P F w [.tmp t] [v]:=.cons (.tmp h) .nil
abbrev CL (f:Nat) (a:Array Value) (w:World) (Q:Ending→World→Prop):Prop:=Calls Tryz.prog f a w Q
abbrev iv (n:Int):Value:=.int .i64 n
abbrev RB (w:World) (r:Bool):=Ret fun v w8=>v=.bool r∧St w w8 []
abbrev RI (w:World) (r:Int):=Ret fun v w8=>v=.int .i64 r∧St w w8 []
theorem fL0:Flat (tPair tInt (tPair tInt (tPair tInt tUnit))):=(Flat.pair Flat.int (Flat.pair Flat.int (Flat.pair Flat.int Flat.unit)))
theorem fL1:Flat (tPair tInt (tPair tBool tUnit)):=(Flat.pair Flat.int (Flat.pair Flat.bool Flat.unit))
def tt:TT:=[
 ⟨2,.int .i64,1,[iv 0],8⟩,
 ⟨3,.int .i64,1,[iv 0],8⟩,
 ⟨4,.bool,1,[.bool false],1⟩,
 ⟨22,.slice 199,1,[.slice none 0 0],24⟩,
 ⟨24,.struct [(0,1,false,2),(1,1,false,2),(2,1,false,2)],3,[iv 0,iv 0,iv 0],24⟩,
 ⟨26,.struct [(0,1,false,22),(1,3,true,24)],4,[.slice none 0 0,iv 0,iv 0,iv 0],48⟩,
 ⟨27,.slice 141,1,[.slice none 0 0],24⟩,
 ⟨28,.slice 29,1,[.slice none 0 0],24⟩,
 ⟨29,.slice 2,1,[.slice none 0 0],24⟩,
 ⟨31,.struct [(0,4,true,26),(4,1,false,27),(5,1,false,28),(6,1,false,29),(7,1,false,29)],8,[.slice none 0 0,iv 0,iv 0,iv 0,.slice none 0 0,.slice none 0 0,.slice none 0 0,.slice none 0 0],144⟩,
 ⟨34,.slice 166,1,[.slice none 0 0],24⟩,
 ⟨35,.struct [(0,1,false,2),(1,1,false,2),(2,1,false,2)],3,[iv 0,iv 0,iv 0],24⟩,
 ⟨37,.struct [(0,1,false,34),(1,3,true,35)],4,[.slice none 0 0,iv 0,iv 0,iv 0],48⟩,
 ⟨38,.slice 149,1,[.slice none 0 0],24⟩,
 ⟨40,.struct [(0,4,true,37),(4,1,false,38),(5,1,false,28),(6,1,false,29),(7,1,false,29)],8,[.slice none 0 0,iv 0,iv 0,iv 0,.slice none 0 0,.slice none 0 0,.slice none 0 0,.slice none 0 0],144⟩,
 ⟨51,.slice 114,1,[.slice none 0 0],24⟩,
 ⟨56,.slice 4,1,[.slice none 0 0],24⟩,
 ⟨58,.struct [(0,8,true,31),(8,1,false,2),(9,1,false,2),(10,1,false,4),(11,1,false,56),(12,1,false,2),(13,1,false,4)],14,[.slice none 0 0,iv 0,iv 0,iv 0,.slice none 0 0,.slice none 0 0,.slice none 0 0,.slice none 0 0,iv 0,iv 0,.bool false,.slice none 0 0,iv 0,.bool false],208⟩,
 ⟨62,.struct [(0,8,true,40),(8,1,false,2),(9,1,false,2),(10,1,false,4),(11,1,false,56),(12,1,false,2),(13,1,false,4)],14,[.slice none 0 0,iv 0,iv 0,iv 0,.slice none 0 0,.slice none 0 0,.slice none 0 0,.slice none 0 0,iv 0,iv 0,.bool false,.slice none 0 0,iv 0,.bool false],208⟩,
 ⟨67,.struct [(0,1,false,56),(1,1,false,22),(2,1,false,28),(3,1,false,56),(4,1,false,27)],5,[.slice none 0 0,.slice none 0 0,.slice none 0 0,.slice none 0 0,.slice none 0 0],120⟩,
 ⟨69,.struct [(0,8,true,31),(8,5,true,67)],13,[.slice none 0 0,iv 0,iv 0,iv 0,.slice none 0 0,.slice none 0 0,.slice none 0 0,.slice none 0 0,.slice none 0 0,.slice none 0 0,.slice none 0 0,.slice none 0 0,.slice none 0 0],264⟩,
 ⟨73,.struct [(0,1,false,56),(1,1,false,34),(2,1,false,28),(3,1,false,56),(4,1,false,38)],5,[.slice none 0 0,.slice none 0 0,.slice none 0 0,.slice none 0 0,.slice none 0 0],120⟩,
 ⟨75,.struct [(0,8,true,40),(8,5,true,73)],13,[.slice none 0 0,iv 0,iv 0,iv 0,.slice none 0 0,.slice none 0 0,.slice none 0 0,.slice none 0 0,.slice none 0 0,.slice none 0 0,.slice none 0 0,.slice none 0 0,.slice none 0 0],264⟩,
 ⟨91,.ptr 40,1,[.pointer none],8⟩,
 ⟨102,.slice 171,1,[.slice none 0 0],24⟩,
 ⟨114,.struct [(0,1,false,2),(1,1,false,2),(2,1,false,2)],3,[iv 0,iv 0,iv 0],24⟩,
 ⟨117,.ptr 62,1,[.pointer none],8⟩,
 ⟨124,.ptr 75,1,[.pointer none],8⟩,
 ⟨141,.slice 205,1,[.slice none 0 0],24⟩,
 ⟨142,.ptr 221,1,[.pointer none],8⟩,
 ⟨146,.ptr 37,1,[.pointer none],8⟩,
 ⟨149,.slice 156,1,[.slice none 0 0],24⟩,
 ⟨152,.slice 35,1,[.slice none 0 0],24⟩,
 ⟨154,.struct [(0,1,false,2),(1,1,false,2),(2,1,false,2),(3,1,false,29),(4,1,false,152)],5,[iv 0,iv 0,iv 0,.slice none 0 0,.slice none 0 0],72⟩,
 ⟨156,.struct [(0,1,false,2),(1,5,true,154),(6,3,true,35),(9,3,true,35)],12,[iv 0,iv 0,iv 0,iv 0,.slice none 0 0,.slice none 0 0,iv 0,iv 0,iv 0,iv 0,iv 0,iv 0],128⟩,
 ⟨162,.slice 154,1,[.slice none 0 0],24⟩,
 ⟨163,.slice 223,1,[.slice none 0 0],24⟩,
 ⟨164,.slice 239,1,[.slice none 0 0],24⟩,
 ⟨166,.struct [(0,1,false,162),(1,1,false,163),(2,1,false,164)],3,[.slice none 0 0,.slice none 0 0,.slice none 0 0],72⟩,
 ⟨169,.struct [(0,3,true,35),(3,1,false,2),(4,1,false,4)],5,[iv 0,iv 0,iv 0,iv 0,.bool false],40⟩,
 ⟨171,.struct [(0,5,true,169),(5,5,true,169)],10,[iv 0,iv 0,iv 0,iv 0,.bool false,iv 0,iv 0,iv 0,iv 0,.bool false],80⟩,
 ⟨182,.ptr 73,1,[.pointer none],8⟩,
 ⟨195,.slice 203,1,[.slice none 0 0],24⟩,
 ⟨196,.slice 288,1,[.slice none 0 0],24⟩,
 ⟨197,.slice 291,1,[.slice none 0 0],24⟩,
 ⟨199,.struct [(0,1,false,195),(1,1,false,196),(2,1,false,197)],3,[.slice none 0 0,.slice none 0 0,.slice none 0 0],72⟩,
 ⟨201,.slice 24,1,[.slice none 0 0],24⟩,
 ⟨203,.struct [(0,1,false,2),(1,1,false,2),(2,1,false,2),(3,1,false,29),(4,1,false,201)],5,[iv 0,iv 0,iv 0,.slice none 0 0,.slice none 0 0],72⟩,
 ⟨205,.struct [(0,1,false,2),(1,5,true,203),(6,3,true,24),(9,3,true,24)],12,[iv 0,iv 0,iv 0,iv 0,.slice none 0 0,.slice none 0 0,iv 0,iv 0,iv 0,iv 0,iv 0,iv 0],128⟩,
 ⟨209,.ptr 156,1,[.pointer none],8⟩,
 ⟨214,.ptr 154,1,[.pointer none],8⟩,
 ⟨218,.slice 262,1,[.slice none 0 0],24⟩,
 ⟨219,.slice 264,1,[.slice none 0 0],24⟩,
 ⟨221,.struct [(0,1,false,218),(1,1,false,219),(2,1,false,28),(3,1,false,28),(4,1,false,28),(5,1,false,28)],6,[.slice none 0 0,.slice none 0 0,.slice none 0 0,.slice none 0 0,.slice none 0 0,.slice none 0 0],144⟩,
 ⟨223,.struct [(0,1,false,4),(1,1,false,4),(2,3,true,35)],5,[.bool false,.bool false,iv 0,iv 0,iv 0],32⟩,
 ⟨235,.other,1,[.map none],8⟩,
 ⟨239,.struct [(0,3,true,35),(3,3,true,35)],6,[iv 0,iv 0,iv 0,iv 0,iv 0,iv 0],48⟩,
 ⟨254,.ptr 166,1,[.pointer none],8⟩,
 ⟨262,.struct [(0,1,false,2),(1,1,false,2),(2,1,false,2),(3,1,false,29),(4,1,false,219)],5,[iv 0,iv 0,iv 0,.slice none 0 0,.slice none 0 0],72⟩,
 ⟨264,.struct [(0,1,false,2),(1,1,false,2)],2,[iv 0,iv 0],16⟩,
 ⟨275,.slice 169,1,[.slice none 0 0],24⟩,
 ⟨285,.ptr 262,1,[.pointer none],8⟩,
 ⟨288,.struct [(0,1,false,4),(1,1,false,4),(2,3,true,24)],5,[.bool false,.bool false,iv 0,iv 0,iv 0],32⟩,
 ⟨291,.struct [(0,3,true,24),(3,3,true,24)],6,[iv 0,iv 0,iv 0,iv 0,iv 0,iv 0],48⟩]

def zerosOk (P:Program):TT→Prop
 | []=>True
 | i::r=>(P.info? i.id).map (fun j=>j.zero.map (fun v=>v.cells.toList))=some (some i.zero)∧zerosOk P r

theorem zfq {P:Program}:∀ {T:TT},zerosOk P T→∀ i,i∈T→(P.info? i.id).map (fun j=>j.zero.map (fun v=>v.cells.toList))=some (some i.zero)
 | [],_,i,h=>by cases h
 | _::_,⟨h1,h2⟩,i,h=>by
  rcases List.mem_cons.1 h with rfl | h
  ·exact h1
  ·exact zfq h2 i h

theorem zqs:tt.all (infoOk Tryz.prog)=true:=by kernel_rfl
theorem zp1:zerosOk Tryz.prog tt:=⟨by kernel_rfl,by kernel_rfl,by kernel_rfl,by kernel_rfl,by kernel_rfl,by kernel_rfl,by kernel_rfl,by kernel_rfl,by kernel_rfl,by kernel_rfl,by kernel_rfl,by kernel_rfl,by kernel_rfl,by kernel_rfl,by kernel_rfl,by kernel_rfl,by kernel_rfl,by kernel_rfl,by kernel_rfl,by kernel_rfl,by kernel_rfl,by kernel_rfl,by kernel_rfl,by kernel_rfl,by kernel_rfl,by kernel_rfl,by kernel_rfl,by kernel_rfl,by kernel_rfl,by kernel_rfl,by kernel_rfl,by kernel_rfl,by kernel_rfl,by kernel_rfl,by kernel_rfl,by kernel_rfl,by kernel_rfl,by kernel_rfl,by kernel_rfl,by kernel_rfl,by kernel_rfl,by kernel_rfl,by kernel_rfl,by kernel_rfl,by kernel_rfl,by kernel_rfl,by kernel_rfl,by kernel_rfl,by kernel_rfl,by kernel_rfl,by kernel_rfl,by kernel_rfl,by kernel_rfl,by kernel_rfl,by kernel_rfl,by kernel_rfl,by kernel_rfl,by kernel_rfl,by kernel_rfl,by kernel_rfl,by kernel_rfl,by kernel_rfl,by kernel_rfl,by kernel_rfl,trivial⟩
theorem ttok:TTok Tryz.prog tt:=⟨List.all_eq_true.1 zqs,zfq zp1⟩
theorem mixed:Tryz.prog.follows .mixedOrders=true:=by kernel_rfl

structure D.Qf where
 Qg:Int
 Qj:Int
 Qs:Int
deriving Inhabited, DecidableEq

structure D.Qb where
 Qj:Int
 QL:Int
 Value:Int
 Data:(List Int)
 QX:(List D.Qf)
deriving Inhabited, DecidableEq

structure D.Qn where
 Qa0:Bool
 Qa1:Bool
 QV:D.Qf
deriving Inhabited, DecidableEq

structure D.Qk where
 A:D.Qf
 B:D.Qf
deriving Inhabited, DecidableEq

structure D.Qp where
 Cells:(List D.Qb)
 QG:(List D.Qn)
 Qu:(List D.Qk)
deriving Inhabited, DecidableEq

structure D.Qi where
 Qc:(List D.Qp)
 Qy:D.Qf
deriving Inhabited, DecidableEq

structure D.Qe where
 Qj:Int
 Qz:D.Qb
 A:D.Qf
 B:D.Qf
deriving Inhabited, DecidableEq

structure D.Qa where
 Qi:D.Qi
 Qh:(List (List D.Qe))
 Qo:(List (List Int))
 QU:(List Int)
 QZ:(List Int)
deriving Inhabited, DecidableEq

structure D.Qa3 where
 Qj:Int
 A:Int
 B:Int
deriving Inhabited, DecidableEq

structure D.Qa2 where
 Qa:D.Qa
 Qa7:Int
 Qa9:Int
 Qaa:Bool
 Qa4:(List Bool)
 Qa6:Int
 Qa8:Bool
deriving Inhabited, DecidableEq

structure D.Qq where
 QC:(List Bool)
 Qc:(List D.Qp)
 Qo:(List (List Int))
 Qt:(List Bool)
 QK:(List (List D.Qe))
deriving Inhabited, DecidableEq

structure D.Qx where
 Qa:D.Qa
 Qq:D.Qq
deriving Inhabited, DecidableEq

structure D.QO where
 at_:D.Qf
 slot:Int
 own:Bool
deriving Inhabited, DecidableEq

structure D.Qd where
 a:D.QO
 b:D.QO
deriving Inhabited, DecidableEq

structure D.QS where
 QJ:Int
 Qa5:Int
deriving Inhabited, DecidableEq

structure D.QJ where
 Qj:Int
 QL:Int
 Value:Int
 Data:(List Int)
 QY:(List D.QS)
deriving Inhabited, DecidableEq

structure D.Qm where
 QB:(List D.QJ)
 QH:(List D.QS)
 cells:(List (List Int))
 QM:(List (List Int))
 ends:(List (List Int))
 Qv:(List (List Int))
deriving Inhabited, DecidableEq

def ty29:Ty (List Int):=tSl 2 tInt
instance {W:World}:Reads W ty29:=inferInstanceAs (Reads W (tSl 2 tInt))
theorem z1z {w:World}{cs:List Value}{xs:(List Int)}(h:ty29.ro w cs xs):∃ A c,cs=[.slice A xs.length c]:=slForm h

def ty24:Ty D.Qf:=tMap (fun c=>(c.Qg,c.Qj,c.Qs,())) (tPair tInt (tPair tInt (tPair tInt tUnit)))
instance {W:World}:Reads W ty24:=inferInstanceAs (Reads W (tMap (fun c:D.Qf=>(c.Qg,c.Qj,c.Qs,())) (tPair tInt (tPair tInt (tPair tInt tUnit)))))
theorem zaj {w:World}{cs:List Value}{c:D.Qf}(h:ty24.ro w cs c):cs=[iv c.Qg,iv c.Qj,iv c.Qs]:=by
 obtain⟨c0,d0,rfl,h0,c1,d1,rfl,h1,c2,d2,rfl,h2,hz⟩:=h
 subst hz
 subst h0
 subst h1
 subst h2
 rfl
theorem zb4 {w:World}(c:D.Qf)  :ty24.ro w [iv c.Qg,iv c.Qj,iv c.Qs] c:=
 ⟨_,_,rfl,rfl,⟨_,_,rfl,rfl,⟨_,_,rfl,rfl,rfl⟩⟩⟩
def zgu:Ty (List D.Qf):=tSl 24 ty24
instance {W:World}:Reads W zgu:=inferInstanceAs (Reads W (tSl 24 ty24))
theorem zkC {w:World}{cs:List Value}{xs:(List D.Qf)}(h:zgu.ro w cs xs):∃ A c,cs=[.slice A xs.length c]:=slForm h

def zgt:Ty D.Qb:=tMap (fun c=>(c.Qj,c.QL,c.Value,c.Data,c.QX,())) (tPair tInt (tPair tInt (tPair tInt (tPair ty29 (tPair zgu tUnit)))))
instance {W:World}:Reads W zgt:=inferInstanceAs (Reads W (tMap (fun c:D.Qb=>(c.Qj,c.QL,c.Value,c.Data,c.QX,())) (tPair tInt (tPair tInt (tPair tInt (tPair ty29 (tPair zgu tUnit)))))))
theorem zbT {w:World}{cs:List Value}{c:D.Qb}(h:zgt.ro w cs c):∃ A0 k0 A1 k1,cs=[iv c.Qj,iv c.QL,iv c.Value,.slice A0 c.Data.length k0,.slice A1 c.QX.length k1]∧ty29.ro w [.slice A0 c.Data.length k0] c.Data∧zgu.ro w [.slice A1 c.QX.length k1] c.QX:=by
 obtain⟨c0,d0,rfl,h0,c1,d1,rfl,h1,c2,d2,rfl,h2,c3,d3,rfl,h3,c4,d4,rfl,h4,hz⟩:=h
 subst hz
 subst h0
 subst h1
 subst h2
 obtain⟨d,q,e3⟩:=z1z h3
 subst e3
 obtain⟨o,G,e4⟩:=zkC h4
 subst e4
 exact⟨d,q,o,G,rfl,h3,h4⟩
theorem zgT {w:World}(c:D.Qb){A0:Option Addr}{k0:Nat}{A1:Option Addr}{k1:Nat}(h0:ty29.ro w [.slice A0 c.Data.length k0] c.Data) (h1:zgu.ro w [.slice A1 c.QX.length k1] c.QX):zgt.ro w [iv c.Qj,iv c.QL,iv c.Value,.slice A0 c.Data.length k0,.slice A1 c.QX.length k1] c:=
 ⟨_,_,rfl,rfl,⟨_,_,rfl,rfl,⟨_,_,rfl,rfl,⟨_,_,rfl,h0,⟨_,_,rfl,h1,rfl⟩⟩⟩⟩⟩
def zi4:Ty (List D.Qb):=tSl 203 zgt
instance {W:World}:Reads W zi4:=inferInstanceAs (Reads W (tSl 203 zgt))
theorem zkF {w:World}{cs:List Value}{xs:(List D.Qb)}(h:zi4.ro w cs xs):∃ A c,cs=[.slice A xs.length c]:=slForm h

def zkz:Ty D.Qn:=tMap (fun c=>(c.Qa0,c.Qa1,c.QV,())) (tPair tBool (tPair tBool (tPair ty24 tUnit)))
instance {W:World}:Reads W zkz:=inferInstanceAs (Reads W (tMap (fun c:D.Qn=>(c.Qa0,c.Qa1,c.QV,())) (tPair tBool (tPair tBool (tPair ty24 tUnit)))))
theorem zgN {w:World}{cs:List Value}{c:D.Qn}(h:zkz.ro w cs c):cs=[.bool c.Qa0,.bool c.Qa1,iv c.QV.Qg,iv c.QV.Qj,iv c.QV.Qs]:=by
 obtain⟨c0,d0,rfl,h0,c1,d1,rfl,h1,c2,d2,rfl,h2,hz⟩:=h
 subst hz
 subst h0
 subst h1
 have e2:=zaj h2
 subst e2
 rfl
def zi3:Ty (List D.Qn):=tSl 288 zkz
instance {W:World}:Reads W zi3:=inferInstanceAs (Reads W (tSl 288 zkz))
theorem zkE {w:World}{cs:List Value}{xs:(List D.Qn)}(h:zi3.ro w cs xs):∃ A c,cs=[.slice A xs.length c]:=slForm h

def zky:Ty D.Qk:=tMap (fun c=>(c.A,c.B,())) (tPair ty24 (tPair ty24 tUnit))
instance {W:World}:Reads W zky:=inferInstanceAs (Reads W (tMap (fun c:D.Qk=>(c.A,c.B,())) (tPair ty24 (tPair ty24 tUnit))))
theorem zgM {w:World}{cs:List Value}{c:D.Qk}(h:zky.ro w cs c):cs=[iv c.A.Qg,iv c.A.Qj,iv c.A.Qs,iv c.B.Qg,iv c.B.Qj,iv c.B.Qs]:=by
 obtain⟨c0,d0,rfl,h0,c1,d1,rfl,h1,hz⟩:=h
 subst hz
 have e0:=zaj h0
 subst e0
 have e1:=zaj h1
 subst e1
 rfl
def zi2:Ty (List D.Qk):=tSl 291 zky
instance {W:World}:Reads W zi2:=inferInstanceAs (Reads W (tSl 291 zky))
theorem zkD {w:World}{cs:List Value}{xs:(List D.Qk)}(h:zi2.ro w cs xs):∃ A c,cs=[.slice A xs.length c]:=slForm h

def zjs:Ty D.Qp:=tMap (fun c=>(c.Cells,c.QG,c.Qu,())) (tPair zi4 (tPair zi3 (tPair zi2 tUnit)))
instance {W:World}:Reads W zjs:=inferInstanceAs (Reads W (tMap (fun c:D.Qp=>(c.Cells,c.QG,c.Qu,())) (tPair zi4 (tPair zi3 (tPair zi2 tUnit)))))
theorem zd6 {w:World}{cs:List Value}{c:D.Qp}(h:zjs.ro w cs c):∃ A0 k0 A1 k1 A2 k2,cs=[.slice A0 c.Cells.length k0,.slice A1 c.QG.length k1,.slice A2 c.Qu.length k2]∧zi4.ro w [.slice A0 c.Cells.length k0] c.Cells∧zi3.ro w [.slice A1 c.QG.length k1] c.QG∧zi2.ro w [.slice A2 c.Qu.length k2] c.Qu:=by
 obtain⟨c0,d0,rfl,h0,c1,d1,rfl,h1,c2,d2,rfl,h2,hz⟩:=h
 subst hz
 obtain⟨d,G,e0⟩:=zkF h0
 subst e0
 obtain⟨o,H,e1⟩:=zkE h1
 subst e1
 obtain⟨q,M,e2⟩:=zkD h2
 subst e2
 exact⟨d,G,o,H,q,M,rfl,h0,h1,h2⟩
def ty22:Ty (List D.Qp):=tSl 199 zjs
instance {W:World}:Reads W ty22:=inferInstanceAs (Reads W (tSl 199 zjs))
theorem zi0 {w:World}{cs:List Value}{xs:(List D.Qp)}(h:ty22.ro w cs xs):∃ A c,cs=[.slice A xs.length c]:=slForm h

def ty26:Ty D.Qi:=tMap (fun c=>(c.Qc,c.Qy,())) (tPair ty22 (tPair ty24 tUnit))
instance {W:World}:Reads W ty26:=inferInstanceAs (Reads W (tMap (fun c:D.Qi=>(c.Qc,c.Qy,())) (tPair ty22 (tPair ty24 tUnit))))
theorem zfw {w:World}{cs:List Value}{c:D.Qi}(h:ty26.ro w cs c):∃ A0 k0,cs=[.slice A0 c.Qc.length k0,iv c.Qy.Qg,iv c.Qy.Qj,iv c.Qy.Qs]∧ty22.ro w [.slice A0 c.Qc.length k0] c.Qc:=by
 obtain⟨c0,d0,rfl,h0,c1,d1,rfl,h1,hz⟩:=h
 subst hz
 obtain⟨d,o,e0⟩:=zi0 h0
 subst e0
 have e1:=zaj h1
 subst e1
 exact⟨d,o,rfl,h0⟩
theorem zfv {w:World}(c:D.Qi){A0:Option Addr}{k0:Nat}(h0:ty22.ro w [.slice A0 c.Qc.length k0] c.Qc):ty26.ro w [.slice A0 c.Qc.length k0,iv c.Qy.Qg,iv c.Qy.Qj,iv c.Qy.Qs] c:=
 ⟨_,_,rfl,h0,⟨_,_,rfl,(zb4 c.Qy ),rfl⟩⟩
def zjr:Ty D.Qe:=tMap (fun c=>(c.Qj,c.Qz,c.A,c.B,())) (tPair tInt (tPair zgt (tPair ty24 (tPair ty24 tUnit))))
instance {W:World}:Reads W zjr:=inferInstanceAs (Reads W (tMap (fun c:D.Qe=>(c.Qj,c.Qz,c.A,c.B,())) (tPair tInt (tPair zgt (tPair ty24 (tPair ty24 tUnit))))))
theorem zd5 {w:World}{cs:List Value}{c:D.Qe}(h:zjr.ro w cs c):∃ A0 k0 A1 k1,cs=[iv c.Qj,iv c.Qz.Qj,iv c.Qz.QL,iv c.Qz.Value,.slice A0 c.Qz.Data.length k0,.slice A1 c.Qz.QX.length k1,iv c.A.Qg,iv c.A.Qj,iv c.A.Qs,iv c.B.Qg,iv c.B.Qj,iv c.B.Qs]∧ty29.ro w [.slice A0 c.Qz.Data.length k0] c.Qz.Data∧zgu.ro w [.slice A1 c.Qz.QX.length k1] c.Qz.QX:=by
 obtain⟨c0,d0,rfl,h0,c1,d1,rfl,h1,c2,d2,rfl,h2,c3,d3,rfl,h3,hz⟩:=h
 subst hz
 subst h0
 obtain⟨d,H,o,M,e1,q,G⟩:=zbT h1
 subst e1
 have e2:=zaj h2
 subst e2
 have e3:=zaj h3
 subst e3
 exact⟨d,H,o,M,rfl,q,G⟩
def zjw:Ty (List D.Qe):=tSl 205 zjr
instance {W:World}:Reads W zjw:=inferInstanceAs (Reads W (tSl 205 zjr))
theorem zgX {w:World}{cs:List Value}{xs:(List D.Qe)}(h:zjw.ro w cs xs):∃ A c,cs=[.slice A xs.length c]:=slForm h

def ty27:Ty (List (List D.Qe)):=tSl 141 zjw
instance {W:World}:Reads W ty27:=inferInstanceAs (Reads W (tSl 141 zjw))
theorem zhY {w:World}{cs:List Value}{xs:(List (List D.Qe))}(h:ty27.ro w cs xs):∃ A c,cs=[.slice A xs.length c]:=slForm h

def ty28:Ty (List (List Int)):=tSl 29 ty29
instance {W:World}:Reads W ty28:=inferInstanceAs (Reads W (tSl 29 ty29))
theorem zai {w:World}{cs:List Value}{xs:(List (List Int))}(h:ty28.ro w cs xs):∃ A c,cs=[.slice A xs.length c]:=slForm h

def ty31:Ty D.Qa:=tMap (fun c=>(c.Qi,c.Qh,c.Qo,c.QU,c.QZ,())) (tPair ty26 (tPair ty27 (tPair ty28 (tPair ty29 (tPair ty29 tUnit)))))
instance {W:World}:Reads W ty31:=inferInstanceAs (Reads W (tMap (fun c:D.Qa=>(c.Qi,c.Qh,c.Qo,c.QU,c.QZ,())) (tPair ty26 (tPair ty27 (tPair ty28 (tPair ty29 (tPair ty29 tUnit)))))))
theorem zfu {w:World}{cs:List Value}{c:D.Qa}(h:ty31.ro w cs c):∃ A0 k0 A1 k1 A2 k2 A3 k3 A4 k4,cs=[.slice A0 c.Qi.Qc.length k0,iv c.Qi.Qy.Qg,iv c.Qi.Qy.Qj,iv c.Qi.Qy.Qs,.slice A1 c.Qh.length k1,.slice A2 c.Qo.length k2,.slice A3 c.QU.length k3,.slice A4 c.QZ.length k4]∧ty22.ro w [.slice A0 c.Qi.Qc.length k0] c.Qi.Qc∧ty27.ro w [.slice A1 c.Qh.length k1] c.Qh∧ty28.ro w [.slice A2 c.Qo.length k2] c.Qo∧ty29.ro w [.slice A3 c.QU.length k3] c.QU∧ty29.ro w [.slice A4 c.QZ.length k4] c.QZ:=by
 obtain⟨c0,d0,rfl,h0,c1,d1,rfl,h1,c2,d2,rfl,h2,c3,d3,rfl,h3,c4,d4,rfl,h4,hz⟩:=h
 subst hz
 obtain⟨d,q,e0,o⟩:=zfw h0
 subst e0
 obtain⟨G,S,e1⟩:=zhY h1
 subst e1
 obtain⟨H,X,e2⟩:=zai h2
 subst e2
 obtain⟨M,Y,e3⟩:=z1z h3
 subst e3
 obtain⟨O,Z,e4⟩:=z1z h4
 subst e4
 exact⟨d,q,G,S,H,X,M,Y,O,Z,rfl,o,h1,h2,h3,h4⟩
theorem zhX {w:World}(c:D.Qa){A0:Option Addr}{k0:Nat}{A1:Option Addr}{k1:Nat}{A2:Option Addr}{k2:Nat}{A3:Option Addr}{k3:Nat}{A4:Option Addr}{k4:Nat}(h0:ty22.ro w [.slice A0 c.Qi.Qc.length k0] c.Qi.Qc) (h1:ty27.ro w [.slice A1 c.Qh.length k1] c.Qh) (h2:ty28.ro w [.slice A2 c.Qo.length k2] c.Qo) (h3:ty29.ro w [.slice A3 c.QU.length k3] c.QU) (h4:ty29.ro w [.slice A4 c.QZ.length k4] c.QZ):ty31.ro w [.slice A0 c.Qi.Qc.length k0,iv c.Qi.Qy.Qg,iv c.Qi.Qy.Qj,iv c.Qi.Qy.Qs,.slice A1 c.Qh.length k1,.slice A2 c.Qo.length k2,.slice A3 c.QU.length k3,.slice A4 c.QZ.length k4] c:=
 ⟨_,_,rfl,(zfv c.Qi h0),⟨_,_,rfl,h1,⟨_,_,rfl,h2,⟨_,_,rfl,h3,⟨_,_,rfl,h4,rfl⟩⟩⟩⟩⟩
def ty35:Ty D.Qf:=tMap (fun c=>(c.Qg,c.Qj,c.Qs,())) (tPair tInt (tPair tInt (tPair tInt tUnit)))
instance {W:World}:Reads W ty35:=inferInstanceAs (Reads W (tMap (fun c:D.Qf=>(c.Qg,c.Qj,c.Qs,())) (tPair tInt (tPair tInt (tPair tInt tUnit)))))
theorem z1p {w:World}{cs:List Value}{c:D.Qf}(h:ty35.ro w cs c):cs=[iv c.Qg,iv c.Qj,iv c.Qs]:=by
 obtain⟨c0,d0,rfl,h0,c1,d1,rfl,h1,c2,d2,rfl,h2,hz⟩:=h
 subst hz
 subst h0
 subst h1
 subst h2
 rfl
theorem zO {w:World}(c:D.Qf)  :ty35.ro w [iv c.Qg,iv c.Qj,iv c.Qs] c:=
 ⟨_,_,rfl,rfl,⟨_,_,rfl,rfl,⟨_,_,rfl,rfl,rfl⟩⟩⟩
theorem zcd {w:World}{cs:List Value}{c:D.Qf}{G:List Nat}(h:ty35.own w cs c G):cs=[iv c.Qg,iv c.Qj,iv c.Qs]∧(All []).A w G:=by
 obtain⟨c0,d0,H0,K0,rfl,rfl,h0,c1,d1,H1,K1,rfl,rfl,h1,c2,d2,H2,K2,rfl,rfl,h2,hz,hk⟩:=h
 subst hz;subst hk
 obtain⟨e0,k0⟩:=h0;subst e0;subst k0
 obtain⟨e1,k1⟩:=h1;subst e1;subst k1
 obtain⟨e2,k2⟩:=h2;subst e2;subst k2
 refine⟨rfl,?_⟩
 show(All _).A w _
 exact cast (congrArg _ (by simp)) (show(All _).A w ([]) from rfl)
theorem zah {w:World}{c:D.Qf}  {G:List Nat}(h:(All []).A w G):ty35.own w [iv c.Qg,iv c.Qj,iv c.Qs] c G:=by
 have hz:G=[]:=h
 subst hz
 exact cast (congrArg _ (by simp)) (show ty35.own w [iv c.Qg,iv c.Qj,iv c.Qs] c (_) from⟨_,_,_,_,rfl,rfl,⟨rfl,rfl⟩,⟨_,_,_,_,rfl,rfl,⟨rfl,rfl⟩,⟨_,_,_,_,rfl,rfl,⟨rfl,rfl⟩,⟨rfl,rfl⟩⟩⟩⟩)
theorem zkx {W w:World}{B:List Res}{cs:List Value}{c:D.Qf}(h:St W w (Own ty35 cs c::B)):cs=[iv c.Qg,iv c.Qj,iv c.Qs]∧St W w ([]++B):=by
 obtain⟨G,hA,_⟩:=h.sep.head
 obtain⟨rfl,_⟩:=zcd hA
 refine⟨rfl,St.splitAll (h.conv fun G hG=>?_)⟩
 exact(zcd hG).2
theorem zgL {W w:World}{B:List Res}{c:D.Qf}  (h:St W w ([]++B)):St W w (Own ty35 [iv c.Qg,iv c.Qj,iv c.Qs] c::B):=(St.fuseAll h).conv fun _ hG=>zah hG

def z3r:Ty (List D.Qf):=tSl 35 ty35
instance {W:World}:Reads W z3r:=inferInstanceAs (Reads W (tSl 35 ty35))
theorem zkN {w:World}{cs:List Value}{xs:(List D.Qf)}(h:z3r.ro w cs xs):∃ A c,cs=[.slice A xs.length c]:=slForm h

def z2B:Ty D.Qb:=tMap (fun c=>(c.Qj,c.QL,c.Value,c.Data,c.QX,())) (tPair tInt (tPair tInt (tPair tInt (tPair ty29 (tPair z3r tUnit)))))
instance {W:World}:Reads W z2B:=inferInstanceAs (Reads W (tMap (fun c:D.Qb=>(c.Qj,c.QL,c.Value,c.Data,c.QX,())) (tPair tInt (tPair tInt (tPair tInt (tPair ty29 (tPair z3r tUnit)))))))
theorem zq {w:World}{cs:List Value}{c:D.Qb}(h:z2B.ro w cs c):∃ A0 k0 A1 k1,cs=[iv c.Qj,iv c.QL,iv c.Value,.slice A0 c.Data.length k0,.slice A1 c.QX.length k1]∧ty29.ro w [.slice A0 c.Data.length k0] c.Data∧z3r.ro w [.slice A1 c.QX.length k1] c.QX:=by
 obtain⟨c0,d0,rfl,h0,c1,d1,rfl,h1,c2,d2,rfl,h2,c3,d3,rfl,h3,c4,d4,rfl,h4,hz⟩:=h
 subst hz
 subst h0
 subst h1
 subst h2
 obtain⟨d,q,e3⟩:=z1z h3
 subst e3
 obtain⟨o,G,e4⟩:=zkN h4
 subst e4
 exact⟨d,q,o,G,rfl,h3,h4⟩
theorem z4H {w:World}(c:D.Qb){A0:Option Addr}{k0:Nat}{A1:Option Addr}{k1:Nat}(h0:ty29.ro w [.slice A0 c.Data.length k0] c.Data) (h1:z3r.ro w [.slice A1 c.QX.length k1] c.QX):z2B.ro w [iv c.Qj,iv c.QL,iv c.Value,.slice A0 c.Data.length k0,.slice A1 c.QX.length k1] c:=
 ⟨_,_,rfl,rfl,⟨_,_,rfl,rfl,⟨_,_,rfl,rfl,⟨_,_,rfl,h0,⟨_,_,rfl,h1,rfl⟩⟩⟩⟩⟩
theorem zfB {w:World}{cs:List Value}{c:D.Qb}{G:List Nat}(h:z2B.own w cs c G):∃ A0 k0 A1 k1,cs=[iv c.Qj,iv c.QL,iv c.Value,.slice A0 c.Data.length k0,.slice A1 c.QX.length k1]∧(All [Own ty29 [.slice A0 c.Data.length k0] c.Data,Own z3r [.slice A1 c.QX.length k1] c.QX]).A w G:=by
 obtain⟨c0,d0,H0,K0,rfl,rfl,h0,c1,d1,H1,K1,rfl,rfl,h1,c2,d2,H2,K2,rfl,rfl,h2,c3,d3,H3,K3,rfl,rfl,h3,c4,d4,H4,K4,rfl,rfl,h4,hz,hk⟩:=h
 subst hz;subst hk
 obtain⟨e0,k0⟩:=h0;subst e0;subst k0
 obtain⟨e1,k1⟩:=h1;subst e1;subst k1
 obtain⟨e2,k2⟩:=h2;subst e2;subst k2
 obtain⟨d,q,e3⟩:=slFormO h3
 subst e3
 obtain⟨o,H,e4⟩:=slFormO h4
 subst e4
 refine⟨d,q,o,H,rfl,?_⟩
 show(All _).A w _
 exact cast (congrArg _ (by simp)) (show(All _).A w (H3++(H4++([]))) from⟨_,_,rfl,h3,⟨_,_,rfl,h4,rfl⟩⟩)
theorem zeq {w:World}{c:D.Qb}{A0:Option Addr}{k0:Nat}{A1:Option Addr}{k1:Nat}{G:List Nat}(h:(All [Own ty29 [.slice A0 c.Data.length k0] c.Data,Own z3r [.slice A1 c.QX.length k1] c.QX]).A w G):z2B.own w [iv c.Qj,iv c.QL,iv c.Value,.slice A0 c.Data.length k0,.slice A1 c.QX.length k1] c G:=by
 obtain⟨G0,R0,rfl,h0,G1,R1,rfl,h1,hz⟩:=h
 have hz':R1=[]:=hz
 subst hz'
 exact cast (congrArg _ (by simp)) (show z2B.own w [iv c.Qj,iv c.QL,iv c.Value,.slice A0 c.Data.length k0,.slice A1 c.QX.length k1] c (_) from⟨_,_,_,_,rfl,rfl,⟨rfl,rfl⟩,⟨_,_,_,_,rfl,rfl,⟨rfl,rfl⟩,⟨_,_,_,_,rfl,rfl,⟨rfl,rfl⟩,⟨_,_,_,_,rfl,rfl,h0,⟨_,_,_,_,rfl,rfl,h1,⟨rfl,rfl⟩⟩⟩⟩⟩⟩)
theorem zjv {W w:World}{B:List Res}{cs:List Value}{c:D.Qb}(h:St W w (Own z2B cs c::B)):∃ A0 k0 A1 k1,cs=[iv c.Qj,iv c.QL,iv c.Value,.slice A0 c.Data.length k0,.slice A1 c.QX.length k1]∧St W w ([Own ty29 [.slice A0 c.Data.length k0] c.Data,Own z3r [.slice A1 c.QX.length k1] c.QX]++B):=by
 obtain⟨G,hA,_⟩:=h.sep.head
 obtain⟨A0,k0,A1,k1,rfl,_⟩:=zfB hA
 refine⟨A0,k0,A1,k1,rfl,St.splitAll (h.conv fun G hG=>?_)⟩
 obtain⟨X0,Y0,X1,Y1,he,hh⟩:=zfB hG
 simp only [List.cons.injEq,Value.slice.injEq,and_true,true_and] at he
 obtain⟨⟨rfl,rfl⟩,⟨rfl,rfl⟩⟩:=he
 exact hh
theorem zcg {W w:World}{B:List Res}{c:D.Qb}{A0:Option Addr}{k0:Nat}{A1:Option Addr}{k1:Nat}(h:St W w ([Own ty29 [.slice A0 c.Data.length k0] c.Data,Own z3r [.slice A1 c.QX.length k1] c.QX]++B)):St W w (Own z2B [iv c.Qj,iv c.QL,iv c.Value,.slice A0 c.Data.length k0,.slice A1 c.QX.length k1] c::B):=(St.fuseAll h).conv fun _ hG=>zeq hG

def z6K:Ty (List D.Qb):=tSl 154 z2B
instance {W:World}:Reads W z6K:=inferInstanceAs (Reads W (tSl 154 z2B))
theorem zkL {w:World}{cs:List Value}{xs:(List D.Qb)}(h:z6K.ro w cs xs):∃ A c,cs=[.slice A xs.length c]:=slForm h

def za8:Ty D.Qn:=tMap (fun c=>(c.Qa0,c.Qa1,c.QV,())) (tPair tBool (tPair tBool (tPair ty35 tUnit)))
instance {W:World}:Reads W za8:=inferInstanceAs (Reads W (tMap (fun c:D.Qn=>(c.Qa0,c.Qa1,c.QV,())) (tPair tBool (tPair tBool (tPair ty35 tUnit)))))
theorem z1n {w:World}{cs:List Value}{c:D.Qn}(h:za8.ro w cs c):cs=[.bool c.Qa0,.bool c.Qa1,iv c.QV.Qg,iv c.QV.Qj,iv c.QV.Qs]:=by
 obtain⟨c0,d0,rfl,h0,c1,d1,rfl,h1,c2,d2,rfl,h2,hz⟩:=h
 subst hz
 subst h0
 subst h1
 have e2:=z1p h2
 subst e2
 rfl
theorem zi1 {w:World}{cs:List Value}{c:D.Qn}{G:List Nat}(h:za8.own w cs c G):cs=[.bool c.Qa0,.bool c.Qa1,iv c.QV.Qg,iv c.QV.Qj,iv c.QV.Qs]∧(All []).A w G:=by
 obtain⟨c0,d0,H0,K0,rfl,rfl,h0,c1,d1,H1,K1,rfl,rfl,h1,c2,d2,H2,K2,rfl,rfl,h2,hz,hk⟩:=h
 subst hz;subst hk
 obtain⟨e0,k0⟩:=h0;subst e0;subst k0
 obtain⟨e1,k1⟩:=h1;subst e1;subst k1
 obtain⟨e2,g2⟩:=zcd h2
 subst e2
 refine⟨rfl,?_⟩
 exact cast (congrArg _ (by simp)) g2
theorem zgQ {w:World}{c:D.Qn}  {G:List Nat}(h:(All []).A w G):za8.own w [.bool c.Qa0,.bool c.Qa1,iv c.QV.Qg,iv c.QV.Qj,iv c.QV.Qs] c G:=by
 have hz:G=[]:=h
 subst hz
 exact cast (congrArg _ (by simp)) (show za8.own w [.bool c.Qa0,.bool c.Qa1,iv c.QV.Qg,iv c.QV.Qj,iv c.QV.Qs] c (_) from⟨_,_,_,_,rfl,rfl,⟨rfl,rfl⟩,⟨_,_,_,_,rfl,rfl,⟨rfl,rfl⟩,⟨_,_,_,_,rfl,rfl,(zah (c:=c.QV) rfl),⟨rfl,rfl⟩⟩⟩⟩)
theorem zjq {W w:World}{B:List Res}{cs:List Value}{c:D.Qn}(h:St W w (Own za8 cs c::B)):cs=[.bool c.Qa0,.bool c.Qa1,iv c.QV.Qg,iv c.QV.Qj,iv c.QV.Qs]∧St W w ([]++B):=by
 obtain⟨G,hA,_⟩:=h.sep.head
 obtain⟨rfl,_⟩:=zi1 hA
 refine⟨rfl,St.splitAll (h.conv fun G hG=>?_)⟩
 exact(zi1 hG).2
theorem zfz {W w:World}{B:List Res}{c:D.Qn}  (h:St W w ([]++B)):St W w (Own za8 [.bool c.Qa0,.bool c.Qa1,iv c.QV.Qg,iv c.QV.Qj,iv c.QV.Qs] c::B):=(St.fuseAll h).conv fun _ hG=>zgQ hG

def z3w:Ty (List D.Qn):=tSl 223 za8
instance {W:World}:Reads W z3w:=inferInstanceAs (Reads W (tSl 223 za8))
theorem zkJ {w:World}{cs:List Value}{xs:(List D.Qn)}(h:z3w.ro w cs xs):∃ A c,cs=[.slice A xs.length c]:=slForm h

def zak:Ty D.Qk:=tMap (fun c=>(c.A,c.B,())) (tPair ty35 (tPair ty35 tUnit))
instance {W:World}:Reads W zak:=inferInstanceAs (Reads W (tMap (fun c:D.Qk=>(c.A,c.B,())) (tPair ty35 (tPair ty35 tUnit))))
theorem z2r {w:World}{cs:List Value}{c:D.Qk}(h:zak.ro w cs c):cs=[iv c.A.Qg,iv c.A.Qj,iv c.A.Qs,iv c.B.Qg,iv c.B.Qj,iv c.B.Qs]:=by
 obtain⟨c0,d0,rfl,h0,c1,d1,rfl,h1,hz⟩:=h
 subst hz
 have e0:=z1p h0
 subst e0
 have e1:=z1p h1
 subst e1
 rfl
theorem zhZ {w:World}{cs:List Value}{c:D.Qk}{G:List Nat}(h:zak.own w cs c G):cs=[iv c.A.Qg,iv c.A.Qj,iv c.A.Qs,iv c.B.Qg,iv c.B.Qj,iv c.B.Qs]∧(All []).A w G:=by
 obtain⟨c0,d0,H0,K0,rfl,rfl,h0,c1,d1,H1,K1,rfl,rfl,h1,hz,hk⟩:=h
 subst hz;subst hk
 obtain⟨e0,g0⟩:=zcd h0
 subst e0
 obtain⟨e1,g1⟩:=zcd h1
 subst e1
 refine⟨rfl,?_⟩
 exact cast (congrArg _ (by simp)) (allApp g0 g1)
theorem zgP {w:World}{c:D.Qk}  {G:List Nat}(h:(All []).A w G):zak.own w [iv c.A.Qg,iv c.A.Qj,iv c.A.Qs,iv c.B.Qg,iv c.B.Qj,iv c.B.Qs] c G:=by
 have hz:G=[]:=h
 subst hz
 exact cast (congrArg _ (by simp)) (show zak.own w [iv c.A.Qg,iv c.A.Qj,iv c.A.Qs,iv c.B.Qg,iv c.B.Qj,iv c.B.Qs] c (_) from⟨_,_,_,_,rfl,rfl,(zah (c:=c.A) rfl),⟨_,_,_,_,rfl,rfl,(zah (c:=c.B) rfl),⟨rfl,rfl⟩⟩⟩)
theorem zjp {W w:World}{B:List Res}{cs:List Value}{c:D.Qk}(h:St W w (Own zak cs c::B)):cs=[iv c.A.Qg,iv c.A.Qj,iv c.A.Qs,iv c.B.Qg,iv c.B.Qj,iv c.B.Qs]∧St W w ([]++B):=by
 obtain⟨G,hA,_⟩:=h.sep.head
 obtain⟨rfl,_⟩:=zhZ hA
 refine⟨rfl,St.splitAll (h.conv fun G hG=>?_)⟩
 exact(zhZ hG).2
theorem zfy {W w:World}{B:List Res}{c:D.Qk}  (h:St W w ([]++B)):St W w (Own zak [iv c.A.Qg,iv c.A.Qj,iv c.A.Qs,iv c.B.Qg,iv c.B.Qj,iv c.B.Qs] c::B):=(St.fuseAll h).conv fun _ hG=>zgP hG

def z3h:Ty (List D.Qk):=tSl 239 zak
instance {W:World}:Reads W z3h:=inferInstanceAs (Reads W (tSl 239 zak))
theorem zkH {w:World}{cs:List Value}{xs:(List D.Qk)}(h:z3h.ro w cs xs):∃ A c,cs=[.slice A xs.length c]:=slForm h

def z20:Ty D.Qp:=tMap (fun c=>(c.Cells,c.QG,c.Qu,())) (tPair z6K (tPair z3w (tPair z3h tUnit)))
instance {W:World}:Reads W z20:=inferInstanceAs (Reads W (tMap (fun c:D.Qp=>(c.Cells,c.QG,c.Qu,())) (tPair z6K (tPair z3w (tPair z3h tUnit)))))
theorem zw {w:World}{cs:List Value}{c:D.Qp}(h:z20.ro w cs c):∃ A0 k0 A1 k1 A2 k2,cs=[.slice A0 c.Cells.length k0,.slice A1 c.QG.length k1,.slice A2 c.Qu.length k2]∧z6K.ro w [.slice A0 c.Cells.length k0] c.Cells∧z3w.ro w [.slice A1 c.QG.length k1] c.QG∧z3h.ro w [.slice A2 c.Qu.length k2] c.Qu:=by
 obtain⟨c0,d0,rfl,h0,c1,d1,rfl,h1,c2,d2,rfl,h2,hz⟩:=h
 subst hz
 obtain⟨d,G,e0⟩:=zkL h0
 subst e0
 obtain⟨o,H,e1⟩:=zkJ h1
 subst e1
 obtain⟨q,M,e2⟩:=zkH h2
 subst e2
 exact⟨d,G,o,H,q,M,rfl,h0,h1,h2⟩
theorem zd8 {w:World}(c:D.Qp){A0:Option Addr}{k0:Nat}{A1:Option Addr}{k1:Nat}{A2:Option Addr}{k2:Nat}(h0:z6K.ro w [.slice A0 c.Cells.length k0] c.Cells) (h1:z3w.ro w [.slice A1 c.QG.length k1] c.QG) (h2:z3h.ro w [.slice A2 c.Qu.length k2] c.Qu):z20.ro w [.slice A0 c.Cells.length k0,.slice A1 c.QG.length k1,.slice A2 c.Qu.length k2] c:=
 ⟨_,_,rfl,h0,⟨_,_,rfl,h1,⟨_,_,rfl,h2,rfl⟩⟩⟩
theorem zi6 {w:World}{cs:List Value}{c:D.Qp}{G:List Nat}(h:z20.own w cs c G):∃ A0 k0 A1 k1 A2 k2,cs=[.slice A0 c.Cells.length k0,.slice A1 c.QG.length k1,.slice A2 c.Qu.length k2]∧(All [Own z6K [.slice A0 c.Cells.length k0] c.Cells,Own z3w [.slice A1 c.QG.length k1] c.QG,Own z3h [.slice A2 c.Qu.length k2] c.Qu]).A w G:=by
 obtain⟨c0,d0,H0,K0,rfl,rfl,h0,c1,d1,H1,K1,rfl,rfl,h1,c2,d2,H2,K2,rfl,rfl,h2,hz,hk⟩:=h
 subst hz;subst hk
 obtain⟨d,H,e0⟩:=slFormO h0
 subst e0
 obtain⟨o,M,e1⟩:=slFormO h1
 subst e1
 obtain⟨q,O,e2⟩:=slFormO h2
 subst e2
 refine⟨d,H,o,M,q,O,rfl,?_⟩
 show(All _).A w _
 exact cast (congrArg _ (by simp)) (show(All _).A w (H0++(H1++(H2++([])))) from⟨_,_,rfl,h0,⟨_,_,rfl,h1,⟨_,_,rfl,h2,rfl⟩⟩⟩)
theorem zgV {w:World}{c:D.Qp}{A0:Option Addr}{k0:Nat}{A1:Option Addr}{k1:Nat}{A2:Option Addr}{k2:Nat}{G:List Nat}(h:(All [Own z6K [.slice A0 c.Cells.length k0] c.Cells,Own z3w [.slice A1 c.QG.length k1] c.QG,Own z3h [.slice A2 c.Qu.length k2] c.Qu]).A w G):z20.own w [.slice A0 c.Cells.length k0,.slice A1 c.QG.length k1,.slice A2 c.Qu.length k2] c G:=by
 obtain⟨G0,R0,rfl,h0,G1,R1,rfl,h1,G2,R2,rfl,h2,hz⟩:=h
 have hz':R2=[]:=hz
 subst hz'
 exact cast (congrArg _ (by simp)) (show z20.own w [.slice A0 c.Cells.length k0,.slice A1 c.QG.length k1,.slice A2 c.Qu.length k2] c (_) from⟨_,_,_,_,rfl,rfl,h0,⟨_,_,_,_,rfl,rfl,h1,⟨_,_,_,_,rfl,rfl,h2,⟨rfl,rfl⟩⟩⟩⟩)
theorem zjt {W w:World}{B:List Res}{cs:List Value}{c:D.Qp}(h:St W w (Own z20 cs c::B)):∃ A0 k0 A1 k1 A2 k2,cs=[.slice A0 c.Cells.length k0,.slice A1 c.QG.length k1,.slice A2 c.Qu.length k2]∧St W w ([Own z6K [.slice A0 c.Cells.length k0] c.Cells,Own z3w [.slice A1 c.QG.length k1] c.QG,Own z3h [.slice A2 c.Qu.length k2] c.Qu]++B):=by
 obtain⟨G,hA,_⟩:=h.sep.head
 obtain⟨A0,k0,A1,k1,A2,k2,rfl,_⟩:=zi6 hA
 refine⟨A0,k0,A1,k1,A2,k2,rfl,St.splitAll (h.conv fun G hG=>?_)⟩
 obtain⟨X0,Y0,X1,Y1,X2,Y2,he,hh⟩:=zi6 hG
 simp only [List.cons.injEq,Value.slice.injEq,and_true,true_and] at he
 obtain⟨⟨rfl,rfl⟩,⟨rfl,rfl⟩,⟨rfl,rfl⟩⟩:=he
 exact hh
theorem zb5 {W w:World}{B:List Res}{c:D.Qp}{A0:Option Addr}{k0:Nat}{A1:Option Addr}{k1:Nat}{A2:Option Addr}{k2:Nat}(h:St W w ([Own z6K [.slice A0 c.Cells.length k0] c.Cells,Own z3w [.slice A1 c.QG.length k1] c.QG,Own z3h [.slice A2 c.Qu.length k2] c.Qu]++B)):St W w (Own z20 [.slice A0 c.Cells.length k0,.slice A1 c.QG.length k1,.slice A2 c.Qu.length k2] c::B):=(St.fuseAll h).conv fun _ hG=>zgV hG

def ty34:Ty (List D.Qp):=tSl 166 z20
instance {W:World}:Reads W ty34:=inferInstanceAs (Reads W (tSl 166 z20))
theorem zhW {w:World}{cs:List Value}{xs:(List D.Qp)}(h:ty34.ro w cs xs):∃ A c,cs=[.slice A xs.length c]:=slForm h

def ty37:Ty D.Qi:=tMap (fun c=>(c.Qc,c.Qy,())) (tPair ty34 (tPair ty35 tUnit))
instance {W:World}:Reads W ty37:=inferInstanceAs (Reads W (tMap (fun c:D.Qi=>(c.Qc,c.Qy,())) (tPair ty34 (tPair ty35 tUnit))))
theorem z4d {w:World}{cs:List Value}{c:D.Qi}(h:ty37.ro w cs c):∃ A0 k0,cs=[.slice A0 c.Qc.length k0,iv c.Qy.Qg,iv c.Qy.Qj,iv c.Qy.Qs]∧ty34.ro w [.slice A0 c.Qc.length k0] c.Qc:=by
 obtain⟨c0,d0,rfl,h0,c1,d1,rfl,h1,hz⟩:=h
 subst hz
 obtain⟨d,o,e0⟩:=zhW h0
 subst e0
 have e1:=z1p h1
 subst e1
 exact⟨d,o,rfl,h0⟩
theorem z5J {w:World}(c:D.Qi){A0:Option Addr}{k0:Nat}(h0:ty34.ro w [.slice A0 c.Qc.length k0] c.Qc):ty37.ro w [.slice A0 c.Qc.length k0,iv c.Qy.Qg,iv c.Qy.Qj,iv c.Qy.Qs] c:=
 ⟨_,_,rfl,h0,⟨_,_,rfl,(zO c.Qy ),rfl⟩⟩
def z8K:Ty D.Qe:=tMap (fun c=>(c.Qj,c.Qz,c.A,c.B,())) (tPair tInt (tPair z2B (tPair ty35 (tPair ty35 tUnit))))
instance {W:World}:Reads W z8K:=inferInstanceAs (Reads W (tMap (fun c:D.Qe=>(c.Qj,c.Qz,c.A,c.B,())) (tPair tInt (tPair z2B (tPair ty35 (tPair ty35 tUnit))))))
theorem zC {w:World}{cs:List Value}{c:D.Qe}(h:z8K.ro w cs c):∃ A0 k0 A1 k1,cs=[iv c.Qj,iv c.Qz.Qj,iv c.Qz.QL,iv c.Qz.Value,.slice A0 c.Qz.Data.length k0,.slice A1 c.Qz.QX.length k1,iv c.A.Qg,iv c.A.Qj,iv c.A.Qs,iv c.B.Qg,iv c.B.Qj,iv c.B.Qs]∧ty29.ro w [.slice A0 c.Qz.Data.length k0] c.Qz.Data∧z3r.ro w [.slice A1 c.Qz.QX.length k1] c.Qz.QX:=by
 obtain⟨c0,d0,rfl,h0,c1,d1,rfl,h1,c2,d2,rfl,h2,c3,d3,rfl,h3,hz⟩:=h
 subst hz
 subst h0
 obtain⟨d,H,o,M,e1,q,G⟩:=zq h1
 subst e1
 have e2:=z1p h2
 subst e2
 have e3:=z1p h3
 subst e3
 exact⟨d,H,o,M,rfl,q,G⟩
theorem zi7 {w:World}{cs:List Value}{c:D.Qe}{G:List Nat}(h:z8K.own w cs c G):∃ A0 k0 A1 k1,cs=[iv c.Qj,iv c.Qz.Qj,iv c.Qz.QL,iv c.Qz.Value,.slice A0 c.Qz.Data.length k0,.slice A1 c.Qz.QX.length k1,iv c.A.Qg,iv c.A.Qj,iv c.A.Qs,iv c.B.Qg,iv c.B.Qj,iv c.B.Qs]∧(All [Own ty29 [.slice A0 c.Qz.Data.length k0] c.Qz.Data,Own z3r [.slice A1 c.Qz.QX.length k1] c.Qz.QX]).A w G:=by
 obtain⟨c0,d0,H0,K0,rfl,rfl,h0,c1,d1,H1,K1,rfl,rfl,h1,c2,d2,H2,K2,rfl,rfl,h2,c3,d3,H3,K3,rfl,rfl,h3,hz,hk⟩:=h
 subst hz;subst hk
 obtain⟨e0,k0⟩:=h0;subst e0;subst k0
 obtain⟨d,q,o,H,e1,g1⟩:=zfB h1
 subst e1
 obtain⟨e2,g2⟩:=zcd h2
 subst e2
 obtain⟨e3,g3⟩:=zcd h3
 subst e3
 refine⟨d,q,o,H,rfl,?_⟩
 exact cast (congrArg _ (by simp)) (allApp g1 (allApp g2 g3))
theorem zgW {w:World}{c:D.Qe}{A0:Option Addr}{k0:Nat}{A1:Option Addr}{k1:Nat}{G:List Nat}(h:(All [Own ty29 [.slice A0 c.Qz.Data.length k0] c.Qz.Data,Own z3r [.slice A1 c.Qz.QX.length k1] c.Qz.QX]).A w G):z8K.own w [iv c.Qj,iv c.Qz.Qj,iv c.Qz.QL,iv c.Qz.Value,.slice A0 c.Qz.Data.length k0,.slice A1 c.Qz.QX.length k1,iv c.A.Qg,iv c.A.Qj,iv c.A.Qs,iv c.B.Qg,iv c.B.Qj,iv c.B.Qs] c G:=by
 obtain⟨G0,R0,rfl,h0,G1,R1,rfl,h1,hz⟩:=h
 have hz':R1=[]:=hz
 subst hz'
 exact cast (congrArg _ (by simp)) (show z8K.own w [iv c.Qj,iv c.Qz.Qj,iv c.Qz.QL,iv c.Qz.Value,.slice A0 c.Qz.Data.length k0,.slice A1 c.Qz.QX.length k1,iv c.A.Qg,iv c.A.Qj,iv c.A.Qs,iv c.B.Qg,iv c.B.Qj,iv c.B.Qs] c (_) from⟨_,_,_,_,rfl,rfl,⟨rfl,rfl⟩,⟨_,_,_,_,rfl,rfl,(zeq (c:=c.Qz) ⟨_,_,rfl,h0,⟨_,_,rfl,h1,rfl⟩⟩),⟨_,_,_,_,rfl,rfl,(zah (c:=c.A) rfl),⟨_,_,_,_,rfl,rfl,(zah (c:=c.B) rfl),⟨rfl,rfl⟩⟩⟩⟩⟩)
theorem zju {W w:World}{B:List Res}{cs:List Value}{c:D.Qe}(h:St W w (Own z8K cs c::B)):∃ A0 k0 A1 k1,cs=[iv c.Qj,iv c.Qz.Qj,iv c.Qz.QL,iv c.Qz.Value,.slice A0 c.Qz.Data.length k0,.slice A1 c.Qz.QX.length k1,iv c.A.Qg,iv c.A.Qj,iv c.A.Qs,iv c.B.Qg,iv c.B.Qj,iv c.B.Qs]∧St W w ([Own ty29 [.slice A0 c.Qz.Data.length k0] c.Qz.Data,Own z3r [.slice A1 c.Qz.QX.length k1] c.Qz.QX]++B):=by
 obtain⟨G,hA,_⟩:=h.sep.head
 obtain⟨A0,k0,A1,k1,rfl,_⟩:=zi7 hA
 refine⟨A0,k0,A1,k1,rfl,St.splitAll (h.conv fun G hG=>?_)⟩
 obtain⟨X0,Y0,X1,Y1,he,hh⟩:=zi7 hG
 simp only [List.cons.injEq,Value.slice.injEq,and_true,true_and] at he
 obtain⟨⟨rfl,rfl⟩,⟨rfl,rfl⟩⟩:=he
 exact hh
theorem za9 {W w:World}{B:List Res}{c:D.Qe}{A0:Option Addr}{k0:Nat}{A1:Option Addr}{k1:Nat}(h:St W w ([Own ty29 [.slice A0 c.Qz.Data.length k0] c.Qz.Data,Own z3r [.slice A1 c.Qz.QX.length k1] c.Qz.QX]++B)):St W w (Own z8K [iv c.Qj,iv c.Qz.Qj,iv c.Qz.QL,iv c.Qz.Value,.slice A0 c.Qz.Data.length k0,.slice A1 c.Qz.QX.length k1,iv c.A.Qg,iv c.A.Qj,iv c.A.Qs,iv c.B.Qg,iv c.B.Qj,iv c.B.Qs] c::B):=(St.fuseAll h).conv fun _ hG=>zgW hG

def z7U:Ty (List D.Qe):=tSl 156 z8K
instance {W:World}:Reads W z7U:=inferInstanceAs (Reads W (tSl 156 z8K))
theorem zZ {w:World}{cs:List Value}{xs:(List D.Qe)}(h:z7U.ro w cs xs):∃ A c,cs=[.slice A xs.length c]:=slForm h

def ty38:Ty (List (List D.Qe)):=tSl 149 z7U
instance {W:World}:Reads W ty38:=inferInstanceAs (Reads W (tSl 149 z7U))
theorem zhV {w:World}{cs:List Value}{xs:(List (List D.Qe))}(h:ty38.ro w cs xs):∃ A c,cs=[.slice A xs.length c]:=slForm h

def ty40:Ty D.Qa:=tMap (fun c=>(c.Qi,c.Qh,c.Qo,c.QU,c.QZ,())) (tPair ty37 (tPair ty38 (tPair ty28 (tPair ty29 (tPair ty29 tUnit)))))
instance {W:World}:Reads W ty40:=inferInstanceAs (Reads W (tMap (fun c:D.Qa=>(c.Qi,c.Qh,c.Qo,c.QU,c.QZ,())) (tPair ty37 (tPair ty38 (tPair ty28 (tPair ty29 (tPair ty29 tUnit)))))))
theorem z88 {w:World}{cs:List Value}{c:D.Qa}(h:ty40.ro w cs c):∃ A0 k0 A1 k1 A2 k2 A3 k3 A4 k4,cs=[.slice A0 c.Qi.Qc.length k0,iv c.Qi.Qy.Qg,iv c.Qi.Qy.Qj,iv c.Qi.Qy.Qs,.slice A1 c.Qh.length k1,.slice A2 c.Qo.length k2,.slice A3 c.QU.length k3,.slice A4 c.QZ.length k4]∧ty34.ro w [.slice A0 c.Qi.Qc.length k0] c.Qi.Qc∧ty38.ro w [.slice A1 c.Qh.length k1] c.Qh∧ty28.ro w [.slice A2 c.Qo.length k2] c.Qo∧ty29.ro w [.slice A3 c.QU.length k3] c.QU∧ty29.ro w [.slice A4 c.QZ.length k4] c.QZ:=by
 obtain⟨c0,d0,rfl,h0,c1,d1,rfl,h1,c2,d2,rfl,h2,c3,d3,rfl,h3,c4,d4,rfl,h4,hz⟩:=h
 subst hz
 obtain⟨d,q,e0,o⟩:=z4d h0
 subst e0
 obtain⟨G,S,e1⟩:=zhV h1
 subst e1
 obtain⟨H,X,e2⟩:=zai h2
 subst e2
 obtain⟨M,Y,e3⟩:=z1z h3
 subst e3
 obtain⟨O,Z,e4⟩:=z1z h4
 subst e4
 exact⟨d,q,G,S,H,X,M,Y,O,Z,rfl,o,h1,h2,h3,h4⟩
theorem z2F {w:World}(c:D.Qa){A0:Option Addr}{k0:Nat}{A1:Option Addr}{k1:Nat}{A2:Option Addr}{k2:Nat}{A3:Option Addr}{k3:Nat}{A4:Option Addr}{k4:Nat}(h0:ty34.ro w [.slice A0 c.Qi.Qc.length k0] c.Qi.Qc) (h1:ty38.ro w [.slice A1 c.Qh.length k1] c.Qh) (h2:ty28.ro w [.slice A2 c.Qo.length k2] c.Qo) (h3:ty29.ro w [.slice A3 c.QU.length k3] c.QU) (h4:ty29.ro w [.slice A4 c.QZ.length k4] c.QZ):ty40.ro w [.slice A0 c.Qi.Qc.length k0,iv c.Qi.Qy.Qg,iv c.Qi.Qy.Qj,iv c.Qi.Qy.Qs,.slice A1 c.Qh.length k1,.slice A2 c.Qo.length k2,.slice A3 c.QU.length k3,.slice A4 c.QZ.length k4] c:=
 ⟨_,_,rfl,(z5J c.Qi h0),⟨_,_,rfl,h1,⟨_,_,rfl,h2,⟨_,_,rfl,h3,⟨_,_,rfl,h4,rfl⟩⟩⟩⟩⟩
def ty56:Ty (List Bool):=tSl 4 tBool
instance {W:World}:Reads W ty56:=inferInstanceAs (Reads W (tSl 4 tBool))
theorem zdL {w:World}{cs:List Value}{xs:(List Bool)}(h:ty56.ro w cs xs):∃ A c,cs=[.slice A xs.length c]:=slForm h

def ty67:Ty D.Qq:=tMap (fun c=>(c.QC,c.Qc,c.Qo,c.Qt,c.QK,())) (tPair ty56 (tPair ty22 (tPair ty28 (tPair ty56 (tPair ty27 tUnit)))))
instance {W:World}:Reads W ty67:=inferInstanceAs (Reads W (tMap (fun c:D.Qq=>(c.QC,c.Qc,c.Qo,c.Qt,c.QK,())) (tPair ty56 (tPair ty22 (tPair ty28 (tPair ty56 (tPair ty27 tUnit)))))))
theorem zft {w:World}{cs:List Value}{c:D.Qq}(h:ty67.ro w cs c):∃ A0 k0 A1 k1 A2 k2 A3 k3 A4 k4,cs=[.slice A0 c.QC.length k0,.slice A1 c.Qc.length k1,.slice A2 c.Qo.length k2,.slice A3 c.Qt.length k3,.slice A4 c.QK.length k4]∧ty56.ro w [.slice A0 c.QC.length k0] c.QC∧ty22.ro w [.slice A1 c.Qc.length k1] c.Qc∧ty28.ro w [.slice A2 c.Qo.length k2] c.Qo∧ty56.ro w [.slice A3 c.Qt.length k3] c.Qt∧ty27.ro w [.slice A4 c.QK.length k4] c.QK:=by
 obtain⟨c0,d0,rfl,h0,c1,d1,rfl,h1,c2,d2,rfl,h2,c3,d3,rfl,h3,c4,d4,rfl,h4,hz⟩:=h
 subst hz
 obtain⟨d,M,e0⟩:=zdL h0
 subst e0
 obtain⟨o,O,e1⟩:=zi0 h1
 subst e1
 obtain⟨q,S,e2⟩:=zai h2
 subst e2
 obtain⟨G,X,e3⟩:=zdL h3
 subst e3
 obtain⟨H,Y,e4⟩:=zhY h4
 subst e4
 exact⟨d,M,o,O,q,S,G,X,H,Y,rfl,h0,h1,h2,h3,h4⟩
theorem zhU {w:World}(c:D.Qq){A0:Option Addr}{k0:Nat}{A1:Option Addr}{k1:Nat}{A2:Option Addr}{k2:Nat}{A3:Option Addr}{k3:Nat}{A4:Option Addr}{k4:Nat}(h0:ty56.ro w [.slice A0 c.QC.length k0] c.QC) (h1:ty22.ro w [.slice A1 c.Qc.length k1] c.Qc) (h2:ty28.ro w [.slice A2 c.Qo.length k2] c.Qo) (h3:ty56.ro w [.slice A3 c.Qt.length k3] c.Qt) (h4:ty27.ro w [.slice A4 c.QK.length k4] c.QK):ty67.ro w [.slice A0 c.QC.length k0,.slice A1 c.Qc.length k1,.slice A2 c.Qo.length k2,.slice A3 c.Qt.length k3,.slice A4 c.QK.length k4] c:=
 ⟨_,_,rfl,h0,⟨_,_,rfl,h1,⟨_,_,rfl,h2,⟨_,_,rfl,h3,⟨_,_,rfl,h4,rfl⟩⟩⟩⟩⟩
def ty69:Ty D.Qx:=tMap (fun c=>(c.Qa,c.Qq,())) (tPair ty31 (tPair ty67 tUnit))
instance {W:World}:Reads W ty69:=inferInstanceAs (Reads W (tMap (fun c:D.Qx=>(c.Qa,c.Qq,())) (tPair ty31 (tPair ty67 tUnit))))
theorem zfs {w:World}{cs:List Value}{c:D.Qx}(h:ty69.ro w cs c):∃ A0 k0 A1 k1 A2 k2 A3 k3 A4 k4 A5 k5 A6 k6 A7 k7 A8 k8 A9 k9,cs=[.slice A0 c.Qa.Qi.Qc.length k0,iv c.Qa.Qi.Qy.Qg,iv c.Qa.Qi.Qy.Qj,iv c.Qa.Qi.Qy.Qs,.slice A1 c.Qa.Qh.length k1,.slice A2 c.Qa.Qo.length k2,.slice A3 c.Qa.QU.length k3,.slice A4 c.Qa.QZ.length k4,.slice A5 c.Qq.QC.length k5,.slice A6 c.Qq.Qc.length k6,.slice A7 c.Qq.Qo.length k7,.slice A8 c.Qq.Qt.length k8,.slice A9 c.Qq.QK.length k9]∧ty22.ro w [.slice A0 c.Qa.Qi.Qc.length k0] c.Qa.Qi.Qc∧ty27.ro w [.slice A1 c.Qa.Qh.length k1] c.Qa.Qh∧ty28.ro w [.slice A2 c.Qa.Qo.length k2] c.Qa.Qo∧ty29.ro w [.slice A3 c.Qa.QU.length k3] c.Qa.QU∧ty29.ro w [.slice A4 c.Qa.QZ.length k4] c.Qa.QZ∧ty56.ro w [.slice A5 c.Qq.QC.length k5] c.Qq.QC∧ty22.ro w [.slice A6 c.Qq.Qc.length k6] c.Qq.Qc∧ty28.ro w [.slice A7 c.Qq.Qo.length k7] c.Qq.Qo∧ty56.ro w [.slice A8 c.Qq.Qt.length k8] c.Qq.Qt∧ty27.ro w [.slice A9 c.Qq.QK.length k9] c.Qq.QK:=by
 obtain⟨c0,d0,rfl,h0,c1,d1,rfl,h1,hz⟩:=h
 subst hz
 obtain⟨d,r0,o,t0,q,u0,G,v0,H,y0,e0,Z,a0,b0,f0,g0⟩:=zfu h0
 subst e0
 obtain⟨M,B0,O,C0,S,D0,X,E0,Y,F0,e1,i0,j0,o0,p0,q0⟩:=zft h1
 subst e1
 exact⟨d,r0,o,t0,q,u0,G,v0,H,y0,M,B0,O,C0,S,D0,X,E0,Y,F0,rfl,Z,a0,b0,f0,g0,i0,j0,o0,p0,q0⟩
def ty73:Ty D.Qq:=tMap (fun c=>(c.QC,c.Qc,c.Qo,c.Qt,c.QK,())) (tPair ty56 (tPair ty34 (tPair ty28 (tPair ty56 (tPair ty38 tUnit)))))
instance {W:World}:Reads W ty73:=inferInstanceAs (Reads W (tMap (fun c:D.Qq=>(c.QC,c.Qc,c.Qo,c.Qt,c.QK,())) (tPair ty56 (tPair ty34 (tPair ty28 (tPair ty56 (tPair ty38 tUnit)))))))
theorem zb3 {w:World}{cs:List Value}{c:D.Qq}(h:ty73.ro w cs c):∃ A0 k0 A1 k1 A2 k2 A3 k3 A4 k4,cs=[.slice A0 c.QC.length k0,.slice A1 c.Qc.length k1,.slice A2 c.Qo.length k2,.slice A3 c.Qt.length k3,.slice A4 c.QK.length k4]∧ty56.ro w [.slice A0 c.QC.length k0] c.QC∧ty34.ro w [.slice A1 c.Qc.length k1] c.Qc∧ty28.ro w [.slice A2 c.Qo.length k2] c.Qo∧ty56.ro w [.slice A3 c.Qt.length k3] c.Qt∧ty38.ro w [.slice A4 c.QK.length k4] c.QK:=by
 obtain⟨c0,d0,rfl,h0,c1,d1,rfl,h1,c2,d2,rfl,h2,c3,d3,rfl,h3,c4,d4,rfl,h4,hz⟩:=h
 subst hz
 obtain⟨d,M,e0⟩:=zdL h0
 subst e0
 obtain⟨o,O,e1⟩:=zhW h1
 subst e1
 obtain⟨q,S,e2⟩:=zai h2
 subst e2
 obtain⟨G,X,e3⟩:=zdL h3
 subst e3
 obtain⟨H,Y,e4⟩:=zhV h4
 subst e4
 exact⟨d,M,o,O,q,S,G,X,H,Y,rfl,h0,h1,h2,h3,h4⟩
theorem zb2 {w:World}(c:D.Qq){A0:Option Addr}{k0:Nat}{A1:Option Addr}{k1:Nat}{A2:Option Addr}{k2:Nat}{A3:Option Addr}{k3:Nat}{A4:Option Addr}{k4:Nat}(h0:ty56.ro w [.slice A0 c.QC.length k0] c.QC) (h1:ty34.ro w [.slice A1 c.Qc.length k1] c.Qc) (h2:ty28.ro w [.slice A2 c.Qo.length k2] c.Qo) (h3:ty56.ro w [.slice A3 c.Qt.length k3] c.Qt) (h4:ty38.ro w [.slice A4 c.QK.length k4] c.QK):ty73.ro w [.slice A0 c.QC.length k0,.slice A1 c.Qc.length k1,.slice A2 c.Qo.length k2,.slice A3 c.Qt.length k3,.slice A4 c.QK.length k4] c:=
 ⟨_,_,rfl,h0,⟨_,_,rfl,h1,⟨_,_,rfl,h2,⟨_,_,rfl,h3,⟨_,_,rfl,h4,rfl⟩⟩⟩⟩⟩
def ty75:Ty D.Qx:=tMap (fun c=>(c.Qa,c.Qq,())) (tPair ty40 (tPair ty73 tUnit))
instance {W:World}:Reads W ty75:=inferInstanceAs (Reads W (tMap (fun c:D.Qx=>(c.Qa,c.Qq,())) (tPair ty40 (tPair ty73 tUnit))))
theorem z7w {w:World}{cs:List Value}{c:D.Qx}(h:ty75.ro w cs c):∃ A0 k0 A1 k1 A2 k2 A3 k3 A4 k4 A5 k5 A6 k6 A7 k7 A8 k8 A9 k9,cs=[.slice A0 c.Qa.Qi.Qc.length k0,iv c.Qa.Qi.Qy.Qg,iv c.Qa.Qi.Qy.Qj,iv c.Qa.Qi.Qy.Qs,.slice A1 c.Qa.Qh.length k1,.slice A2 c.Qa.Qo.length k2,.slice A3 c.Qa.QU.length k3,.slice A4 c.Qa.QZ.length k4,.slice A5 c.Qq.QC.length k5,.slice A6 c.Qq.Qc.length k6,.slice A7 c.Qq.Qo.length k7,.slice A8 c.Qq.Qt.length k8,.slice A9 c.Qq.QK.length k9]∧ty34.ro w [.slice A0 c.Qa.Qi.Qc.length k0] c.Qa.Qi.Qc∧ty38.ro w [.slice A1 c.Qa.Qh.length k1] c.Qa.Qh∧ty28.ro w [.slice A2 c.Qa.Qo.length k2] c.Qa.Qo∧ty29.ro w [.slice A3 c.Qa.QU.length k3] c.Qa.QU∧ty29.ro w [.slice A4 c.Qa.QZ.length k4] c.Qa.QZ∧ty56.ro w [.slice A5 c.Qq.QC.length k5] c.Qq.QC∧ty34.ro w [.slice A6 c.Qq.Qc.length k6] c.Qq.Qc∧ty28.ro w [.slice A7 c.Qq.Qo.length k7] c.Qq.Qo∧ty56.ro w [.slice A8 c.Qq.Qt.length k8] c.Qq.Qt∧ty38.ro w [.slice A9 c.Qq.QK.length k9] c.Qq.QK:=by
 obtain⟨c0,d0,rfl,h0,c1,d1,rfl,h1,hz⟩:=h
 subst hz
 obtain⟨d,r0,o,t0,q,u0,G,v0,H,y0,e0,Z,a0,b0,f0,g0⟩:=z88 h0
 subst e0
 obtain⟨M,B0,O,C0,S,D0,X,E0,Y,F0,e1,i0,j0,o0,p0,q0⟩:=zb3 h1
 subst e1
 exact⟨d,r0,o,t0,q,u0,G,v0,H,y0,M,B0,O,C0,S,D0,X,E0,Y,F0,rfl,Z,a0,b0,f0,g0,i0,j0,o0,p0,q0⟩
theorem zcz {w:World}(c:D.Qx){A0:Option Addr}{k0:Nat}{A1:Option Addr}{k1:Nat}{A2:Option Addr}{k2:Nat}{A3:Option Addr}{k3:Nat}{A4:Option Addr}{k4:Nat}{A5:Option Addr}{k5:Nat}{A6:Option Addr}{k6:Nat}{A7:Option Addr}{k7:Nat}{A8:Option Addr}{k8:Nat}{A9:Option Addr}{k9:Nat}(h0:ty34.ro w [.slice A0 c.Qa.Qi.Qc.length k0] c.Qa.Qi.Qc) (h1:ty38.ro w [.slice A1 c.Qa.Qh.length k1] c.Qa.Qh) (h2:ty28.ro w [.slice A2 c.Qa.Qo.length k2] c.Qa.Qo) (h3:ty29.ro w [.slice A3 c.Qa.QU.length k3] c.Qa.QU) (h4:ty29.ro w [.slice A4 c.Qa.QZ.length k4] c.Qa.QZ) (h5:ty56.ro w [.slice A5 c.Qq.QC.length k5] c.Qq.QC) (h6:ty34.ro w [.slice A6 c.Qq.Qc.length k6] c.Qq.Qc) (h7:ty28.ro w [.slice A7 c.Qq.Qo.length k7] c.Qq.Qo) (h8:ty56.ro w [.slice A8 c.Qq.Qt.length k8] c.Qq.Qt) (h9:ty38.ro w [.slice A9 c.Qq.QK.length k9] c.Qq.QK):ty75.ro w [.slice A0 c.Qa.Qi.Qc.length k0,iv c.Qa.Qi.Qy.Qg,iv c.Qa.Qi.Qy.Qj,iv c.Qa.Qi.Qy.Qs,.slice A1 c.Qa.Qh.length k1,.slice A2 c.Qa.Qo.length k2,.slice A3 c.Qa.QU.length k3,.slice A4 c.Qa.QZ.length k4,.slice A5 c.Qq.QC.length k5,.slice A6 c.Qq.Qc.length k6,.slice A7 c.Qq.Qo.length k7,.slice A8 c.Qq.Qt.length k8,.slice A9 c.Qq.QK.length k9] c:=
 ⟨_,_,rfl,(z2F c.Qa h0 h1 h2 h3 h4),⟨_,_,rfl,(zb2 c.Qq h5 h6 h7 h8 h9),rfl⟩⟩
def zfA:Ty D.QO:=tMap (fun c=>(c.at_,c.slot,c.own,())) (tPair ty35 (tPair tInt (tPair tBool tUnit)))
instance {W:World}:Reads W zfA:=inferInstanceAs (Reads W (tMap (fun c:D.QO=>(c.at_,c.slot,c.own,())) (tPair ty35 (tPair tInt (tPair tBool tUnit)))))
theorem zep {w:World}{cs:List Value}{c:D.QO}(h:zfA.ro w cs c):cs=[iv c.at_.Qg,iv c.at_.Qj,iv c.at_.Qs,iv c.slot,.bool c.own]:=by
 obtain⟨c0,d0,rfl,h0,c1,d1,rfl,h1,c2,d2,rfl,h2,hz⟩:=h
 subst hz
 have e0:=z1p h0
 subst e0
 subst h1
 subst h2
 rfl
theorem zd7 {w:World}{c:D.QO}  {G:List Nat}(h:(All []).A w G):zfA.own w [iv c.at_.Qg,iv c.at_.Qj,iv c.at_.Qs,iv c.slot,.bool c.own] c G:=by
 have hz:G=[]:=h
 subst hz
 exact cast (congrArg _ (by simp)) (show zfA.own w [iv c.at_.Qg,iv c.at_.Qj,iv c.at_.Qs,iv c.slot,.bool c.own] c (_) from⟨_,_,_,_,rfl,rfl,(zah (c:=c.at_) rfl),⟨_,_,_,_,rfl,rfl,⟨rfl,rfl⟩,⟨_,_,_,_,rfl,rfl,⟨rfl,rfl⟩,⟨rfl,rfl⟩⟩⟩⟩)
def zce:Ty D.Qd:=tMap (fun c=>(c.a,c.b,())) (tPair zfA (tPair zfA tUnit))
instance {W:World}:Reads W zce:=inferInstanceAs (Reads W (tMap (fun c:D.Qd=>(c.a,c.b,())) (tPair zfA (tPair zfA tUnit))))
theorem zgU {w:World}{cs:List Value}{c:D.Qd}(h:zce.ro w cs c):cs=[iv c.a.at_.Qg,iv c.a.at_.Qj,iv c.a.at_.Qs,iv c.a.slot,.bool c.a.own,iv c.b.at_.Qg,iv c.b.at_.Qj,iv c.b.at_.Qs,iv c.b.slot,.bool c.b.own]:=by
 obtain⟨c0,d0,rfl,h0,c1,d1,rfl,h1,hz⟩:=h
 subst hz
 have e0:=zep h0
 subst e0
 have e1:=zep h1
 subst e1
 rfl
theorem z6J {w:World}{c:D.Qd}  {G:List Nat}(h:(All []).A w G):zce.own w [iv c.a.at_.Qg,iv c.a.at_.Qj,iv c.a.at_.Qs,iv c.a.slot,.bool c.a.own,iv c.b.at_.Qg,iv c.b.at_.Qj,iv c.b.at_.Qs,iv c.b.slot,.bool c.b.own] c G:=by
 have hz:G=[]:=h
 subst hz
 exact cast (congrArg _ (by simp)) (show zce.own w [iv c.a.at_.Qg,iv c.a.at_.Qj,iv c.a.at_.Qs,iv c.a.slot,.bool c.a.own,iv c.b.at_.Qg,iv c.b.at_.Qj,iv c.b.at_.Qs,iv c.b.slot,.bool c.b.own] c (_) from⟨_,_,_,_,rfl,rfl,(zd7 (c:=c.a) rfl),⟨_,_,_,_,rfl,rfl,(zd7 (c:=c.b) rfl),⟨rfl,rfl⟩⟩⟩)
def z94:Ty (List D.Qd):=tSl 171 zce
instance {W:World}:Reads W z94:=inferInstanceAs (Reads W (tSl 171 zce))
def zeT:Ty D.QS:=tMap (fun c=>(c.QJ,c.Qa5,())) (tPair tInt (tPair tInt tUnit))
instance {W:World}:Reads W zeT:=inferInstanceAs (Reads W (tMap (fun c:D.QS=>(c.QJ,c.Qa5,())) (tPair tInt (tPair tInt tUnit))))
theorem za7 {w:World}{c:D.QS}  {G:List Nat}(h:(All []).A w G):zeT.own w [iv c.QJ,iv c.Qa5] c G:=by
 have hz:G=[]:=h
 subst hz
 exact cast (congrArg _ (by simp)) (show zeT.own w [iv c.QJ,iv c.Qa5] c (_) from⟨_,_,_,_,rfl,rfl,⟨rfl,rfl⟩,⟨_,_,_,_,rfl,rfl,⟨rfl,rfl⟩,⟨rfl,rfl⟩⟩⟩)
def z2E:Ty (List D.QS):=tSl 264 zeT
instance {W:World}:Reads W z2E:=inferInstanceAs (Reads W (tSl 264 zeT))
theorem zgS {w:World}{cs:List Value}{xs:(List D.QS)}(h:z2E.ro w cs xs):∃ A c,cs=[.slice A xs.length c]:=slForm h

def zdh:Ty D.QJ:=tMap (fun c=>(c.Qj,c.QL,c.Value,c.Data,c.QY,())) (tPair tInt (tPair tInt (tPair tInt (tPair ty29 (tPair z2E tUnit)))))
instance {W:World}:Reads W zdh:=inferInstanceAs (Reads W (tMap (fun c:D.QJ=>(c.Qj,c.QL,c.Value,c.Data,c.QY,())) (tPair tInt (tPair tInt (tPair tInt (tPair ty29 (tPair z2E tUnit)))))))
theorem zd4 {w:World}{cs:List Value}{c:D.QJ}(h:zdh.ro w cs c):∃ A0 k0 A1 k1,cs=[iv c.Qj,iv c.QL,iv c.Value,.slice A0 c.Data.length k0,.slice A1 c.QY.length k1]∧ty29.ro w [.slice A0 c.Data.length k0] c.Data∧z2E.ro w [.slice A1 c.QY.length k1] c.QY:=by
 obtain⟨c0,d0,rfl,h0,c1,d1,rfl,h1,c2,d2,rfl,h2,c3,d3,rfl,h3,c4,d4,rfl,h4,hz⟩:=h
 subst hz
 subst h0
 subst h1
 subst h2
 obtain⟨d,q,e3⟩:=z1z h3
 subst e3
 obtain⟨o,G,e4⟩:=zgS h4
 subst e4
 exact⟨d,q,o,G,rfl,h3,h4⟩
theorem zgO {w:World}(c:D.QJ){A0:Option Addr}{k0:Nat}{A1:Option Addr}{k1:Nat}(h0:ty29.ro w [.slice A0 c.Data.length k0] c.Data) (h1:z2E.ro w [.slice A1 c.QY.length k1] c.QY):zdh.ro w [iv c.Qj,iv c.QL,iv c.Value,.slice A0 c.Data.length k0,.slice A1 c.QY.length k1] c:=
 ⟨_,_,rfl,rfl,⟨_,_,rfl,rfl,⟨_,_,rfl,rfl,⟨_,_,rfl,h0,⟨_,_,rfl,h1,rfl⟩⟩⟩⟩⟩
theorem zkA {w:World}{c:D.QJ}{A0:Option Addr}{k0:Nat}{A1:Option Addr}{k1:Nat}{G:List Nat}(h:(All [Own ty29 [.slice A0 c.Data.length k0] c.Data,Own z2E [.slice A1 c.QY.length k1] c.QY]).A w G):zdh.own w [iv c.Qj,iv c.QL,iv c.Value,.slice A0 c.Data.length k0,.slice A1 c.QY.length k1] c G:=by
 obtain⟨G0,R0,rfl,h0,G1,R1,rfl,h1,hz⟩:=h
 have hz':R1=[]:=hz
 subst hz'
 exact cast (congrArg _ (by simp)) (show zdh.own w [iv c.Qj,iv c.QL,iv c.Value,.slice A0 c.Data.length k0,.slice A1 c.QY.length k1] c (_) from⟨_,_,_,_,rfl,rfl,⟨rfl,rfl⟩,⟨_,_,_,_,rfl,rfl,⟨rfl,rfl⟩,⟨_,_,_,_,rfl,rfl,⟨rfl,rfl⟩,⟨_,_,_,_,rfl,rfl,h0,⟨_,_,_,_,rfl,rfl,h1,⟨rfl,rfl⟩⟩⟩⟩⟩⟩)
theorem zfx {W w:World}{B:List Res}{c:D.QJ}{A0:Option Addr}{k0:Nat}{A1:Option Addr}{k1:Nat}(h:St W w ([Own ty29 [.slice A0 c.Data.length k0] c.Data,Own z2E [.slice A1 c.QY.length k1] c.QY]++B)):St W w (Own zdh [iv c.Qj,iv c.QL,iv c.Value,.slice A0 c.Data.length k0,.slice A1 c.QY.length k1] c::B):=(St.fuseAll h).conv fun _ hG=>zkA hG

def z3O:Ty (List D.QJ):=tSl 262 zdh
instance {W:World}:Reads W z3O:=inferInstanceAs (Reads W (tSl 262 zdh))
theorem zkB {w:World}{cs:List Value}{xs:(List D.QJ)}(h:z3O.ro w cs xs):∃ A c,cs=[.slice A xs.length c]:=slForm h

def zmh:Ty D.Qm:=tMap (fun c=>(c.QB,c.QH,c.cells,c.QM,c.ends,c.Qv,())) (tPair z3O (tPair z2E (tPair ty28 (tPair ty28 (tPair ty28 (tPair ty28 tUnit))))))
instance {W:World}:Reads W zmh:=inferInstanceAs (Reads W (tMap (fun c:D.Qm=>(c.QB,c.QH,c.cells,c.QM,c.ends,c.Qv,())) (tPair z3O (tPair z2E (tPair ty28 (tPair ty28 (tPair ty28 (tPair ty28 tUnit))))))))
theorem zgR {w:World}{cs:List Value}{c:D.Qm}(h:zmh.ro w cs c):∃ A0 k0 A1 k1 A2 k2 A3 k3 A4 k4 A5 k5,cs=[.slice A0 c.QB.length k0,.slice A1 c.QH.length k1,.slice A2 c.cells.length k2,.slice A3 c.QM.length k3,.slice A4 c.ends.length k4,.slice A5 c.Qv.length k5]∧z3O.ro w [.slice A0 c.QB.length k0] c.QB∧z2E.ro w [.slice A1 c.QH.length k1] c.QH∧ty28.ro w [.slice A2 c.cells.length k2] c.cells∧ty28.ro w [.slice A3 c.QM.length k3] c.QM∧ty28.ro w [.slice A4 c.ends.length k4] c.ends∧ty28.ro w [.slice A5 c.Qv.length k5] c.Qv:=by
 obtain⟨c0,d0,rfl,h0,c1,d1,rfl,h1,c2,d2,rfl,h2,c3,d3,rfl,h3,c4,d4,rfl,h4,c5,d5,rfl,h5,hz⟩:=h
 subst hz
 obtain⟨d,O,e0⟩:=zkB h0
 subst e0
 obtain⟨o,S,e1⟩:=zgS h1
 subst e1
 obtain⟨q,X,e2⟩:=zai h2
 subst e2
 obtain⟨G,Y,e3⟩:=zai h3
 subst e3
 obtain⟨H,Z,e4⟩:=zai h4
 subst e4
 obtain⟨M,a0,e5⟩:=zai h5
 subst e5
 exact⟨d,O,o,S,q,X,G,Y,H,Z,M,a0,rfl,h0,h1,h2,h3,h4,h5⟩
theorem z5y {w:World}(c:D.Qm){A0:Option Addr}{k0:Nat}{A1:Option Addr}{k1:Nat}{A2:Option Addr}{k2:Nat}{A3:Option Addr}{k3:Nat}{A4:Option Addr}{k4:Nat}{A5:Option Addr}{k5:Nat}(h0:z3O.ro w [.slice A0 c.QB.length k0] c.QB) (h1:z2E.ro w [.slice A1 c.QH.length k1] c.QH) (h2:ty28.ro w [.slice A2 c.cells.length k2] c.cells) (h3:ty28.ro w [.slice A3 c.QM.length k3] c.QM) (h4:ty28.ro w [.slice A4 c.ends.length k4] c.ends) (h5:ty28.ro w [.slice A5 c.Qv.length k5] c.Qv):zmh.ro w [.slice A0 c.QB.length k0,.slice A1 c.QH.length k1,.slice A2 c.cells.length k2,.slice A3 c.QM.length k3,.slice A4 c.ends.length k4,.slice A5 c.Qv.length k5] c:=
 ⟨_,_,rfl,h0,⟨_,_,rfl,h1,⟨_,_,rfl,h2,⟨_,_,rfl,h3,⟨_,_,rfl,h4,⟨_,_,rfl,h5,rfl⟩⟩⟩⟩⟩⟩
def zoC:D.Qf→Value:=fun c=>.agg ⟨[iv c.Qg,iv c.Qj,iv c.Qs]⟩
theorem zqm:KeyOk Tryz.prog 35 zoC:=KeyOk.struct ttok (cells:=fun c:D.Qf=>[iv c.Qg,iv c.Qj,iv c.Qs]) (b:=fun x y=>(((x.Qg:Int) == y.Qg) && (((x.Qj:Int) == y.Qj) && (((x.Qs:Int) == y.Qs) && true)))) rfl rfl (fun _ _=>rfl) (fun x y=>by cases x;cases y;simp [zp2]) (fun _=>rfl) (fun {x y} h=>by cases x;cases y;simpa using h)
def zdi:Ty (List (D.Qf × Int)):=tMp zoC (Value.int .i64)
instance {W:World}:Reads W zdi:=inferInstanceAs (Reads W (tMp zoC (Value.int .i64)))
theorem zdc:MapOk Tryz.prog 235 35 3 zoC (Value.int .i64) (0:Int):=⟨by kernel_rfl,by kernel_rfl,zqm⟩

def zmg:Ty (List D.QO):=tSl 169 zfA
instance {W:World}:Reads W zmg:=inferInstanceAs (Reads W (tSl 169 zfA))
end Go.E


namespace Go.E
open Go.RowKit
set_option linter.unusedVariables false
set_option linter.unusedSimpArgs false

theorem Quiet.idxAddr {P:Program}{T:TT}(ht:TTok P T){n:Nat}{F:Fr}{α:Type}{U:Ty α}{g k ln:Nat}{o:Oper}{t e':Nat}{x ix:Operand}{i j:TI}
  {kd:IntKind}{m:Int}(ho:o.op=.indexAddr t x ix) (hi:T.get t=some i) (hd:i.d=.slice e') (hj:T.get e'=some j) (hs:U.size=j.size) (hx:F.ev x=some (.slice (some ⟨g,0,none⟩) ln k)) (hm:F.ev ix=some (.int kd m))
  (h0:0≤m) (hlt:m.toNat<ln) (w:World):Quiet P n F w o (.pointer (some ⟨g,m.toNat*U.size,none⟩)):=fun a w' ha _=>by
 unfold execOp
 rw [ho]
 have hmm:m<ln:=by omega
 simp [ha.ev hx,ha.ev hm,Instr.indexAt,asIntOf,Go.underlying,ht.slice hi hd,h0,hmm,ht.sizeOf hj,zjS,hs]

section
variable {P:Program}{n:Nat}{Q:Post}{F:Fr}{W w w0 w1 W9:World}{ops:List Oper}{wm fu kk mm:Nat}{sk:List (List Nat × Nat)}{o:Oper}{T:TT}

theorem DM.idxHole (ht:TTok P T){α:Type}{U:Ty α}{A:Option Addr}{k ln:Nat}(hA:∃ g,A=some ⟨g,0,none⟩) (hsk:skOf ops=sk∧ops.length=kk) (ii m':Nat) (hmm:mm ||| 2 ^ ii=m') (hwi:wm.testBit ii=false) (hni:nthv ops ii=some o) (hf:freeM sk (2 ^ kk - 1) mm ii=true) (hg:guardOf ops F o=some true){t e':Nat}{x ix:Operand}{i j:TI}
  {kd:IntKind}{m:Int}(ho:o.op=.indexAddr t x ix) (hi:T.get t=some i) (hd:i.d=.slice e') (hj:T.get e'=some j) (hs:U.size=j.size) (hx:F.ev x=some (.slice A ln k)) (hm:F.ev ix=some (.int kd m))
  (h0:0≤m) (hlt:m.toNat<ln){d:Nat}(hd':o.dst=some d) (hn:Nat.blt d n=true)
  (h:∀ q,ElAt U A m.toNat q→DM P n ops Q W9 w0 wm fu kk m' ((d,.pointer (some q))::F) w):DM P n ops Q W9 w0 wm (fu+1) kk mm F w:=by
 obtain⟨g,rfl⟩:=hA
 exact DM.quietP hsk ii m' hmm hwi hni hf hg (Quiet.idxAddr ht ho hi hd hj hs hx hm h0 hlt) hd' hn (h _ ⟨g,rfl,rfl⟩)

theorem DM.focus (ht:TTok P T){α:Type}{U:Ty α}{B:List Res}{e:Nat}{A:Option Addr}{k ln:Nat}{xs:List α}{a:α}(hS:St W w1 (Own (tSl e U) [.slice A ln k] xs::B)) (hsk:skOf ops=sk∧ops.length=kk) (ii m':Nat) (hmm:mm ||| 2 ^ ii=m') (hwi:wm.testBit ii=false) (hni:nthv ops ii=some o) (hf:freeM sk (2 ^ kk - 1) mm ii=true) (hg:guardOf ops F o=some true){t e':Nat}{x ix:Operand}{i j:TI}
  {kd:IntKind}{m:Int}(ho:o.op=.indexAddr t x ix) (hi:T.get t=some i) (hd:i.d=.slice e') (hj:T.get e'=some j) (hs:U.size=j.size) (hx:F.ev x=some (.slice A ln k)) (hm:F.ev ix=some (.int kd m))
  (h0:0≤m) (ha:xs[m.toNat]? = some a){d:Nat}(hd':o.dst=some d) (hn:Nat.blt d n=true)
  (h:∀ q es,ElAt U A m.toNat q→St W w1 (Hole U e (.slice A ln k) xs m.toNat es::Own U es a::B)→DM P n ops Q W w0 wm fu kk m' ((d,.pointer (some q))::F) w):DM P n ops Q W w0 wm (fu+1) kk mm F w:=by
 have hlt:=(List.getElem?_eq_some_iff.1 ha).1
 obtain⟨es,h1⟩:=hS.focusN ha
 have hl:=hS.lenEq
 exact DM.idxHole ht (U:=U) (hS.ownAddr hlt) hsk ii m' hmm hwi hni hf hg ho hi hd hj hs hx hm h0 (by omega) hd' hn fun q hq=>h q es hq h1

theorem LM.idxHole (ht:TTok P T){α:Type}{U:Ty α}{A:Option Addr}{k ln:Nat}(hA:∃ g,A=some ⟨g,0,none⟩) (hsk:skOf ops=sk∧ops.length=kk){ii:Nat}(m':Nat) (hm':mm ||| 2 ^ ii=m') (hwi:wm.testBit ii=false) (hni:nthv ops ii=some o) (hg:guardOf ops F o=some true){t e':Nat}{x ix:Operand}{i j:TI}
  {kd:IntKind}{m:Int}(ho:o.op=.indexAddr t x ix) (hi:T.get t=some i) (hd:i.d=.slice e') (hj:T.get e'=some j) (hs:U.size=j.size) (hx:F.ev x=some (.slice A ln k)) (hm:F.ev ix=some (.int kd m))
  (h0:0≤m) (hlt:m.toNat<ln){d:Nat}(hd':o.dst=some d) (hn:Nat.blt d n=true)
  (h:∀ q,ElAt U A m.toNat q→DM P n ops Q W9 w0 wm fu kk m' ((d,.pointer (some q))::F) w):LM P n ops Q W9 w0 wm fu kk mm ii F w:=by
 obtain⟨g,rfl⟩:=hA
 exact LM.quietL hsk m' hm' hwi hni hg (Quiet.idxAddr ht ho hi hd hj hs hx hm h0 hlt w) hd' hn (h _ ⟨g,rfl,rfl⟩)

theorem LM.focus (ht:TTok P T){α:Type}{U:Ty α}{B:List Res}{e:Nat}{A:Option Addr}{k ln:Nat}{xs:List α}{a:α}(hS:St W w1 (Own (tSl e U) [.slice A ln k] xs::B)) (hsk:skOf ops=sk∧ops.length=kk){ii:Nat}(m':Nat) (hm':mm ||| 2 ^ ii=m') (hwi:wm.testBit ii=false) (hni:nthv ops ii=some o) (hg:guardOf ops F o=some true){t e':Nat}{x ix:Operand}{i j:TI}
  {kd:IntKind}{m:Int}(ho:o.op=.indexAddr t x ix) (hi:T.get t=some i) (hd:i.d=.slice e') (hj:T.get e'=some j) (hs:U.size=j.size) (hx:F.ev x=some (.slice A ln k)) (hm:F.ev ix=some (.int kd m))
  (h0:0≤m) (ha:xs[m.toNat]? = some a){d:Nat}(hd':o.dst=some d) (hn:Nat.blt d n=true)
  (h:∀ q es,ElAt U A m.toNat q→St W w1 (Hole U e (.slice A ln k) xs m.toNat es::Own U es a::B)→DM P n ops Q W w0 wm fu kk m' ((d,.pointer (some q))::F) w):LM P n ops Q W w0 wm fu kk mm ii F w:=by
 have hlt:=(List.getElem?_eq_some_iff.1 ha).1
 obtain⟨es,h1⟩:=hS.focusN ha
 have hl:=hS.lenEq
 exact LM.idxHole ht (U:=U) (hS.ownAddr hlt) hsk m' hm' hwi hni hg ho hi hd hj hs hx hm h0 (by omega) hd' hn fun q hq=>h q es hq h1

theorem LM.idxAgain (ht:TTok P T){α:Type}{U:Ty α}{B:List Res}{e:Nat}{A:Option Addr}{k ln:Nat}{xs:List α}{es:List Value}{m:Int}(hS:St W w1 (Hole U e (.slice A ln k) xs m.toNat es::B)) (hsk:skOf ops=sk∧ops.length=kk){ii:Nat}(m':Nat) (hm':mm ||| 2 ^ ii=m') (hwi:wm.testBit ii=false) (hni:nthv ops ii=some o) (hg:guardOf ops F o=some true){t e':Nat}{x ix:Operand}{i j:TI}
  {kd:IntKind}(ho:o.op=.indexAddr t x ix) (hi:T.get t=some i) (hd:i.d=.slice e') (hj:T.get e'=some j) (hs:U.size=j.size) (hx:F.ev x=some (.slice A ln k)) (hm:F.ev ix=some (.int kd m))
  (h0:0≤m){d:Nat}(hd':o.dst=some d) (hn:Nat.blt d n=true)
  (h:∀ q,ElAt U A m.toNat q→DM P n ops Q W w0 wm fu kk m' ((d,.pointer (some q))::F) w):LM P n ops Q W w0 wm fu kk mm ii F w:=by
 obtain⟨hl,hlt,hA⟩:=hS.hole_len
 exact LM.idxHole ht (U:=U) hA hsk m' hm' hwi hni hg ho hi hd hj hs hx hm h0 (by omega) hd' hn h

theorem LM.idxOwnN (ht:TTok P T){α:Type}{U:Ty α}{B:List Res}{e:Nat}{A:Option Addr}{k ln:Nat}{xs:List α}(hS:St W w1 (Own (tSl e U) [.slice A ln k] xs::B)) (hsk:skOf ops=sk∧ops.length=kk){ii:Nat}(m':Nat) (hm':mm ||| 2 ^ ii=m') (hwi:wm.testBit ii=false) (hni:nthv ops ii=some o) (hg:guardOf ops F o=some true){t e':Nat}{x ix:Operand}{i j:TI}
  {kd:IntKind}{m:Int}(ho:o.op=.indexAddr t x ix) (hi:T.get t=some i) (hd:i.d=.slice e') (hj:T.get e'=some j) (hs:U.size=j.size) (hx:F.ev x=some (.slice A ln k)) (hm:F.ev ix=some (.int kd m))
  (h0:0≤m) (hlt:m.toNat<xs.length){d:Nat}(hd':o.dst=some d) (hn:Nat.blt d n=true)
  (h:∀ q,(∃ g,A=some ⟨g,0,none⟩∧q=⟨g,m.toNat*U.size,none⟩)→DM P n ops Q W w0 wm fu kk m' ((d,.pointer (some q))::F) w):LM P n ops Q W w0 wm fu kk mm ii F w:=by
 have hl:=hS.lenEq
 exact LM.idxHole ht (U:=U) (hS.ownAddr hlt) hsk m' hm' hwi hni hg ho hi hd hj hs hx hm h0 (by omega) hd' hn h

theorem zhu (ht:TTok P T){α:Type}{U:Ty α}{e:Nat}{A:Option Addr}{k m:Nat}{xs:List α}{es es':List Value}{B:List Res}(hS:St W w (Hole U e (.slice A xs.length k) xs m es::B)){q:Addr}(hq:ElAt U A m q)
  {t:Nat}{i:TI}(hi:T.get t=some i){q':Addr}(off:Nat) (hq':q'=q.add off){v:Value}(hl:Nat.beq (cellsV v).length i.size=true)
  (h1:oneCells (cellsV v)=true) (hs:setAt es off (cellsV v)=some es'):∃ w',(storeVar t q' v).run P w=.ok () w'∧St W w' (Hole U e (.slice A xs.length k) xs m es'::B):=by
 obtain⟨G,⟨g,cap,c1,c2,rst,G1,G2,hv,hh,a1,a2,a3,a4,a5,a6,k1,k2,hG⟩,_,hlo⟩:=hS.sep.head
 obtain⟨g',rfl,rfl⟩:=hq
 simp only [Value.slice.injEq,Option.some.injEq,Addr.mk.injEq,and_true,true_and] at hv
 obtain⟨rfl,rfl⟩:=hv
 have hset:=zci (c1:=c1) (c2:=c2) (rest:=rst) hs
 rw [a4] at hset
 obtain⟨w',r1,r2,r3,r4,r5,r6,r7⟩:=z3P (P:=P) g' (m*U.size+off) e (cellsV v) 0 w _ ((c1++(es'++c2))++rst) h1 hh (by rw [Nat.add_zero];exact hset)
 have hge:W.heap.size≤g':=hlo g' (by rw [hG];simp)
 refine⟨w',?_,⟨r5.trans hS.ext.os,r6.trans hS.ext.tape,r7.trans hS.ext.output,by rw [r4];exact hS.le,fun b hb=>?_⟩,?_⟩
 ·have hsz:v.cells.size=i.size:=by
   rw [← Array.length_toList,z7M];exact Nat.eq_of_beq_eq_true hl
  simp [storeVar,ht.sizeOf hi,hsz,z7M,hq',zfp,r1]
 ·rw [r3 b (by omega)];exact hS.ext.block b hb
 ·refine hS.sep.upd hS.le fun G' hG' hnd' _=>?_
  obtain⟨g1,cap1,d1,d2,rst1,H1,H2,hv1,hh1,b1,b2,b3,b4,b5,b6,l1,l2,rfl⟩:=hG'
  simp only [Value.slice.injEq,Option.some.injEq,Addr.mk.injEq,and_true,true_and] at hv1
  obtain⟨rfl,rfl⟩:=hv1
  rw [hh1] at hh
  simp only [Option.some.injEq,Obj.cells.injEq,Array.mk.injEq,and_true] at hh
  have hset1:=zci (c1:=d1) (c2:=d2) (rest:=rst1) hs
  have e1:d1.length=c1.length:=by rw [b4,a4]
  rw [hh,e1] at hset1
  rw [← a4] at hset
  have e2:(c1++(es'++c2))++rst=(d1++(es'++d2))++rst1:=Option.some.inj (hset.symm.trans hset1)
  have hle:=zcD _ _ _ _ hs
  simp only [List.nodup_cons,List.mem_append,not_or] at hnd'
  refine⟨g'::(H1++H2),⟨g',k,d1,d2,rst1,H1,H2,rfl,by rw [r2,e2],b1,b2,?_,b4,by rw [hle];exact b5,b6,l1.loc fun b hb=>r3 b (by rintro rfl;exact hnd'.1.1 hb),l2.loc fun b hb=>r3 b (by rintro rfl;exact hnd'.1.2 hb),rfl⟩,by simpa using hnd',fun b hb=>.inl hb,fun b hb hn=>r3 b (by rintro rfl;exact hn (by simp))⟩
  rw [← b3]
  simp only [List.length_append,hle]

end
end Go.E


namespace Go.E
open Go.RowKit
set_option linter.unusedVariables false
set_option linter.unusedSimpArgs false


inductive Rd (σ τ ρ:Type) where
 | next (s:σ)
 | brk (t:τ)
 | ret (r:ρ)

def iter {σ τ ρ:Type}(body:σ→Option (Rd σ τ ρ)):Nat→σ→Option (τ ⊕ ρ)
 | 0,_=>none
 | n+1,s=>match body s with
  | none=>none
  | some (.next s')=>iter body n s'
  | some (.brk t)=>some (.inl t)
  | some (.ret r)=>some (.inr r)

def idx {α:Type}(xs:List α) (i:Int):Option α:=if 0≤i then xs[i.toNat]? else none

theorem zi {α:Type}{xs:List α}{i:Int}{x:α}(h:idx xs i=some x):0≤i∧xs[i.toNat]? = some x:=by
 unfold idx at h
 split at h
 ·exact⟨by assumption,h⟩
 ·cases h


def aft {τ A:Type}(o:τ ⊕ A) (k:τ→Option A):Option A:=
 match o with
 | .inl t=>k t
 | .inr a=>some a

theorem z8 {τ A:Type}(t:τ) (k:τ→Option A):aft (.inl t) k=k t:=rfl

theorem zqx {c:Bool}(h:c=false):¬ c=true:=by rw [h];simp

theorem zoN {α β:Type}{x:Option α}{f:α→Option β}{b:β}(h:x.bind f=some b):∃ a,x=some a∧f a=some b:=by
 cases x with
 | none=>cases h
 | some a=>exact⟨a,rfl,h⟩

section
variable {P:Program}{n:Nat}{Q:Post}{F:Fr}{w:World}


theorem WP.iter {c:Code}{σ τ ρ:Type}(J:σ→Fr→World→Prop) (body:σ→Option (Rd σ τ ρ)){k:Nat}{s:σ}{out:τ ⊕ ρ}(hm:iter body k s=some out) (h0:J s F w)
  (round:∀ s F w k o,J s F w→body s=some o→(match o with | .next s'=>Go.E.iter body k s'=some out | .brk t=>out=.inl t | .ret r=>out=.inr r)→
   WP P n c (Q.after (fun F' w'=>∃ s' F'',F'.Has F''∧o=.next s'∧J s' F'' w')) F w):WP P n (.loop c) Q F w:=by
 refine WP.loop (σ:={ p:Nat × σ // Go.E.iter body p.1 p.2=some out }) (fun p F w=>J p.1.2 F w) (fun p=>p.1.1) ⟨(k,s),hm⟩ h0 ?_
 rintro⟨⟨k,s⟩,hk⟩ F w hJ
 cases k with
 | zero=>cases hk
 | succ k=>
  have hk':=hk
  simp only [Go.E.iter] at hk'
  cases hb:body s with
  | none=>rw [hb] at hk';cases hk'
  | some o=>
   rw [hb] at hk'
   refine(round s F w k o hJ hb ?_).mono ?_
   ·cases o with
    | next s'=>exact hk'
    | brk t=>simp only [Option.some.injEq] at hk';exact hk'.symm
    | ret r=>simp only [Option.some.injEq] at hk';exact hk'.symm
   ·intro e F' w' q
    cases e with
    | normal=>
     obtain⟨s',F2,hh,rfl,hJ'⟩:=q
     exact⟨⟨(k,s'),hk'⟩,F2,hh,hJ',Nat.lt_succ_self k⟩
    | _=>exact q


theorem WP.cut {c:Code}{τ:Type}(J:τ→Fr→World→Prop) (hk:∀ t F w,J t F w→Q .normal F w) (h:WP P n c (Q.after (fun F w=>∃ t F',F.Has F'∧J t F' w)) F w):WP P n c Q F w:=
 fun a ha=>wp_mono (h a ha) fun e a' w' ⟨F1,hf,q⟩=>by
  cases e with
  | normal=>obtain⟨t,F',hh,ht⟩:=q;exact⟨F',hf.weak hh,hk t F' w' ht⟩
  | _=>exact⟨F1,hf,q⟩

theorem RW.know {ops rest:List Oper}(i:Nat){v u:Value}(hg:F.get i=some v) (e:v=u) (h:RW P n ops Q rest ((i,u)::F) w):RW P n ops Q rest F w:=fun a ha=>
 h a ⟨ha.1,ha.2.1,fun j x hx=>by
  rw [Fr.get_cons] at hx
  split at hx
  ·rename_i hj;subst hj;simp only [Option.some.injEq] at hx;subst hx;rw [← e];exact ha.2.2 _ _ hg
  ·exact ha.2.2 _ _ hx⟩

theorem DW.know {ops:List Oper}{w0 W9:World}{wr:Nat→Bool}{fu:Nat}{listed:Array Bool}(i:Nat){v u:Value}(hg:F.get i=some v) (e:v=u) (h:DW P n ops Q W9 w0 wr fu listed ((i,u)::F) w):DW P n ops Q W9 w0 wr fu listed F w:=fun hs he hv a ha=>
 h hs he hv a ⟨ha.1,ha.2.1,fun j x hx=>by
  rw [Fr.get_cons] at hx
  split at hx
  ·rename_i hj;subst hj;simp only [Option.some.injEq] at hx;subst hx;rw [← e];exact ha.2.2 _ _ hg
  ·exact ha.2.2 _ _ hx⟩

theorem DM.know {ops:List Oper}{w0 W9:World}{wm fu k m:Nat}(i:Nat){v u:Value}(hg:F.get i=some v) (e:v=u) (h:DM P n ops Q W9 w0 wm fu k m ((i,u)::F) w):DM P n ops Q W9 w0 wm fu k m F w:=fun l hl=>DW.know i hg e (h l hl)

theorem At.sub {p:Addr}{cs:List Value}(h:At w p cs) (off m:Nat):At w (p.add off) ((cs.drop off).take m):=h.part fun j u hu=>by
 rw [List.getElem?_take] at hu
 split at hu
 ·simpa using hu
 ·cases hu
end
end Go.E


namespace Go.E
open Go.RowKit
set_option linter.unusedVariables false
set_option linter.unusedSimpArgs false

def I64 (n:Int):Prop:=-9223372036854775808≤n∧n≤9223372036854775807

theorem zmT {n:Int}(h:(Lit.int .i64 n).wf=true):I64 n:=by
 have h1:IntKind.i64.min = -9223372036854775808:=rfl
 have h2:IntKind.i64.max=9223372036854775807:=rfl
 simp only [Lit.wf,Bool.and_eq_true,decide_eq_true_eq,h1,h2] at h
 exact h

theorem zqr {n:Int}(h:I64 n):w64 n=n:=by
 obtain⟨h1,h2⟩:=h
 have e:w64 n=if n % 18446744073709551616≥9223372036854775808 then n % 18446744073709551616 - 18446744073709551616 else n % 18446744073709551616:=by
  unfold w64 IntKind.wrap
  show(if(true && decide (n % (2 ^ 64:Int)≥(2 ^ 63:Int)))=true then n % (2 ^ 64:Int) - (2 ^ 64:Int) else n % (2 ^ 64:Int))=_
  simp
 rw [e]
 split<;>omega

def Opens (P:Program) (t:TypeId){α:Type}(T:Ty α) (wf:α→Prop):Prop:=
 P.cellsOf t=T.size∧∀ {H:Type}{enc:TypeId × Value→H}{w:World}{base:Nat}{spare:Nat→Bool}{held:Bool}{fu:Nat}{cs:List Value}{x:DataW H × List MemPlace},
  DataW.trod enc P w base spare held fu t cs=some x→∃ a,T.ro w cs a∧wf a

theorem Opens.int {P:Program}{t:TypeId}(ht:P.underlying t=some (.int .i64)) (hc:P.cellsOf t=1):Opens P t tInt I64:=
 ⟨hc,fun h=>by
  obtain⟨n,rfl,_,hw⟩:=DataW.trod_int ht h
  exact⟨n,rfl,zmT hw⟩⟩

theorem Opens.bool {P:Program}{t:TypeId}(ht:P.underlying t=some .bool) (hc:P.cellsOf t=1):Opens P t tBool fun _=>True:=
 ⟨hc,fun h=>by
  obtain⟨n,rfl,_⟩:=DataW.trod_bool ht h
  exact⟨n,rfl,trivial⟩⟩

theorem Opens.str {P:Program}{t:TypeId}(ht:P.underlying t=some .string) (hc:P.cellsOf t=1):Opens P t tStr fun s=>s.size≤maxLen:=
 ⟨hc,fun h=>by
  obtain⟨n,rfl,_,hw⟩:=DataW.trod_string ht h
  exact⟨n,rfl,hw⟩⟩

theorem At.append {w:World}{p:Addr}{cs es:List Value}(ha:At w p cs) (hb:At w (p.add cs.length) es):At w p (cs++es):=fun j u hu=>by
 rcases Nat.lt_or_ge j cs.length with h | h
 ·rw [List.getElem?_append_left h] at hu
  exact ha j u hu
 ·rw [List.getElem?_append_right h] at hu
  have:=hb (j - cs.length) u hu
  rw [zoU] at this
  rwa [show cs.length+(j - cs.length)=j by omega] at this

theorem zin {α:Type}{T:Ty α}{wf:α→Prop}{w:World}{a:Addr}{base:Nat}:∀ (n:Nat),(∀ i,i<n→∃ cs',w.cells? base (a.add (i*T.size)) T.size=some cs'∧∃ x,T.ro w cs' x∧wf x)→
  ∃ (xs:List α) (els:List Value),xs.length=n∧Els T w els xs∧At w a els∧∀ x,x∈xs→wf x
 | 0,_=>⟨[],[],rfl,rfl,fun j u hu=>by simp at hu,fun x hx=>by cases hx⟩
 | n+1,h=>by
  obtain⟨xs,els,hl,he,ha,hw⟩:=zin n fun i hi=>h i (Nat.lt_succ_of_lt hi)
  obtain⟨cs',hc,x,hx,hwx⟩:=h n (Nat.lt_succ_self n)
  refine⟨xs++[x],els++cs',by simp [hl],he.append ⟨cs',[],by simp,hx,rfl⟩,ha.append ?_,fun y hy=>?_⟩
  ·obtain⟨_,hcl,hat⟩:=World.cells?_some hc
   intro j u hu
   have hj:=(List.getElem?_eq_some_iff.1 hu).1
   rw [he.length,hl,hat j (by omega)]
   exact hu
  ·rcases List.mem_append.1 hy with hy | hy
   ·exact hw y hy
   ·simp only [List.mem_singleton] at hy;subst hy;exact hwx

def WfL {α:Type}(wf:α→Prop) (xs:List α):Prop:=xs.length≤maxLen∧∀ x,x∈xs→wf x

theorem Opens.sl {P:Program}{t e:TypeId}{α:Type}{T:Ty α}{wf:α→Prop}(ht:P.underlying t=some (.slice e)) (hc:P.cellsOf t=1) (ho:Opens P e T wf):Opens P t (tSl e T) (WfL wf):=
 ⟨hc,by
  intro H enc w base spare held fu cs x h
  rcases Go.Deep.open_slice ht h with⟨rfl,_⟩ | ⟨a,len,cap,m,n,D,Pl,rfl,_,hl,hm,hmm,_,hi⟩
  ·exact⟨[],⟨none,0,[],rfl,Nat.le_refl _,rfl,fun h=>absurd rfl h⟩,⟨Nat.zero_le _,fun x hx=>by cases hx⟩⟩
  ·have hlm:len≤m:=by rw [hmm];split<;>omega
   rw [ho.1] at hi
   obtain⟨xs,els,hxl,he,ha,hw⟩:=zin (T:=T) (wf:=wf) (w:=w) (a:=a) (base:=base) len fun i hil=>by
    obtain⟨cs',h1,h2⟩:=hi i (by omega)
    exact⟨cs',h1,ho.2 h2⟩
   subst hxl
   exact⟨xs,⟨some a,cap,els,rfl,hl,he,fun _=>⟨a,rfl,ha⟩⟩,⟨by omega,hw⟩⟩⟩


def OpensF (P:Program) (o:Nat) (fs:List Field){α:Type}(T:Ty α) (wf:α→Prop):Prop:=
 ∀ {H:Type}{enc:TypeId × Value→H}{w:World}{base:Nat}{spare:Nat→Bool}{held:Bool}{fu:Nat}{cs:List Value},
  (∀ (i:Nat) (f:Field),fs[i]? = some f→∃ x,DataW.trod enc P w base spare held fu f.type ((cs.drop f.offset).take (P.cellsOf f.type))=some x)→∃ a,T.ro w ((cs.drop o).take T.size) a∧wf a

theorem OpensF.nil {P:Program}{o:Nat}:OpensF P o [] tUnit fun _=>True:=fun _=>⟨(),by show List.take 0 _=[];simp,trivial⟩

theorem OpensF.cons {P:Program}{o o':Nat}{f:Field}{fs:List Field}{α β:Type}{T:Ty α}{U:Ty β}{wf:α→Prop}{wg:β→Prop}(ho:Opens P f.type T wf) (hf:f.offset=o) (h':o'=o+T.size) (hr:OpensF P o' fs U wg):
  OpensF P o (f::fs) (tPair T U) fun x=>wf x.1∧wg x.2:=by
 intro H enc w base spare held fu cs h
 obtain⟨x,hx⟩:=h 0 f rfl
 obtain⟨a,h1,h2⟩:=ho.2 hx
 obtain⟨b,h3,h4⟩:=hr (cs:=cs) fun i g hg=>h (i+1) g hg
 subst h'
 refine⟨(a,b),⟨_,_,?_,h1,h3⟩,h2,h4⟩
 rw [ho.1,hf]
 show List.take (T.size+U.size) _=_
 rw [List.take_add,List.drop_drop]

theorem Opens.struct {P:Program}{t:TypeId}{fs:Array Field}{α β:Type}{T:Ty α}{wf:α→Prop}{f:β→α}(ht:P.underlying t=some (.struct fs)) (hc:P.cellsOf t=T.size) (h:OpensF P 0 fs.toList T wf) (hs:∀ a,∃ b,f b=a):
  Opens P t (tMap f T) fun b=>wf (f b):=
 ⟨hc,by
  intro H enc w base spare held fu cs x hx
  obtain⟨xs,n,_,_,hl,hxl,hf⟩:=DataW.trod_struct ht hx
  obtain⟨a,h1,h2⟩:=h (cs:=cs) (w:=w) (enc:=enc) (base:=base) (spare:=spare) (held:=held) (fu:=n) fun i g hg=>by
   have hi:i<fs.size:=by simpa using (List.getElem?_eq_some_iff.1 hg).1
   exact⟨xs[i]'(by omega),(hf i g (by simpa using hg)).trans (List.getElem?_eq_getElem _)⟩
  obtain⟨b,rfl⟩:=hs a
  refine⟨b,?_,h2⟩
  show T.ro w cs (f b)
  rwa [List.drop_zero,List.take_of_length_le (by omega)] at h1⟩

section
variable {H:Type}{enc:TypeId × Value→H}{P:Program}{w:World}{base b0:Nat}{spare:Nat→Bool}{held:Bool}{r:Reach}{t:TypeId}{v:Value}{d:DataW H}{p:List MemPlace}

theorem zm8 {α:Type}{T:Ty α}{wf:α→Prop}{fs:Array Field}(ht:P.underlying t=some (.struct fs)) (ho:Opens P t T wf) (hv:Value.okWide P w r b0 t v) (h:DataW.Trod enc P w base spare held t v d p):
  ∃ cs x,v=.agg ⟨cs⟩∧T.ro w cs x∧wf x:=by
 obtain⟨cs,rfl,_⟩:=WideShapes.okWide_struct ht hv
 obtain⟨fu,hf⟩:=h
 obtain⟨x,h1,h2⟩:=ho.2 hf
 exact⟨cs.toList,x,rfl,h1,h2⟩

end

theorem Ret.out {Q:Value→World→Prop}{e:Ending}{w:World}(h:Ret Q e w):∃ v,e=.returned v∧Q v w:=by
 cases e with
 | returned v=>exact⟨v,rfl,h⟩
 | _=>exact False.elim h
end Go.E


