/- The types of the data, as tables and as plain Lean types (written by program). Conditions: none. -/
import Derived.Test.YteommboffflkbaaGreatMaps
import Derived.Test.YteommboffflkbaaGreatProg
import Derived.KernelRfl
import Derived.Deep.Slices
import Derived.ChangeArms
import Derived.ProofKit
import Derived.OpenShut
import Derived.WideShapes
namespace Go.E
open Go.RowKit Go.Proofs
set_option linter.unusedVariables false
set_option linter.unusedSimpArgs false


def tt:TT:=[
 ⟨2,.int .i64,1,[.int .i64 0],8⟩,
 ⟨3,.int .i64,1,[.int .i64 0],8⟩,
 ⟨4,.bool,1,[.bool false],1⟩,
 ⟨22,.slice 199,1,[.slice none 0 0],24⟩,
 ⟨24,.struct [(0,1,false,2),(1,1,false,2),(2,1,false,2)],3,[.int .i64 0,.int .i64 0,.int .i64 0],24⟩,
 ⟨26,.struct [(0,1,false,22),(1,3,true,24)],4,[.slice none 0 0,.int .i64 0,.int .i64 0,.int .i64 0],48⟩,
 ⟨27,.slice 141,1,[.slice none 0 0],24⟩,
 ⟨28,.slice 29,1,[.slice none 0 0],24⟩,
 ⟨29,.slice 2,1,[.slice none 0 0],24⟩,
 ⟨31,.struct [(0,4,true,26),(4,1,false,27),(5,1,false,28),(6,1,false,29),(7,1,false,29)],8,[.slice none 0 0,.int .i64 0,.int .i64 0,.int .i64 0,.slice none 0 0,.slice none 0 0,.slice none 0 0,.slice none 0 0],144⟩,
 ⟨34,.slice 166,1,[.slice none 0 0],24⟩,
 ⟨35,.struct [(0,1,false,2),(1,1,false,2),(2,1,false,2)],3,[.int .i64 0,.int .i64 0,.int .i64 0],24⟩,
 ⟨37,.struct [(0,1,false,34),(1,3,true,35)],4,[.slice none 0 0,.int .i64 0,.int .i64 0,.int .i64 0],48⟩,
 ⟨38,.slice 149,1,[.slice none 0 0],24⟩,
 ⟨40,.struct [(0,4,true,37),(4,1,false,38),(5,1,false,28),(6,1,false,29),(7,1,false,29)],8,[.slice none 0 0,.int .i64 0,.int .i64 0,.int .i64 0,.slice none 0 0,.slice none 0 0,.slice none 0 0,.slice none 0 0],144⟩,
 ⟨51,.slice 114,1,[.slice none 0 0],24⟩,
 ⟨56,.slice 4,1,[.slice none 0 0],24⟩,
 ⟨58,.struct [(0,8,true,31),(8,1,false,2),(9,1,false,2),(10,1,false,4),(11,1,false,56),(12,1,false,2),(13,1,false,4)],14,[.slice none 0 0,.int .i64 0,.int .i64 0,.int .i64 0,.slice none 0 0,.slice none 0 0,.slice none 0 0,.slice none 0 0,.int .i64 0,.int .i64 0,.bool false,.slice none 0 0,.int .i64 0,.bool false],208⟩,
 ⟨62,.struct [(0,8,true,40),(8,1,false,2),(9,1,false,2),(10,1,false,4),(11,1,false,56),(12,1,false,2),(13,1,false,4)],14,[.slice none 0 0,.int .i64 0,.int .i64 0,.int .i64 0,.slice none 0 0,.slice none 0 0,.slice none 0 0,.slice none 0 0,.int .i64 0,.int .i64 0,.bool false,.slice none 0 0,.int .i64 0,.bool false],208⟩,
 ⟨67,.struct [(0,1,false,56),(1,1,false,22),(2,1,false,28),(3,1,false,56),(4,1,false,27)],5,[.slice none 0 0,.slice none 0 0,.slice none 0 0,.slice none 0 0,.slice none 0 0],120⟩,
 ⟨69,.struct [(0,8,true,31),(8,5,true,67)],13,[.slice none 0 0,.int .i64 0,.int .i64 0,.int .i64 0,.slice none 0 0,.slice none 0 0,.slice none 0 0,.slice none 0 0,.slice none 0 0,.slice none 0 0,.slice none 0 0,.slice none 0 0,.slice none 0 0],264⟩,
 ⟨73,.struct [(0,1,false,56),(1,1,false,34),(2,1,false,28),(3,1,false,56),(4,1,false,38)],5,[.slice none 0 0,.slice none 0 0,.slice none 0 0,.slice none 0 0,.slice none 0 0],120⟩,
 ⟨75,.struct [(0,8,true,40),(8,5,true,73)],13,[.slice none 0 0,.int .i64 0,.int .i64 0,.int .i64 0,.slice none 0 0,.slice none 0 0,.slice none 0 0,.slice none 0 0,.slice none 0 0,.slice none 0 0,.slice none 0 0,.slice none 0 0,.slice none 0 0],264⟩,
 ⟨91,.ptr 40,1,[.pointer none],8⟩,
 ⟨102,.slice 171,1,[.slice none 0 0],24⟩,
 ⟨114,.struct [(0,1,false,2),(1,1,false,2),(2,1,false,2)],3,[.int .i64 0,.int .i64 0,.int .i64 0],24⟩,
 ⟨117,.ptr 62,1,[.pointer none],8⟩,
 ⟨124,.ptr 75,1,[.pointer none],8⟩,
 ⟨141,.slice 205,1,[.slice none 0 0],24⟩,
 ⟨142,.ptr 221,1,[.pointer none],8⟩,
 ⟨146,.ptr 37,1,[.pointer none],8⟩,
 ⟨149,.slice 156,1,[.slice none 0 0],24⟩,
 ⟨152,.slice 35,1,[.slice none 0 0],24⟩,
 ⟨154,.struct [(0,1,false,2),(1,1,false,2),(2,1,false,2),(3,1,false,29),(4,1,false,152)],5,[.int .i64 0,.int .i64 0,.int .i64 0,.slice none 0 0,.slice none 0 0],72⟩,
 ⟨156,.struct [(0,1,false,2),(1,5,true,154),(6,3,true,35),(9,3,true,35)],12,[.int .i64 0,.int .i64 0,.int .i64 0,.int .i64 0,.slice none 0 0,.slice none 0 0,.int .i64 0,.int .i64 0,.int .i64 0,.int .i64 0,.int .i64 0,.int .i64 0],128⟩,
 ⟨162,.slice 154,1,[.slice none 0 0],24⟩,
 ⟨163,.slice 223,1,[.slice none 0 0],24⟩,
 ⟨164,.slice 239,1,[.slice none 0 0],24⟩,
 ⟨166,.struct [(0,1,false,162),(1,1,false,163),(2,1,false,164)],3,[.slice none 0 0,.slice none 0 0,.slice none 0 0],72⟩,
 ⟨169,.struct [(0,3,true,35),(3,1,false,2),(4,1,false,4)],5,[.int .i64 0,.int .i64 0,.int .i64 0,.int .i64 0,.bool false],40⟩,
 ⟨171,.struct [(0,5,true,169),(5,5,true,169)],10,[.int .i64 0,.int .i64 0,.int .i64 0,.int .i64 0,.bool false,.int .i64 0,.int .i64 0,.int .i64 0,.int .i64 0,.bool false],80⟩,
 ⟨182,.ptr 73,1,[.pointer none],8⟩,
 ⟨195,.slice 203,1,[.slice none 0 0],24⟩,
 ⟨196,.slice 288,1,[.slice none 0 0],24⟩,
 ⟨197,.slice 291,1,[.slice none 0 0],24⟩,
 ⟨199,.struct [(0,1,false,195),(1,1,false,196),(2,1,false,197)],3,[.slice none 0 0,.slice none 0 0,.slice none 0 0],72⟩,
 ⟨201,.slice 24,1,[.slice none 0 0],24⟩,
 ⟨203,.struct [(0,1,false,2),(1,1,false,2),(2,1,false,2),(3,1,false,29),(4,1,false,201)],5,[.int .i64 0,.int .i64 0,.int .i64 0,.slice none 0 0,.slice none 0 0],72⟩,
 ⟨205,.struct [(0,1,false,2),(1,5,true,203),(6,3,true,24),(9,3,true,24)],12,[.int .i64 0,.int .i64 0,.int .i64 0,.int .i64 0,.slice none 0 0,.slice none 0 0,.int .i64 0,.int .i64 0,.int .i64 0,.int .i64 0,.int .i64 0,.int .i64 0],128⟩,
 ⟨209,.ptr 156,1,[.pointer none],8⟩,
 ⟨214,.ptr 154,1,[.pointer none],8⟩,
 ⟨218,.slice 262,1,[.slice none 0 0],24⟩,
 ⟨219,.slice 264,1,[.slice none 0 0],24⟩,
 ⟨221,.struct [(0,1,false,218),(1,1,false,219),(2,1,false,28),(3,1,false,28),(4,1,false,28),(5,1,false,28)],6,[.slice none 0 0,.slice none 0 0,.slice none 0 0,.slice none 0 0,.slice none 0 0,.slice none 0 0],144⟩,
 ⟨223,.struct [(0,1,false,4),(1,1,false,4),(2,3,true,35)],5,[.bool false,.bool false,.int .i64 0,.int .i64 0,.int .i64 0],32⟩,
 ⟨235,.other,1,[.map none],8⟩,
 ⟨239,.struct [(0,3,true,35),(3,3,true,35)],6,[.int .i64 0,.int .i64 0,.int .i64 0,.int .i64 0,.int .i64 0,.int .i64 0],48⟩,
 ⟨254,.ptr 166,1,[.pointer none],8⟩,
 ⟨262,.struct [(0,1,false,2),(1,1,false,2),(2,1,false,2),(3,1,false,29),(4,1,false,219)],5,[.int .i64 0,.int .i64 0,.int .i64 0,.slice none 0 0,.slice none 0 0],72⟩,
 ⟨264,.struct [(0,1,false,2),(1,1,false,2)],2,[.int .i64 0,.int .i64 0],16⟩,
 ⟨275,.slice 169,1,[.slice none 0 0],24⟩,
 ⟨285,.ptr 262,1,[.pointer none],8⟩,
 ⟨288,.struct [(0,1,false,4),(1,1,false,4),(2,3,true,24)],5,[.bool false,.bool false,.int .i64 0,.int .i64 0,.int .i64 0],32⟩,
 ⟨291,.struct [(0,3,true,24),(3,3,true,24)],6,[.int .i64 0,.int .i64 0,.int .i64 0,.int .i64 0,.int .i64 0,.int .i64 0],48⟩]

def zerosOk (P:Program):TT→Prop
 | []=>True
 | i::r=>(P.info? i.id).map (fun j=>j.zero.map (fun v=>v.cells.toList))=some (some i.zero)∧zerosOk P r

theorem zeg {P:Program}:∀ {T:TT},zerosOk P T→∀ i,i∈T→(P.info? i.id).map (fun j=>j.zero.map (fun v=>v.cells.toList))=some (some i.zero)
 | [],_,i,h=>by cases h
 | _::_,⟨h1,h2⟩,i,h=>by
  rcases List.mem_cons.1 h with rfl | h
  ·exact h1
  ·exact zeg h2 i h

theorem zpv:tt.all (infoOk Tryz.prog)=true:=by kernel_rfl
theorem znG:zerosOk Tryz.prog tt:=⟨by kernel_rfl,by kernel_rfl,by kernel_rfl,by kernel_rfl,by kernel_rfl,by kernel_rfl,by kernel_rfl,by kernel_rfl,by kernel_rfl,by kernel_rfl,by kernel_rfl,by kernel_rfl,by kernel_rfl,by kernel_rfl,by kernel_rfl,by kernel_rfl,by kernel_rfl,by kernel_rfl,by kernel_rfl,by kernel_rfl,by kernel_rfl,by kernel_rfl,by kernel_rfl,by kernel_rfl,by kernel_rfl,by kernel_rfl,by kernel_rfl,by kernel_rfl,by kernel_rfl,by kernel_rfl,by kernel_rfl,by kernel_rfl,by kernel_rfl,by kernel_rfl,by kernel_rfl,by kernel_rfl,by kernel_rfl,by kernel_rfl,by kernel_rfl,by kernel_rfl,by kernel_rfl,by kernel_rfl,by kernel_rfl,by kernel_rfl,by kernel_rfl,by kernel_rfl,by kernel_rfl,by kernel_rfl,by kernel_rfl,by kernel_rfl,by kernel_rfl,by kernel_rfl,by kernel_rfl,by kernel_rfl,by kernel_rfl,by kernel_rfl,by kernel_rfl,by kernel_rfl,by kernel_rfl,by kernel_rfl,by kernel_rfl,by kernel_rfl,by kernel_rfl,by kernel_rfl,trivial⟩
theorem ttok:TTok Tryz.prog tt:=⟨List.all_eq_true.1 zpv,zeg znG⟩
theorem mixed:Tryz.prog.follows .mixedOrders=true:=by kernel_rfl

structure D.Qc where
 Qb:Int
 Qj:Int
 Qk:Int
deriving Inhabited, DecidableEq

structure D.Qd where
 Qj:Int
 QO:Int
 Value:Int
 Data:(List Int)
 QY:(List D.Qc)
deriving Inhabited, DecidableEq

structure D.Qp where
 Qa2:Bool
 Qa3:Bool
 QX:D.Qc
deriving Inhabited, DecidableEq

structure D.Qn where
 A:D.Qc
 B:D.Qc
deriving Inhabited, DecidableEq

structure D.Qv where
 Cells:(List D.Qd)
 QM:(List D.Qp)
 Qu:(List D.Qn)
deriving Inhabited, DecidableEq

structure D.Qe where
 Qg:(List D.Qv)
 Qo:D.Qc
deriving Inhabited, DecidableEq

structure D.Qi where
 Qj:Int
 Qz:D.Qd
 A:D.Qc
 B:D.Qc
deriving Inhabited, DecidableEq

structure D.Qa where
 Qe:D.Qe
 Qf:(List (List D.Qi))
 Qt:(List (List Int))
 QK:(List Int)
 QZ:(List Int)
deriving Inhabited, DecidableEq

structure D.Qa4 where
 Qj:Int
 A:Int
 B:Int
deriving Inhabited, DecidableEq

structure D.Qq where
 Qa:D.Qa
 QB:Int
 QL:Int
 Qa1:Bool
 Qs:(List Bool)
 QG:Int
 Qx:Bool
deriving Inhabited, DecidableEq

structure D.QS where
 at_:D.Qc
 slot:Int
 own:Bool
deriving Inhabited, DecidableEq

structure D.Qh where
 a:D.QS
 b:D.QS
deriving Inhabited, DecidableEq

structure D.QV where
 QJ:Int
 Qa5:Int
deriving Inhabited, DecidableEq

structure D.QJ where
 Qj:Int
 QO:Int
 Value:Int
 Data:(List Int)
 Qa0:(List D.QV)
deriving Inhabited, DecidableEq

structure D.Qm where
 QC:(List D.QJ)
 QH:(List D.QV)
 cells:(List (List Int))
 QU:(List (List Int))
 ends:(List (List Int))
 Qy:(List (List Int))
deriving Inhabited, DecidableEq

def ty29:Ty (List Int):=tSl 2 tInt
instance {W:World}:Reads W ty29:=inferInstanceAs (Reads W (tSl 2 tInt))
theorem z1F {w:World}{cs:List Value}{xs:(List Int)}(h:ty29.ro w cs xs):∃ A c,cs=[.slice A xs.length c]:=slForm h

def ty24:Ty D.Qc:=tMap (fun c=>(c.Qb,c.Qj,c.Qk,())) (tPair tInt (tPair tInt (tPair tInt tUnit)))
instance {W:World}:Reads W ty24:=inferInstanceAs (Reads W (tMap (fun c:D.Qc=>(c.Qb,c.Qj,c.Qk,())) (tPair tInt (tPair tInt (tPair tInt tUnit)))))
theorem z9z {w:World}{cs:List Value}{c:D.Qc}(h:ty24.ro w cs c):cs=[.int .i64 c.Qb,.int .i64 c.Qj,.int .i64 c.Qk]:=by
 obtain⟨c0,d0,rfl,h0,c1,d1,rfl,h1,c2,d2,rfl,h2,hz⟩:=h
 subst hz
 subst h0
 subst h1
 subst h2
 rfl
theorem zai {w:World}(c:D.Qc)  :ty24.ro w [.int .i64 c.Qb,.int .i64 c.Qj,.int .i64 c.Qk] c:=
 ⟨_,_,rfl,rfl,⟨_,_,rfl,rfl,⟨_,_,rfl,rfl,rfl⟩⟩⟩
def zfo:Ty (List D.Qc):=tSl 24 ty24
instance {W:World}:Reads W zfo:=inferInstanceAs (Reads W (tSl 24 ty24))
theorem zja {w:World}{cs:List Value}{xs:(List D.Qc)}(h:zfo.ro w cs xs):∃ A c,cs=[.slice A xs.length c]:=slForm h

def zfn:Ty D.Qd:=tMap (fun c=>(c.Qj,c.QO,c.Value,c.Data,c.QY,())) (tPair tInt (tPair tInt (tPair tInt (tPair ty29 (tPair zfo tUnit)))))
instance {W:World}:Reads W zfn:=inferInstanceAs (Reads W (tMap (fun c:D.Qd=>(c.Qj,c.QO,c.Value,c.Data,c.QY,())) (tPair tInt (tPair tInt (tPair tInt (tPair ty29 (tPair zfo tUnit)))))))
theorem zb4 {w:World}{cs:List Value}{c:D.Qd}(h:zfn.ro w cs c):∃ A0 k0 A1 k1,cs=[.int .i64 c.Qj,.int .i64 c.QO,.int .i64 c.Value,.slice A0 c.Data.length k0,.slice A1 c.QY.length k1]∧ty29.ro w [.slice A0 c.Data.length k0] c.Data∧zfo.ro w [.slice A1 c.QY.length k1] c.QY:=by
 obtain⟨c0,d0,rfl,h0,c1,d1,rfl,h1,c2,d2,rfl,h2,c3,d3,rfl,h3,c4,d4,rfl,h4,hz⟩:=h
 subst hz
 subst h0
 subst h1
 subst h2
 obtain⟨d,q,e3⟩:=z1F h3
 subst e3
 obtain⟨o,y,e4⟩:=zja h4
 subst e4
 exact⟨d,q,o,y,rfl,h3,h4⟩
theorem zfT {w:World}(c:D.Qd){A0:Option Addr}{k0:Nat}{A1:Option Addr}{k1:Nat}(h0:ty29.ro w [.slice A0 c.Data.length k0] c.Data) (h1:zfo.ro w [.slice A1 c.QY.length k1] c.QY):zfn.ro w [.int .i64 c.Qj,.int .i64 c.QO,.int .i64 c.Value,.slice A0 c.Data.length k0,.slice A1 c.QY.length k1] c:=
 ⟨_,_,rfl,rfl,⟨_,_,rfl,rfl,⟨_,_,rfl,rfl,⟨_,_,rfl,h0,⟨_,_,rfl,h1,rfl⟩⟩⟩⟩⟩
def zgY:Ty (List D.Qd):=tSl 203 zfn
instance {W:World}:Reads W zgY:=inferInstanceAs (Reads W (tSl 203 zfn))
theorem zjd {w:World}{cs:List Value}{xs:(List D.Qd)}(h:zgY.ro w cs xs):∃ A c,cs=[.slice A xs.length c]:=slForm h

def zj7:Ty D.Qp:=tMap (fun c=>(c.Qa2,c.Qa3,c.QX,())) (tPair tBool (tPair tBool (tPair ty24 tUnit)))
instance {W:World}:Reads W zj7:=inferInstanceAs (Reads W (tMap (fun c:D.Qp=>(c.Qa2,c.Qa3,c.QX,())) (tPair tBool (tPair tBool (tPair ty24 tUnit)))))
theorem zfN {w:World}{cs:List Value}{c:D.Qp}(h:zj7.ro w cs c):cs=[.bool c.Qa2,.bool c.Qa3,.int .i64 c.QX.Qb,.int .i64 c.QX.Qj,.int .i64 c.QX.Qk]:=by
 obtain⟨c0,d0,rfl,h0,c1,d1,rfl,h1,c2,d2,rfl,h2,hz⟩:=h
 subst hz
 subst h0
 subst h1
 have e2:=z9z h2
 subst e2
 rfl
def zgX:Ty (List D.Qp):=tSl 288 zj7
instance {W:World}:Reads W zgX:=inferInstanceAs (Reads W (tSl 288 zj7))
theorem zjc {w:World}{cs:List Value}{xs:(List D.Qp)}(h:zgX.ro w cs xs):∃ A c,cs=[.slice A xs.length c]:=slForm h

def zj6:Ty D.Qn:=tMap (fun c=>(c.A,c.B,())) (tPair ty24 (tPair ty24 tUnit))
instance {W:World}:Reads W zj6:=inferInstanceAs (Reads W (tMap (fun c:D.Qn=>(c.A,c.B,())) (tPair ty24 (tPair ty24 tUnit))))
theorem zfM {w:World}{cs:List Value}{c:D.Qn}(h:zj6.ro w cs c):cs=[.int .i64 c.A.Qb,.int .i64 c.A.Qj,.int .i64 c.A.Qk,.int .i64 c.B.Qb,.int .i64 c.B.Qj,.int .i64 c.B.Qk]:=by
 obtain⟨c0,d0,rfl,h0,c1,d1,rfl,h1,hz⟩:=h
 subst hz
 have e0:=z9z h0
 subst e0
 have e1:=z9z h1
 subst e1
 rfl
def zgW:Ty (List D.Qn):=tSl 291 zj6
instance {W:World}:Reads W zgW:=inferInstanceAs (Reads W (tSl 291 zj6))
theorem zjb {w:World}{cs:List Value}{xs:(List D.Qn)}(h:zgW.ro w cs xs):∃ A c,cs=[.slice A xs.length c]:=slForm h

def zib:Ty D.Qv:=tMap (fun c=>(c.Cells,c.QM,c.Qu,())) (tPair zgY (tPair zgX (tPair zgW tUnit)))
instance {W:World}:Reads W zib:=inferInstanceAs (Reads W (tMap (fun c:D.Qv=>(c.Cells,c.QM,c.Qu,())) (tPair zgY (tPair zgX (tPair zgW tUnit)))))
theorem zcg {w:World}{cs:List Value}{c:D.Qv}(h:zib.ro w cs c):∃ A0 k0 A1 k1 A2 k2,cs=[.slice A0 c.Cells.length k0,.slice A1 c.QM.length k1,.slice A2 c.Qu.length k2]∧zgY.ro w [.slice A0 c.Cells.length k0] c.Cells∧zgX.ro w [.slice A1 c.QM.length k1] c.QM∧zgW.ro w [.slice A2 c.Qu.length k2] c.Qu:=by
 obtain⟨c0,d0,rfl,h0,c1,d1,rfl,h1,c2,d2,rfl,h2,hz⟩:=h
 subst hz
 obtain⟨d,y,e0⟩:=zjd h0
 subst e0
 obtain⟨o,G,e1⟩:=zjc h1
 subst e1
 obtain⟨q,H,e2⟩:=zjb h2
 subst e2
 exact⟨d,y,o,G,q,H,rfl,h0,h1,h2⟩
def ty22:Ty (List D.Qv):=tSl 199 zib
instance {W:World}:Reads W ty22:=inferInstanceAs (Reads W (tSl 199 zib))
theorem zjW {w:World}{cs:List Value}{xs:(List D.Qv)}(h:ty22.ro w cs xs):∃ A c,cs=[.slice A xs.length c]:=slForm h

def ty26:Ty D.Qe:=tMap (fun c=>(c.Qg,c.Qo,())) (tPair ty22 (tPair ty24 tUnit))
instance {W:World}:Reads W ty26:=inferInstanceAs (Reads W (tMap (fun c:D.Qe=>(c.Qg,c.Qo,())) (tPair ty22 (tPair ty24 tUnit))))
theorem zek {w:World}{cs:List Value}{c:D.Qe}(h:ty26.ro w cs c):∃ A0 k0,cs=[.slice A0 c.Qg.length k0,.int .i64 c.Qo.Qb,.int .i64 c.Qo.Qj,.int .i64 c.Qo.Qk]∧ty22.ro w [.slice A0 c.Qg.length k0] c.Qg:=by
 obtain⟨c0,d0,rfl,h0,c1,d1,rfl,h1,hz⟩:=h
 subst hz
 obtain⟨d,o,e0⟩:=zjW h0
 subst e0
 have e1:=z9z h1
 subst e1
 exact⟨d,o,rfl,h0⟩
theorem zej {w:World}(c:D.Qe){A0:Option Addr}{k0:Nat}(h0:ty22.ro w [.slice A0 c.Qg.length k0] c.Qg):ty26.ro w [.slice A0 c.Qg.length k0,.int .i64 c.Qo.Qb,.int .i64 c.Qo.Qj,.int .i64 c.Qo.Qk] c:=
 ⟨_,_,rfl,h0,⟨_,_,rfl,(zai c.Qo ),rfl⟩⟩
def zia:Ty D.Qi:=tMap (fun c=>(c.Qj,c.Qz,c.A,c.B,())) (tPair tInt (tPair zfn (tPair ty24 (tPair ty24 tUnit))))
instance {W:World}:Reads W zia:=inferInstanceAs (Reads W (tMap (fun c:D.Qi=>(c.Qj,c.Qz,c.A,c.B,())) (tPair tInt (tPair zfn (tPair ty24 (tPair ty24 tUnit))))))
theorem zcf {w:World}{cs:List Value}{c:D.Qi}(h:zia.ro w cs c):∃ A0 k0 A1 k1,cs=[.int .i64 c.Qj,.int .i64 c.Qz.Qj,.int .i64 c.Qz.QO,.int .i64 c.Qz.Value,.slice A0 c.Qz.Data.length k0,.slice A1 c.Qz.QY.length k1,.int .i64 c.A.Qb,.int .i64 c.A.Qj,.int .i64 c.A.Qk,.int .i64 c.B.Qb,.int .i64 c.B.Qj,.int .i64 c.B.Qk]∧ty29.ro w [.slice A0 c.Qz.Data.length k0] c.Qz.Data∧zfo.ro w [.slice A1 c.Qz.QY.length k1] c.Qz.QY:=by
 obtain⟨c0,d0,rfl,h0,c1,d1,rfl,h1,c2,d2,rfl,h2,c3,d3,rfl,h3,hz⟩:=h
 subst hz
 subst h0
 obtain⟨d,G,o,H,e1,q,y⟩:=zb4 h1
 subst e1
 have e2:=z9z h2
 subst e2
 have e3:=z9z h3
 subst e3
 exact⟨d,G,o,H,rfl,q,y⟩
def zif:Ty (List D.Qi):=tSl 205 zia
instance {W:World}:Reads W zif:=inferInstanceAs (Reads W (tSl 205 zia))
theorem zfX {w:World}{cs:List Value}{xs:(List D.Qi)}(h:zif.ro w cs xs):∃ A c,cs=[.slice A xs.length c]:=slForm h

def ty27:Ty (List (List D.Qi)):=tSl 141 zif
instance {W:World}:Reads W ty27:=inferInstanceAs (Reads W (tSl 141 zif))
theorem zjU {w:World}{cs:List Value}{xs:(List (List D.Qi))}(h:ty27.ro w cs xs):∃ A c,cs=[.slice A xs.length c]:=slForm h

def ty28:Ty (List (List Int)):=tSl 29 ty29
instance {W:World}:Reads W ty28:=inferInstanceAs (Reads W (tSl 29 ty29))
theorem zb3 {w:World}{cs:List Value}{xs:(List (List Int))}(h:ty28.ro w cs xs):∃ A c,cs=[.slice A xs.length c]:=slForm h

def ty31:Ty D.Qa:=tMap (fun c=>(c.Qe,c.Qf,c.Qt,c.QK,c.QZ,())) (tPair ty26 (tPair ty27 (tPair ty28 (tPair ty29 (tPair ty29 tUnit)))))
instance {W:World}:Reads W ty31:=inferInstanceAs (Reads W (tMap (fun c:D.Qa=>(c.Qe,c.Qf,c.Qt,c.QK,c.QZ,())) (tPair ty26 (tPair ty27 (tPair ty28 (tPair ty29 (tPair ty29 tUnit)))))))
theorem zei {w:World}{cs:List Value}{c:D.Qa}(h:ty31.ro w cs c):∃ A0 k0 A1 k1 A2 k2 A3 k3 A4 k4,cs=[.slice A0 c.Qe.Qg.length k0,.int .i64 c.Qe.Qo.Qb,.int .i64 c.Qe.Qo.Qj,.int .i64 c.Qe.Qo.Qk,.slice A1 c.Qf.length k1,.slice A2 c.Qt.length k2,.slice A3 c.QK.length k3,.slice A4 c.QZ.length k4]∧ty22.ro w [.slice A0 c.Qe.Qg.length k0] c.Qe.Qg∧ty27.ro w [.slice A1 c.Qf.length k1] c.Qf∧ty28.ro w [.slice A2 c.Qt.length k2] c.Qt∧ty29.ro w [.slice A3 c.QK.length k3] c.QK∧ty29.ro w [.slice A4 c.QZ.length k4] c.QZ:=by
 obtain⟨c0,d0,rfl,h0,c1,d1,rfl,h1,c2,d2,rfl,h2,c3,d3,rfl,h3,c4,d4,rfl,h4,hz⟩:=h
 subst hz
 obtain⟨d,q,e0,o⟩:=zek h0
 subst e0
 obtain⟨y,O,e1⟩:=zjU h1
 subst e1
 obtain⟨G,S,e2⟩:=zb3 h2
 subst e2
 obtain⟨H,X,e3⟩:=z1F h3
 subst e3
 obtain⟨M,Y,e4⟩:=z1F h4
 subst e4
 exact⟨d,q,y,O,G,S,H,X,M,Y,rfl,o,h1,h2,h3,h4⟩
theorem zgT {w:World}(c:D.Qa){A0:Option Addr}{k0:Nat}{A1:Option Addr}{k1:Nat}{A2:Option Addr}{k2:Nat}{A3:Option Addr}{k3:Nat}{A4:Option Addr}{k4:Nat}(h0:ty22.ro w [.slice A0 c.Qe.Qg.length k0] c.Qe.Qg) (h1:ty27.ro w [.slice A1 c.Qf.length k1] c.Qf) (h2:ty28.ro w [.slice A2 c.Qt.length k2] c.Qt) (h3:ty29.ro w [.slice A3 c.QK.length k3] c.QK) (h4:ty29.ro w [.slice A4 c.QZ.length k4] c.QZ):ty31.ro w [.slice A0 c.Qe.Qg.length k0,.int .i64 c.Qe.Qo.Qb,.int .i64 c.Qe.Qo.Qj,.int .i64 c.Qe.Qo.Qk,.slice A1 c.Qf.length k1,.slice A2 c.Qt.length k2,.slice A3 c.QK.length k3,.slice A4 c.QZ.length k4] c:=
 ⟨_,_,rfl,(zej c.Qe h0),⟨_,_,rfl,h1,⟨_,_,rfl,h2,⟨_,_,rfl,h3,⟨_,_,rfl,h4,rfl⟩⟩⟩⟩⟩
def ty35:Ty D.Qc:=tMap (fun c=>(c.Qb,c.Qj,c.Qk,())) (tPair tInt (tPair tInt (tPair tInt tUnit)))
instance {W:World}:Reads W ty35:=inferInstanceAs (Reads W (tMap (fun c:D.Qc=>(c.Qb,c.Qj,c.Qk,())) (tPair tInt (tPair tInt (tPair tInt tUnit)))))
theorem z1a {w:World}{cs:List Value}{c:D.Qc}(h:ty35.ro w cs c):cs=[.int .i64 c.Qb,.int .i64 c.Qj,.int .i64 c.Qk]:=by
 obtain⟨c0,d0,rfl,h0,c1,d1,rfl,h1,c2,d2,rfl,h2,hz⟩:=h
 subst hz
 subst h0
 subst h1
 subst h2
 rfl
theorem zF {w:World}(c:D.Qc)  :ty35.ro w [.int .i64 c.Qb,.int .i64 c.Qj,.int .i64 c.Qk] c:=
 ⟨_,_,rfl,rfl,⟨_,_,rfl,rfl,⟨_,_,rfl,rfl,rfl⟩⟩⟩
theorem zbq {w:World}{cs:List Value}{c:D.Qc}{G:List Nat}(h:ty35.own w cs c G):cs=[.int .i64 c.Qb,.int .i64 c.Qj,.int .i64 c.Qk]∧(All []).A w G:=by
 obtain⟨c0,d0,H0,K0,rfl,rfl,h0,c1,d1,H1,K1,rfl,rfl,h1,c2,d2,H2,K2,rfl,rfl,h2,hz,hk⟩:=h
 subst hz;subst hk
 obtain⟨e0,k0⟩:=h0;subst e0;subst k0
 obtain⟨e1,k1⟩:=h1;subst e1;subst k1
 obtain⟨e2,k2⟩:=h2;subst e2;subst k2
 refine⟨rfl,?_⟩
 show(All _).A w _
 exact cast (congrArg _ (by simp)) (show(All _).A w ([]) from rfl)
theorem z9y {w:World}{c:D.Qc}  {G:List Nat}(h:(All []).A w G):ty35.own w [.int .i64 c.Qb,.int .i64 c.Qj,.int .i64 c.Qk] c G:=by
 have hz:G=[]:=h
 subst hz
 exact cast (congrArg _ (by simp)) (show ty35.own w [.int .i64 c.Qb,.int .i64 c.Qj,.int .i64 c.Qk] c (_) from⟨_,_,_,_,rfl,rfl,⟨rfl,rfl⟩,⟨_,_,_,_,rfl,rfl,⟨rfl,rfl⟩,⟨_,_,_,_,rfl,rfl,⟨rfl,rfl⟩,⟨rfl,rfl⟩⟩⟩⟩)
theorem zj5 {W w:World}{B:List Res}{cs:List Value}{c:D.Qc}(h:St W w (Own ty35 cs c::B)):cs=[.int .i64 c.Qb,.int .i64 c.Qj,.int .i64 c.Qk]∧St W w ([]++B):=by
 obtain⟨G,hA,_⟩:=h.sep.head
 obtain⟨rfl,_⟩:=zbq hA
 refine⟨rfl,St.splitAll (h.conv fun G hG=>?_)⟩
 exact(zbq hG).2
theorem zfL {W w:World}{B:List Res}{c:D.Qc}  (h:St W w ([]++B)):St W w (Own ty35 [.int .i64 c.Qb,.int .i64 c.Qj,.int .i64 c.Qk] c::B):=(St.fuseAll h).conv fun _ hG=>z9y hG

def z3h:Ty (List D.Qc):=tSl 35 ty35
instance {W:World}:Reads W z3h:=inferInstanceAs (Reads W (tSl 35 ty35))
theorem zjk {w:World}{cs:List Value}{xs:(List D.Qc)}(h:z3h.ro w cs xs):∃ A c,cs=[.slice A xs.length c]:=slForm h

def z2C:Ty D.Qd:=tMap (fun c=>(c.Qj,c.QO,c.Value,c.Data,c.QY,())) (tPair tInt (tPair tInt (tPair tInt (tPair ty29 (tPair z3h tUnit)))))
instance {W:World}:Reads W z2C:=inferInstanceAs (Reads W (tMap (fun c:D.Qd=>(c.Qj,c.QO,c.Value,c.Data,c.QY,())) (tPair tInt (tPair tInt (tPair tInt (tPair ty29 (tPair z3h tUnit)))))))
theorem zt {w:World}{cs:List Value}{c:D.Qd}(h:z2C.ro w cs c):∃ A0 k0 A1 k1,cs=[.int .i64 c.Qj,.int .i64 c.QO,.int .i64 c.Value,.slice A0 c.Data.length k0,.slice A1 c.QY.length k1]∧ty29.ro w [.slice A0 c.Data.length k0] c.Data∧z3h.ro w [.slice A1 c.QY.length k1] c.QY:=by
 obtain⟨c0,d0,rfl,h0,c1,d1,rfl,h1,c2,d2,rfl,h2,c3,d3,rfl,h3,c4,d4,rfl,h4,hz⟩:=h
 subst hz
 subst h0
 subst h1
 subst h2
 obtain⟨d,q,e3⟩:=z1F h3
 subst e3
 obtain⟨o,y,e4⟩:=zjk h4
 subst e4
 exact⟨d,q,o,y,rfl,h3,h4⟩
theorem z61 {w:World}(c:D.Qd){A0:Option Addr}{k0:Nat}{A1:Option Addr}{k1:Nat}(h0:ty29.ro w [.slice A0 c.Data.length k0] c.Data) (h1:z3h.ro w [.slice A1 c.QY.length k1] c.QY):z2C.ro w [.int .i64 c.Qj,.int .i64 c.QO,.int .i64 c.Value,.slice A0 c.Data.length k0,.slice A1 c.QY.length k1] c:=
 ⟨_,_,rfl,rfl,⟨_,_,rfl,rfl,⟨_,_,rfl,rfl,⟨_,_,rfl,h0,⟨_,_,rfl,h1,rfl⟩⟩⟩⟩⟩
theorem zeq {w:World}{cs:List Value}{c:D.Qd}{G:List Nat}(h:z2C.own w cs c G):∃ A0 k0 A1 k1,cs=[.int .i64 c.Qj,.int .i64 c.QO,.int .i64 c.Value,.slice A0 c.Data.length k0,.slice A1 c.QY.length k1]∧(All [Own ty29 [.slice A0 c.Data.length k0] c.Data,Own z3h [.slice A1 c.QY.length k1] c.QY]).A w G:=by
 obtain⟨c0,d0,H0,K0,rfl,rfl,h0,c1,d1,H1,K1,rfl,rfl,h1,c2,d2,H2,K2,rfl,rfl,h2,c3,d3,H3,K3,rfl,rfl,h3,c4,d4,H4,K4,rfl,rfl,h4,hz,hk⟩:=h
 subst hz;subst hk
 obtain⟨e0,k0⟩:=h0;subst e0;subst k0
 obtain⟨e1,k1⟩:=h1;subst e1;subst k1
 obtain⟨e2,k2⟩:=h2;subst e2;subst k2
 obtain⟨d,q,e3⟩:=slFormO h3
 subst e3
 obtain⟨o,y,e4⟩:=slFormO h4
 subst e4
 refine⟨d,q,o,y,rfl,?_⟩
 show(All _).A w _
 exact cast (congrArg _ (by simp)) (show(All _).A w (H3++(H4++([]))) from⟨_,_,rfl,h3,⟨_,_,rfl,h4,rfl⟩⟩)
theorem zdj {w:World}{c:D.Qd}{A0:Option Addr}{k0:Nat}{A1:Option Addr}{k1:Nat}{G:List Nat}(h:(All [Own ty29 [.slice A0 c.Data.length k0] c.Data,Own z3h [.slice A1 c.QY.length k1] c.QY]).A w G):z2C.own w [.int .i64 c.Qj,.int .i64 c.QO,.int .i64 c.Value,.slice A0 c.Data.length k0,.slice A1 c.QY.length k1] c G:=by
 obtain⟨G0,R0,rfl,h0,G1,R1,rfl,h1,hz⟩:=h
 have hz':R1=[]:=hz
 subst hz'
 exact cast (congrArg _ (by simp)) (show z2C.own w [.int .i64 c.Qj,.int .i64 c.QO,.int .i64 c.Value,.slice A0 c.Data.length k0,.slice A1 c.QY.length k1] c (_) from⟨_,_,_,_,rfl,rfl,⟨rfl,rfl⟩,⟨_,_,_,_,rfl,rfl,⟨rfl,rfl⟩,⟨_,_,_,_,rfl,rfl,⟨rfl,rfl⟩,⟨_,_,_,_,rfl,rfl,h0,⟨_,_,_,_,rfl,rfl,h1,⟨rfl,rfl⟩⟩⟩⟩⟩⟩)
theorem zie {W w:World}{B:List Res}{cs:List Value}{c:D.Qd}(h:St W w (Own z2C cs c::B)):∃ A0 k0 A1 k1,cs=[.int .i64 c.Qj,.int .i64 c.QO,.int .i64 c.Value,.slice A0 c.Data.length k0,.slice A1 c.QY.length k1]∧St W w ([Own ty29 [.slice A0 c.Data.length k0] c.Data,Own z3h [.slice A1 c.QY.length k1] c.QY]++B):=by
 obtain⟨G,hA,_⟩:=h.sep.head
 obtain⟨A0,k0,A1,k1,rfl,_⟩:=zeq hA
 refine⟨A0,k0,A1,k1,rfl,St.splitAll (h.conv fun G hG=>?_)⟩
 obtain⟨X0,Y0,X1,Y1,he,hh⟩:=zeq hG
 simp only [List.cons.injEq,Value.slice.injEq,and_true,true_and] at he
 obtain⟨⟨rfl,rfl⟩,⟨rfl,rfl⟩⟩:=he
 exact hh
theorem zbt {W w:World}{B:List Res}{c:D.Qd}{A0:Option Addr}{k0:Nat}{A1:Option Addr}{k1:Nat}(h:St W w ([Own ty29 [.slice A0 c.Data.length k0] c.Data,Own z3h [.slice A1 c.QY.length k1] c.QY]++B)):St W w (Own z2C [.int .i64 c.Qj,.int .i64 c.QO,.int .i64 c.Value,.slice A0 c.Data.length k0,.slice A1 c.QY.length k1] c::B):=(St.fuseAll h).conv fun _ hG=>zdj hG

def z7T:Ty (List D.Qd):=tSl 154 z2C
instance {W:World}:Reads W z7T:=inferInstanceAs (Reads W (tSl 154 z2C))
theorem zji {w:World}{cs:List Value}{xs:(List D.Qd)}(h:z7T.ro w cs xs):∃ A c,cs=[.slice A xs.length c]:=slForm h

def z9R:Ty D.Qp:=tMap (fun c=>(c.Qa2,c.Qa3,c.QX,())) (tPair tBool (tPair tBool (tPair ty35 tUnit)))
instance {W:World}:Reads W z9R:=inferInstanceAs (Reads W (tMap (fun c:D.Qp=>(c.Qa2,c.Qa3,c.QX,())) (tPair tBool (tPair tBool (tPair ty35 tUnit)))))
theorem z1v {w:World}{cs:List Value}{c:D.Qp}(h:z9R.ro w cs c):cs=[.bool c.Qa2,.bool c.Qa3,.int .i64 c.QX.Qb,.int .i64 c.QX.Qj,.int .i64 c.QX.Qk]:=by
 obtain⟨c0,d0,rfl,h0,c1,d1,rfl,h1,c2,d2,rfl,h2,hz⟩:=h
 subst hz
 subst h0
 subst h1
 have e2:=z1a h2
 subst e2
 rfl
theorem zgV {w:World}{cs:List Value}{c:D.Qp}{G:List Nat}(h:z9R.own w cs c G):cs=[.bool c.Qa2,.bool c.Qa3,.int .i64 c.QX.Qb,.int .i64 c.QX.Qj,.int .i64 c.QX.Qk]∧(All []).A w G:=by
 obtain⟨c0,d0,H0,K0,rfl,rfl,h0,c1,d1,H1,K1,rfl,rfl,h1,c2,d2,H2,K2,rfl,rfl,h2,hz,hk⟩:=h
 subst hz;subst hk
 obtain⟨e0,k0⟩:=h0;subst e0;subst k0
 obtain⟨e1,k1⟩:=h1;subst e1;subst k1
 obtain⟨e2,g2⟩:=zbq h2
 subst e2
 refine⟨rfl,?_⟩
 exact cast (congrArg _ (by simp)) g2
theorem zfQ {w:World}{c:D.Qp}  {G:List Nat}(h:(All []).A w G):z9R.own w [.bool c.Qa2,.bool c.Qa3,.int .i64 c.QX.Qb,.int .i64 c.QX.Qj,.int .i64 c.QX.Qk] c G:=by
 have hz:G=[]:=h
 subst hz
 exact cast (congrArg _ (by simp)) (show z9R.own w [.bool c.Qa2,.bool c.Qa3,.int .i64 c.QX.Qb,.int .i64 c.QX.Qj,.int .i64 c.QX.Qk] c (_) from⟨_,_,_,_,rfl,rfl,⟨rfl,rfl⟩,⟨_,_,_,_,rfl,rfl,⟨rfl,rfl⟩,⟨_,_,_,_,rfl,rfl,(z9y (c:=c.QX) rfl),⟨rfl,rfl⟩⟩⟩⟩)
theorem zi9 {W w:World}{B:List Res}{cs:List Value}{c:D.Qp}(h:St W w (Own z9R cs c::B)):cs=[.bool c.Qa2,.bool c.Qa3,.int .i64 c.QX.Qb,.int .i64 c.QX.Qj,.int .i64 c.QX.Qk]∧St W w ([]++B):=by
 obtain⟨G,hA,_⟩:=h.sep.head
 obtain⟨rfl,_⟩:=zgV hA
 refine⟨rfl,St.splitAll (h.conv fun G hG=>?_)⟩
 exact(zgV hG).2
theorem zeo {W w:World}{B:List Res}{c:D.Qp}  (h:St W w ([]++B)):St W w (Own z9R [.bool c.Qa2,.bool c.Qa3,.int .i64 c.QX.Qb,.int .i64 c.QX.Qj,.int .i64 c.QX.Qk] c::B):=(St.fuseAll h).conv fun _ hG=>zfQ hG

def z4S:Ty (List D.Qp):=tSl 223 z9R
instance {W:World}:Reads W z4S:=inferInstanceAs (Reads W (tSl 223 z9R))
theorem zjg {w:World}{cs:List Value}{xs:(List D.Qp)}(h:z4S.ro w cs xs):∃ A c,cs=[.slice A xs.length c]:=slForm h

def zad:Ty D.Qn:=tMap (fun c=>(c.A,c.B,())) (tPair ty35 (tPair ty35 tUnit))
instance {W:World}:Reads W zad:=inferInstanceAs (Reads W (tMap (fun c:D.Qn=>(c.A,c.B,())) (tPair ty35 (tPair ty35 tUnit))))
theorem z49 {w:World}{cs:List Value}{c:D.Qn}(h:zad.ro w cs c):cs=[.int .i64 c.A.Qb,.int .i64 c.A.Qj,.int .i64 c.A.Qk,.int .i64 c.B.Qb,.int .i64 c.B.Qj,.int .i64 c.B.Qk]:=by
 obtain⟨c0,d0,rfl,h0,c1,d1,rfl,h1,hz⟩:=h
 subst hz
 have e0:=z1a h0
 subst e0
 have e1:=z1a h1
 subst e1
 rfl
theorem zgU {w:World}{cs:List Value}{c:D.Qn}{G:List Nat}(h:zad.own w cs c G):cs=[.int .i64 c.A.Qb,.int .i64 c.A.Qj,.int .i64 c.A.Qk,.int .i64 c.B.Qb,.int .i64 c.B.Qj,.int .i64 c.B.Qk]∧(All []).A w G:=by
 obtain⟨c0,d0,H0,K0,rfl,rfl,h0,c1,d1,H1,K1,rfl,rfl,h1,hz,hk⟩:=h
 subst hz;subst hk
 obtain⟨e0,g0⟩:=zbq h0
 subst e0
 obtain⟨e1,g1⟩:=zbq h1
 subst e1
 refine⟨rfl,?_⟩
 exact cast (congrArg _ (by simp)) (allApp g0 g1)
theorem zfP {w:World}{c:D.Qn}  {G:List Nat}(h:(All []).A w G):zad.own w [.int .i64 c.A.Qb,.int .i64 c.A.Qj,.int .i64 c.A.Qk,.int .i64 c.B.Qb,.int .i64 c.B.Qj,.int .i64 c.B.Qk] c G:=by
 have hz:G=[]:=h
 subst hz
 exact cast (congrArg _ (by simp)) (show zad.own w [.int .i64 c.A.Qb,.int .i64 c.A.Qj,.int .i64 c.A.Qk,.int .i64 c.B.Qb,.int .i64 c.B.Qj,.int .i64 c.B.Qk] c (_) from⟨_,_,_,_,rfl,rfl,(z9y (c:=c.A) rfl),⟨_,_,_,_,rfl,rfl,(z9y (c:=c.B) rfl),⟨rfl,rfl⟩⟩⟩)
theorem zi8 {W w:World}{B:List Res}{cs:List Value}{c:D.Qn}(h:St W w (Own zad cs c::B)):cs=[.int .i64 c.A.Qb,.int .i64 c.A.Qj,.int .i64 c.A.Qk,.int .i64 c.B.Qb,.int .i64 c.B.Qj,.int .i64 c.B.Qk]∧St W w ([]++B):=by
 obtain⟨G,hA,_⟩:=h.sep.head
 obtain⟨rfl,_⟩:=zgU hA
 refine⟨rfl,St.splitAll (h.conv fun G hG=>?_)⟩
 exact(zgU hG).2
theorem zen {W w:World}{B:List Res}{c:D.Qn}  (h:St W w ([]++B)):St W w (Own zad [.int .i64 c.A.Qb,.int .i64 c.A.Qj,.int .i64 c.A.Qk,.int .i64 c.B.Qb,.int .i64 c.B.Qj,.int .i64 c.B.Qk] c::B):=(St.fuseAll h).conv fun _ hG=>zfP hG

def z4a:Ty (List D.Qn):=tSl 239 zad
instance {W:World}:Reads W z4a:=inferInstanceAs (Reads W (tSl 239 zad))
theorem zjf {w:World}{cs:List Value}{xs:(List D.Qn)}(h:z4a.ro w cs xs):∃ A c,cs=[.slice A xs.length c]:=slForm h

def z84:Ty D.Qv:=tMap (fun c=>(c.Cells,c.QM,c.Qu,())) (tPair z7T (tPair z4S (tPair z4a tUnit)))
instance {W:World}:Reads W z84:=inferInstanceAs (Reads W (tMap (fun c:D.Qv=>(c.Cells,c.QM,c.Qu,())) (tPair z7T (tPair z4S (tPair z4a tUnit)))))
theorem zR {w:World}{cs:List Value}{c:D.Qv}(h:z84.ro w cs c):∃ A0 k0 A1 k1 A2 k2,cs=[.slice A0 c.Cells.length k0,.slice A1 c.QM.length k1,.slice A2 c.Qu.length k2]∧z7T.ro w [.slice A0 c.Cells.length k0] c.Cells∧z4S.ro w [.slice A1 c.QM.length k1] c.QM∧z4a.ro w [.slice A2 c.Qu.length k2] c.Qu:=by
 obtain⟨c0,d0,rfl,h0,c1,d1,rfl,h1,c2,d2,rfl,h2,hz⟩:=h
 subst hz
 obtain⟨d,y,e0⟩:=zji h0
 subst e0
 obtain⟨o,G,e1⟩:=zjg h1
 subst e1
 obtain⟨q,H,e2⟩:=zjf h2
 subst e2
 exact⟨d,y,o,G,q,H,rfl,h0,h1,h2⟩
theorem zje {w:World}(c:D.Qv){A0:Option Addr}{k0:Nat}{A1:Option Addr}{k1:Nat}{A2:Option Addr}{k2:Nat}(h0:z7T.ro w [.slice A0 c.Cells.length k0] c.Cells) (h1:z4S.ro w [.slice A1 c.QM.length k1] c.QM) (h2:z4a.ro w [.slice A2 c.Qu.length k2] c.Qu):z84.ro w [.slice A0 c.Cells.length k0,.slice A1 c.QM.length k1,.slice A2 c.Qu.length k2] c:=
 ⟨_,_,rfl,h0,⟨_,_,rfl,h1,⟨_,_,rfl,h2,rfl⟩⟩⟩
theorem zgZ {w:World}{cs:List Value}{c:D.Qv}{G:List Nat}(h:z84.own w cs c G):∃ A0 k0 A1 k1 A2 k2,cs=[.slice A0 c.Cells.length k0,.slice A1 c.QM.length k1,.slice A2 c.Qu.length k2]∧(All [Own z7T [.slice A0 c.Cells.length k0] c.Cells,Own z4S [.slice A1 c.QM.length k1] c.QM,Own z4a [.slice A2 c.Qu.length k2] c.Qu]).A w G:=by
 obtain⟨c0,d0,H0,K0,rfl,rfl,h0,c1,d1,H1,K1,rfl,rfl,h1,c2,d2,H2,K2,rfl,rfl,h2,hz,hk⟩:=h
 subst hz;subst hk
 obtain⟨d,y,e0⟩:=slFormO h0
 subst e0
 obtain⟨o,H,e1⟩:=slFormO h1
 subst e1
 obtain⟨q,M,e2⟩:=slFormO h2
 subst e2
 refine⟨d,y,o,H,q,M,rfl,?_⟩
 show(All _).A w _
 exact cast (congrArg _ (by simp)) (show(All _).A w (H0++(H1++(H2++([])))) from⟨_,_,rfl,h0,⟨_,_,rfl,h1,⟨_,_,rfl,h2,rfl⟩⟩⟩)
theorem zfV {w:World}{c:D.Qv}{A0:Option Addr}{k0:Nat}{A1:Option Addr}{k1:Nat}{A2:Option Addr}{k2:Nat}{G:List Nat}(h:(All [Own z7T [.slice A0 c.Cells.length k0] c.Cells,Own z4S [.slice A1 c.QM.length k1] c.QM,Own z4a [.slice A2 c.Qu.length k2] c.Qu]).A w G):z84.own w [.slice A0 c.Cells.length k0,.slice A1 c.QM.length k1,.slice A2 c.Qu.length k2] c G:=by
 obtain⟨G0,R0,rfl,h0,G1,R1,rfl,h1,G2,R2,rfl,h2,hz⟩:=h
 have hz':R2=[]:=hz
 subst hz'
 exact cast (congrArg _ (by simp)) (show z84.own w [.slice A0 c.Cells.length k0,.slice A1 c.QM.length k1,.slice A2 c.Qu.length k2] c (_) from⟨_,_,_,_,rfl,rfl,h0,⟨_,_,_,_,rfl,rfl,h1,⟨_,_,_,_,rfl,rfl,h2,⟨rfl,rfl⟩⟩⟩⟩)
theorem zic {W w:World}{B:List Res}{cs:List Value}{c:D.Qv}(h:St W w (Own z84 cs c::B)):∃ A0 k0 A1 k1 A2 k2,cs=[.slice A0 c.Cells.length k0,.slice A1 c.QM.length k1,.slice A2 c.Qu.length k2]∧St W w ([Own z7T [.slice A0 c.Cells.length k0] c.Cells,Own z4S [.slice A1 c.QM.length k1] c.QM,Own z4a [.slice A2 c.Qu.length k2] c.Qu]++B):=by
 obtain⟨G,hA,_⟩:=h.sep.head
 obtain⟨A0,k0,A1,k1,A2,k2,rfl,_⟩:=zgZ hA
 refine⟨A0,k0,A1,k1,A2,k2,rfl,St.splitAll (h.conv fun G hG=>?_)⟩
 obtain⟨X0,Y0,X1,Y1,X2,Y2,he,hh⟩:=zgZ hG
 simp only [List.cons.injEq,Value.slice.injEq,and_true,true_and] at he
 obtain⟨⟨rfl,rfl⟩,⟨rfl,rfl⟩,⟨rfl,rfl⟩⟩:=he
 exact hh
theorem zbs {W w:World}{B:List Res}{c:D.Qv}{A0:Option Addr}{k0:Nat}{A1:Option Addr}{k1:Nat}{A2:Option Addr}{k2:Nat}(h:St W w ([Own z7T [.slice A0 c.Cells.length k0] c.Cells,Own z4S [.slice A1 c.QM.length k1] c.QM,Own z4a [.slice A2 c.Qu.length k2] c.Qu]++B)):St W w (Own z84 [.slice A0 c.Cells.length k0,.slice A1 c.QM.length k1,.slice A2 c.Qu.length k2] c::B):=(St.fuseAll h).conv fun _ hG=>zfV hG

def ty34:Ty (List D.Qv):=tSl 166 z84
instance {W:World}:Reads W ty34:=inferInstanceAs (Reads W (tSl 166 z84))
theorem zjT {w:World}{cs:List Value}{xs:(List D.Qv)}(h:ty34.ro w cs xs):∃ A c,cs=[.slice A xs.length c]:=slForm h

def ty37:Ty D.Qe:=tMap (fun c=>(c.Qg,c.Qo,())) (tPair ty34 (tPair ty35 tUnit))
instance {W:World}:Reads W ty37:=inferInstanceAs (Reads W (tMap (fun c:D.Qe=>(c.Qg,c.Qo,())) (tPair ty34 (tPair ty35 tUnit))))
theorem z33 {w:World}{cs:List Value}{c:D.Qe}(h:ty37.ro w cs c):∃ A0 k0,cs=[.slice A0 c.Qg.length k0,.int .i64 c.Qo.Qb,.int .i64 c.Qo.Qj,.int .i64 c.Qo.Qk]∧ty34.ro w [.slice A0 c.Qg.length k0] c.Qg:=by
 obtain⟨c0,d0,rfl,h0,c1,d1,rfl,h1,hz⟩:=h
 subst hz
 obtain⟨d,o,e0⟩:=zjT h0
 subst e0
 have e1:=z1a h1
 subst e1
 exact⟨d,o,rfl,h0⟩
theorem z54 {w:World}(c:D.Qe){A0:Option Addr}{k0:Nat}(h0:ty34.ro w [.slice A0 c.Qg.length k0] c.Qg):ty37.ro w [.slice A0 c.Qg.length k0,.int .i64 c.Qo.Qb,.int .i64 c.Qo.Qj,.int .i64 c.Qo.Qk] c:=
 ⟨_,_,rfl,h0,⟨_,_,rfl,(zF c.Qo ),rfl⟩⟩
def z85:Ty D.Qi:=tMap (fun c=>(c.Qj,c.Qz,c.A,c.B,())) (tPair tInt (tPair z2C (tPair ty35 (tPair ty35 tUnit))))
instance {W:World}:Reads W z85:=inferInstanceAs (Reads W (tMap (fun c:D.Qi=>(c.Qj,c.Qz,c.A,c.B,())) (tPair tInt (tPair z2C (tPair ty35 (tPair ty35 tUnit))))))
theorem zv {w:World}{cs:List Value}{c:D.Qi}(h:z85.ro w cs c):∃ A0 k0 A1 k1,cs=[.int .i64 c.Qj,.int .i64 c.Qz.Qj,.int .i64 c.Qz.QO,.int .i64 c.Qz.Value,.slice A0 c.Qz.Data.length k0,.slice A1 c.Qz.QY.length k1,.int .i64 c.A.Qb,.int .i64 c.A.Qj,.int .i64 c.A.Qk,.int .i64 c.B.Qb,.int .i64 c.B.Qj,.int .i64 c.B.Qk]∧ty29.ro w [.slice A0 c.Qz.Data.length k0] c.Qz.Data∧z3h.ro w [.slice A1 c.Qz.QY.length k1] c.Qz.QY:=by
 obtain⟨c0,d0,rfl,h0,c1,d1,rfl,h1,c2,d2,rfl,h2,c3,d3,rfl,h3,hz⟩:=h
 subst hz
 subst h0
 obtain⟨d,G,o,H,e1,q,y⟩:=zt h1
 subst e1
 have e2:=z1a h2
 subst e2
 have e3:=z1a h3
 subst e3
 exact⟨d,G,o,H,rfl,q,y⟩
theorem zh0 {w:World}{cs:List Value}{c:D.Qi}{G:List Nat}(h:z85.own w cs c G):∃ A0 k0 A1 k1,cs=[.int .i64 c.Qj,.int .i64 c.Qz.Qj,.int .i64 c.Qz.QO,.int .i64 c.Qz.Value,.slice A0 c.Qz.Data.length k0,.slice A1 c.Qz.QY.length k1,.int .i64 c.A.Qb,.int .i64 c.A.Qj,.int .i64 c.A.Qk,.int .i64 c.B.Qb,.int .i64 c.B.Qj,.int .i64 c.B.Qk]∧(All [Own ty29 [.slice A0 c.Qz.Data.length k0] c.Qz.Data,Own z3h [.slice A1 c.Qz.QY.length k1] c.Qz.QY]).A w G:=by
 obtain⟨c0,d0,H0,K0,rfl,rfl,h0,c1,d1,H1,K1,rfl,rfl,h1,c2,d2,H2,K2,rfl,rfl,h2,c3,d3,H3,K3,rfl,rfl,h3,hz,hk⟩:=h
 subst hz;subst hk
 obtain⟨e0,k0⟩:=h0;subst e0;subst k0
 obtain⟨d,q,o,y,e1,g1⟩:=zeq h1
 subst e1
 obtain⟨e2,g2⟩:=zbq h2
 subst e2
 obtain⟨e3,g3⟩:=zbq h3
 subst e3
 refine⟨d,q,o,y,rfl,?_⟩
 exact cast (congrArg _ (by simp)) (allApp g1 (allApp g2 g3))
theorem zfW {w:World}{c:D.Qi}{A0:Option Addr}{k0:Nat}{A1:Option Addr}{k1:Nat}{G:List Nat}(h:(All [Own ty29 [.slice A0 c.Qz.Data.length k0] c.Qz.Data,Own z3h [.slice A1 c.Qz.QY.length k1] c.Qz.QY]).A w G):z85.own w [.int .i64 c.Qj,.int .i64 c.Qz.Qj,.int .i64 c.Qz.QO,.int .i64 c.Qz.Value,.slice A0 c.Qz.Data.length k0,.slice A1 c.Qz.QY.length k1,.int .i64 c.A.Qb,.int .i64 c.A.Qj,.int .i64 c.A.Qk,.int .i64 c.B.Qb,.int .i64 c.B.Qj,.int .i64 c.B.Qk] c G:=by
 obtain⟨G0,R0,rfl,h0,G1,R1,rfl,h1,hz⟩:=h
 have hz':R1=[]:=hz
 subst hz'
 exact cast (congrArg _ (by simp)) (show z85.own w [.int .i64 c.Qj,.int .i64 c.Qz.Qj,.int .i64 c.Qz.QO,.int .i64 c.Qz.Value,.slice A0 c.Qz.Data.length k0,.slice A1 c.Qz.QY.length k1,.int .i64 c.A.Qb,.int .i64 c.A.Qj,.int .i64 c.A.Qk,.int .i64 c.B.Qb,.int .i64 c.B.Qj,.int .i64 c.B.Qk] c (_) from⟨_,_,_,_,rfl,rfl,⟨rfl,rfl⟩,⟨_,_,_,_,rfl,rfl,(zdj (c:=c.Qz) ⟨_,_,rfl,h0,⟨_,_,rfl,h1,rfl⟩⟩),⟨_,_,_,_,rfl,rfl,(z9y (c:=c.A) rfl),⟨_,_,_,_,rfl,rfl,(z9y (c:=c.B) rfl),⟨rfl,rfl⟩⟩⟩⟩⟩)
theorem zid {W w:World}{B:List Res}{cs:List Value}{c:D.Qi}(h:St W w (Own z85 cs c::B)):∃ A0 k0 A1 k1,cs=[.int .i64 c.Qj,.int .i64 c.Qz.Qj,.int .i64 c.Qz.QO,.int .i64 c.Qz.Value,.slice A0 c.Qz.Data.length k0,.slice A1 c.Qz.QY.length k1,.int .i64 c.A.Qb,.int .i64 c.A.Qj,.int .i64 c.A.Qk,.int .i64 c.B.Qb,.int .i64 c.B.Qj,.int .i64 c.B.Qk]∧St W w ([Own ty29 [.slice A0 c.Qz.Data.length k0] c.Qz.Data,Own z3h [.slice A1 c.Qz.QY.length k1] c.Qz.QY]++B):=by
 obtain⟨G,hA,_⟩:=h.sep.head
 obtain⟨A0,k0,A1,k1,rfl,_⟩:=zh0 hA
 refine⟨A0,k0,A1,k1,rfl,St.splitAll (h.conv fun G hG=>?_)⟩
 obtain⟨X0,Y0,X1,Y1,he,hh⟩:=zh0 hG
 simp only [List.cons.injEq,Value.slice.injEq,and_true,true_and] at he
 obtain⟨⟨rfl,rfl⟩,⟨rfl,rfl⟩⟩:=he
 exact hh
theorem z9r {W w:World}{B:List Res}{c:D.Qi}{A0:Option Addr}{k0:Nat}{A1:Option Addr}{k1:Nat}(h:St W w ([Own ty29 [.slice A0 c.Qz.Data.length k0] c.Qz.Data,Own z3h [.slice A1 c.Qz.QY.length k1] c.Qz.QY]++B)):St W w (Own z85 [.int .i64 c.Qj,.int .i64 c.Qz.Qj,.int .i64 c.Qz.QO,.int .i64 c.Qz.Value,.slice A0 c.Qz.Data.length k0,.slice A1 c.Qz.QY.length k1,.int .i64 c.A.Qb,.int .i64 c.A.Qj,.int .i64 c.A.Qk,.int .i64 c.B.Qb,.int .i64 c.B.Qj,.int .i64 c.B.Qk] c::B):=(St.fuseAll h).conv fun _ hG=>zfW hG

def z62:Ty (List D.Qi):=tSl 156 z85
instance {W:World}:Reads W z62:=inferInstanceAs (Reads W (tSl 156 z85))
theorem z1i {w:World}{cs:List Value}{xs:(List D.Qi)}(h:z62.ro w cs xs):∃ A c,cs=[.slice A xs.length c]:=slForm h

def ty38:Ty (List (List D.Qi)):=tSl 149 z62
instance {W:World}:Reads W ty38:=inferInstanceAs (Reads W (tSl 149 z62))
theorem zjS {w:World}{cs:List Value}{xs:(List (List D.Qi))}(h:ty38.ro w cs xs):∃ A c,cs=[.slice A xs.length c]:=slForm h

def ty40:Ty D.Qa:=tMap (fun c=>(c.Qe,c.Qf,c.Qt,c.QK,c.QZ,())) (tPair ty37 (tPair ty38 (tPair ty28 (tPair ty29 (tPair ty29 tUnit)))))
instance {W:World}:Reads W ty40:=inferInstanceAs (Reads W (tMap (fun c:D.Qa=>(c.Qe,c.Qf,c.Qt,c.QK,c.QZ,())) (tPair ty37 (tPair ty38 (tPair ty28 (tPair ty29 (tPair ty29 tUnit)))))))
theorem z2E {w:World}{cs:List Value}{c:D.Qa}(h:ty40.ro w cs c):∃ A0 k0 A1 k1 A2 k2 A3 k3 A4 k4,cs=[.slice A0 c.Qe.Qg.length k0,.int .i64 c.Qe.Qo.Qb,.int .i64 c.Qe.Qo.Qj,.int .i64 c.Qe.Qo.Qk,.slice A1 c.Qf.length k1,.slice A2 c.Qt.length k2,.slice A3 c.QK.length k3,.slice A4 c.QZ.length k4]∧ty34.ro w [.slice A0 c.Qe.Qg.length k0] c.Qe.Qg∧ty38.ro w [.slice A1 c.Qf.length k1] c.Qf∧ty28.ro w [.slice A2 c.Qt.length k2] c.Qt∧ty29.ro w [.slice A3 c.QK.length k3] c.QK∧ty29.ro w [.slice A4 c.QZ.length k4] c.QZ:=by
 obtain⟨c0,d0,rfl,h0,c1,d1,rfl,h1,c2,d2,rfl,h2,c3,d3,rfl,h3,c4,d4,rfl,h4,hz⟩:=h
 subst hz
 obtain⟨d,q,e0,o⟩:=z33 h0
 subst e0
 obtain⟨y,O,e1⟩:=zjS h1
 subst e1
 obtain⟨G,S,e2⟩:=zb3 h2
 subst e2
 obtain⟨H,X,e3⟩:=z1F h3
 subst e3
 obtain⟨M,Y,e4⟩:=z1F h4
 subst e4
 exact⟨d,q,y,O,G,S,H,X,M,Y,rfl,o,h1,h2,h3,h4⟩
theorem z5Z {w:World}(c:D.Qa){A0:Option Addr}{k0:Nat}{A1:Option Addr}{k1:Nat}{A2:Option Addr}{k2:Nat}{A3:Option Addr}{k3:Nat}{A4:Option Addr}{k4:Nat}(h0:ty34.ro w [.slice A0 c.Qe.Qg.length k0] c.Qe.Qg) (h1:ty38.ro w [.slice A1 c.Qf.length k1] c.Qf) (h2:ty28.ro w [.slice A2 c.Qt.length k2] c.Qt) (h3:ty29.ro w [.slice A3 c.QK.length k3] c.QK) (h4:ty29.ro w [.slice A4 c.QZ.length k4] c.QZ):ty40.ro w [.slice A0 c.Qe.Qg.length k0,.int .i64 c.Qe.Qo.Qb,.int .i64 c.Qe.Qo.Qj,.int .i64 c.Qe.Qo.Qk,.slice A1 c.Qf.length k1,.slice A2 c.Qt.length k2,.slice A3 c.QK.length k3,.slice A4 c.QZ.length k4] c:=
 ⟨_,_,rfl,(z54 c.Qe h0),⟨_,_,rfl,h1,⟨_,_,rfl,h2,⟨_,_,rfl,h3,⟨_,_,rfl,h4,rfl⟩⟩⟩⟩⟩
def ty56:Ty (List Bool):=tSl 4 tBool
instance {W:World}:Reads W ty56:=inferInstanceAs (Reads W (tSl 4 tBool))
theorem zgS {w:World}{cs:List Value}{xs:(List Bool)}(h:ty56.ro w cs xs):∃ A c,cs=[.slice A xs.length c]:=slForm h

def ty58:Ty D.Qq:=tMap (fun c=>(c.Qa,c.QB,c.QL,c.Qa1,c.Qs,c.QG,c.Qx,())) (tPair ty31 (tPair tInt (tPair tInt (tPair tBool (tPair ty56 (tPair tInt (tPair tBool tUnit)))))))
instance {W:World}:Reads W ty58:=inferInstanceAs (Reads W (tMap (fun c:D.Qq=>(c.Qa,c.QB,c.QL,c.Qa1,c.Qs,c.QG,c.Qx,())) (tPair ty31 (tPair tInt (tPair tInt (tPair tBool (tPair ty56 (tPair tInt (tPair tBool tUnit)))))))))
theorem zeh {w:World}{cs:List Value}{c:D.Qq}(h:ty58.ro w cs c):∃ A0 k0 A1 k1 A2 k2 A3 k3 A4 k4 A5 k5,cs=[.slice A0 c.Qa.Qe.Qg.length k0,.int .i64 c.Qa.Qe.Qo.Qb,.int .i64 c.Qa.Qe.Qo.Qj,.int .i64 c.Qa.Qe.Qo.Qk,.slice A1 c.Qa.Qf.length k1,.slice A2 c.Qa.Qt.length k2,.slice A3 c.Qa.QK.length k3,.slice A4 c.Qa.QZ.length k4,.int .i64 c.QB,.int .i64 c.QL,.bool c.Qa1,.slice A5 c.Qs.length k5,.int .i64 c.QG,.bool c.Qx]∧ty22.ro w [.slice A0 c.Qa.Qe.Qg.length k0] c.Qa.Qe.Qg∧ty27.ro w [.slice A1 c.Qa.Qf.length k1] c.Qa.Qf∧ty28.ro w [.slice A2 c.Qa.Qt.length k2] c.Qa.Qt∧ty29.ro w [.slice A3 c.Qa.QK.length k3] c.Qa.QK∧ty29.ro w [.slice A4 c.Qa.QZ.length k4] c.Qa.QZ∧ty56.ro w [.slice A5 c.Qs.length k5] c.Qs:=by
 obtain⟨c0,d0,rfl,h0,c1,d1,rfl,h1,c2,d2,rfl,h2,c3,d3,rfl,h3,c4,d4,rfl,h4,c5,d5,rfl,h5,c6,d6,rfl,h6,hz⟩:=h
 subst hz
 obtain⟨d,Y,o,Z,q,a0,y,b0,G,f0,e0,H,M,O,S,X⟩:=zei h0
 subst e0
 subst h1
 subst h2
 subst h3
 obtain⟨g0,i0,e4⟩:=zgS h4
 subst e4
 subst h5
 subst h6
 exact⟨d,Y,o,Z,q,a0,y,b0,G,f0,g0,i0,rfl,H,M,O,S,X,h4⟩
def ty62:Ty D.Qq:=tMap (fun c=>(c.Qa,c.QB,c.QL,c.Qa1,c.Qs,c.QG,c.Qx,())) (tPair ty40 (tPair tInt (tPair tInt (tPair tBool (tPair ty56 (tPair tInt (tPair tBool tUnit)))))))
instance {W:World}:Reads W ty62:=inferInstanceAs (Reads W (tMap (fun c:D.Qq=>(c.Qa,c.QB,c.QL,c.Qa1,c.Qs,c.QG,c.Qx,())) (tPair ty40 (tPair tInt (tPair tInt (tPair tBool (tPair ty56 (tPair tInt (tPair tBool tUnit)))))))))
theorem z6N {w:World}{cs:List Value}{c:D.Qq}(h:ty62.ro w cs c):∃ A0 k0 A1 k1 A2 k2 A3 k3 A4 k4 A5 k5,cs=[.slice A0 c.Qa.Qe.Qg.length k0,.int .i64 c.Qa.Qe.Qo.Qb,.int .i64 c.Qa.Qe.Qo.Qj,.int .i64 c.Qa.Qe.Qo.Qk,.slice A1 c.Qa.Qf.length k1,.slice A2 c.Qa.Qt.length k2,.slice A3 c.Qa.QK.length k3,.slice A4 c.Qa.QZ.length k4,.int .i64 c.QB,.int .i64 c.QL,.bool c.Qa1,.slice A5 c.Qs.length k5,.int .i64 c.QG,.bool c.Qx]∧ty34.ro w [.slice A0 c.Qa.Qe.Qg.length k0] c.Qa.Qe.Qg∧ty38.ro w [.slice A1 c.Qa.Qf.length k1] c.Qa.Qf∧ty28.ro w [.slice A2 c.Qa.Qt.length k2] c.Qa.Qt∧ty29.ro w [.slice A3 c.Qa.QK.length k3] c.Qa.QK∧ty29.ro w [.slice A4 c.Qa.QZ.length k4] c.Qa.QZ∧ty56.ro w [.slice A5 c.Qs.length k5] c.Qs:=by
 obtain⟨c0,d0,rfl,h0,c1,d1,rfl,h1,c2,d2,rfl,h2,c3,d3,rfl,h3,c4,d4,rfl,h4,c5,d5,rfl,h5,c6,d6,rfl,h6,hz⟩:=h
 subst hz
 obtain⟨d,Y,o,Z,q,a0,y,b0,G,f0,e0,H,M,O,S,X⟩:=z2E h0
 subst e0
 subst h1
 subst h2
 subst h3
 obtain⟨g0,i0,e4⟩:=zgS h4
 subst e4
 subst h5
 subst h6
 exact⟨d,Y,o,Z,q,a0,y,b0,G,f0,g0,i0,rfl,H,M,O,S,X,h4⟩
theorem z53 {w:World}(c:D.Qq){A0:Option Addr}{k0:Nat}{A1:Option Addr}{k1:Nat}{A2:Option Addr}{k2:Nat}{A3:Option Addr}{k3:Nat}{A4:Option Addr}{k4:Nat}{A5:Option Addr}{k5:Nat}(h0:ty34.ro w [.slice A0 c.Qa.Qe.Qg.length k0] c.Qa.Qe.Qg) (h1:ty38.ro w [.slice A1 c.Qa.Qf.length k1] c.Qa.Qf) (h2:ty28.ro w [.slice A2 c.Qa.Qt.length k2] c.Qa.Qt) (h3:ty29.ro w [.slice A3 c.Qa.QK.length k3] c.Qa.QK) (h4:ty29.ro w [.slice A4 c.Qa.QZ.length k4] c.Qa.QZ) (h5:ty56.ro w [.slice A5 c.Qs.length k5] c.Qs):ty62.ro w [.slice A0 c.Qa.Qe.Qg.length k0,.int .i64 c.Qa.Qe.Qo.Qb,.int .i64 c.Qa.Qe.Qo.Qj,.int .i64 c.Qa.Qe.Qo.Qk,.slice A1 c.Qa.Qf.length k1,.slice A2 c.Qa.Qt.length k2,.slice A3 c.Qa.QK.length k3,.slice A4 c.Qa.QZ.length k4,.int .i64 c.QB,.int .i64 c.QL,.bool c.Qa1,.slice A5 c.Qs.length k5,.int .i64 c.QG,.bool c.Qx] c:=
 ⟨_,_,rfl,(z5Z c.Qa h0 h1 h2 h3 h4),⟨_,_,rfl,rfl,⟨_,_,rfl,rfl,⟨_,_,rfl,rfl,⟨_,_,rfl,h5,⟨_,_,rfl,rfl,⟨_,_,rfl,rfl,rfl⟩⟩⟩⟩⟩⟩⟩
def zep:Ty D.QS:=tMap (fun c=>(c.at_,c.slot,c.own,())) (tPair ty35 (tPair tInt (tPair tBool tUnit)))
instance {W:World}:Reads W zep:=inferInstanceAs (Reads W (tMap (fun c:D.QS=>(c.at_,c.slot,c.own,())) (tPair ty35 (tPair tInt (tPair tBool tUnit)))))
theorem zdi {w:World}{cs:List Value}{c:D.QS}(h:zep.ro w cs c):cs=[.int .i64 c.at_.Qb,.int .i64 c.at_.Qj,.int .i64 c.at_.Qk,.int .i64 c.slot,.bool c.own]:=by
 obtain⟨c0,d0,rfl,h0,c1,d1,rfl,h1,c2,d2,rfl,h2,hz⟩:=h
 subst hz
 have e0:=z1a h0
 subst e0
 subst h1
 subst h2
 rfl
theorem zch {w:World}{c:D.QS}  {G:List Nat}(h:(All []).A w G):zep.own w [.int .i64 c.at_.Qb,.int .i64 c.at_.Qj,.int .i64 c.at_.Qk,.int .i64 c.slot,.bool c.own] c G:=by
 have hz:G=[]:=h
 subst hz
 exact cast (congrArg _ (by simp)) (show zep.own w [.int .i64 c.at_.Qb,.int .i64 c.at_.Qj,.int .i64 c.at_.Qk,.int .i64 c.slot,.bool c.own] c (_) from⟨_,_,_,_,rfl,rfl,(z9y (c:=c.at_) rfl),⟨_,_,_,_,rfl,rfl,⟨rfl,rfl⟩,⟨_,_,_,_,rfl,rfl,⟨rfl,rfl⟩,⟨rfl,rfl⟩⟩⟩⟩)
def zbr:Ty D.Qh:=tMap (fun c=>(c.a,c.b,())) (tPair zep (tPair zep tUnit))
instance {W:World}:Reads W zbr:=inferInstanceAs (Reads W (tMap (fun c:D.Qh=>(c.a,c.b,())) (tPair zep (tPair zep tUnit))))
theorem zfU {w:World}{cs:List Value}{c:D.Qh}(h:zbr.ro w cs c):cs=[.int .i64 c.a.at_.Qb,.int .i64 c.a.at_.Qj,.int .i64 c.a.at_.Qk,.int .i64 c.a.slot,.bool c.a.own,.int .i64 c.b.at_.Qb,.int .i64 c.b.at_.Qj,.int .i64 c.b.at_.Qk,.int .i64 c.b.slot,.bool c.b.own]:=by
 obtain⟨c0,d0,rfl,h0,c1,d1,rfl,h1,hz⟩:=h
 subst hz
 have e0:=zdi h0
 subst e0
 have e1:=zdi h1
 subst e1
 rfl
theorem z60 {w:World}{c:D.Qh}  {G:List Nat}(h:(All []).A w G):zbr.own w [.int .i64 c.a.at_.Qb,.int .i64 c.a.at_.Qj,.int .i64 c.a.at_.Qk,.int .i64 c.a.slot,.bool c.a.own,.int .i64 c.b.at_.Qb,.int .i64 c.b.at_.Qj,.int .i64 c.b.at_.Qk,.int .i64 c.b.slot,.bool c.b.own] c G:=by
 have hz:G=[]:=h
 subst hz
 exact cast (congrArg _ (by simp)) (show zbr.own w [.int .i64 c.a.at_.Qb,.int .i64 c.a.at_.Qj,.int .i64 c.a.at_.Qk,.int .i64 c.a.slot,.bool c.a.own,.int .i64 c.b.at_.Qb,.int .i64 c.b.at_.Qj,.int .i64 c.b.at_.Qk,.int .i64 c.b.slot,.bool c.b.own] c (_) from⟨_,_,_,_,rfl,rfl,(zch (c:=c.a) rfl),⟨_,_,_,_,rfl,rfl,(zch (c:=c.b) rfl),⟨rfl,rfl⟩⟩⟩)
def z8u:Ty (List D.Qh):=tSl 171 zbr
instance {W:World}:Reads W z8u:=inferInstanceAs (Reads W (tSl 171 zbr))
def zdM:Ty D.QV:=tMap (fun c=>(c.QJ,c.Qa5,())) (tPair tInt (tPair tInt tUnit))
instance {W:World}:Reads W zdM:=inferInstanceAs (Reads W (tMap (fun c:D.QV=>(c.QJ,c.Qa5,())) (tPair tInt (tPair tInt tUnit))))
theorem z9q {w:World}{c:D.QV}  {G:List Nat}(h:(All []).A w G):zdM.own w [.int .i64 c.QJ,.int .i64 c.Qa5] c G:=by
 have hz:G=[]:=h
 subst hz
 exact cast (congrArg _ (by simp)) (show zdM.own w [.int .i64 c.QJ,.int .i64 c.Qa5] c (_) from⟨_,_,_,_,rfl,rfl,⟨rfl,rfl⟩,⟨_,_,_,_,rfl,rfl,⟨rfl,rfl⟩,⟨rfl,rfl⟩⟩⟩)
def z2h:Ty (List D.QV):=tSl 264 zdM
instance {W:World}:Reads W z2h:=inferInstanceAs (Reads W (tSl 264 zdM))
theorem zfS {w:World}{cs:List Value}{xs:(List D.QV)}(h:z2h.ro w cs xs):∃ A c,cs=[.slice A xs.length c]:=slForm h

def zcr:Ty D.QJ:=tMap (fun c=>(c.Qj,c.QO,c.Value,c.Data,c.Qa0,())) (tPair tInt (tPair tInt (tPair tInt (tPair ty29 (tPair z2h tUnit)))))
instance {W:World}:Reads W zcr:=inferInstanceAs (Reads W (tMap (fun c:D.QJ=>(c.Qj,c.QO,c.Value,c.Data,c.Qa0,())) (tPair tInt (tPair tInt (tPair tInt (tPair ty29 (tPair z2h tUnit)))))))
theorem zce {w:World}{cs:List Value}{c:D.QJ}(h:zcr.ro w cs c):∃ A0 k0 A1 k1,cs=[.int .i64 c.Qj,.int .i64 c.QO,.int .i64 c.Value,.slice A0 c.Data.length k0,.slice A1 c.Qa0.length k1]∧ty29.ro w [.slice A0 c.Data.length k0] c.Data∧z2h.ro w [.slice A1 c.Qa0.length k1] c.Qa0:=by
 obtain⟨c0,d0,rfl,h0,c1,d1,rfl,h1,c2,d2,rfl,h2,c3,d3,rfl,h3,c4,d4,rfl,h4,hz⟩:=h
 subst hz
 subst h0
 subst h1
 subst h2
 obtain⟨d,q,e3⟩:=z1F h3
 subst e3
 obtain⟨o,y,e4⟩:=zfS h4
 subst e4
 exact⟨d,q,o,y,rfl,h3,h4⟩
theorem zfO {w:World}(c:D.QJ){A0:Option Addr}{k0:Nat}{A1:Option Addr}{k1:Nat}(h0:ty29.ro w [.slice A0 c.Data.length k0] c.Data) (h1:z2h.ro w [.slice A1 c.Qa0.length k1] c.Qa0):zcr.ro w [.int .i64 c.Qj,.int .i64 c.QO,.int .i64 c.Value,.slice A0 c.Data.length k0,.slice A1 c.Qa0.length k1] c:=
 ⟨_,_,rfl,rfl,⟨_,_,rfl,rfl,⟨_,_,rfl,rfl,⟨_,_,rfl,h0,⟨_,_,rfl,h1,rfl⟩⟩⟩⟩⟩
theorem zj8 {w:World}{c:D.QJ}{A0:Option Addr}{k0:Nat}{A1:Option Addr}{k1:Nat}{G:List Nat}(h:(All [Own ty29 [.slice A0 c.Data.length k0] c.Data,Own z2h [.slice A1 c.Qa0.length k1] c.Qa0]).A w G):zcr.own w [.int .i64 c.Qj,.int .i64 c.QO,.int .i64 c.Value,.slice A0 c.Data.length k0,.slice A1 c.Qa0.length k1] c G:=by
 obtain⟨G0,R0,rfl,h0,G1,R1,rfl,h1,hz⟩:=h
 have hz':R1=[]:=hz
 subst hz'
 exact cast (congrArg _ (by simp)) (show zcr.own w [.int .i64 c.Qj,.int .i64 c.QO,.int .i64 c.Value,.slice A0 c.Data.length k0,.slice A1 c.Qa0.length k1] c (_) from⟨_,_,_,_,rfl,rfl,⟨rfl,rfl⟩,⟨_,_,_,_,rfl,rfl,⟨rfl,rfl⟩,⟨_,_,_,_,rfl,rfl,⟨rfl,rfl⟩,⟨_,_,_,_,rfl,rfl,h0,⟨_,_,_,_,rfl,rfl,h1,⟨rfl,rfl⟩⟩⟩⟩⟩⟩)
theorem zem {W w:World}{B:List Res}{c:D.QJ}{A0:Option Addr}{k0:Nat}{A1:Option Addr}{k1:Nat}(h:St W w ([Own ty29 [.slice A0 c.Data.length k0] c.Data,Own z2h [.slice A1 c.Qa0.length k1] c.Qa0]++B)):St W w (Own zcr [.int .i64 c.Qj,.int .i64 c.QO,.int .i64 c.Value,.slice A0 c.Data.length k0,.slice A1 c.Qa0.length k1] c::B):=(St.fuseAll h).conv fun _ hG=>zj8 hG

def z3g:Ty (List D.QJ):=tSl 262 zcr
instance {W:World}:Reads W z3g:=inferInstanceAs (Reads W (tSl 262 zcr))
theorem zj9 {w:World}{cs:List Value}{xs:(List D.QJ)}(h:z3g.ro w cs xs):∃ A c,cs=[.slice A xs.length c]:=slForm h

def zjX:Ty D.Qm:=tMap (fun c=>(c.QC,c.QH,c.cells,c.QU,c.ends,c.Qy,())) (tPair z3g (tPair z2h (tPair ty28 (tPair ty28 (tPair ty28 (tPair ty28 tUnit))))))
instance {W:World}:Reads W zjX:=inferInstanceAs (Reads W (tMap (fun c:D.Qm=>(c.QC,c.QH,c.cells,c.QU,c.ends,c.Qy,())) (tPair z3g (tPair z2h (tPair ty28 (tPair ty28 (tPair ty28 (tPair ty28 tUnit))))))))
theorem zfR {w:World}{cs:List Value}{c:D.Qm}(h:zjX.ro w cs c):∃ A0 k0 A1 k1 A2 k2 A3 k3 A4 k4 A5 k5,cs=[.slice A0 c.QC.length k0,.slice A1 c.QH.length k1,.slice A2 c.cells.length k2,.slice A3 c.QU.length k3,.slice A4 c.ends.length k4,.slice A5 c.Qy.length k5]∧z3g.ro w [.slice A0 c.QC.length k0] c.QC∧z2h.ro w [.slice A1 c.QH.length k1] c.QH∧ty28.ro w [.slice A2 c.cells.length k2] c.cells∧ty28.ro w [.slice A3 c.QU.length k3] c.QU∧ty28.ro w [.slice A4 c.ends.length k4] c.ends∧ty28.ro w [.slice A5 c.Qy.length k5] c.Qy:=by
 obtain⟨c0,d0,rfl,h0,c1,d1,rfl,h1,c2,d2,rfl,h2,c3,d3,rfl,h3,c4,d4,rfl,h4,c5,d5,rfl,h5,hz⟩:=h
 subst hz
 obtain⟨d,M,e0⟩:=zj9 h0
 subst e0
 obtain⟨o,O,e1⟩:=zfS h1
 subst e1
 obtain⟨q,S,e2⟩:=zb3 h2
 subst e2
 obtain⟨y,X,e3⟩:=zb3 h3
 subst e3
 obtain⟨G,Y,e4⟩:=zb3 h4
 subst e4
 obtain⟨H,Z,e5⟩:=zb3 h5
 subst e5
 exact⟨d,M,o,O,q,S,y,X,G,Y,H,Z,rfl,h0,h1,h2,h3,h4,h5⟩
theorem z4Y {w:World}(c:D.Qm){A0:Option Addr}{k0:Nat}{A1:Option Addr}{k1:Nat}{A2:Option Addr}{k2:Nat}{A3:Option Addr}{k3:Nat}{A4:Option Addr}{k4:Nat}{A5:Option Addr}{k5:Nat}(h0:z3g.ro w [.slice A0 c.QC.length k0] c.QC) (h1:z2h.ro w [.slice A1 c.QH.length k1] c.QH) (h2:ty28.ro w [.slice A2 c.cells.length k2] c.cells) (h3:ty28.ro w [.slice A3 c.QU.length k3] c.QU) (h4:ty28.ro w [.slice A4 c.ends.length k4] c.ends) (h5:ty28.ro w [.slice A5 c.Qy.length k5] c.Qy):zjX.ro w [.slice A0 c.QC.length k0,.slice A1 c.QH.length k1,.slice A2 c.cells.length k2,.slice A3 c.QU.length k3,.slice A4 c.ends.length k4,.slice A5 c.Qy.length k5] c:=
 ⟨_,_,rfl,h0,⟨_,_,rfl,h1,⟨_,_,rfl,h2,⟨_,_,rfl,h3,⟨_,_,rfl,h4,⟨_,_,rfl,h5,rfl⟩⟩⟩⟩⟩⟩
def znj:D.Qc→Value:=fun c=>.agg ⟨[.int .i64 c.Qb,.int .i64 c.Qj,.int .i64 c.Qk]⟩
theorem zpn:KeyOk Tryz.prog 35 znj:=KeyOk.struct ttok (cells:=fun c:D.Qc=>[.int .i64 c.Qb,.int .i64 c.Qj,.int .i64 c.Qk]) (b:=fun x y=>(((x.Qb:Int) == y.Qb) && (((x.Qj:Int) == y.Qj) && (((x.Qk:Int) == y.Qk) && true)))) rfl rfl (fun _ _=>rfl) (fun x y=>by cases x;cases y;simp [znH]) (fun _=>rfl) (fun {x y} h=>by cases x;cases y;simpa using h)
def zcs:Ty (List (D.Qc × Int)):=tMp znj (Value.int .i64)
instance {W:World}:Reads W zcs:=inferInstanceAs (Reads W (tMp znj (Value.int .i64)))
theorem zcm:MapOk Tryz.prog 235 35 3 znj (Value.int .i64) (0:Int):=⟨by kernel_rfl,by kernel_rfl,zpn⟩

def zjV:Ty (List D.QS):=tSl 169 zep
instance {W:World}:Reads W zjV:=inferInstanceAs (Reads W (tSl 169 zep))
end Go.E


namespace Go.E
open Go.RowKit
set_option linter.unusedVariables false
set_option linter.unusedSimpArgs false

theorem Quiet.idxAddr {P:Program}{T:TT}(ht:TTok P T){n:Nat}{F:Fr}{α:Type}{U:Ty α}{g k ln:Nat}{o:Oper}{t e':Nat}{x ix:Operand}{i j:TI}
  {kd:IntKind}{m:Int}(ho:o.op=.indexAddr t x ix) (hi:T.get t=some i) (hd:i.d=.slice e') (hj:T.get e'=some j) (hs:U.size=j.size) (hx:F.ev x=some (.slice (some ⟨g,0,none⟩) ln k)) (hm:F.ev ix=some (.int kd m))
  (h0:0≤m) (hlt:m.toNat<ln) (w:World):Quiet P n F w o (.pointer (some ⟨g,m.toNat*U.size,none⟩)):=fun a w' ha _=>by
 unfold execOp
 rw [ho]
 have hmm:m<ln:=by omega
 simp [ha.ev hx,ha.ev hm,Instr.indexAt,asIntOf,Go.underlying,ht.slice hi hd,h0,hmm,ht.sizeOf hj,ziE,hs]

section
variable {P:Program}{n:Nat}{Q:Post}{F:Fr}{W w w0 w1 W9:World}{ops:List Oper}{wm fuel kk mm:Nat}{sk:List (List Nat × Nat)}{o:Oper}{T:TT}

theorem DM.idxHole (ht:TTok P T){α:Type}{U:Ty α}{A:Option Addr}{k ln:Nat}(hA:∃ g,A=some ⟨g,0,none⟩) (hsk:skOf ops=sk∧ops.length=kk) (ii m':Nat) (hmm:mm ||| 2 ^ ii=m') (hwi:wm.testBit ii=false) (hni:nthv ops ii=some o) (hf:freeM sk (2 ^ kk - 1) mm ii=true) (hg:guardOf ops F o=some true){t e':Nat}{x ix:Operand}{i j:TI}
  {kd:IntKind}{m:Int}(ho:o.op=.indexAddr t x ix) (hi:T.get t=some i) (hd:i.d=.slice e') (hj:T.get e'=some j) (hs:U.size=j.size) (hx:F.ev x=some (.slice A ln k)) (hm:F.ev ix=some (.int kd m))
  (h0:0≤m) (hlt:m.toNat<ln){d:Nat}(hd':o.dst=some d) (hn:Nat.blt d n=true)
  (h:∀ q,ElAt U A m.toNat q→DM P n ops Q W9 w0 wm fuel kk m' ((d,.pointer (some q))::F) w):DM P n ops Q W9 w0 wm (fuel+1) kk mm F w:=by
 obtain⟨g,rfl⟩:=hA
 exact DM.quietP hsk ii m' hmm hwi hni hf hg (Quiet.idxAddr ht ho hi hd hj hs hx hm h0 hlt) hd' hn (h _ ⟨g,rfl,rfl⟩)

theorem DM.focus (ht:TTok P T){α:Type}{U:Ty α}{B:List Res}{e:Nat}{A:Option Addr}{k ln:Nat}{xs:List α}{a:α}(hS:St W w1 (Own (tSl e U) [.slice A ln k] xs::B)) (hsk:skOf ops=sk∧ops.length=kk) (ii m':Nat) (hmm:mm ||| 2 ^ ii=m') (hwi:wm.testBit ii=false) (hni:nthv ops ii=some o) (hf:freeM sk (2 ^ kk - 1) mm ii=true) (hg:guardOf ops F o=some true){t e':Nat}{x ix:Operand}{i j:TI}
  {kd:IntKind}{m:Int}(ho:o.op=.indexAddr t x ix) (hi:T.get t=some i) (hd:i.d=.slice e') (hj:T.get e'=some j) (hs:U.size=j.size) (hx:F.ev x=some (.slice A ln k)) (hm:F.ev ix=some (.int kd m))
  (h0:0≤m) (ha:xs[m.toNat]? = some a){d:Nat}(hd':o.dst=some d) (hn:Nat.blt d n=true)
  (h:∀ q es,ElAt U A m.toNat q→St W w1 (Hole U e (.slice A ln k) xs m.toNat es::Own U es a::B)→DM P n ops Q W w0 wm fuel kk m' ((d,.pointer (some q))::F) w):DM P n ops Q W w0 wm (fuel+1) kk mm F w:=by
 have hlt:=(List.getElem?_eq_some_iff.1 ha).1
 obtain⟨es,h1⟩:=hS.focusN ha
 have hl:=hS.lenEq
 exact DM.idxHole ht (U:=U) (hS.ownAddr hlt) hsk ii m' hmm hwi hni hf hg ho hi hd hj hs hx hm h0 (by omega) hd' hn fun q hq=>h q es hq h1

theorem DM.idxAgain (ht:TTok P T){α:Type}{U:Ty α}{B:List Res}{e:Nat}{A:Option Addr}{k ln:Nat}{xs:List α}{es:List Value}{m:Int}(hS:St W w1 (Hole U e (.slice A ln k) xs m.toNat es::B)) (hsk:skOf ops=sk∧ops.length=kk) (ii m':Nat) (hmm:mm ||| 2 ^ ii=m') (hwi:wm.testBit ii=false) (hni:nthv ops ii=some o) (hf:freeM sk (2 ^ kk - 1) mm ii=true) (hg:guardOf ops F o=some true){t e':Nat}{x ix:Operand}{i j:TI}
  {kd:IntKind}(ho:o.op=.indexAddr t x ix) (hi:T.get t=some i) (hd:i.d=.slice e') (hj:T.get e'=some j) (hs:U.size=j.size) (hx:F.ev x=some (.slice A ln k)) (hm:F.ev ix=some (.int kd m))
  (h0:0≤m){d:Nat}(hd':o.dst=some d) (hn:Nat.blt d n=true)
  (h:∀ q,ElAt U A m.toNat q→DM P n ops Q W w0 wm fuel kk m' ((d,.pointer (some q))::F) w):DM P n ops Q W w0 wm (fuel+1) kk mm F w:=by
 obtain⟨hl,hlt,hA⟩:=hS.hole_len
 exact DM.idxHole ht (U:=U) hA hsk ii m' hmm hwi hni hf hg ho hi hd hj hs hx hm h0 (by omega) hd' hn h

theorem DM.idxOwnN (ht:TTok P T){α:Type}{U:Ty α}{B:List Res}{e:Nat}{A:Option Addr}{k ln:Nat}{xs:List α}(hS:St W w1 (Own (tSl e U) [.slice A ln k] xs::B)) (hsk:skOf ops=sk∧ops.length=kk) (ii m':Nat) (hmm:mm ||| 2 ^ ii=m') (hwi:wm.testBit ii=false) (hni:nthv ops ii=some o) (hf:freeM sk (2 ^ kk - 1) mm ii=true) (hg:guardOf ops F o=some true){t e':Nat}{x ix:Operand}{i j:TI}
  {kd:IntKind}{m:Int}(ho:o.op=.indexAddr t x ix) (hi:T.get t=some i) (hd:i.d=.slice e') (hj:T.get e'=some j) (hs:U.size=j.size) (hx:F.ev x=some (.slice A ln k)) (hm:F.ev ix=some (.int kd m))
  (h0:0≤m) (hlt:m.toNat<xs.length){d:Nat}(hd':o.dst=some d) (hn:Nat.blt d n=true)
  (h:∀ q,(∃ g,A=some ⟨g,0,none⟩∧q=⟨g,m.toNat*U.size,none⟩)→DM P n ops Q W w0 wm fuel kk m' ((d,.pointer (some q))::F) w):DM P n ops Q W w0 wm (fuel+1) kk mm F w:=by
 have hl:=hS.lenEq
 exact DM.idxHole ht (U:=U) (hS.ownAddr hlt) hsk ii m' hmm hwi hni hf hg ho hi hd hj hs hx hm h0 (by omega) hd' hn h


theorem LM.idxHole (ht:TTok P T){α:Type}{U:Ty α}{A:Option Addr}{k ln:Nat}(hA:∃ g,A=some ⟨g,0,none⟩) (hsk:skOf ops=sk∧ops.length=kk){ii:Nat}(m':Nat) (hm':mm ||| 2 ^ ii=m') (hwi:wm.testBit ii=false) (hni:nthv ops ii=some o) (hg:guardOf ops F o=some true){t e':Nat}{x ix:Operand}{i j:TI}
  {kd:IntKind}{m:Int}(ho:o.op=.indexAddr t x ix) (hi:T.get t=some i) (hd:i.d=.slice e') (hj:T.get e'=some j) (hs:U.size=j.size) (hx:F.ev x=some (.slice A ln k)) (hm:F.ev ix=some (.int kd m))
  (h0:0≤m) (hlt:m.toNat<ln){d:Nat}(hd':o.dst=some d) (hn:Nat.blt d n=true)
  (h:∀ q,ElAt U A m.toNat q→DM P n ops Q W9 w0 wm fuel kk m' ((d,.pointer (some q))::F) w):LM P n ops Q W9 w0 wm fuel kk mm ii F w:=by
 obtain⟨g,rfl⟩:=hA
 exact LM.quietL hsk m' hm' hwi hni hg (Quiet.idxAddr ht ho hi hd hj hs hx hm h0 hlt w) hd' hn (h _ ⟨g,rfl,rfl⟩)

theorem LM.focus (ht:TTok P T){α:Type}{U:Ty α}{B:List Res}{e:Nat}{A:Option Addr}{k ln:Nat}{xs:List α}{a:α}(hS:St W w1 (Own (tSl e U) [.slice A ln k] xs::B)) (hsk:skOf ops=sk∧ops.length=kk){ii:Nat}(m':Nat) (hm':mm ||| 2 ^ ii=m') (hwi:wm.testBit ii=false) (hni:nthv ops ii=some o) (hg:guardOf ops F o=some true){t e':Nat}{x ix:Operand}{i j:TI}
  {kd:IntKind}{m:Int}(ho:o.op=.indexAddr t x ix) (hi:T.get t=some i) (hd:i.d=.slice e') (hj:T.get e'=some j) (hs:U.size=j.size) (hx:F.ev x=some (.slice A ln k)) (hm:F.ev ix=some (.int kd m))
  (h0:0≤m) (ha:xs[m.toNat]? = some a){d:Nat}(hd':o.dst=some d) (hn:Nat.blt d n=true)
  (h:∀ q es,ElAt U A m.toNat q→St W w1 (Hole U e (.slice A ln k) xs m.toNat es::Own U es a::B)→DM P n ops Q W w0 wm fuel kk m' ((d,.pointer (some q))::F) w):LM P n ops Q W w0 wm fuel kk mm ii F w:=by
 have hlt:=(List.getElem?_eq_some_iff.1 ha).1
 obtain⟨es,h1⟩:=hS.focusN ha
 have hl:=hS.lenEq
 exact LM.idxHole ht (U:=U) (hS.ownAddr hlt) hsk m' hm' hwi hni hg ho hi hd hj hs hx hm h0 (by omega) hd' hn fun q hq=>h q es hq h1

theorem LM.idxAgain (ht:TTok P T){α:Type}{U:Ty α}{B:List Res}{e:Nat}{A:Option Addr}{k ln:Nat}{xs:List α}{es:List Value}{m:Int}(hS:St W w1 (Hole U e (.slice A ln k) xs m.toNat es::B)) (hsk:skOf ops=sk∧ops.length=kk){ii:Nat}(m':Nat) (hm':mm ||| 2 ^ ii=m') (hwi:wm.testBit ii=false) (hni:nthv ops ii=some o) (hg:guardOf ops F o=some true){t e':Nat}{x ix:Operand}{i j:TI}
  {kd:IntKind}(ho:o.op=.indexAddr t x ix) (hi:T.get t=some i) (hd:i.d=.slice e') (hj:T.get e'=some j) (hs:U.size=j.size) (hx:F.ev x=some (.slice A ln k)) (hm:F.ev ix=some (.int kd m))
  (h0:0≤m){d:Nat}(hd':o.dst=some d) (hn:Nat.blt d n=true)
  (h:∀ q,ElAt U A m.toNat q→DM P n ops Q W w0 wm fuel kk m' ((d,.pointer (some q))::F) w):LM P n ops Q W w0 wm fuel kk mm ii F w:=by
 obtain⟨hl,hlt,hA⟩:=hS.hole_len
 exact LM.idxHole ht (U:=U) hA hsk m' hm' hwi hni hg ho hi hd hj hs hx hm h0 (by omega) hd' hn h

theorem LM.idxOwnN (ht:TTok P T){α:Type}{U:Ty α}{B:List Res}{e:Nat}{A:Option Addr}{k ln:Nat}{xs:List α}(hS:St W w1 (Own (tSl e U) [.slice A ln k] xs::B)) (hsk:skOf ops=sk∧ops.length=kk){ii:Nat}(m':Nat) (hm':mm ||| 2 ^ ii=m') (hwi:wm.testBit ii=false) (hni:nthv ops ii=some o) (hg:guardOf ops F o=some true){t e':Nat}{x ix:Operand}{i j:TI}
  {kd:IntKind}{m:Int}(ho:o.op=.indexAddr t x ix) (hi:T.get t=some i) (hd:i.d=.slice e') (hj:T.get e'=some j) (hs:U.size=j.size) (hx:F.ev x=some (.slice A ln k)) (hm:F.ev ix=some (.int kd m))
  (h0:0≤m) (hlt:m.toNat<xs.length){d:Nat}(hd':o.dst=some d) (hn:Nat.blt d n=true)
  (h:∀ q,(∃ g,A=some ⟨g,0,none⟩∧q=⟨g,m.toNat*U.size,none⟩)→DM P n ops Q W w0 wm fuel kk m' ((d,.pointer (some q))::F) w):LM P n ops Q W w0 wm fuel kk mm ii F w:=by
 have hl:=hS.lenEq
 exact LM.idxHole ht (U:=U) (hS.ownAddr hlt) hsk m' hm' hwi hni hg ho hi hd hj hs hx hm h0 (by omega) hd' hn h

theorem LM.storeElN (ht:TTok P T){α:Type}{U:Ty α}{B:List Res}{e:Nat}{A:Option Addr}{k ln:Nat}{xs:List α}{y:α}{es':List Value}(hS:St W w (Own (tSl e U) [.slice A ln k] xs::Own U es' y::B)) (hsk:skOf ops=sk∧ops.length=kk){ii:Nat}(m':Nat) (hm':mm ||| 2 ^ ii=m') (hwi:wm.testBit ii=true) (hni:nthv ops ii=some o) (hg:guardOf ops F o=some true)
  {t:Nat}{x yv:Operand}(ho:o.op=.store t x yv) (hd:o.dst=none){j:TI}(hj:T.get t=some j) (hs:U.size=j.size){q:Addr}(hx:F.ev x=some (.pointer (some q))){m:Nat}(hlt:m<xs.length)
  (hq:∃ g,A=some ⟨g,0,none⟩∧q=⟨g,m*U.size,none⟩){v:Value}(hy:F.ev yv=some v) (hc:cellsV v=es')
  (h:∀ w',St W w' (Own (tSl e U) [.slice A ln k] (xs.set m y)::B)→DM P n ops Q W w0 wm fuel kk m' F w'):LM P n ops Q W w0 wm fuel kk mm ii F w:=by
 have hl:=hS.lenEq
 subst hl
 obtain⟨w',h1,h2⟩:=zeK (P:=P) ht hS hlt hq hj hs
 have h3:St W w' (Own (tSl e U) [.slice A xs.length k] (xs.set m y)::B):=by simpa using h2
 refine LM.unitW hsk m' hm' hwi hni hg (w':=w') (fun a ha=>?_) hd h3.ext (h w' h3)
 unfold execOp
 rw [ho]
 simp [ha.ev hx,ha.ev hy,Instr.storeAt,Instr.sureAddr,h1 v hc]

theorem zgp (ht:TTok P T){α:Type}{U:Ty α}{e:Nat}{A:Option Addr}{k m:Nat}{xs:List α}{es es':List Value}{B:List Res}(hS:St W w (Hole U e (.slice A xs.length k) xs m es::B)){q:Addr}(hq:ElAt U A m q)
  {t:Nat}{i:TI}(hi:T.get t=some i){q':Addr}(off:Nat) (hq':q'=q.add off){v:Value}(hl:Nat.beq (cellsV v).length i.size=true)
  (h1:oneCells (cellsV v)=true) (hs:setAt es off (cellsV v)=some es'):∃ w',(storeVar t q' v).run P w=.ok () w'∧St W w' (Hole U e (.slice A xs.length k) xs m es'::B):=by
 obtain⟨G,⟨g,cap,c1,c2,rst,G1,G2,hv,hh,a1,a2,a3,a4,a5,a6,k1,k2,hG⟩,_,hlo⟩:=hS.sep.head
 obtain⟨g',rfl,rfl⟩:=hq
 simp only [Value.slice.injEq,Option.some.injEq,Addr.mk.injEq,and_true,true_and] at hv
 obtain⟨rfl,rfl⟩:=hv
 have hset:=zbv (c1:=c1) (c2:=c2) (rest:=rst) hs
 rw [a4] at hset
 obtain⟨w',r1,r2,r3,r4,r5,r6,r7⟩:=z3i (P:=P) g' (m*U.size+off) e (cellsV v) 0 w _ ((c1++(es'++c2))++rst) h1 hh (by rw [Nat.add_zero];exact hset)
 have hge:W.heap.size≤g':=hlo g' (by rw [hG];simp)
 refine⟨w',?_,⟨r5.trans hS.ext.os,r6.trans hS.ext.tape,r7.trans hS.ext.output,by rw [r4];exact hS.le,fun b hb=>?_⟩,?_⟩
 ·have hsz:v.cells.size=i.size:=by
   rw [← Array.length_toList,z79];exact Nat.eq_of_beq_eq_true hl
  simp [storeVar,ht.sizeOf hi,hsz,z79,hq',zef,r1]
 ·rw [r3 b (by omega)];exact hS.ext.block b hb
 ·refine hS.sep.upd hS.le fun G' hG' hnd' _=>?_
  obtain⟨g1,cap1,d1,d2,rst1,H1,H2,hv1,hh1,b1,b2,b3,b4,b5,b6,l1,l2,rfl⟩:=hG'
  simp only [Value.slice.injEq,Option.some.injEq,Addr.mk.injEq,and_true,true_and] at hv1
  obtain⟨rfl,rfl⟩:=hv1
  rw [hh1] at hh
  simp only [Option.some.injEq,Obj.cells.injEq,Array.mk.injEq,and_true] at hh
  have hset1:=zbv (c1:=d1) (c2:=d2) (rest:=rst1) hs
  have e1:d1.length=c1.length:=by rw [b4,a4]
  rw [hh,e1] at hset1
  rw [← a4] at hset
  have e2:(c1++(es'++c2))++rst=(d1++(es'++d2))++rst1:=Option.some.inj (hset.symm.trans hset1)
  have hle:=zbN _ _ _ _ hs
  simp only [List.nodup_cons,List.mem_append,not_or] at hnd'
  refine⟨g'::(H1++H2),⟨g',k,d1,d2,rst1,H1,H2,rfl,by rw [r2,e2],b1,b2,?_,b4,by rw [hle];exact b5,b6,l1.loc fun b hb=>r3 b (by rintro rfl;exact hnd'.1.1 hb),l2.loc fun b hb=>r3 b (by rintro rfl;exact hnd'.1.2 hb),rfl⟩,by simpa using hnd',fun b hb=>.inl hb,fun b hb hn=>r3 b (by rintro rfl;exact hn (by simp))⟩
  rw [← b3]
  simp only [List.length_append,hle]

theorem LM.storeHoleN (ht:TTok P T){α:Type}{U:Ty α}{e:Nat}{A:Option Addr}{k m ln:Nat}{xs:List α}{es es':List Value}{B:List Res}(hS:St W w (Hole U e (.slice A ln k) xs m es::B)){q:Addr}(hq:ElAt U A m q)
  (hsk:skOf ops=sk∧ops.length=kk){ii:Nat}(m':Nat) (hm':mm ||| 2 ^ ii=m') (hwi:wm.testBit ii=true) (hni:nthv ops ii=some o) (hg:guardOf ops F o=some true){t:Nat}{x y:Operand}(ho:o.op=.store t x y) (hd:o.dst=none)
  {i:TI}(hi:T.get t=some i){q':Addr}(hx:F.ev x=some (.pointer (some q'))) (off:Nat) (hq':q'=q.add off){v:Value}(hy:F.ev y=some v) (hl:Nat.beq (cellsV v).length i.size=true)
  (h1:oneCells (cellsV v)=true) (hs:setAt es off (cellsV v)=some es') (h:∀ w',St W w' (Hole U e (.slice A ln k) xs m es'::B)→DM P n ops Q W w0 wm fuel kk m' F w'):LM P n ops Q W w0 wm fuel kk mm ii F w:=by
 obtain⟨hn,_,_⟩:=hS.hole_len
 subst hn
 obtain⟨w',r1,r2⟩:=zgp (P:=P) ht hS hq hi off hq' hl h1 hs
 refine LM.unitW hsk m' hm' hwi hni hg (w':=w') (fun a ha=>?_) hd r2.ext (h w' r2)
 unfold execOp
 rw [ho]
 simp [ha.ev hx,ha.ev hy,Instr.storeAt,Instr.sureAddr,r1]


end
end Go.E


namespace Go.E
open Go.RowKit
set_option linter.unusedVariables false
set_option linter.unusedSimpArgs false


inductive Rd (σ τ ρ:Type) where
 | next (s:σ)
 | brk (t:τ)
 | ret (r:ρ)

def iter {σ τ ρ:Type}(body:σ→Option (Rd σ τ ρ)):Nat→σ→Option (τ ⊕ ρ)
 | 0,_=>none
 | n+1,s=>match body s with
  | none=>none
  | some (.next s')=>iter body n s'
  | some (.brk t)=>some (.inl t)
  | some (.ret r)=>some (.inr r)

def idx {α:Type}(xs:List α) (i:Int):Option α:=if 0≤i then xs[i.toNat]? else none

theorem zb {α:Type}{xs:List α}{i:Int}{x:α}(h:idx xs i=some x):0≤i∧xs[i.toNat]? = some x:=by
 unfold idx at h
 split at h
 ·exact⟨by assumption,h⟩
 ·cases h


def aft {τ A:Type}(o:τ ⊕ A) (k:τ→Option A):Option A:=
 match o with
 | .inl t=>k t
 | .inr a=>some a

theorem z8 {τ A:Type}(t:τ) (k:τ→Option A):aft (.inl t) k=k t:=rfl

theorem zpA {c:Bool}(h:c=false):¬ c=true:=by rw [h];simp

theorem bind_some {α β:Type}{x:Option α}{f:α→Option β}{b:β}(h:x.bind f=some b):∃ a,x=some a∧f a=some b:=by
 cases x with
 | none=>cases h
 | some a=>exact⟨a,rfl,h⟩

section
variable {P:Program}{n:Nat}{Q:Post}{F:Fr}{w:World}


theorem WP.iter {c:Code}{σ τ ρ:Type}(J:σ→Fr→World→Prop) (body:σ→Option (Rd σ τ ρ)){k:Nat}{s:σ}{out:τ ⊕ ρ}(hm:iter body k s=some out) (h0:J s F w)
  (round:∀ s F w k o,J s F w→body s=some o→(match o with | .next s'=>Go.E.iter body k s'=some out | .brk t=>out=.inl t | .ret r=>out=.inr r)→
   WP P n c (Q.after (fun F' w'=>∃ s' F'',F'.Has F''∧o=.next s'∧J s' F'' w')) F w):WP P n (.loop c) Q F w:=by
 refine WP.loop (σ:={ p:Nat × σ // Go.E.iter body p.1 p.2=some out }) (fun p F w=>J p.1.2 F w) (fun p=>p.1.1) ⟨(k,s),hm⟩ h0 ?_
 rintro⟨⟨k,s⟩,hk⟩ F w hJ
 cases k with
 | zero=>cases hk
 | succ k=>
  have hk':=hk
  simp only [Go.E.iter] at hk'
  cases hb:body s with
  | none=>rw [hb] at hk';cases hk'
  | some o=>
   rw [hb] at hk'
   refine(round s F w k o hJ hb ?_).mono ?_
   ·cases o with
    | next s'=>exact hk'
    | brk t=>simp only [Option.some.injEq] at hk';exact hk'.symm
    | ret r=>simp only [Option.some.injEq] at hk';exact hk'.symm
   ·intro e F' w' q
    cases e with
    | normal=>
     obtain⟨s',F2,hh,rfl,hJ'⟩:=q
     exact⟨⟨(k,s'),hk'⟩,F2,hh,hJ',Nat.lt_succ_self k⟩
    | _=>exact q


theorem WP.cut {c:Code}{τ:Type}(J:τ→Fr→World→Prop) (hk:∀ t F w,J t F w→Q .normal F w) (h:WP P n c (Q.after (fun F w=>∃ t F',F.Has F'∧J t F' w)) F w):WP P n c Q F w:=
 fun a ha=>wp_mono (h a ha) fun e a' w' ⟨F1,hf,q⟩=>by
  cases e with
  | normal=>obtain⟨t,F',hh,ht⟩:=q;exact⟨F',hf.weak hh,hk t F' w' ht⟩
  | _=>exact⟨F1,hf,q⟩

theorem RW.know {ops rest:List Oper}(i:Nat){v u:Value}(hg:F.get i=some v) (e:v=u) (h:RW P n ops Q rest ((i,u)::F) w):RW P n ops Q rest F w:=fun a ha=>
 h a ⟨ha.1,ha.2.1,fun j x hx=>by
  rw [Fr.get_cons] at hx
  split at hx
  ·rename_i hj;subst hj;simp only [Option.some.injEq] at hx;subst hx;rw [← e];exact ha.2.2 _ _ hg
  ·exact ha.2.2 _ _ hx⟩

theorem DW.know {ops:List Oper}{w0 W9:World}{wr:Nat→Bool}{fuel:Nat}{listed:Array Bool}(i:Nat){v u:Value}(hg:F.get i=some v) (e:v=u) (h:DW P n ops Q W9 w0 wr fuel listed ((i,u)::F) w):DW P n ops Q W9 w0 wr fuel listed F w:=fun hs he hv a ha=>
 h hs he hv a ⟨ha.1,ha.2.1,fun j x hx=>by
  rw [Fr.get_cons] at hx
  split at hx
  ·rename_i hj;subst hj;simp only [Option.some.injEq] at hx;subst hx;rw [← e];exact ha.2.2 _ _ hg
  ·exact ha.2.2 _ _ hx⟩

theorem DM.know {ops:List Oper}{w0 W9:World}{wm fuel k m:Nat}(i:Nat){v u:Value}(hg:F.get i=some v) (e:v=u) (h:DM P n ops Q W9 w0 wm fuel k m ((i,u)::F) w):DM P n ops Q W9 w0 wm fuel k m F w:=fun l hl=>DW.know i hg e (h l hl)

theorem ResIs.agg {T:TT}(ht:TTok P T){a:Tmp}{t:Nat}{q:Addr}(h:F.get a=some (.pointer (some q))){i:TI}(hi:T.get t=some i) (hag:i.agg=true){cs:List Value}(hat:At w q cs) (hl:Nat.beq cs.length i.size=true):
  ResIs P F w (.cell a t) (.agg ⟨cs⟩):=.cell h (by
 have hr:=run_loadCells_list (P:=P) w q cs fun j u hu=>hat j u hu
 rw [Nat.eq_of_beq_eq_true hl] at hr
 simp [loadVar,ht.isAgg hi,ht.sizeOf hi,hag,hr])

theorem ResIs.one {T:TT}(ht:TTok P T){a:Tmp}{t:Nat}{q:Addr}(h:F.get a=some (.pointer (some q))){i:TI}(hi:T.get t=some i) (hag:i.agg=false){c:Value}(hat:At w q [c]):
  ResIs P F w (.cell a t) c:=.cell h (by
 have hc:w.cell? q=some c:=by have:=hat 0 c rfl;simpa [Addr.add] using this
 simp [loadVar,ht.isAgg hi,hag,run_load,hc])

theorem At.sub {p:Addr}{cs:List Value}(h:At w p cs) (off m:Nat):At w (p.add off) ((cs.drop off).take m):=h.part fun j u hu=>by
 rw [List.getElem?_take] at hu
 split at hu
 ·simpa using hu
 ·cases hu
end
end Go.E


namespace Go.E
open Go.RowKit
set_option linter.unusedVariables false
set_option linter.unusedSimpArgs false

def I64 (n:Int):Prop:=-9223372036854775808≤n∧n≤9223372036854775807

theorem zkn {n:Int}(h:(Lit.int .i64 n).wf=true):I64 n:=by
 have h1:IntKind.i64.min = -9223372036854775808:=rfl
 have h2:IntKind.i64.max=9223372036854775807:=rfl
 simp only [Lit.wf,Bool.and_eq_true,decide_eq_true_eq,h1,h2] at h
 exact h

theorem zpu {n:Int}(h:I64 n):w64 n=n:=by
 obtain⟨h1,h2⟩:=h
 have e:w64 n=if n % 18446744073709551616≥9223372036854775808 then n % 18446744073709551616 - 18446744073709551616 else n % 18446744073709551616:=by
  unfold w64 IntKind.wrap
  show(if(true && decide (n % (2 ^ 64:Int)≥(2 ^ 63:Int)))=true then n % (2 ^ 64:Int) - (2 ^ 64:Int) else n % (2 ^ 64:Int))=_
  simp
 rw [e]
 split<;>omega

def Opens (P:Program) (t:TypeId){α:Type}(T:Ty α) (wf:α→Prop):Prop:=
 P.cellsOf t=T.size∧∀ {H:Type}{enc:TypeId × Value→H}{w:World}{base:Nat}{spare:Nat→Bool}{held:Bool}{fuel:Nat}{cs:List Value}{x:DataW H × List MemPlace},
  DataW.trod enc P w base spare held fuel t cs=some x→∃ a,T.ro w cs a∧wf a

theorem Opens.int {P:Program}{t:TypeId}(ht:P.underlying t=some (.int .i64)) (hc:P.cellsOf t=1):Opens P t tInt I64:=
 ⟨hc,fun h=>by
  obtain⟨n,rfl,_,hw⟩:=DataW.trod_int ht h
  exact⟨n,rfl,zkn hw⟩⟩

theorem Opens.bool {P:Program}{t:TypeId}(ht:P.underlying t=some .bool) (hc:P.cellsOf t=1):Opens P t tBool fun _=>True:=
 ⟨hc,fun h=>by
  obtain⟨n,rfl,_⟩:=DataW.trod_bool ht h
  exact⟨n,rfl,trivial⟩⟩

theorem Opens.str {P:Program}{t:TypeId}(ht:P.underlying t=some .string) (hc:P.cellsOf t=1):Opens P t tStr fun s=>s.size≤maxLen:=
 ⟨hc,fun h=>by
  obtain⟨n,rfl,_,hw⟩:=DataW.trod_string ht h
  exact⟨n,rfl,hw⟩⟩

theorem At.append {w:World}{p:Addr}{cs es:List Value}(ha:At w p cs) (hb:At w (p.add cs.length) es):At w p (cs++es):=fun j u hu=>by
 rcases Nat.lt_or_ge j cs.length with h | h
 ·rw [List.getElem?_append_left h] at hu
  exact ha j u hu
 ·rw [List.getElem?_append_right h] at hu
  have:=hb (j - cs.length) u hu
  rw [znB] at this
  rwa [show cs.length+(j - cs.length)=j by omega] at this

theorem zhh {α:Type}{T:Ty α}{wf:α→Prop}{w:World}{a:Addr}{base:Nat}:∀ (n:Nat),(∀ i,i<n→∃ cs',w.cells? base (a.add (i*T.size)) T.size=some cs'∧∃ x,T.ro w cs' x∧wf x)→
  ∃ (xs:List α) (els:List Value),xs.length=n∧Els T w els xs∧At w a els∧∀ x,x∈xs→wf x
 | 0,_=>⟨[],[],rfl,rfl,fun j u hu=>by simp at hu,fun x hx=>by cases hx⟩
 | n+1,h=>by
  obtain⟨xs,els,hl,he,ha,hw⟩:=zhh n fun i hi=>h i (Nat.lt_succ_of_lt hi)
  obtain⟨cs',hc,x,hx,hwx⟩:=h n (Nat.lt_succ_self n)
  refine⟨xs++[x],els++cs',by simp [hl],he.append ⟨cs',[],by simp,hx,rfl⟩,ha.append ?_,fun y hy=>?_⟩
  ·obtain⟨_,hcl,hat⟩:=World.cells?_some hc
   intro j u hu
   have hj:=(List.getElem?_eq_some_iff.1 hu).1
   rw [he.length,hl,hat j (by omega)]
   exact hu
  ·rcases List.mem_append.1 hy with hy | hy
   ·exact hw y hy
   ·simp only [List.mem_singleton] at hy;subst hy;exact hwx

def WfL {α:Type}(wf:α→Prop) (xs:List α):Prop:=xs.length≤maxLen∧∀ x,x∈xs→wf x

theorem Opens.sl {P:Program}{t e:TypeId}{α:Type}{T:Ty α}{wf:α→Prop}(ht:P.underlying t=some (.slice e)) (hc:P.cellsOf t=1) (ho:Opens P e T wf):Opens P t (tSl e T) (WfL wf):=
 ⟨hc,by
  intro H enc w base spare held fuel cs x h
  rcases Go.Deep.open_slice ht h with⟨rfl,_⟩ | ⟨a,len,cap,m,n,D,Pl,rfl,_,hl,hm,hmm,_,hi⟩
  ·exact⟨[],⟨none,0,[],rfl,Nat.le_refl _,rfl,fun h=>absurd rfl h⟩,⟨Nat.zero_le _,fun x hx=>by cases hx⟩⟩
  ·have hlm:len≤m:=by rw [hmm];split<;>omega
   rw [ho.1] at hi
   obtain⟨xs,els,hxl,he,ha,hw⟩:=zhh (T:=T) (wf:=wf) (w:=w) (a:=a) (base:=base) len fun i hil=>by
    obtain⟨cs',h1,h2⟩:=hi i (by omega)
    exact⟨cs',h1,ho.2 h2⟩
   subst hxl
   exact⟨xs,⟨some a,cap,els,rfl,hl,he,fun _=>⟨a,rfl,ha⟩⟩,⟨by omega,hw⟩⟩⟩


def OpensF (P:Program) (o:Nat) (fs:List Field){α:Type}(T:Ty α) (wf:α→Prop):Prop:=
 ∀ {H:Type}{enc:TypeId × Value→H}{w:World}{base:Nat}{spare:Nat→Bool}{held:Bool}{fuel:Nat}{cs:List Value},
  (∀ (i:Nat) (f:Field),fs[i]? = some f→∃ x,DataW.trod enc P w base spare held fuel f.type ((cs.drop f.offset).take (P.cellsOf f.type))=some x)→∃ a,T.ro w ((cs.drop o).take T.size) a∧wf a

theorem OpensF.nil {P:Program}{o:Nat}:OpensF P o [] tUnit fun _=>True:=fun _=>⟨(),by show List.take 0 _=[];simp,trivial⟩

theorem OpensF.cons {P:Program}{o o':Nat}{f:Field}{fs:List Field}{α β:Type}{T:Ty α}{U:Ty β}{wf:α→Prop}{wg:β→Prop}(ho:Opens P f.type T wf) (hf:f.offset=o) (h':o'=o+T.size) (hr:OpensF P o' fs U wg):
  OpensF P o (f::fs) (tPair T U) fun x=>wf x.1∧wg x.2:=by
 intro H enc w base spare held fuel cs h
 obtain⟨x,hx⟩:=h 0 f rfl
 obtain⟨a,h1,h2⟩:=ho.2 hx
 obtain⟨b,h3,h4⟩:=hr (cs:=cs) fun i g hg=>h (i+1) g hg
 subst h'
 refine⟨(a,b),⟨_,_,?_,h1,h3⟩,h2,h4⟩
 rw [ho.1,hf]
 show List.take (T.size+U.size) _=_
 rw [List.take_add,List.drop_drop]

theorem Opens.struct {P:Program}{t:TypeId}{fs:Array Field}{α β:Type}{T:Ty α}{wf:α→Prop}{f:β→α}(ht:P.underlying t=some (.struct fs)) (hc:P.cellsOf t=T.size) (h:OpensF P 0 fs.toList T wf) (hs:∀ a,∃ b,f b=a):
  Opens P t (tMap f T) fun b=>wf (f b):=
 ⟨hc,by
  intro H enc w base spare held fuel cs x hx
  obtain⟨xs,n,_,_,hl,hxl,hf⟩:=DataW.trod_struct ht hx
  obtain⟨a,h1,h2⟩:=h (cs:=cs) (w:=w) (enc:=enc) (base:=base) (spare:=spare) (held:=held) (fuel:=n) fun i g hg=>by
   have hi:i<fs.size:=by simpa using (List.getElem?_eq_some_iff.1 hg).1
   exact⟨xs[i]'(by omega),(hf i g (by simpa using hg)).trans (List.getElem?_eq_getElem _)⟩
  obtain⟨b,rfl⟩:=hs a
  refine⟨b,?_,h2⟩
  show T.ro w cs (f b)
  rwa [List.drop_zero,List.take_of_length_le (by omega)] at h1⟩

section
variable {H:Type}{enc:TypeId × Value→H}{P:Program}{w:World}{base b0:Nat}{spare:Nat→Bool}{held:Bool}{r:Reach}{t:TypeId}{v:Value}{d:DataW H}{p:List MemPlace}

theorem zjM {α:Type}{T:Ty α}{wf:α→Prop}{fs:Array Field}(ht:P.underlying t=some (.struct fs)) (ho:Opens P t T wf) (hv:Value.okWide P w r b0 t v) (h:DataW.Trod enc P w base spare held t v d p):
  ∃ cs x,v=.agg ⟨cs⟩∧T.ro w cs x∧wf x:=by
 obtain⟨cs,rfl,_⟩:=WideShapes.okWide_struct ht hv
 obtain⟨fuel,hf⟩:=h
 obtain⟨x,h1,h2⟩:=ho.2 hf
 exact⟨cs.toList,x,rfl,h1,h2⟩

end

theorem Ret.out {Q:Value→World→Prop}{e:Ending}{w:World}(h:Ret Q e w):∃ v,e=.returned v∧Q v w:=by
 cases e with
 | returned v=>exact⟨v,rfl,h⟩
 | _=>exact False.elim h
end Go.E


