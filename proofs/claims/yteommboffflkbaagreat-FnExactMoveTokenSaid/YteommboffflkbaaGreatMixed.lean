/- Structs some of whose slices are borrowed (written by program). Conditions: none. -/
import Derived.Test.YteommboffflkbaaGreatRow
namespace Go.E
open Go.RowKit Go.Proofs
set_option linter.unusedVariables false

def z9S (W0:World):Ty D.Qd:=tMap (fun c:D.Qd=>(c.Qj,c.QO,c.Value,c.Data,c.QY,())) (tPair tInt (tPair tInt (tPair tInt (tPair (tBor W0 ty29) (tPair (tBor W0 z3h) tUnit)))))
instance {W0:World}:Reads W0 (z9S W0):=inferInstanceAs (Reads W0 (tMap (fun c:D.Qd=>(c.Qj,c.QO,c.Value,c.Data,c.QY,())) (tPair tInt (tPair tInt (tPair tInt (tPair (tBor W0 ty29) (tPair (tBor W0 z3h) tUnit)))))))
theorem zjj {W0:World}:(z9S W0).ro=z2C.ro:=rfl
theorem zh1 {W0 w:World}{c:D.Qd}{A0:Option Addr}{k0:Nat}{A1:Option Addr}{k1:Nat}{G:List Nat}(h:(All [Own (tBor W0 ty29) [.slice A0 c.Data.length k0] c.Data,Own (tBor W0 z3h) [.slice A1 c.QY.length k1] c.QY]).A w G):(z9S W0).own w [.int .i64 c.Qj,.int .i64 c.QO,.int .i64 c.Value,.slice A0 c.Data.length k0,.slice A1 c.QY.length k1] c G:=by
 obtain⟨G0,R0,rfl,h0,G1,R1,rfl,h1,hz⟩:=h
 have hz':R1=[]:=hz
 subst hz'
 exact cast (congrArg _ (by simp)) (show(z9S W0).own w [.int .i64 c.Qj,.int .i64 c.QO,.int .i64 c.Value,.slice A0 c.Data.length k0,.slice A1 c.QY.length k1] c (_) from⟨_,_,_,_,rfl,rfl,⟨rfl,rfl⟩,⟨_,_,_,_,rfl,rfl,⟨rfl,rfl⟩,⟨_,_,_,_,rfl,rfl,⟨rfl,rfl⟩,⟨_,_,_,_,rfl,rfl,h0,⟨_,_,_,_,rfl,rfl,h1,⟨rfl,rfl⟩⟩⟩⟩⟩⟩)
theorem zgf {W0 W w:World}{B:List Res}{c:D.Qd}{A0:Option Addr}{k0:Nat}{A1:Option Addr}{k1:Nat}(h:St W w ([Own (tBor W0 ty29) [.slice A0 c.Data.length k0] c.Data,Own (tBor W0 z3h) [.slice A1 c.QY.length k1] c.QY]++B)):St W w (Own (z9S W0) [.int .i64 c.Qj,.int .i64 c.QO,.int .i64 c.Value,.slice A0 c.Data.length k0,.slice A1 c.QY.length k1] c::B):=(St.fuseAll h).conv fun _ hG=>zh1 hG

def z81 (W0:World):Ty (List D.Qd):=tSl 154 (z9S W0)
instance {W0:World}:Reads W0 (z81 W0):=inferInstanceAs (Reads W0 (tSl 154 (z9S W0)))
theorem zjh {W0:World}:(z81 W0).ro=z7T.ro:=zpw zjj

end Go.E


