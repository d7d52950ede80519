/- Structs some of whose slices are borrowed (written by program). Conditions: none. -/
import Derived.Test.YteommboffflkbaaGreatRow
namespace Go.E
open Go.RowKit Go.Proofs
set_option linter.unusedVariables false

def zaA (W0:World):Ty D.Qb:=tMap (fun c:D.Qb=>(c.Qj,c.QL,c.Value,c.Data,c.QX,())) (tPair tInt (tPair tInt (tPair tInt (tPair (tBor W0 ty29) (tPair (tBor W0 z3r) tUnit)))))
instance {W0:World}:Reads W0 (zaA W0):=inferInstanceAs (Reads W0 (tMap (fun c:D.Qb=>(c.Qj,c.QL,c.Value,c.Data,c.QX,())) (tPair tInt (tPair tInt (tPair tInt (tPair (tBor W0 ty29) (tPair (tBor W0 z3r) tUnit)))))))
theorem zkM {W0:World}:(zaA W0).ro=z2B.ro:=rfl
theorem zi8 {W0 w:World}{c:D.Qb}{A0:Option Addr}{k0:Nat}{A1:Option Addr}{k1:Nat}{G:List Nat}(h:(All [Own (tBor W0 ty29) [.slice A0 c.Data.length k0] c.Data,Own (tBor W0 z3r) [.slice A1 c.QX.length k1] c.QX]).A w G):(zaA W0).own w [.int .i64 c.Qj,.int .i64 c.QL,.int .i64 c.Value,.slice A0 c.Data.length k0,.slice A1 c.QX.length k1] c G:=by
 obtain⟨G0,R0,rfl,h0,G1,R1,rfl,h1,hz⟩:=h
 have hz':R1=[]:=hz
 subst hz'
 exact cast (congrArg _ (by simp)) (show(zaA W0).own w [.int .i64 c.Qj,.int .i64 c.QL,.int .i64 c.Value,.slice A0 c.Data.length k0,.slice A1 c.QX.length k1] c (_) from⟨_,_,_,_,rfl,rfl,⟨rfl,rfl⟩,⟨_,_,_,_,rfl,rfl,⟨rfl,rfl⟩,⟨_,_,_,_,rfl,rfl,⟨rfl,rfl⟩,⟨_,_,_,_,rfl,rfl,h0,⟨_,_,_,_,rfl,rfl,h1,⟨rfl,rfl⟩⟩⟩⟩⟩⟩)
theorem zhm {W0 W w:World}{B:List Res}{c:D.Qb}{A0:Option Addr}{k0:Nat}{A1:Option Addr}{k1:Nat}(h:St W w ([Own (tBor W0 ty29) [.slice A0 c.Data.length k0] c.Data,Own (tBor W0 z3r) [.slice A1 c.QX.length k1] c.QX]++B)):St W w (Own (zaA W0) [.int .i64 c.Qj,.int .i64 c.QL,.int .i64 c.Value,.slice A0 c.Data.length k0,.slice A1 c.QX.length k1] c::B):=(St.fuseAll h).conv fun _ hG=>zi8 hG

def z8E (W0:World):Ty (List D.Qb):=tSl 154 (zaA W0)
instance {W0:World}:Reads W0 (z8E W0):=inferInstanceAs (Reads W0 (tSl 154 (zaA W0)))
theorem zkK {W0:World}:(z8E W0).ro=z6K.ro:=zq2 zkM

end Go.E


