/- Structs some of whose slices are borrowed (written by program). Conditions: none. -/
import Derived.Test.YtfndicpnccabkaaGreatLoops
set_option linter.unusedVariables false
set_option linter.unusedSimpArgs false
namespace Go.E
open Go.RowKit Go.Proofs

def z9v (W0:Base):Ty Qa:=zb4 (fun c:Qa=>(c.Qi,c.QC,c.Value,c.Data,c.QM,())) (zd z2z (zd z2z (zd z2z (zd (zv5 W0 ty45) (zd (zv5 W0 ty82) z2W)))))
instance {W0:Base}:Reads W0 (z9v W0):=inferInstanceAs (Reads W0 (zb4 (fun c:Qa=>(c.Qi,c.QC,c.Value,c.Data,c.QM,())) (zd z2z (zd z2z (zd z2z (zd (zv5 W0 ty45) (zd (zv5 W0 ty82) z2W)))))))
theorem zqQ {W0:Base}:(z9v W0).ro=z90.ro:=rfl
theorem zn3 {W0 w:World}{c:Qa}{A0:Option Addr}{k0:Nat}{A1:Option Addr}{k1:Nat}{G:List Nat}(h:(All [Own (zv5 W0 ty45) [.slice A0 c.Data.length k0] c.Data,Own (zv5 W0 ty82) [.slice A1 c.QM.length k1] c.QM]).A w G):(z9v W0).own w [.int .i64 c.Qi,.int .i64 c.QC,.int .i64 c.Value,.slice A0 c.Data.length k0,.slice A1 c.QM.length k1] c G:=by
 obtain⟨G0,R0,rfl,h0,G1,R1,rfl,h1,hz⟩:=h
 have o:R1=[]:=hz
 subst o
 exact cast (congrArg _ (by simp)) (show(z9v W0).own w [.int .i64 c.Qi,.int .i64 c.QC,.int .i64 c.Value,.slice A0 c.Data.length k0,.slice A1 c.QM.length k1] c (_) from⟨_,_,_,_,rfl,rfl,⟨rfl,rfl⟩,⟨_,_,_,_,rfl,rfl,⟨rfl,rfl⟩,⟨_,_,_,_,rfl,rfl,⟨rfl,rfl⟩,⟨_,_,_,_,rfl,rfl,h0,⟨_,_,_,_,rfl,rfl,h1,⟨rfl,rfl⟩⟩⟩⟩⟩⟩)
theorem zdC {W0 W:Base}{w:World}{B:List Res}{c:Qa}{A0:Option Addr}{k0:Nat}{A1:Option Addr}{k1:Nat}(h:St W w ([Own (zv5 W0 ty45) [.slice A0 c.Data.length k0] c.Data,Own (zv5 W0 ty82) [.slice A1 c.QM.length k1] c.QM]++B)):St W w (Own (z9v W0) [.int .i64 c.Qi,.int .i64 c.QC,.int .i64 c.Value,.slice A0 c.Data.length k0,.slice A1 c.QM.length k1] c::B):=(St.fuseAll h).conv fun _ hG=>zn3 hG

def zaF (W0:Base):Ty LB:=tSl 126 (z9v W0)
instance {W0:Base}:Reads W0 (zaF W0):=inferInstanceAs (Reads W0 (tSl 126 (z9v W0)))
theorem zmS {W0:Base}:(zaF W0).ro=ty81.ro:=zxD zqQ

end Go.E



