/- Structs some of whose slices are borrowed (written by program). Conditions: none. -/
import Derived.Test.YtfndicpnccabkaaGreatLoops
namespace Go.E
open Go.RowKit Go.Proofs
set_option linter.unusedVariables false

def z9i (W0:Base):Ty D.ShardCell:=tMap (fun c:D.ShardCell=>(c.Kind,c.Level,c.Value,c.Data,c.Aux,())) (tPair tInt (tPair tInt (tPair tInt (tPair (tBor W0 ty45) (tPair (tBor W0 ty82) tUnit)))))
instance {W0:Base}:Reads W0 (z9i W0):=inferInstanceAs (Reads W0 (tMap (fun c:D.ShardCell=>(c.Kind,c.Level,c.Value,c.Data,c.Aux,())) (tPair tInt (tPair tInt (tPair tInt (tPair (tBor W0 ty45) (tPair (tBor W0 ty82) tUnit)))))))
theorem zim {W0:Base}:(z9i W0).ro=z6K.ro:=rfl
theorem zfu {W0 w:World}{c:D.ShardCell}{A0:Option Addr}{k0:Nat}{A1:Option Addr}{k1:Nat}{G:List Nat}(h:(All [Own (tBor W0 ty45) [.slice A0 c.Data.length k0] c.Data,Own (tBor W0 ty82) [.slice A1 c.Aux.length k1] c.Aux]).A w G):(z9i W0).own w [.int .i64 c.Kind,.int .i64 c.Level,.int .i64 c.Value,.slice A0 c.Data.length k0,.slice A1 c.Aux.length k1] c G:=by
  obtain⟨G0,R0,rfl,h0,G1,R1,rfl,h1,hz⟩:=h
  have hz':R1=[]:=hz
  subst hz'
  exact cast (congrArg _ (by simp)) (show(z9i W0).own w [.int .i64 c.Kind,.int .i64 c.Level,.int .i64 c.Value,.slice A0 c.Data.length k0,.slice A1 c.Aux.length k1] c (_) from⟨_,_,_,_,rfl,rfl,⟨rfl,rfl⟩,⟨_,_,_,_,rfl,rfl,⟨rfl,rfl⟩,⟨_,_,_,_,rfl,rfl,⟨rfl,rfl⟩,⟨_,_,_,_,rfl,rfl,h0,⟨_,_,_,_,rfl,rfl,h1,⟨rfl,rfl⟩⟩⟩⟩⟩⟩)
theorem zeA {W0 W:Base}{w:World}{B:List Res}{c:D.ShardCell}{A0:Option Addr}{k0:Nat}{A1:Option Addr}{k1:Nat}(h:St W w ([Own (tBor W0 ty45) [.slice A0 c.Data.length k0] c.Data,Own (tBor W0 ty82) [.slice A1 c.Aux.length k1] c.Aux]++B)):St W w (Own (z9i W0) [.int .i64 c.Kind,.int .i64 c.Level,.int .i64 c.Value,.slice A0 c.Data.length k0,.slice A1 c.Aux.length k1] c::B):=(St.fuseAll h).conv fun _ hG=>zfu hG

def zca (W0:Base):Ty (List D.ShardCell):=tSl 126 (z9i W0)
instance {W0:Base}:Reads W0 (zca W0):=inferInstanceAs (Reads W0 (tSl 126 (z9i W0)))
theorem zjb {W0:Base}:(zca W0).ro=ty81.ro:=zoD zim

end Go.E


