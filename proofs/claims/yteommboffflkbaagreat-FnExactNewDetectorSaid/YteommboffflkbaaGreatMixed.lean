/- Structs some of whose slices are borrowed (written by program). Conditions: none. -/
import Derived.Test.YteommboffflkbaaGreatRow
namespace Go.E
open Go.RowKit Go.Proofs
set_option linter.unusedVariables false

def z9u (W0:World):Ty D.ShardCell:=tMap (fun c:D.ShardCell=>(c.Kind,c.Level,c.Value,c.Data,c.Aux,())) (tPair tInt (tPair tInt (tPair tInt (tPair (tBor W0 ty29) (tPair (tBor W0 z3b) tUnit)))))
instance {W0:World}:Reads W0 (z9u W0):=inferInstanceAs (Reads W0 (tMap (fun c:D.ShardCell=>(c.Kind,c.Level,c.Value,c.Data,c.Aux,())) (tPair tInt (tPair tInt (tPair tInt (tPair (tBor W0 ty29) (tPair (tBor W0 z3b) tUnit)))))))
theorem ziF {W0:World}:(z9u W0).ro=z2y.ro:=rfl
theorem zgq {W0 w:World}{c:D.ShardCell}{A0:Option Addr}{k0:Nat}{A1:Option Addr}{k1:Nat}{G:List Nat}(h:(All [Own (tBor W0 ty29) [.slice A0 c.Data.length k0] c.Data,Own (tBor W0 z3b) [.slice A1 c.Aux.length k1] c.Aux]).A w G):(z9u W0).own w [.int .i64 c.Kind,.int .i64 c.Level,.int .i64 c.Value,.slice A0 c.Data.length k0,.slice A1 c.Aux.length k1] c G:=by
  obtain⟨G0,R0,rfl,h0,G1,R1,rfl,h1,hz⟩:=h
  have hz':R1=[]:=hz
  subst hz'
  exact cast (congrArg _ (by simp)) (show(z9u W0).own w [.int .i64 c.Kind,.int .i64 c.Level,.int .i64 c.Value,.slice A0 c.Data.length k0,.slice A1 c.Aux.length k1] c (_) from⟨_,_,_,_,rfl,rfl,⟨rfl,rfl⟩,⟨_,_,_,_,rfl,rfl,⟨rfl,rfl⟩,⟨_,_,_,_,rfl,rfl,⟨rfl,rfl⟩,⟨_,_,_,_,rfl,rfl,h0,⟨_,_,_,_,rfl,rfl,h1,⟨rfl,rfl⟩⟩⟩⟩⟩⟩)
theorem zfF {W0 W w:World}{B:List Res}{c:D.ShardCell}{A0:Option Addr}{k0:Nat}{A1:Option Addr}{k1:Nat}(h:St W w ([Own (tBor W0 ty29) [.slice A0 c.Data.length k0] c.Data,Own (tBor W0 z3b) [.slice A1 c.Aux.length k1] c.Aux]++B)):St W w (Own (z9u W0) [.int .i64 c.Kind,.int .i64 c.Level,.int .i64 c.Value,.slice A0 c.Data.length k0,.slice A1 c.Aux.length k1] c::B):=(St.fuseAll h).conv fun _ hG=>zgq hG

def z7H (W0:World):Ty (List D.ShardCell):=tSl 154 (z9u W0)
instance {W0:World}:Reads W0 (z7H W0):=inferInstanceAs (Reads W0 (tSl 154 (z9u W0)))
theorem ziD {W0:World}:(z7H W0).ro=z7A.ro:=zoz ziF

end Go.E


