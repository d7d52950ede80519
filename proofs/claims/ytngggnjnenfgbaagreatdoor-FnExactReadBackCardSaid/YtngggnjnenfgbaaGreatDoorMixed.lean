/- Structs some of whose slices are borrowed (written by program). Conditions: none. -/
import Derived.Test.YtngggnjnenfgbaaGreatDoorLoops
namespace Go.E
open Go.RowKit Go.Proofs
set_option linter.unusedVariables false

def z3x (W0:Base):Ty D.l16Binder:=tMap (fun c:D.l16Binder=>(c.agent,c.stacks,())) (tPair tInt (tPair (tBor W0 ty89) tUnit))
instance {W0:Base}:Reads W0 (z3x W0):=inferInstanceAs (Reads W0 (tMap (fun c:D.l16Binder=>(c.agent,c.stacks,())) (tPair tInt (tPair (tBor W0 ty89) tUnit))))
theorem zad {W0:Base}:(z3x W0).ro=zae.ro:=rfl
theorem z8F {W0:Base}{w:World}{c:D.l16Binder}{A0:Option Addr}{k0:Nat}{G:List Nat}(h:(All [Own (tBor W0 ty89) [.slice A0 c.stacks.length k0] c.stacks]).A w G):(z3x W0).own w [.int .i64 c.agent,.slice A0 c.stacks.length k0] c G:=by
  obtain⟨G0,R0,rfl,h0,hz⟩:=h
  have hz':R0=[]:=hz
  subst hz'
  exact cast (congrArg _ (by simp)) (show(z3x W0).own w [.int .i64 c.agent,.slice A0 c.stacks.length k0] c (_) from⟨_,_,_,_,rfl,rfl,⟨rfl,rfl⟩,⟨_,_,_,_,rfl,rfl,h0,⟨rfl,rfl⟩⟩⟩)
theorem z4W {W0 W:Base}{w:World}{B:List Res}{c:D.l16Binder}{A0:Option Addr}{k0:Nat}(h:St W w ([Own (tBor W0 ty89) [.slice A0 c.stacks.length k0] c.stacks]++B)):St W w (Own (z3x W0) [.int .i64 c.agent,.slice A0 c.stacks.length k0] c::B):=(St.fuseAll h).conv fun _ hG=>z8F hG

def zaS (W0:Base):Ty (List D.l16Binder):=tSl 119 (z3x W0)
instance {W0:Base}:Reads W0 (zaS W0):=inferInstanceAs (Reads W0 (tSl 119 (z3x W0)))
theorem z66 {W0:Base}:(zaS W0).ro=z2w.ro:=z9K zad

end Go.E


