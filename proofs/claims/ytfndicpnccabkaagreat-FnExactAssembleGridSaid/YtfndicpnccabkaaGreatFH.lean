/- Models of functions and proofs that the code runs as they say (written by program). Conditions: the model gives a value. -/
import Derived.Test.YtfndicpnccabkaaGreatSortT
import Derived.Test.YtfndicpnccabkaaGreatQB
import Derived.Test.YtfndicpnccabkaaGreatFG
namespace Go.E
open Go.RowKit Go.Proofs
set_option linter.unusedVariables false
set_option linter.unusedSimpArgs false
set_option maxHeartbeats 2000000
set_option maxRecDepth 100000

theorem zmp:Enters Tryz.prog 101:=⟨_,_,Tryz.func101,rfl,by kernel_rfl⟩
def z5J (fuel:Nat) (x0:D.Net):Option (D.Net):=((z1x fuel x0).bind fun o=>((z3R fuel x0 o).bind fun q=>some (⟨q.Agents⟩:D.Net)))

theorem zbY {W:Base}{w:World}(hE:Ext W w){g0:List Value}{x0:D.Net}(H:ty30.ro W g0 x0){fuel:Nat}{r:D.Net}(hm:z5J fuel x0=some r):
  Calls Tryz.prog 101 ⟨[.agg ⟨g0⟩]⟩ w (Ret fun v w8=>∃ A0 k0,v=.agg ⟨[sl A0 r.Agents k0]⟩∧St w w8 [ow ty28 A0 r.Agents k0]):=by
 obtain⟨A1,k2,e4,h3⟩:=z2Y H;subst e4;refine into Tryz.func101 5 _ ?_;unfold z5J at hm;have hS:=St.start w;refine sq<|rg<|nw hS (fun g5 w6 e7 a0=>?_);refine nw a0 (fun q0 B0 p0 q=>?_);refine rn<|sq<|rg ?_;obtain⟨t0,e0,hm⟩:=bS hm;refine ca zkW (z8Z (Ext.refl _) (ty30.ext (hE.trans q.ext) H) ((q.bring 1 rfl).box) e0) (fun v0 C0 O=>?_);obtain⟨o0,r0,rfl,X⟩:=O;have o:=q.join X;obtain⟨u0,f0,hm⟩:=bS hm;refine ca zkX (zaK (Ext.refl _) (ty30.ext (hE.trans o.ext) H) ((o.bring 2 rfl).box) ((o.bring 0 rfl).own) f0) (fun y0 D0 Y=>?_);obtain⟨i0,j0,rfl,Z⟩:=Y;have b0:=o.join Z;have c0:=b0.bring 2 rfl;refine so (A:=[]) c0 0 (fun E0 G=>?_);refine rn<|rt ?_;cases hm;exact⟨_,.cons (ra ((G.bring 0 rfl).box)) .nil,i0,j0,rfl,((G.bring 1 rfl).taken 1)⟩

end Go.E


