/- Models of functions and proofs that the code runs as they say (written by program). Conditions: the model gives a value. -/
import Derived.Test.YtfndicpnccabkaaGreatSortT
import Derived.Test.YtfndicpnccabkaaGreatQB
import Derived.Test.YtfndicpnccabkaaGreatFG
set_option linter.unusedVariables false
set_option linter.unusedSimpArgs false
namespace Go.E
open Go.RowKit Go.Proofs
set_option maxHeartbeats 2000000
set_option maxRecDepth 100000

theorem zux:EN 101:=en Tryz.func101
def z7W (fu:Nat)(x0:QV):Option (QV):=((z21 fu x0).bind fun o=>((z5a fu x0 o).bind fun q=>some q))

theorem zgS {W:Base}{w:World}(hE:Ext W w){g0:List Value}{x0:QV}(H:ty30.ro W g0 x0){fu:Nat}{r:QV}(hm:z7W fu x0=some r):
  CL 101 ⟨[.agg ⟨g0⟩]⟩ w (Ret fun v w8=>∃ A0 k0,v=.agg ⟨[sl A0 r.QG k0]⟩∧St w w8 [ow ty28 A0 r.QG k0]):=by
 obtain⟨A1,k2,e4,h3⟩:=z48 H;subst e4;refine into Tryz.func101 5 _ ?_;unfold z7W at hm;have hS:=St.start w;refine sg<|nw hS (fun g5 w6 e7 a0=>?_);refine nw a0 (fun q0 B0 p0 q=>?_);refine rn<|sq<|rg ?_;obtain⟨t0,e0,hm⟩:=bS hm;refine ca ztX (zcz (Ext.refl _) (ty30.ext (hE.trans q.ext) H) ((q.b 1 rfl).box) e0) (fun v0 C0 O=>?_);obtain⟨o0,r0,rfl,X⟩:=O;have o:=q.join X;obtain⟨u0,f0,hm⟩:=bS hm;refine ca ztY (zfb (Ext.refl _) (ty30.ext (hE.trans o.ext) H) ((o.b 2 rfl).box) ((o.b 0 rfl).own) f0) (fun y0 D0 Y=>?_);obtain⟨i0,j0,rfl,Z⟩:=Y;have b0:=o.join Z;have c0:=b0.b 2 rfl;refine so (A:=[]) c0 0 (fun E0 G=>?_);refine rn<|rt ?_;cases hm;exact⟨_,.cons (ra ((G.b 0 rfl).box)) .nil,i0,j0,rfl,((G.b 1 rfl).t 1)⟩

end Go.E



