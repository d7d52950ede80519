/- Models of functions and proofs that the code runs as they say (written by program). Conditions: the model gives a value. -/
import Derived.Test.YtfndicpnccabkaaGreatQB
import Derived.Test.YtfndicpnccabkaaGreatFH
set_option linter.unusedVariables false
set_option linter.unusedSimpArgs false
namespace Go.E
open Go.RowKit Go.Proofs
set_option maxHeartbeats 2000000
set_option maxRecDepth 100000

theorem zw4:EN 94:=en Tryz.func94
def zae (fu:Nat)(x0:QV):Option (QV):=((z8z fu x0).bind fun o=>((z5H fu x0 o).bind fun q=>some q))

theorem zjW {W:Base}{w:World}(hE:Ext W w){i0:Addr}{f0:List Value}{x0:QV}(H:ty30.ro W f0 x0)(g0:At W i0 f0){fu:Nat}{r:QV}(hm:zae fu x0=some r):
  CL 94 ⟨[.pointer (some i0)]⟩ w (Ret fun v w8=>∃ A0 k0,v=.agg ⟨[sl A0 r.QG k0]⟩∧St w w8 [ow ty28 A0 r.QG k0]):=by
 obtain⟨A1,k2,e4,h3⟩:=z48 H;subst e4;refine into Tryz.func94 7 _ ?_;unfold zae at hm;have hS:=St.start w;refine sg<|nw hS (fun g5 w6 e7 q=>?_);refine rn<|sg<|rr 2 ?_;obtain⟨r0,c0,hm⟩:=bS hm;refine ca zu4 (zhv (hE.trans q.ext) H g0 c0) (fun u0 y0 O=>?_);obtain⟨p0,q0,rfl,X⟩:=O;have o:=q.join X;obtain⟨t0,e0,hm⟩:=bS hm;refine ca zu5 (zfr (Ext.refl _) (ty30.ext (hE.trans o.ext) H) (ax hE o g0) ((o.b 0 rfl).own) e0) (fun v0 B0 Y=>?_);obtain⟨j0,o0,rfl,Z⟩:=Y;have a0:=o.join Z;have b0:=a0.b 2 rfl;refine so (A:=[]) b0 0 (fun C0 G=>?_);refine rn<|rt ?_;cases hm;exact⟨_,.cons (ra ((G.b 0 rfl).box)) .nil,j0,o0,rfl,((G.b 1 rfl).t 1)⟩

end Go.E



