/- Models of functions and proofs that the code runs as they say (written by program). Conditions: the model gives a value. -/
import Derived.Test.YtfndicpnccabkaaGreatQB
import Derived.Test.YtfndicpnccabkaaGreatFH
namespace Go.E
open Go.RowKit Go.Proofs
set_option linter.unusedVariables false
set_option linter.unusedSimpArgs false
set_option maxHeartbeats 2000000
set_option maxRecDepth 100000

theorem znB:Enters Tryz.prog 94:=⟨_,_,Tryz.func94,rfl,by kernel_rfl⟩
def z7y (fuel:Nat) (x0:D.Net):Option (D.Net):=((z6g fuel x0).bind fun o=>((z4e fuel x0 o).bind fun q=>some (⟨q.Agents⟩:D.Net)))

theorem zdW {W:Base}{w:World}(hE:Ext W w){i0:Addr}{f0:List Value}{x0:D.Net}(H:ty30.ro W f0 x0) (g0:At W i0 f0){fuel:Nat}{r:D.Net}(hm:z7y fuel x0=some r):
  Calls Tryz.prog 94 ⟨[.pointer (some i0)]⟩ w (Ret fun v w8=>∃ A0 k0,v=.agg ⟨[sl A0 r.Agents k0]⟩∧St w w8 [ow ty28 A0 r.Agents k0]):=by
 obtain⟨A1,k2,e4,h3⟩:=z2Y H;subst e4;refine into Tryz.func94 7 _ ?_;unfold z7y at hm;have hS:=St.start w;refine sq<|rg<|nw hS (fun g5 w6 e7 q=>?_);refine rn<|sq<|rg<|rr 2 ?_;obtain⟨r0,c0,hm⟩:=bS hm;refine ca zm3 (zcn (hE.trans q.ext) H g0 c0) (fun u0 y0 O=>?_);obtain⟨p0,q0,rfl,X⟩:=O;have o:=q.join X;obtain⟨t0,e0,hm⟩:=bS hm;refine ca zm4 (zaT (Ext.refl _) (ty30.ext (hE.trans o.ext) H) (At.ext (hE.trans o.ext) g0) ((o.bring 0 rfl).own) e0) (fun v0 B0 Y=>?_);obtain⟨j0,o0,rfl,Z⟩:=Y;have a0:=o.join Z;have b0:=a0.bring 2 rfl;refine so (A:=[]) b0 0 (fun C0 G=>?_);refine rn<|rt ?_;cases hm;exact⟨_,.cons (ra ((G.bring 0 rfl).box)) .nil,j0,o0,rfl,((G.bring 1 rfl).taken 1)⟩

end Go.E


