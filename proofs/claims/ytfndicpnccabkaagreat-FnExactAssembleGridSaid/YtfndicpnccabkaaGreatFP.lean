/- Models of functions and proofs that the code runs as they say (written by program). Conditions: the model gives a value. -/
import Derived.Test.YtfndicpnccabkaaGreatFI
import Derived.Test.YtfndicpnccabkaaGreatFH
import Derived.Test.YtfndicpnccabkaaGreatMapS
import Derived.Test.YtfndicpnccabkaaGreatQB
import Derived.Test.YtfndicpnccabkaaGreatFVb
import Derived.Test.YtfndicpnccabkaaGreatMixed
namespace Go.E
open Go.RowKit Go.Proofs
set_option linter.unusedVariables false
set_option linter.unusedSimpArgs false
set_option maxHeartbeats 2000000
set_option maxRecDepth 100000


theorem St.ownE2 {α:Type}{T:Ty α}{W0 W:Base}{w:World}{B:List Res}{cs:List Value}{x:α}[Reads W0 T] (he:Ext W0 w) (h:St W w (Own T cs x::B)):T.ro w cs x:=by
 obtain⟨G,hA,_⟩:=h.sep.head
 exact T.own_ro hA (Reads.req (W:=W0) he)
theorem zhR:Enters Tryz.prog 10:=⟨_,_,Tryz.func10,rfl,by kernel_rfl⟩
def z2r (fuel:Nat) (x0:D.Grid):Option (D.Net × Int):=((z3Z fuel x0).bind fun q=>(if(!q)=true then some ((⟨[]⟩:D.Net),1) else((z2K fuel x0).bind fun o=>(if(decide ((w64 ((o.1.length:Int)+1))>600))=true then some ((⟨[]⟩:D.Net),4) else((z1u fuel x0).bind fun G=>((z6x fuel o.1 o.2 G).bind fun H=>some ((⟨H.Agents⟩:D.Net),0)))))))

theorem z8w {W:Base}{w:World}(hE:Ext W w){E0:List Value}{x0:D.Grid}(b0:ty36.ro W E0 x0){fuel:Nat}{r:D.Net × Int}(hm:z2r fuel x0=some r):
  Calls Tryz.prog 10 ⟨[.agg ⟨E0⟩]⟩ w (Ret fun v w8=>∃ A0 k0,v=.tuple ⟨[.agg ⟨[sl A0 r.1.Agents k0]⟩,.int .i64 r.2]⟩∧St w w8 [ow ty28 A0 r.1.Agents k0]):=by
 obtain⟨A1,k2,e4,h3⟩:=z2d b0;subst e4;refine into Tryz.func10 23 _ ?_;unfold z2r at hm;have hS:=St.start w;refine sq<|rg<|nw hS (fun g5 w6 e7 o0=>?_);refine nw o0 (fun N0 b1 M0 H=>?_);refine rr 1 ?_;refine rn<|sq<|sq<|rg<|lN ((H.bring 1 rfl).box) ?_;obtain⟨R0,y0,hm⟩:=bS hm;refine ca znS (zbZ (hE.trans H.ext) b0 y0) (fun V0 H0 c0=>?_);obtain⟨rfl,e0⟩:=c0;have o:=H.join e0;refine rr 1 ?_;refine rn<|ci hm (fun hm=>?_) (fun hm=>?_)
 ·refine sq<|rg<|qt (qb) ?_;have p0:=o.bring 0 rfl;refine so (A:=[]) p0 0 (fun d1 Y=>?_);refine rr 1 ?_;refine rn<|rt ?_;cases hm;have q0:=Y.nilSl z6b 118;exact⟨_,.cons (ra ((Y.bring 0 rfl).box)) (.cons (.tmp rfl) .nil),none,0,rfl,(q0.taken 1)⟩
 ·refine sp<|sq<|rg ?_;obtain⟨S0,B0,hm⟩:=bS hm;refine ca znR (z9V (Ext.refl _) (ty36.ext (hE.trans o.ext) b0) ((o.bring 1 rfl).box) B0) (fun X0 e1 f0=>?_);obtain⟨J0,O0,K0,P0,rfl,O⟩:=f0;have q:=o.join O;refine rr 5 ?_;refine rn<|sq<|sq<|rg<|rr 4 ?_;refine rn<|ci hm (fun hm=>?_) (fun hm=>?_)
  ·refine sq<|rg<|qt (qb) ?_;have r0:=q.bring 2 rfl;refine so (A:=[]) r0 0 (fun f1 Z=>?_);refine rr 1 ?_;refine rn<|rt ?_;cases hm;have t0:=Z.nilSl z6b 118;exact⟨_,.cons (ra ((Z.bring 0 rfl).box)) (.cons (.tmp rfl) .nil),none,0,rfl,(t0.taken 1)⟩
  ·refine sp<|sq<|rg<|rr 2 ?_;obtain⟨T0,C0,hm⟩:=bS hm;refine ca zhL (z7O (Ext.refl _) (ty36.ext (hE.trans q.ext) b0) ((q.bring 3 rfl).box) C0) (fun Y0 g1 g0=>?_);obtain⟨L0,Q0,rfl,X⟩:=g0;have G:=q.join X;obtain⟨U0,D0,hm⟩:=bS hm;refine ca znQ (zcs (Ext.refl _) (roOf zjb (St.ownE2 (W0:=Base.of H0) (O.ext.trans X.ext) (G.bring 1 rfl))) ((G.bring 2 rfl).own) ((G.bring 0 rfl).own) D0) (fun a1 i1 i0=>?_);obtain⟨F0,G0,rfl,j0⟩:=i0;have u0:=G.join j0;have v0:=u0.bring 4 rfl;refine so (A:=[]) v0 0 (fun j1 a0=>?_);refine rr 1 ?_;refine rn<|rt ?_;cases hm;exact⟨_,.cons (ra ((a0.bring 0 rfl).box)) (.cons (.tmp rfl) .nil),F0,G0,rfl,((a0.bring 1 rfl).taken 1)⟩

end Go.E


