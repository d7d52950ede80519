/- Models of functions and proofs that the code runs as they say (written by program). Conditions: the model gives a value. -/
import Derived.Test.YtfndicpnccabkaaGreatFY
import Derived.Test.YtfndicpnccabkaaGreatMixed
set_option linter.unusedVariables false
set_option linter.unusedSimpArgs false
namespace Go.E
open Go.RowKit Go.Proofs
set_option maxHeartbeats 2000000
set_option maxRecDepth 100000

theorem zwm:EN 53:=en Tryz.func53
def zba (fu:Nat)(x0:Qv):Option (Bool):=((z7D fu x0).bind fun q=>(if(!q)=true then some false else((z6C fu x0).bind fun o=>(if o.2=true then((z5q fu x0.Qk o.1).bind fun G=>some G) else some false))))

theorem zkY {W:Base}{w:World}(hE:Ext W w){j0:Addr}{i0:List Value}{x0:Qv}(H:ty52.ro W i0 x0)(G:At W j0 i0){fu:Nat}{r:Bool}(hm:zba fu x0=some r):
  CL 53 ⟨[.pointer (some j0)]⟩ w (RB w r):=by
 obtain⟨A1,k2,A4,k5,A7,F0,p0,G0,q0,H0,k0,h3,h6,C0,D0,E0⟩:=z7A H;subst k0;refine into Tryz.func53 21 _ ?_;unfold zba at hm;have hS:=St.start w;refine sg<|rm 1 ?_;refine sq<|sg<|rr 1 ?_;obtain⟨P0,e0,hm⟩:=bS hm;refine ca zuo (zgA (hE.trans hS.ext) H G e0) (fun R0 U0 O=>?_);obtain⟨rfl,X⟩:=O;have q:=hS.join X;refine rm 1 ?_;refine ci hm (fun hm=>?_) (fun hm=>?_)
 ·refine sg<|rm 1 ?_;refine rt ?_;cases hm;exact⟨_,tR rfl,rfl,q⟩
 ·refine sp<|sg<|rr 1 ?_;obtain⟨o0,f0,hm⟩:=bS hm;refine ca zof (zdZ (hE.trans q.ext) H G f0) (fun S0 V0 Y=>?_);obtain⟨B0,r0,J0,t0,K0,u0,L0,v0,M0,y0,N0,A0,O0,rfl,Z⟩:=Y;have o:=q.join Z;refine rm 5 ?_;refine sg<|rr 2 ?_;refine rb 14 hm (fun hm=>?_) (fun hm=>?_)
  ·refine rr 4 ?_;obtain⟨Q0,g0,hm⟩:=bS hm;refine ca zw6 (zgE (Ext.refl _) (z6x x0.Qk (ty33.ext (hE.trans o.ext) h3)) (At.sub (ax hE o G) 0 4) (zbT o0.1 ((o.b 1 rfl).own) ((o.b 2 rfl).own) ((o.b 3 rfl).own) ((o.b 4 rfl).own) ((o.b 5 rfl).own) ((o.b 6 rfl).own)) ((o.b 0 rfl).box) g0) (fun T0 X0 a0=>?_);obtain⟨rfl,b0⟩:=a0;have c0:=o.join b0;refine rm 2 ?_;refine rt ?_;cases hm;exact⟨_,tR rfl,rfl,(c0.t 0)⟩
  ·refine rm 7 ?_;refine rt ?_;cases hm;exact⟨_,tR rfl,rfl,(o.t 0)⟩

theorem zwk:EN 54:=en Tryz.func54
def z8b (fu:Nat)(x0:Qv):Option (QV×Int):=((z6C fu x0).bind fun q=>((za1 fu q.1).bind fun o=>some (o.1,o.2.1)))

theorem zfp {W:Base}{w:World}(hE:Ext W w){f0:Addr}{c0:List Value}{x0:Qv}(e0:ty52.ro W c0 x0)(j0:At W f0 c0){fu:Nat}{r:QV×Int}(hm:z8b fu x0=some r):
  CL 54 ⟨[.pointer (some f0)]⟩ w (Ret fun v w8=>∃ A0 k0,v=.tuple ⟨[.agg ⟨[sl A0 r.1.QG k0]⟩,iv r.2]⟩∧St w w8 [ow ty28 A0 r.1.QG k0]):=by
 obtain⟨A1,k2,A4,k5,A7,Q0,q0,R0,r0,S0,i0,h3,h6,N0,O0,P0⟩:=z7A e0;subst i0;refine into Tryz.func54 15 _ ?_;unfold z8b at hm;have hS:=St.start w;refine sg<|nw hS (fun L0 p1 K0 o=>?_);refine rm 1 ?_;refine sg<|rr 1 ?_;obtain⟨p0,a0,hm⟩:=bS hm;refine ca zof (zdZ (hE.trans o.ext) e0 j0 a0) (fun m1 s1 G=>?_);obtain⟨M0,t0,T0,u0,U0,v0,V0,y0,X0,B0,Y0,C0,a1,rfl,H⟩:=G;have X:=o.join H;refine rm 5 ?_;refine sg<|rr 1 ?_;obtain⟨j1,b0,hm⟩:=bS hm;refine ca zwx (zjU (W:=w) (RR:=_) (x0:=p0.1) X  b0) (fun n1 t1 O=>?_);obtain⟨g0,o0,D0,b1,E0,d1,F0,e1,G0,f1,H0,g1,J0,i1,rfl,Y⟩:=O;refine rr 2 ?_;have Z:=Y.b 8 rfl;refine so (A:=[]) Z 0 (fun u1 q=>?_);refine rm 1 ?_;refine rt ?_;cases hm;exact⟨_,.cons (ra ((q.b 0 rfl).box)) (tR rfl),g0,o0,rfl,((q.b 1 rfl).t 1)⟩

theorem zwD:EN 17:=en Tryz.func17
def z2Y (fu:Nat)(x0:Qv):Option (QV×Int):=((zba fu x0).bind fun q=>(if(!q)=true then some ((⟨[]⟩:QV),1) else((z8b fu x0).bind fun o=>some (o.1,o.2))))

theorem zdF {W:Base}{w:World}(hE:Ext W w){o0:List Value}{x0:Qv}(O:ty52.ro W o0 x0){fu:Nat}{r:QV×Int}(hm:z2Y fu x0=some r):
  CL 17 ⟨[.agg ⟨o0⟩]⟩ w (Ret fun v w8=>∃ A0 k0,v=.tuple ⟨[.agg ⟨[sl A0 r.1.QG k0]⟩,iv r.2]⟩∧St w w8 [ow ty28 A0 r.1.QG k0]):=by
 obtain⟨A1,k2,A4,k5,A7,G0,t0,H0,u0,J0,q0,h3,h6,D0,E0,F0⟩:=z7A O;subst q0;refine into Tryz.func17 10 _ ?_;unfold z2Y at hm;have hS:=St.start w;refine sg<|nw hS (fun B0 O0 v0 b0=>?_);refine nw b0 (fun C0 P0 y0 q=>?_);refine rm 1 ?_;refine sq<|sq<|rg ?_;obtain⟨K0,i0,hm⟩:=bS hm;refine ca zwm (zkY (Ext.refl _) (ty52.ext (hE.trans q.ext) O) ((q.b 1 rfl).box) i0) (fun M0 Q0 X=>?_);obtain⟨rfl,Y⟩:=X;have o:=q.join Y;refine rm 1 ?_;refine ci hm (fun hm=>?_) (fun hm=>?_)
 ·refine sg<|qt (qb) ?_;have c0:=o.b 0 rfl;refine so (A:=[]) c0 0 (fun R0 G=>?_);refine rm 1 ?_;refine rt ?_;cases hm;have e0:=G.nilSl z8n 118;exact⟨_,.cons (ra ((G.b 0 rfl).box)) (tR rfl),none,0,rfl,(e0.t 1)⟩
 ·refine sp<|sq<|rg ?_;obtain⟨L0,j0,hm⟩:=bS hm;refine ca zwk (zfp (Ext.refl _) (ty52.ext (hE.trans o.ext) O) ((o.b 1 rfl).box) j0) (fun N0 S0 Z=>?_);obtain⟨p0,r0,rfl,a0⟩:=Z;have f0:=o.join a0;refine rr 2 ?_;have g0:=f0.b 1 rfl;refine so (A:=[]) g0 0 (fun T0 H=>?_);refine rm 1 ?_;refine rt ?_;cases hm;exact⟨_,.cons (ra ((H.b 0 rfl).box)) (tR rfl),p0,r0,rfl,((H.b 1 rfl).t 1)⟩

end Go.E



