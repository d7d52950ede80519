/- Models of functions and proofs that the code runs as they say (written by program). Conditions: the model gives a value. -/
import Derived.Test.YtfndicpnccabkaaGreatQB
import Derived.Test.YtfndicpnccabkaaGreatFC
set_option linter.unusedVariables false
set_option linter.unusedSimpArgs false
namespace Go.E
open Go.RowKit Go.Proofs
set_option maxHeartbeats 2000000
set_option maxRecDepth 100000

theorem znT:EN 238:=en Tryz.func238
def z7a (fu:Nat)(x0:Int):Option (Bool):=some (x0 != x0)

theorem zcV {W:Base}{w:World}(hE:Ext W w){x0:Int}  {fu:Nat}{r:Bool}(hm:z7a fu x0=some r):
  CL 238 ⟨[iv x0]⟩ w (RB w r):=by
 refine into Tryz.func238 6 _ ?_;unfold z7a at hm;have hS:=St.start w;refine sg<|rm 1 ?_;refine sg<|rm 4 ?_;refine rt ?_;cases hm;exact⟨_,tR rfl,rfl,hS⟩

theorem znY:EN 208:=en Tryz.func208
def z3k (fu:Nat)(x0:Int)(x1:Int):Option (Int):=((z7a fu x0).bind fun r1=>((z7a fu x1).bind fun o=>(if r1=true then(if o=true then some 0 else some (-1)) else(if o=true then some 1 else(if(decide (x0<x1))=true then some (-1) else(if(decide (x0>x1))=true then some 1 else some 0))))))

theorem zbM {W:Base}{w:World}(hE:Ext W w){x0:Int}{x1:Int}  {fu:Nat}{r:Int}(hm:z3k fu x0 x1=some r):
  CL 208 ⟨[iv x0,iv x1]⟩ w (RI w r):=by
 refine into Tryz.func208 20 _ ?_;unfold z3k at hm;have hS:=St.start w;refine sg<|rm 1 ?_;refine sg<|rr 1 ?_;obtain⟨r1,Z,hm⟩:=bS hm;refine ca znT (zcV (hE.trans hS.ext)  Z) (fun v3 w4 X=>?_);obtain⟨rfl,Y⟩:=X;have O:=hS.join Y;refine rm 1 ?_;refine sg<|rr 1 ?_;obtain⟨a0,H,hm⟩:=bS hm;refine ca znT (zcV (hE.trans O.ext)  H) (fun b0 c0 q=>?_);obtain⟨rfl,G⟩:=q;have o:=O.join G;refine rm 1 ?_;refine sq<|sg<|rm 1 ?_;refine ci hm (fun hm=>?_) (fun hm=>?_)
 ·refine sq<|sg<|rm 1 ?_;refine ci hm (fun hm=>?_) (fun hm=>?_)
  ·refine sg<|rm 1 ?_;refine rt ?_;cases hm;exact⟨_,tR rfl,rfl,o⟩
  ·refine sp<|sg<|rm 1 ?_;refine rt ?_;cases hm;exact⟨_,tR rfl,rfl,o⟩
 ·refine sp<|sq<|sg<|rm 1 ?_;refine ci hm (fun hm=>?_) (fun hm=>?_)
  ·refine sg<|rm 1 ?_;refine rt ?_;cases hm;exact⟨_,tR rfl,rfl,o⟩
  ·refine sp<|sq<|sg<|rm 3 ?_;refine ci hm (fun hm=>?_) (fun hm=>?_)
   ·refine sg<|rm 1 ?_;refine rt ?_;cases hm;exact⟨_,tR rfl,rfl,o⟩
   ·refine sp<|sq<|sg<|rm 3 ?_;refine ci hm (fun hm=>?_) (fun hm=>?_)
    ·refine sg<|rm 1 ?_;refine rt ?_;cases hm;exact⟨_,tR rfl,rfl,o⟩
    ·refine sp<|sg<|rm 1 ?_;refine rt ?_;cases hm;exact⟨_,tR rfl,rfl,o⟩

theorem znZ:EN 207:=en Tryz.func207
def z1L (fu:Nat)(x0:L9)(x1:L9)(t2:Unit):Option Int:=(if(decide ((x0.length:Int)<(x1.length:Int)))=true then some (-1) else some 0)
def z1h (fu:Nat)(x0:L9)(x1:L9)(s1:Int):Option (Rd (Int) (Unit) (Int)):=(if(decide (s1<(x0.length:Int)))=true then((idx x0 s1).bind fun q=>(if(decide (s1≥(x1.length:Int)))=true then some (.ret 1) else((idx x1 s1).bind fun G=>((z3k fu q G).bind fun o=>(if(o != 0)=true then some (.ret o) else some (.next (w64 (s1+1)))))))) else some (.brk ()))
def z16 (fu:Nat)(x0:L9)(x1:L9):Option (Int):=((iter (z1h fu x0 x1) fu 0).bind fun o=>aft o (z1L fu x0 x1))

theorem z7C {W:Base}{w:World}(hE:Ext W w){H:Option Addr}{Z:Nat}{x0:L9}{a0:Option Addr}{b0:Nat}{x1:L9}(v0:ty45.ro W [sl H x0 Z] x0)(y0:ty45.ro W [sl a0 x1 b0] x1){fu:Nat}{r:Int}(hm:z16 fu x0 x1=some r):
  CL 207 ⟨[sl H x0 Z,sl a0 x1 b0]⟩ w (RI w r):=by
 refine into Tryz.func207 36 _ ?_;unfold z16 at hm;have hS:=St.start w;refine sg<|rm 1 ?_;refine sq<|sg<|rm 3 ?_;obtain⟨A0,g0,hm⟩:=bS hm;refine ct (fun(t2:Unit) F w9=>A0=.inl t2∧Ext w w9∧St w w9 []∧F=[(0,sl H x0 Z),(1,sl a0 x1 b0)]) ?_ ?_
 ·rintro t2 F w7 ⟨i0,B0,X,rfl⟩;subst i0;rw[z8] at hm;unfold z1L at hm;refine sq<|sg<|rm 5 ?_;refine ci hm (fun hm=>?_) (fun hm=>?_)
  ·refine sg<|rm 1 ?_;refine rt ?_;cases hm;exact⟨_,tR rfl,rfl,X⟩
  ·refine sp<|sg<|rm 1 ?_;refine rt ?_;cases hm;exact⟨_,tR rfl,rfl,X⟩
 ·refine bk<|wk [0,1,9,10,11] ?_;refine it (fun(s1:Int) F w9=>Ext w w9∧St w w9 []∧F=[(0,sl H x0 Z),(1,sl a0 x1 b0),(9,sl H x0 Z),(10,iv (x0.length:Int)),(11,iv s1)]) g0 ⟨(Ext.refl _),hS,rfl⟩ ?_;rintro s1 F H0 _ C0 ⟨r0,q,rfl⟩ o G;unfold z1h at o;refine sg<|rm 1 ?_;refine sq<|ci o (fun o=>?_) (fun o=>?_)
  ·refine sp<|sq<|bk<|sg<|rr 1 ?_;obtain⟨K0,o0,o⟩:=bS o;refine ix (hE.trans q.ext) v0 o0 (fun D0 t0 e0 j0=>?_);cases j0;refine l1 (ax hE q e0) 0 ?_;refine rm 2 ?_;refine sq<|sg<|rm 4 ?_;refine ci o (fun o=>?_) (fun o=>?_)
   ·refine sg<|rm 1 ?_;refine rt ?_;cases o;cases G;have hm:some _=some _:=hm;cases hm;exact⟨_,tR rfl,rfl,q⟩
   ·refine sp<|sg<|rr 2 ?_;obtain⟨L0,p0,o⟩:=bS o;refine ix (hE.trans q.ext) y0 p0 (fun E0 u0 f0 k0=>?_);cases k0;refine l1 (ax hE q f0) 0 ?_;refine rm 1 ?_;refine sg<|rr 2 ?_;obtain⟨F0,q0,o⟩:=bS o;refine ca znY (zbM (hE.trans q.ext)  q0) (fun G0 J0 c0=>?_);obtain⟨rfl,O⟩:=c0;have Y:=q.join O;refine rm 1 ?_;refine sg<|rm 2 ?_;refine ci o (fun o=>?_) (fun o=>?_)
    ·refine sg<|rm 2 ?_;refine rt ?_;cases o;cases G;have hm:some _=some _:=hm;cases hm;exact⟨_,tR rfl,rfl,Y⟩
    ·refine sp<|rg<|rm 2 ?_;cases o;exact⟨_,_,rfl,⟨(r0.trans O.ext),Y,rfl⟩,rfl⟩
  ·refine xt ?_;cases o;exact⟨_,_,⟨G,r0,q,rfl⟩,rfl⟩

theorem ztA:EN 203:=en Tryz.func203
def z8k (fu:Nat)(o:L9×L9×Int):Option QB:=some (⟨o.1,o.2.1,o.2.2⟩:QB)
def z17 (fu:Nat)(q:Int×L9×L9×Int)(o:L9×L9×Int):Option (Rd (Int×L9×L9×Int) (L9×L9×Int) (QB)):=some (.next (w64 (q.1+1),o.1,o.2.1,o.2.2))
def z18 (fu:Nat)(x1:L9)(o:Int×L9×L9×Int)(q:L9)(G:L9)(H:Bool):Option (Rd (Int×L9×L9×Int) (L9×L9×Int) (QB)):=(if H=true then((idx x1 0).bind fun O=>(if(!q.isEmpty)=true then z17 fu o (q,G,O) else none)) else z17 fu o (o.2.1,o.2.2.1,o.2.2.2))
def z19 (fu:Nat)(x0:QV)(x1:L9)(o:Int×L9×L9×Int):Option (Rd (Int×L9×L9×Int) (L9×L9×Int) (QB)):=(if(decide (o.1<(x1.length:Int)))=true then((idx x1 o.1).bind fun O=>((z2o fu x0 O).bind fun q=>((z8R fu x0 q).bind fun G=>(if o.2.1.isEmpty=true then z18 fu x1 o q G true else((z16 fu G o.2.2.1).bind fun H=>z18 fu x1 o q G (decide (H<0))))))) else some (.brk (o.2.1,o.2.2.1,o.2.2.2)))
def z20 (fu:Nat)(x0:QV)(x1:L9):Option (QB):=((iter (z19 fu x0 x1) fu (0,[],[],0)).bind fun o=>aft o (z8k fu))

theorem zcy {W:Base}{w:World}(hE:Ext W w){v0:Addr}{C1:List Value}{x0:QV}{Z:Option Addr}{c0:Nat}{x1:L9}(L0:ty30.ro W C1 x0)(D1:At W v0 C1)(E1:ty45.ro W [sl Z x1 c0] x1){fu:Nat}{r:QB}(hm:z20 fu x0 x1=some r):
  CL 203 ⟨[.pointer (some v0),sl Z x1 c0]⟩ w (Ret fun v w8=>∃ A0 k0 A1 k1,v=.agg ⟨[sl A0 r.QS k0,sl A1 r.code k1,iv r.Qa1]⟩∧St w w8 [ow ty45 A0 r.QS k0,ow ty45 A1 r.code k1]):=by
 obtain⟨A1,k2,e4,h3⟩:=z48 L0;subst e4;refine into Tryz.func203 40 _ ?_;unfold z20 at hm;have hS:=St.start w;refine sg<|nw hS (fun g5 w6 e7 R0=>?_);refine rn<|sg<|nw R0 (fun a0 X1 R1 S0=>?_);refine rn<|sq<|sg<|rm 3 ?_;obtain⟨L1,f1,hm⟩:=bS hm;refine ct (fun(f0:L9×L9×Int) F w9=>∃ o0 C0 y0 D0,L1=.inl f0∧(f0.1=[]→o0=none)∧St w w9 [ow ty45 o0 f0.1 C0,ow ty45 y0 f0.2.1 D0,Box a0 [sl o0 f0.1 C0,sl y0 f0.2.1 D0,iv f0.2.2] 283,Box g5 [.slice none 0 0,.slice none 0 0,iv 0] 283]∧F=[(4,.pointer (some ⟨g5,0,none⟩)),(5,.pointer (some ⟨a0,0,none⟩))]) ?_ ?_
 ·rintro f0 F Y1 ⟨o0,C0,y0,D0,g1,S1,t0,rfl⟩;subst g1;rw[z8] at hm;unfold z8k at hm;refine sg<|lN ((t0.b 2 rfl).box) ?_;have T0:=t0.b 3 rfl;refine so (A:=[]) T0 0 (fun a2 u0=>?_);refine rn<|rt ?_;cases hm;exact⟨_,.cons (ra ((u0.b 0 rfl).box)) .nil,o0,C0,y0,D0,rfl,(((u0.b 2 rfl).b 2 rfl).t 2)⟩
 ·refine bk ?_;have U0:=S0.nilSl z2z 2;have V0:=U0.nilSl z2z 2;refine wk [0,1,4,5,10,11,12] ?_;refine it (fun(q:Int×L9×L9×Int) F w9=>∃ O e0 i0 j0,(q.2.1=[]→O=none)∧St w w9 [ow ty45 O q.2.1 e0,ow ty45 i0 q.2.2.1 j0,Box a0 [sl O q.2.1 e0,sl i0 q.2.2.1 j0,iv q.2.2.2] 283,Box g5 [.slice none 0 0,.slice none 0 0,iv 0] 283]∧F=[(0,.pointer (some v0)),(1,sl Z x1 c0),(4,.pointer (some ⟨g5,0,none⟩)),(5,.pointer (some ⟨a0,0,none⟩)),(10,sl Z x1 c0),(11,iv (x1.length:Int)),(12,iv q.1)]) f1 ⟨none,0,none,0,(fun _=>rfl),(V0.sel [1,0,2,3]),rfl⟩ ?_;rintro q F b2 _ F1 ⟨O,e0,i0,j0,M0,H,rfl⟩ o i1;unfold z19 at o;refine sg<|rm 1 ?_;refine sq<|ci o (fun o=>?_) (fun o=>?_)
  ·refine sp<|sq<|bk<|sq<|rg ?_;obtain⟨i2,n1,o⟩:=bS o;refine ix (hE.trans H.ext) E1 n1 (fun T1 G1 b1 j1=>?_);cases j1;refine l1 (ax hE H b1) 0 ?_;refine rm 1 ?_;refine sg<|rr 2 ?_;obtain⟨G0,p1,o⟩:=bS o;refine ca zjo (z9a (hE.trans H.ext) L0 D1 p1) (fun V1 d2 N0=>?_);obtain⟨J0,v1,rfl,O0⟩:=N0;have X:=H.join O0;refine rm 1 ?_;refine sg<|rr 2 ?_;obtain⟨H0,s1,o⟩:=bS o;refine ca zta (zhG (Ext.refl _) (ty30.ext (hE.trans X.ext) L0) (ax hE X D1) ((X.b 0 rfl).own) s1) (fun W1 P1 P0=>?_);obtain⟨K0,y1,rfl,Q0⟩:=P0;have G:=X.join Q0;refine rm 1 ?_;refine sq<|ct (fun(B1:Bool) F w9=>z18 fu x1 q G0 H0 B1=some F1∧Ext P1 w9∧St w w9 [ow ty45 K0 H0 y1,ow ty45 J0 G0 v1,ow ty45 O q.2.1 e0,ow ty45 i0 q.2.2.1 j0,Box a0 [sl O q.2.1 e0,sl i0 q.2.2.1 j0,iv q.2.2.2] 283,Box g5 [.slice none 0 0,.slice none 0 0,iv 0] 283]∧F=[(0,.pointer (some v0)),(1,sl Z x1 c0),(4,.pointer (some ⟨g5,0,none⟩)),(5,.pointer (some ⟨a0,0,none⟩)),(8,sl J0 G0 v1),(9,sl K0 H0 y1),(10,sl Z x1 c0),(11,iv (x1.length:Int)),(12,iv q.1),(31,.bool B1)]) ?_ ?_
   ·rintro B1 F e2 ⟨o,K1,Y,rfl⟩;unfold z18 at o;refine ct (fun(g0:L9×L9×Int) F w9=>∃ p0 E0 B0 F0,z17 fu q g0=some F1∧(g0.1=[]→p0=none)∧St w w9 [ow ty45 p0 g0.1 E0,ow ty45 B0 g0.2.1 F0,Box a0 [sl p0 g0.1 E0,sl B0 g0.2.1 F0,iv g0.2.2] 283,Box g5 [.slice none 0 0,.slice none 0 0,iv 0] 283]∧F=[(0,.pointer (some v0)),(1,sl Z x1 c0),(4,.pointer (some ⟨g5,0,none⟩)),(5,.pointer (some ⟨a0,0,none⟩)),(10,sl Z x1 c0),(11,iv (x1.length:Int)),(12,iv q.1)]) ?_ ?_
    ·rintro g0 F f2 ⟨p0,E0,B0,F0,o,J1,X0,rfl⟩;unfold z17 at o;refine rg<|rm 2 ?_;cases o;exact⟨_,_,rfl,⟨p0,E0,B0,F0,J1,X0,rfl⟩,rfl⟩
    ·refine ci o (fun o=>?_) (fun o=>?_)
     ·refine rg<|rr 3 ?_;obtain⟨Q1,t1,o⟩:=bS o;refine ix (hE.trans Y.ext) E1 t1 (fun U1 H1 d1 m1=>?_);cases m1;refine l1 (ax hE Y d1) 0 ?_;refine qt (qb) ?_;have Y0:=Y.b 4 rfl;refine so (A:=[]) Y0 0 (fun g2 a1=>?_);obtain⟨e1,o⟩:=iS o;refine rn ?_;exact⟨(G0,H0,Q1),_,⟨J0,v1,K0,y1,o,(fun h9=>absurd h9 (zxJ e1)),(a1.sel [2,1,0,5]),rfl⟩,rfl⟩
     ·refine sp ?_;exact⟨(q.2.1,q.2.2.1,q.2.2.2),_,⟨O,e0,i0,j0,o,M0,(Y.sel [2,3,4,5]),rfl⟩,rfl⟩
   ·refine rg<|rr 1 ?_;refine l1 ((G.b 4 rfl).box) 0 ?_;refine qt (Quiet.sliceNil ttok (zvM (e:=2) (U:=z2z) (show ty45.ro _ [.slice O q.2.1.length e0] q.2.1 from((G.b 2 rfl).own)) M0) rfl rfl rfl rfl rfl) ?_;refine rr 1 ?_;refine rb 25 o (fun o=>?_) (fun o=>?_)
    ·refine rm 6 ?_;exact⟨true,_,⟨o,(Ext.refl _),G,rfl⟩,rfl⟩
    ·refine rr 2 ?_;refine l1 ((G.b 4 rfl).box) 1 ?_;obtain⟨M1,u1,o⟩:=bS o;refine ca znZ (z7C (Ext.refl _) ((G.b 0 rfl).own) ((G.b 3 rfl).own) u1) (fun N1 O1 q0=>?_);obtain⟨rfl,b0⟩:=q0;have r0:=G.join b0;refine rm 2 ?_;exact⟨decide (M1<0),_,⟨o,b0.ext,r0,rfl⟩,rfl⟩
  ·refine xt ?_;cases o;exact⟨_,_,⟨O,e0,i0,j0,i1,M0,H,rfl⟩,rfl⟩

end Go.E



