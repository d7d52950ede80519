/- Models of functions and proofs that the code runs as they say (written by program). Conditions: the model gives a value. -/
import Derived.Test.YtfndicpnccabkaaGreatFZ
import Derived.Test.YtfndicpnccabkaaGreatMixed
set_option linter.unusedVariables false
set_option linter.unusedSimpArgs false
namespace Go.E
open Go.RowKit Go.Proofs
set_option maxHeartbeats 2000000
set_option maxRecDepth 100000

theorem zuq:EN 110:=en Tryz.func110
def zch (fu:Nat)(t2:Int):Option Int:=some t2
def z52 (fu:Nat)(x0:LF)(s1:Int×Int):Option (Rd (Int×Int) (Int) (Int)):=(if(decide (s1.2<(x0.length:Int)))=true then((idx x0 s1.2).bind fun o=>(if(o.Qe != s1.1)=true then some (.ret (-1)) else((idx x0 s1.2).bind fun q=>(if(q.Qa2 != (w64 (s1.1+1)))=true then some (.ret (-1)) else some (.next (w64 ((w64 (s1.1+1))+1),w64 (s1.2+1))))))) else some (.brk s1.1))
def z7R (fu:Nat)(x0:LF)(x1:Int):Option (Int):=((iter (z52 fu x0) fu (x1,0)).bind fun o=>aft o (zch fu))

theorem laws_heldPortS_ok {W:Base}{w:World}(hE:Ext W w){H:Option Addr}{g0:Nat}{x0:LF}{x1:Int}(i0:z13.ro W [sl H x0 g0] x0){fu:Nat}{r:Int}(hm:z7R fu x0 x1=some r):
  CL 110 ⟨[sl H x0 g0,iv x1]⟩ w (RI w r):=by
 refine into Tryz.func110 31 _ ?_;unfold z7R at hm;have hS:=St.start w;refine sg<|rm 1 ?_;refine sq<|sg<|rm 1 ?_;obtain⟨r0,Z,hm⟩:=bS hm;refine ct (fun(t2:Int) F w9=>r0=.inl t2∧Ext w w9∧St w w9 []∧F=[(1,iv t2)]) ?_ ?_
 ·rintro t2 F w7 ⟨a0,t0,O,rfl⟩;subst a0;rw[z8] at hm;unfold zch at hm;refine sg<|rm 2 ?_;refine rt ?_;cases hm;exact⟨_,tR rfl,rfl,O⟩
 ·refine bk<|wk [0,1,5] ?_;refine it (fun(s1:Int×Int) F w9=>Ext w w9∧St w w9 []∧F=[(0,sl H x0 g0),(1,iv s1.1),(5,iv s1.2)]) Z ⟨(Ext.refl _),hS,rfl⟩ ?_;rintro s1 F A0 _ u0 ⟨j0,q,rfl⟩ o G;unfold z52 at o;refine sq<|sg<|rm 4 ?_;refine ci o (fun o=>?_) (fun o=>?_)
  ·refine sp<|sq<|bk<|sq<|sg<|rr 2 ?_;obtain⟨B0,e0,o⟩:=bS o;refine ix (hE.trans q.ext) i0 e0 (fun v0 p0 X b0=>?_);have k0:=z3e b0;subst k0;refine rr 1 ?_;refine l1 (ax hE q X) 0 ?_;refine rm 2 ?_;refine ci o (fun o=>?_) (fun o=>?_)
   ·refine sg<|rm 1 ?_;refine rt ?_;cases o;cases G;have hm:some _=some _:=hm;cases hm;exact⟨_,tR rfl,rfl,q⟩
   ·refine sp<|sg<|rm 3 ?_;refine sq<|sg<|rr 2 ?_;obtain⟨C0,f0,o⟩:=bS o;refine ix (hE.trans q.ext) i0 f0 (fun y0 q0 Y c0=>?_);have o0:=z3e c0;subst o0;refine rr 1 ?_;refine l1 (ax hE q Y) 1 ?_;refine rm 2 ?_;refine ci o (fun o=>?_) (fun o=>?_)
    ·refine sg<|rm 1 ?_;refine rt ?_;cases o;cases G;have hm:some _=some _:=hm;cases hm;exact⟨_,tR rfl,rfl,q⟩
    ·refine sp<|rg<|rm 3 ?_;refine rg<|rm 3 ?_;cases o;exact⟨_,_,rfl,⟨j0,q,rfl⟩,rfl⟩
  ·refine xt ?_;cases o;exact⟨_,_,⟨G,j0,q,rfl⟩,rfl⟩

theorem zwp:EN 49:=en Tryz.func49
def zbH (fu:Nat)(t2:Int):Option Int:=some t2
def z4f (fu:Nat)(x0:LA)(s1:Int×Int):Option (Rd (Int×Int) (Int) (Int)):=(if(decide (s1.2<(x0.length:Int)))=true then((idx x0 s1.2).bind fun G=>(if(G.Qi != s1.1)=true then some (.ret (-1)) else((idx x0 s1.2).bind fun H=>(if(H.QC != (w64 (s1.1+1)))=true then some (.ret (-1)) else((idx x0 s1.2).bind fun O=>(if(O.Value != (w64 ((w64 (s1.1+1))+1)))=true then some (.ret (-1)) else((idx x0 s1.2).bind fun X=>((z6Y fu X.Data (w64 ((w64 ((w64 (s1.1+1))+1))+1))).bind fun o=>(if(decide (o<0))=true then some (.ret (-1)) else((idx x0 s1.2).bind fun Y=>((z7R fu Y.Qy o).bind fun q=>(if(decide (q<0))=true then some (.ret (-1)) else some (.next (q,w64 (s1.2+1))))))))))))))) else some (.brk s1.1))
def z6Z (fu:Nat)(x0:LA)(x1:Int):Option (Int):=((iter (z4f fu x0) fu (x1,0)).bind fun o=>aft o (zbH fu))

theorem laws_heldAgentS_ok {W:Base}{w:World}(hE:Ext W w){a0:Option Addr}{G0:Nat}{x0:LA}{x1:Int}(O:ty28.ro W [sl a0 x0 G0] x0){fu:Nat}{r:Int}(hm:z6Z fu x0 x1=some r):
  CL 49 ⟨[sl a0 x0 G0,iv x1]⟩ w (RI w r):=by
 refine into Tryz.func49 58 _ ?_;unfold z6Z at hm;have hS:=St.start w;refine sg<|rm 1 ?_;refine sq<|sg<|rm 1 ?_;obtain⟨V0,o0,hm⟩:=bS hm;refine ct (fun(t2:Int) F w9=>V0=.inl t2∧Ext w w9∧St w w9 []∧F=[(1,iv t2)]) ?_ ?_
 ·rintro t2 F w7 ⟨p0,B1,e0,rfl⟩;subst p0;rw[z8] at hm;unfold zbH at hm;refine sg<|rm 2 ?_;refine rt ?_;cases hm;exact⟨_,tR rfl,rfl,e0⟩
 ·refine bk<|wk [0,1,5] ?_;refine it (fun(s1:Int×Int) F w9=>Ext w w9∧St w w9 []∧F=[(0,sl a0 x0 G0),(1,iv s1.1),(5,iv s1.2)]) o0 ⟨(Ext.refl _),hS,rfl⟩ ?_;rintro s1 F X1 _ N1 ⟨H0,q,rfl⟩ o G;unfold z4f at o;refine sq<|sg<|rm 4 ?_;refine ci o (fun o=>?_) (fun o=>?_)
  ·refine sp<|sq<|bk<|sq<|sg<|rr 2 ?_;obtain⟨b2,y0,o⟩:=bS o;refine ix (hE.trans q.ext) O y0 (fun O1 O0 f0 q0=>?_);obtain⟨X0,C1,Y0,D1,J0,m1,n1⟩:=z1m q0;subst J0;refine rr 1 ?_;refine l1 (ax hE q f0) 0 ?_;refine rm 2 ?_;refine ci o (fun o=>?_) (fun o=>?_)
   ·refine sg<|rm 1 ?_;refine rt ?_;cases o;cases G;have hm:some _=some _:=hm;cases hm;exact⟨_,tR rfl,rfl,q⟩
   ·refine sp<|sg<|rm 3 ?_;refine sq<|sg<|rr 2 ?_;obtain⟨d2,A0,o⟩:=bS o;refine ix (hE.trans q.ext) O A0 (fun P1 P0 g0 r0=>?_);obtain⟨a1,E1,b1,F1,K0,p1,t1⟩:=z1m r0;subst K0;refine rr 1 ?_;refine l1 (ax hE q g0) 1 ?_;refine rm 2 ?_;refine ci o (fun o=>?_) (fun o=>?_)
    ·refine sg<|rm 1 ?_;refine rt ?_;cases o;cases G;have hm:some _=some _:=hm;cases hm;exact⟨_,tR rfl,rfl,q⟩
    ·refine sp<|sg<|rm 3 ?_;refine sq<|sg<|rr 2 ?_;obtain⟨e2,B0,o⟩:=bS o;refine ix (hE.trans q.ext) O B0 (fun Q1 Q0 i0 t0=>?_);obtain⟨d1,G1,e1,H1,L0,u1,v1⟩:=z1m t0;subst L0;refine rr 1 ?_;refine l1 (ax hE q i0) 2 ?_;refine rm 2 ?_;refine ci o (fun o=>?_) (fun o=>?_)
     ·refine sg<|rm 1 ?_;refine rt ?_;cases o;cases G;have hm:some _=some _:=hm;cases hm;exact⟨_,tR rfl,rfl,q⟩
     ·refine sp<|sg<|rm 3 ?_;refine sg<|rr 2 ?_;obtain⟨f2,C0,o⟩:=bS o;refine ix (hE.trans q.ext) O C0 (fun R1 R0 j0 u0=>?_);obtain⟨f1,J1,g1,K1,M0,T0,y1⟩:=z1m u0;subst M0;refine rr 1 ?_;refine l1 (ax hE q j0) 3 ?_;refine rr 1 ?_;obtain⟨T1,D0,o⟩:=bS o;refine ca zw9 (laws_heldInt64S_ok (hE.trans q.ext) T0 D0) (fun V1 Y1 b0=>?_);obtain⟨rfl,X⟩:=b0;have H:=q.join X;refine rm 1 ?_;refine sq<|sg<|rm 2 ?_;refine ci o (fun o=>?_) (fun o=>?_)
      ·refine sg<|rm 1 ?_;refine rt ?_;cases o;cases G;have hm:some _=some _:=hm;cases hm;exact⟨_,tR rfl,rfl,H⟩
      ·refine sp<|sg<|rr 2 ?_;obtain⟨g2,E0,o⟩:=bS o;refine ix (hE.trans H.ext) O E0 (fun S1 S0 k0 v0=>?_);obtain⟨i1,L1,j1,M1,N0,A1,U0⟩:=z1m v0;subst N0;refine rr 1 ?_;refine l1 (ax hE H k0) 4 ?_;refine rr 1 ?_;obtain⟨U1,F0,o⟩:=bS o;refine ca zuq (laws_heldPortS_ok (hE.trans H.ext) U0 F0) (fun W1 a2 c0=>?_);obtain⟨rfl,Y⟩:=c0;have Z:=H.join Y;refine rm 1 ?_;refine sg<|rm 2 ?_;refine ci o (fun o=>?_) (fun o=>?_)
       ·refine sg<|rm 1 ?_;refine rt ?_;cases o;cases G;have hm:some _=some _:=hm;cases hm;exact⟨_,tR rfl,rfl,Z⟩
       ·refine sp<|rg<|rm 3 ?_;cases o;exact⟨_,_,rfl,⟨((H0.trans X.ext).trans Y.ext),Z,rfl⟩,rfl⟩
  ·refine xt ?_;cases o;exact⟨_,_,⟨G,H0,q,rfl⟩,rfl⟩

theorem zqg:EN 15:=en Tryz.func15
def z81 (fu:Nat)(x0:QV)(x1:Int):Option (Int):=((z6Z fu x0.QG x1).bind fun o=>(if(decide (o<0))=true then some (-1) else some o))

theorem laws_heldNet_ok {W:Base}{w:World}(hE:Ext W w){X:List Value}{x0:QV}{x1:Int}(Y:ty30.ro W X x0){fu:Nat}{r:Int}(hm:z81 fu x0 x1=some r):
  CL 15 ⟨[.agg ⟨X⟩,iv x1]⟩ w (RI w r):=by
 obtain⟨A1,k2,e4,h3⟩:=z48 Y;subst e4;refine into Tryz.func15 12 _ ?_;unfold z81 at hm;have hS:=St.start w;refine sg<|nw hS (fun g5 w6 e7 o=>?_);refine rm 1 ?_;refine sg<|rr 1 ?_;refine l1 ((o.b 0 rfl).box) 0 ?_;refine rr 1 ?_;obtain⟨Z,O,hm⟩:=bS hm;refine ca zwp (laws_heldAgentS_ok (hE.trans o.ext) h3 O) (fun a0 b0 G=>?_);obtain⟨rfl,H⟩:=G;have q:=o.join H;refine rm 1 ?_;refine sq<|sg<|rm 2 ?_;refine ci hm (fun hm=>?_) (fun hm=>?_)
 ·refine sg<|rm 1 ?_;refine rt ?_;cases hm;exact⟨_,tR rfl,rfl,(q.t 0)⟩
 ·refine sp<|sg<|rm 2 ?_;refine rt ?_;cases hm;exact⟨_,tR rfl,rfl,(q.t 0)⟩

end Go.E



