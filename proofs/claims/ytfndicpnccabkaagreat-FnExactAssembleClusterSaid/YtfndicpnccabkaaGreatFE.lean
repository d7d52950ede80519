/- Models of functions and proofs that the code runs as they say (written by program). Conditions: the model gives a value. -/
import Derived.Test.YtfndicpnccabkaaGreatQB
import Derived.Test.YtfndicpnccabkaaGreatFD
set_option linter.unusedVariables false
set_option linter.unusedSimpArgs false
namespace Go.E
open Go.RowKit Go.Proofs
set_option maxHeartbeats 2000000
set_option maxRecDepth 100000

theorem ztB:EN 202:=en Tryz.func202
def z9M (fu:Nat)(o:LO):Option LO:=some o
def z2s (fu:Nat)(q:LO×Int×LJ)(o:LO×LJ):Option (Rd (LO×Int×LJ) LO LO):=some (.next (o.1,w64 (q.2.1+1),o.2))
def z75 (fu:Nat)(o:LO×Int×LJ)(G:L9)(H:LJ):Option (Rd (LO×Int×LJ) LO LO):=((z3n fu G).bind fun q=>(if decide ((o.1.length:Int)+(([q]:LO).length:Int)≤4294967296)=true then z2s fu o ((o.1++([q]:LO)),H) else none))
def z78 (fu:Nat)(G:L9)(o:Int×LJ):Option (Rd (Int×LJ) LJ (Rd (LO×Int×LJ) LO LO)):=(if(decide (o.1<(G.length:Int)))=true then((idx G o.1).bind fun q=>(if decide (0≤q∧q.toNat<o.2.length)=true then some (.next (w64 (o.1+1),(o.2.set q.toNat true))) else none)) else some (.brk o.2))
def z2t (fu:Nat)(x0:QV)(q:LO×Int×LJ):Option (Rd (LO×Int×LJ) LO LO):=(if(decide (q.2.1<(x0.QG.length:Int)))=true then((idx q.2.2 q.2.1).bind fun H=>(if H=true then z2s fu q (q.1,q.2.2) else((z2o fu x0 q.2.1).bind fun G=>((iter (z78 fu G) fu (0,q.2.2)).bind fun o=>aft o (z75 fu q G))))) else some (.brk q.1))
def z3B (fu:Nat)(x0:QV):Option LO:=(if decide (0≤(x0.QG.length:Int)∧(x0.QG.length:Int)≤4294967296)=true then((iter (z2t fu x0) fu ([],0,(List.replicate (x0.QG.length:Int).toNat false))).bind fun o=>aft o (z9M fu)) else none)

theorem ze8 {W:Base}{w:World}(hE:Ext W w){e0:Addr}{v1:List Value}{x0:QV}(y1:ty30.ro W v1 x0)(D0:At W e0 v1){fu:Nat}{r:LO}(hm:z3B fu x0=some r):
  CL 202 ⟨[.pointer (some e0)]⟩ w (Ret fun v w8=>∃ A0 k0,v=sl A0 r k0∧St w w8 [ow ty44 A0 r k0]):=by
 obtain⟨A1,k2,e4,h3⟩:=z48 y1;subst e4;refine into Tryz.func202 48 _ ?_;unfold z3B at hm;have hS:=St.start w;refine sg<|rm 1 ?_;refine sg<|rm 1 ?_;refine sg<|rr 3 ?_;refine l1 (ax hE hS D0) 0 ?_;refine rr 1 ?_;obtain⟨E1,hm⟩:=iS hm;have n2:=of_decide_eq_true E1;refine mS (U:=zbY) false hS n2 (fun _=>⟨rfl,rfl⟩) (fun A6 k7 U1 M1 j0=>?_);refine rm 1 ?_;refine sq<|sg<|rr 3 ?_;refine l1 (ax hE j0 D0) 0 ?_;refine rm 2 ?_;obtain⟨G1,b1,hm⟩:=bS hm;refine ct (fun(B0:LO) F w9=>∃ r0 u0,G1=.inl B0∧St w w9 [ow ty44 r0 B0 u0]∧F=[(3,sl r0 B0 u0)]) ?_ ?_
 ·rintro B0 F V1 ⟨r0,u0,e1,H0,rfl⟩;subst e1;rw[z8] at hm;unfold z9M at hm;refine sg<|rm 2 ?_;refine rt ?_;cases hm;exact⟨_,tR rfl,r0,u0,rfl,H0⟩
 ·refine bk ?_;have J0:=j0.nilSl ty45 45;refine wk [0,3,4,19,20] ?_;refine it (fun(G:LO×Int×LJ) F w9=>∃ X Y,St w w9 [ow ty44 X G.1 Y,Own zfJ [sl A6 (List.replicate (x0.QG.length:Int).toNat false) k7] G.2.2]∧F=[(0,.pointer (some e0)),(3,sl X G.1 Y),(4,sl A6 (List.replicate (x0.QG.length:Int).toNat false) k7),(19,iv (x0.QG.length:Int)),(20,iv G.2.1)]) b1 ⟨none,0,J0,rfl⟩ ?_;rintro G F W1 _ H1 ⟨X,Y,H,rfl⟩ o f1;unfold z2t at o;refine sg<|rm 1 ?_;refine sq<|ci o (fun o=>?_) (fun o=>?_)
  ·refine sp<|sq<|ct (fun(q0:LO×LJ) F w9=>∃ t0 v0,z2s fu G q0=some H1∧St w w9 [ow ty44 t0 q0.1 v0,Own zfJ [sl A6 (List.replicate (x0.QG.length:Int).toNat false) k7] q0.2]∧F=[(0,.pointer (some e0)),(3,sl t0 q0.1 v0),(4,sl A6 (List.replicate (x0.QG.length:Int).toNat false) k7),(19,iv (x0.QG.length:Int)),(20,iv G.2.1)]) ?_ ?_
   ·rintro q0 F X1 ⟨t0,v0,o,K0,rfl⟩;unfold z2s at o;refine rg<|rm 2 ?_;cases o;exact⟨_,_,rfl,⟨t0,v0,K0,rfl⟩,rfl⟩
   ·refine bk<|sg<|rm 2 ?_;refine sq<|sg<|rr 2 ?_;obtain⟨g2,n1,o⟩:=bS o;refine ix (Ext.refl _) ((H.b 1 rfl).own) n1 (fun Q1 C1 V0 j1=>?_);cases j1;refine l1 V0 0 ?_;refine rn<|ci o (fun o=>?_) (fun o=>?_)
    ·refine xt ?_;exact⟨(G.1,G.2.2),_,⟨X,Y,o,H,rfl⟩,rfl⟩
    ·refine sp<|sg<|rr 2 ?_;obtain⟨c0,p1,o⟩:=bS o;refine ca zjo (z9a (hE.trans H.ext) y1 D0 p1) (fun S1 Y1 E0=>?_);obtain⟨Z,b0,rfl,F0⟩:=E0;have L0:=H.join F0;refine rm 1 ?_;refine sq<|sg<|rm 3 ?_;obtain⟨J1,d1,o⟩:=bS o;refine ct (fun(C0:LJ) F w9=>J1=.inl C0∧St w w9 [ow ty45 Z c0 b0,ow ty44 X G.1 Y,Own zfJ [sl A6 (List.replicate (x0.QG.length:Int).toNat false) k7] C0]∧F=[(0,.pointer (some e0)),(3,sl X G.1 Y),(4,sl A6 (List.replicate (x0.QG.length:Int).toNat false) k7),(6,sl Z c0 b0),(19,iv (x0.QG.length:Int)),(20,iv G.2.1)]) ?_ ?_
     ·rintro C0 F a2 ⟨g1,M0,rfl⟩;subst g1;rw[z8] at o;unfold z75 at o;refine sg<|rr 1 ?_;obtain⟨y0,s1,o⟩:=bS o;refine ca ztb (zcv (W:=w) (RR:=_) (x0:=c0) M0  s1) (fun T1 b2 G0=>?_);obtain⟨rfl,o0⟩:=G0;refine rn<|rg<|rr 2 ?_;have j2:=(o0.b 0 rfl).lenEq;have N0:=(o0.b 0 rfl).reLen j2;refine kn (u:=.slice Z y0.length b0) 43 rfl (by simp only[sl,j2]) ?_;have O0:=St.noEl ty45 N0;have P0:=O0.b 1 rfl;have Q0:=St.consEl P0;refine ns (U:=ty45) (els:=[.slice Z y0.length b0]) (ys:=[y0]) Q0 (fun L1 O1 d2 N1 R0=>?_);have S0:=R0.b 1 rfl;have T0:=S0.b 1 rfl;obtain⟨Y0,o⟩:=iS o;refine ao T0 Y0 (fun B1 F1 e2 U0=>?_);refine rm 1 ?_;exact⟨((G.1++([y0]:LO)),C0),_,⟨B1,F1,o,U0,rfl⟩,rfl⟩
     ·refine bk<|wk [0,3,4,6,19,20,30,31,32] ?_;refine it (fun(u1:Int×LJ) F w9=>St w w9 [ow ty45 Z c0 b0,ow ty44 X G.1 Y,Own zfJ [sl A6 (List.replicate (x0.QG.length:Int).toNat false) k7] u1.2]∧F=[(0,.pointer (some e0)),(3,sl X G.1 Y),(4,sl A6 (List.replicate (x0.QG.length:Int).toNat false) k7),(6,sl Z c0 b0),(19,iv (x0.QG.length:Int)),(20,iv G.2.1),(30,sl Z c0 b0),(31,iv (c0.length:Int)),(32,iv u1.1)]) d1 ⟨L0,rfl⟩ ?_;rintro u1 F f2 _ P1 ⟨a0,rfl⟩ q i1;unfold z78 at q;refine sg<|rm 1 ?_;refine sq<|ci q (fun q=>?_) (fun q=>?_)
      ·refine sp<|sq<|bk<|sq<|rg ?_;obtain⟨i2,t1,q⟩:=bS q;refine ix (Ext.refl _) ((a0.b 0 rfl).own) t1 (fun R1 D1 X0 m1=>?_);cases m1;refine l1 X0 0 ?_;refine rm 1 ?_;refine rg<|rr 2 ?_;have p0:=a0.b 2 rfl;obtain⟨a1,q⟩:=iS q;have O:=of_decide_eq_true a1;refine io p0 O.1 O.2 (fun o2 m2=>?_);have f0:=p0.flat (T:=zbY) (cs:=[.bool true]) (x:=true) ⟨rfl,rfl⟩;have g0:=f0.b 1 rfl;refine se g0 O.2 m2 (fun K1 i0=>?_);refine rn<|rg<|rm 2 ?_;cases q;exact⟨_,_,rfl,⟨(i0.sel [1,2,0]),rfl⟩,rfl⟩
      ·refine xt ?_;cases q;exact⟨_,_,⟨i1,a0,rfl⟩,rfl⟩
  ·refine xt ?_;cases o;exact⟨_,_,⟨X,Y,f1,(H.t 1),rfl⟩,rfl⟩

end Go.E



