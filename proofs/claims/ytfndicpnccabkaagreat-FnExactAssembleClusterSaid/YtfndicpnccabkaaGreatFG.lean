/- Models of functions and proofs that the code runs as they say (written by program). Conditions: the model gives a value. -/
import Derived.Test.YtfndicpnccabkaaGreatSortT
import Derived.Test.YtfndicpnccabkaaGreatQB
import Derived.Test.YtfndicpnccabkaaGreatFF
set_option linter.unusedVariables false
set_option linter.unusedSimpArgs false
namespace Go.E
open Go.RowKit Go.Proofs
set_option maxHeartbeats 2000000
set_option maxRecDepth 100000

theorem ztX:EN 162:=en Tryz.func162
def z8m (fu:Nat)(o:L9):Option L9:=some o
def z1B (fu:Nat)(H:LL)(G:LL)(o:Int×L9):Option (Rd (Int×L9) L9 L9):=(if(decide (o.1<(H.length:Int)))=true then((idx G o.1).bind fun q=>(if(!q.QS.isEmpty)=true then(if decide ((o.2.length:Int)+(q.QS.length:Int)≤4294967296)=true then some (.next (w64 (o.1+1),(o.2++q.QS))) else none) else none)) else some (.brk o.2))
def z4u (fu:Nat)(r5:L9)(q:LL):Option L9:=((zv fu q).bind fun G=>((iter (z1B fu q G) fu (0,r5)).bind fun o=>aft o (z8m fu)))
def z1C (fu:Nat)(x0:QV)(G:LO)(o:LL×Int):Option (Rd (LL×Int) LL L9):=(if(decide (o.2<(((G.take G.length).drop (1:Int).toNat).length:Int)))=true then((idx ((G.take G.length).drop (1:Int).toNat) o.2).bind fun H=>((z20 fu x0 H).bind fun q=>(if decide ((o.1.length:Int)+(([q]:LL).length:Int)≤4294967296)=true then some (.next ((o.1++([q]:LL)),w64 (o.2+1))) else none))) else some (.brk o.1))
def z21 (fu:Nat)(x0:QV):Option L9:=((z2o fu x0 0).bind fun r5=>((z3B fu x0).bind fun q=>(if decide (0≤(1:Int)∧1≤(q.length:Int)∧(q.length:Int)≤(q.length:Int))=true then((iter (z1C fu x0 q) fu ([],0)).bind fun o=>aft o (z4u fu r5)) else none)))

theorem zcz {W:Base}{w:World}(hE:Ext W w){a2:Addr}{d2:List Value}{x0:QV}(d1:ty30.ro W d2 x0)(u1:At W a2 d2){fu:Nat}{r:L9}(hm:z21 fu x0=some r):
  CL 162 ⟨[.pointer (some a2)]⟩ w (Ret fun v w8=>∃ A0 k0,v=sl A0 r k0∧St w w8 [ow ty45 A0 r k0]):=by
 obtain⟨A1,k2,e4,h3⟩:=z48 d1;subst e4;refine into Tryz.func162 40 _ ?_;unfold z21 at hm;have hS:=St.start w;refine sg<|rm 1 ?_;refine sg<|rr 1 ?_;obtain⟨r5,q2,hm⟩:=bS hm;refine ca zjo (z9a (hE.trans hS.ext) d1 u1 q2) (fun v7 S2 v1=>?_);obtain⟨b0,U0,rfl,y1⟩:=v1;have F0:=hS.join y1;refine rm 1 ?_;refine sg<|rm 1 ?_;refine sq<|sg<|rr 1 ?_;obtain⟨H,U1,hm⟩:=bS hm;refine ca ztB (ze8 (hE.trans F0.ext) d1 u1 U1) (fun Q2 T2 B1=>?_);obtain⟨X0,a0,rfl,C1⟩:=B1;have G0:=F0.join C1;obtain⟨N1,hm⟩:=iS hm;have O:=of_decide_eq_true N1;refine zy0 (U:=ty45) (l:=(1:Int).toNat) (h:=H.length) (Ext.refl _) rfl ((G0.b 0 rfl).own) (.inr ⟨_,_,rfl,by rw[Int.toNat_of_nonneg O.1];rfl⟩) (.inl ⟨rfl,rfl⟩) (by have:=O;omega) (by have:=O;omega) ?_;have P0:H.length - (1:Int).toNat=((H.take H.length).drop (1:Int).toNat).length:=(zrv (by have:=O;omega:H.length≤H.length)).symm;refine kn (u:=.slice (zwM X0 a0 ((1:Int).toNat) ty45.size) ((H.take H.length).drop (1:Int).toNat).length (a0 - ((1:Int).toNat))) 13 rfl (congrArg (fun n=>Value.slice (zwM X0 a0 ((1:Int).toNat) ty45.size) n (a0 - ((1:Int).toNat))) P0) ?_;refine rm 2 ?_;obtain⟨y2,P1,hm⟩:=bS hm;refine ct (fun(Z:LL) F w9=>∃ c0 V0,y2=.inl Z∧St w w9 [ow zqD c0 Z V0,ow ty45 b0 r5 U0]∧F=[(3,sl b0 r5 U0),(4,sl c0 Z V0)]) ?_ ?_
 ·rintro Z F U2 ⟨c0,V0,R1,E1,rfl⟩;subst R1;rw[z8] at hm;unfold z4u at hm;refine sg<|rr 1 ?_;obtain⟨C2,V1,hm⟩:=bS hm;refine ca ztz (z5t (W:=w) (RR:=_) (x0:=Z) E1  V1) (fun R2 V2 D1=>?_);obtain⟨rfl,F1⟩:=D1;refine rn<|sq<|sg<|rm 3 ?_;obtain⟨A2,Q1,hm⟩:=bS hm;refine ct (fun(m1:L9) F w9=>∃ b1 g1,A2=.inl m1∧St w w9 [ow ty45 b1 m1 g1]∧F=[(3,sl b1 m1 g1)]) ?_ ?_
  ·rintro m1 F W2 ⟨b1,g1,S1,G1,rfl⟩;subst S1;rw[z8] at hm;unfold z8m at hm;refine sg<|rm 2 ?_;refine rt ?_;cases hm;exact⟨_,tR rfl,b1,g1,rfl,G1⟩
  ·refine bk<|wk [3,28,29,30] ?_;refine it (fun(j1:Int×L9) F w9=>∃ a1 f1,St w w9 [Own zqD [sl c0 Z V0] C2,ow ty45 a1 j1.2 f1]∧F=[(3,sl a1 j1.2 f1),(28,sl c0 Z V0),(29,iv (Z.length:Int)),(30,iv j1.1)]) Q1 ⟨b0,U0,F1,rfl⟩ ?_;rintro j1 F X2 _ P2 ⟨a1,f1,H0,rfl⟩ q T1;unfold z1B at q;refine sg<|rm 1 ?_;refine sq<|ci q (fun q=>?_) (fun q=>?_)
   ·refine sp<|sq<|bk<|sq<|rg ?_;have H1:=H0.b 0 rfl;obtain⟨b2,T0,q⟩:=bS q;refine fo H1 T0 (fun d3 o2 c3 J1=>?_);obtain⟨i2,t2,K2,O2,n2,J0⟩:=zoM (J1.b 1 rfl);subst n2;refine lN ((J0.b 2 rfl).hole_atN c3) ?_;refine nw J0 (fun M2 Y2 L2 K1=>?_);have L1:=K1.b 0 rfl;refine so (A:=[]) L1 0 (fun a3 K0=>?_);obtain⟨p2,q⟩:=iS q;refine rn<|rg<|rr 2 ?_;refine l1 ((K0.b 0 rfl).box) 0 ?_;have L0:=K0.b 4 rfl;obtain⟨O1,q⟩:=iS q;refine ap Flat.int L0 ((L0.b 2 rfl).own) O1 (fun j2 u2 b3 M0=>?_);refine rm 1 ?_;refine rg<|rm 2 ?_;have N2:=(show ty45.ro _ [.slice i2 b2.QS.length t2] b2.QS from((M0.b 2 rfl).own));have M1:=M0.b 3 rfl;have g0:=M1.b 3 rfl;have i0:=zid (c:=b2) (B:=_) g0;have j0:=i0.b 3 rfl;have o0:=St.unfocusN0 j0 (zk T0).2;cases q;exact⟨_,_,rfl,⟨j2,u2,(o0.t 2),rfl⟩,rfl⟩
   ·refine xt ?_;cases q;exact⟨_,_,⟨a1,f1,T1,((H0.b 1 rfl).t 1),rfl⟩,rfl⟩
 ·refine bk ?_;have p0:=G0.nilSl zfi 283;refine wk [0,3,4,13,14,15] ?_;refine it (fun(i1:LL×Int) F w9=>∃ Y0 e1,St w w9 [ow zqD Y0 i1.1 e1,ow ty44 X0 H a0,ow ty45 b0 r5 U0]∧F=[(0,.pointer (some a2)),(3,sl b0 r5 U0),(4,sl Y0 i1.1 e1),(13,.slice (zwM X0 a0 ((1:Int).toNat) ty45.size) ((H.take H.length).drop (1:Int).toNat).length (a0 - ((1:Int).toNat))),(14,iv (((H.take H.length).drop (1:Int).toNat).length:Int)),(15,iv i1.2)]) P1 ⟨none,0,p0,rfl⟩ ?_;rintro i1 F E2 _ v2 ⟨Y0,e1,G,rfl⟩ o Q0;unfold z1C at o;refine sg<|rm 1 ?_;refine sq<|ci o (fun o=>?_) (fun o=>?_)
  ·refine sp<|sq<|bk<|sq<|rg ?_;obtain⟨J2,R0,o⟩:=bS o;refine ix (Ext.refl _) (zxb (l:=(1:Int).toNat) (h:=H.length) ((G.b 1 rfl).own) (by have:=O;omega) (by have:=O;omega) P0) R0 (fun B2 e2 N0 Y=>?_);obtain⟨f2,r2,t1⟩:=zL Y;subst t1;refine l1 N0 0 ?_;refine rm 1 ?_;refine rg<|rr 3 ?_;obtain⟨X,S0,o⟩:=bS o;refine ca ztA (zcy (Ext.refl _) (ty30.ext (hE.trans G.ext) d1) (ax hE G u1) Y S0) (fun D2 F2 e0=>?_);obtain⟨n1,W1,p1,X1,rfl,f0⟩:=e0;have q0:=G.join f0;have r0:=St.noEl zfi q0;have t0:=r0.b 2 rfl;have u0:=t0.b 2 rfl;have v0:=zid (c:=X) (B:=_) u0;have y0:=St.consEl v0;refine ns (U:=zfi) (els:=[.slice n1 X.QS.length W1,.slice p1 X.code.length X1,iv X.Qa1]) (ys:=[X]) y0 (fun g2 s2 G2 m2 B0=>?_);have C0:=B0.b 1 rfl;have D0:=C0.b 1 rfl;obtain⟨O0,o⟩:=iS o;refine ao D0 O0 (fun s1 Y1 H2 E0=>?_);refine rm 1 ?_;refine rg<|rm 2 ?_;cases o;exact⟨_,_,rfl,⟨s1,Y1,E0,rfl⟩,rfl⟩
  ·refine xt ?_;cases o;exact⟨_,_,⟨Y0,e1,Q0,(G.b 1 rfl).drop,rfl⟩,rfl⟩

end Go.E



