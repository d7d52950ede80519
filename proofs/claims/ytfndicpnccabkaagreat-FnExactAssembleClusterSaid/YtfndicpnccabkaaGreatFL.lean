/- Models of functions and proofs that the code runs as they say (written by program). Conditions: the model gives a value. -/
import Derived.Test.YtfndicpnccabkaaGreatQB
import Derived.Test.YtfndicpnccabkaaGreatFA
import Derived.Test.YtfndicpnccabkaaGreatMixed
set_option linter.unusedVariables false
set_option linter.unusedSimpArgs false
namespace Go.E
open Go.RowKit Go.Proofs
set_option maxHeartbeats 2000000
set_option maxRecDepth 100000

theorem zmv:EN 70:=en Tryz.func70
def z1W (fu:Nat)(x0:Int)(x1:Int):Option (Qb):=some (⟨x0,1,x1⟩:Qb)

theorem z9C {W:Base}{w:World}(hE:Ext W w){x0:Int}{x1:Int}  {fu:Nat}{r:Qb}(hm:z1W fu x0 x1=some r):
  CL 70 ⟨[iv x0,iv x1]⟩ w (Ret fun v w8=>v=.agg ⟨[iv r.Qj,iv r.Qi,iv r.Qo]⟩∧St w w8 []):=by
 refine into Tryz.func70 8 _ ?_;unfold z1W at hm;have hS:=St.start w;refine sg<|nw hS (fun g1 w2 e3 q=>?_);refine rn<|sg<|rr 2 ?_;refine qt (qb) ?_;have G:=q.b 0 rfl;refine so (A:=[]) G 0 (fun w6 o=>?_);refine rn<|rt ?_;cases hm;exact⟨_,.cons (ra ((o.b 0 rfl).box)) .nil,rfl,(o.t 0)⟩

theorem zwv:EN 41:=en Tryz.func41
def z9N (fu:Nat)(t6:LB×LD):Option (LB×LD):=some (t6.1,t6.2)
def z79 (fu:Nat)(s5:LB×LD×Int)(o:LB×LD):Option (Rd (LB×LD×Int) (LB×LD) (LB×LD)):=some (.next (o.1,o.2,w64 (s5.2.2+1)))
def z2v (fu:Nat)(q:Int×LB×LD)(o:LB×LD):Option (Rd (Int×LB×LD) (LB×LD) (Rd (LB×LD×Int) (LB×LD) (LB×LD))):=some (.next (w64 (q.1+1),o.1,o.2))
def z2w (fu:Nat)(s5:LB×LD×Int)(H:Qp)(o:Int×LB×LD):Option (Rd (Int×LB×LD) (LB×LD) (Rd (LB×LD×Int) (LB×LD) (LB×LD))):=(if(decide (o.1<(H.Cells.length:Int)))=true then((idx H.Cells o.1).bind fun G=>(if(G.Qi != 0)=true then(if decide ((o.2.1.length:Int)+(([G]:LB).length:Int)≤4294967296)=true then((z1W fu s5.2.2 o.1).bind fun q=>(if decide ((o.2.2.length:Int)+(([q]:LD).length:Int)≤4294967296)=true then z2v fu o ((o.2.1++([G]:LB)),(o.2.2++([q]:LD))) else none)) else none) else z2v fu o (o.2.1,o.2.2))) else some (.brk (o.2.1,o.2.2)))
def z1D (fu:Nat)(x0:D.Qk)(s5:LB×LD×Int):Option (Rd (LB×LD×Int) (LB×LD) (LB×LD)):=(if(decide (s5.2.2<(x0.Qf.length:Int)))=true then((idx x0.Qf s5.2.2).bind fun q=>((iter (z2w fu s5 q) fu (0,s5.1,s5.2.1)).bind fun o=>aft o (z79 fu s5))) else some (.brk (s5.1,s5.2.1)))
def z3C (fu:Nat)(x0:D.Qk):Option (LB×LD):=((iter (z1D fu x0) fu ([],[],0)).bind fun o=>aft o (z9N fu))

theorem zea {W:Base}{w:World}(hE:Ext W w){S1:Addr}{Q1:List Value}{x0:D.Qk}(g2:ty36.ro W Q1 x0)(f2:At W S1 Q1){fu:Nat}{r:LB×LD}(hm:z3C fu x0=some r):
  CL 41 ⟨[.pointer (some S1)]⟩ w (Ret fun v w8=>∃ A0 k0 A1 k1,v=.tuple ⟨[sl A0 r.1 k0,sl A1 r.2 k1]⟩∧St w w8 [Own (zaF W) [sl A0 r.1 k0] r.1,ow ty82 A1 r.2 k1]):=by
 obtain⟨A1,k2,e4,h3⟩:=z4D g2;subst e4;refine into Tryz.func41 45 _ ?_;unfold z3C at hm;have hS:=St.start w;refine sg<|rm 2 ?_;refine sg<|rm 1 ?_;refine sg<|rm 1 ?_;refine sq<|sg<|rr 3 ?_;refine l1 (ax hE hS f2) 0 ?_;refine rm 2 ?_;obtain⟨r2,C1,hm⟩:=bS hm;refine ct (fun(t6:LB×LD) F w9=>∃ V0 b1 X0 d1,r2=.inl t6∧St w w9 [Own (zaF W) [sl V0 t6.1 b1] t6.1,ow ty82 X0 t6.2 d1]∧F=[(4,sl V0 t6.1 b1),(5,sl X0 t6.2 d1)]) ?_ ?_
 ·rintro t6 F T2 ⟨V0,b1,X0,d1,E1,m1,rfl⟩;subst E1;rw[z8] at hm;unfold z9N at hm;refine sg<|rm 4 ?_;refine rt ?_;cases hm;exact⟨_,.cons (.tmp rfl) (tR rfl),V0,b1,X0,d1,rfl,m1⟩
 ·refine bk ?_;have n1:=hS.nilSl (z9v W) 126;have p1:=n1.nilSl ty34 34;refine wk [4,5,13,14,15] ?_;refine it (fun(s5:LB×LD×Int) F w9=>∃ o0 R0 p0 S0,St w w9 [Own (zaF W) [sl o0 s5.1 R0] s5.1,ow ty82 p0 s5.2.1 S0]∧F=[(4,sl o0 s5.1 R0),(5,sl p0 s5.2.1 S0),(13,sl A1 x0.Qf k2),(14,iv (x0.Qf.length:Int)),(15,iv s5.2.2)]) C1 ⟨none,0,none,0,((p1.b 0 rfl).b 1 rfl),rfl⟩ ?_;rintro s5 F U2 _ Q2 ⟨o0,R0,p0,S0,b0,rfl⟩ q F1;unfold z1D at q;refine sg<|rm 1 ?_;refine sq<|ci q (fun q=>?_) (fun q=>?_)
  ·refine sp<|sq<|bk<|sg<|rr 1 ?_;obtain⟨g1,L1,q⟩:=bS q;refine ix (hE.trans b0.ext) h3 L1 (fun R2 d2 y1 J1=>?_);obtain⟨P1,R1,F2,O2,G2,P2,a2,i2,M2,N2⟩:=z1J J1;subst a2;refine lN (ax hE b0 y1) ?_;refine nw b0 (fun K2 V2 H2 s1=>?_);refine rr 1 ?_;have t1:=s1.b 0 rfl;refine so (A:=[]) t1 0 (fun W2 N0=>?_);refine rn<|sg<|rr 1 ?_;refine l1 ((N0.b 0 rfl).box) 0 ?_;refine rm 2 ?_;obtain⟨s2,D1,q⟩:=bS q;refine ct (fun(j0:LB×LD) F w9=>∃ Y0 e1 a1 f1,s2=.inl j0∧St w w9 [Own (zaF W) [sl Y0 j0.1 e1] j0.1,ow ty82 a1 j0.2 f1]∧F=[(4,sl Y0 j0.1 e1),(5,sl a1 j0.2 f1),(13,sl A1 x0.Qf k2),(14,iv (x0.Qf.length:Int)),(15,iv s5.2.2)]) ?_ ?_
   ·rintro j0 F X2 ⟨Y0,e1,a1,f1,G1,u1,rfl⟩;subst G1;rw[z8] at q;unfold z79 at q;refine rg<|rm 2 ?_;cases q;exact⟨_,_,rfl,⟨Y0,e1,a1,f1,u1,rfl⟩,rfl⟩
   ·refine bk<|wk [4,5,6,13,14,15,21,22,23] ?_;refine it (fun(X:Int×LB×LD) F w9=>∃ q0 T0 r0 U0,St w w9 [Own (zaF W) [sl q0 X.2.1 T0] X.2.1,ow ty82 r0 X.2.2 U0]∧F=[(4,sl q0 X.2.1 T0),(5,sl r0 X.2.2 U0),(6,iv s5.2.2),(13,sl A1 x0.Qf k2),(14,iv (x0.Qf.length:Int)),(15,iv s5.2.2),(21,sl P1 g1.Cells R1),(22,iv (g1.Cells.length:Int)),(23,iv X.1)]) D1 ⟨o0,R0,p0,S0,(N0.b 0 rfl).drop,rfl⟩ ?_;rintro X F Y2 _ t2 ⟨q0,T0,r0,U0,c0,rfl⟩ o H1;unfold z2w at o;refine sg<|rm 1 ?_;refine sq<|ci o (fun o=>?_) (fun o=>?_)
    ·refine sp<|sq<|bk<|sg<|rr 1 ?_;obtain⟨Y,M1,o⟩:=bS o;refine ix (hE.trans c0.ext) i2 M1 (fun S2 e2 B1 K1=>?_);obtain⟨V1,p2,W1,q2,b2,j2,m2⟩:=zO K1;subst b2;refine lN (ax hE c0 B1) ?_;refine nw c0 (fun L2 a3 J2 v1=>?_);refine rr 1 ?_;have v0:=v1.b 0 rfl;refine so (A:=[]) v0 0 (fun v2 O=>?_);refine rn<|sg<|rr 1 ?_;refine l1 ((O.b 0 rfl).box) 0 ?_;refine rm 1 ?_;refine ct (fun(H:LB×LD) F w9=>∃ Z e0 a0 f0,z2v fu X H=some t2∧St w w9 [Own (zaF W) [sl Z H.1 e0] H.1,ow ty82 a0 H.2 f0]∧F=[(4,sl Z H.1 e0),(5,sl a0 H.2 f0),(6,iv s5.2.2),(13,sl A1 x0.Qf k2),(14,iv (x0.Qf.length:Int)),(15,iv s5.2.2),(21,sl P1 g1.Cells R1),(22,iv (g1.Cells.length:Int)),(23,iv X.1)]) ?_ ?_
     ·rintro H F y2 ⟨Z,e0,a0,f0,o,y0,rfl⟩;unfold z2v at o;refine rg<|rm 2 ?_;cases o;exact⟨_,_,rfl,⟨Z,e0,a0,f0,y0,rfl⟩,rfl⟩
     ·refine ci o (fun o=>?_) (fun o=>?_)
      ·refine rg<|rr 1 ?_;refine lN ((O.b 0 rfl).box) ?_;have B0:=St.noEl (z9v W) O;have C0:=St.bor (T:=ty82) (x:=Y.QM) B0 m2;have D0:=St.bor (T:=ty45) (x:=Y.Data) C0 j2;have E0:=zdC (W0:=W) (c:=Y) (B:=_) D0;have F0:=St.consEl E0;refine ns (U:=(z9v W)) (els:=[iv Y.Qi,iv Y.QC,iv Y.Value,.slice V1 Y.Data.length p2,.slice W1 Y.QM.length q2]) (ys:=[Y]) F0 (fun T1 n2 A2 X1 G0=>?_);have H0:=G0.b 2 rfl;have J0:=H0.b 1 rfl;obtain⟨O0,o⟩:=iS o;refine ao J0 O0 (fun i1 N1 B2 g0=>?_) (hpos:=(Nat.le_of_ble_eq_true rfl));refine rr 3 ?_;obtain⟨G,Q0,o⟩:=bS o;refine ca zmv (z9C (hE.trans g0.ext)  Q0) (fun u2 C2 t0=>?_);obtain⟨rfl,u0⟩:=t0;have K0:=g0.join u0;refine ns (K0.flatEls (U:=ty34) (els:=[iv G.Qj,iv G.Qi,iv G.Qo]) (ys:=[G]) ⟨[iv G.Qj,iv G.Qi,iv G.Qo],_,[],[],rfl,rfl,(z8q (c:=G) rfl),⟨rfl,rfl⟩⟩) (fun U1 o2 D2 Y1 L0=>?_);have i0:=L0.b 3 rfl;obtain⟨P0,o⟩:=iS o;refine ap (Flat.map fL0) i0 ((i0.b 1 rfl).own) P0 (fun j1 O1 E2 M0=>?_);refine rm 2 ?_;exact⟨((X.2.1++([Y]:LB)),(X.2.2++([G]:LD))),_,⟨i1,N1,j1,O1,o,(((M0.b 0 rfl).b 2 rfl).t 2),rfl⟩,rfl⟩
      ·refine sp ?_;exact⟨(X.2.1,X.2.2),_,⟨q0,T0,r0,U0,o,(O.b 0 rfl).drop,rfl⟩,rfl⟩
    ·refine xt ?_;cases o;exact⟨_,_,⟨q0,T0,r0,U0,H1,c0,rfl⟩,rfl⟩
  ·refine xt ?_;cases q;exact⟨_,_,⟨o0,R0,p0,S0,F1,b0,rfl⟩,rfl⟩

end Go.E



