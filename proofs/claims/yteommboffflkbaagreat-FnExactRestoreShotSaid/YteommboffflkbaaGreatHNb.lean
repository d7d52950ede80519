/- Models of functions and proofs that the code runs as they say (written by program). Conditions: the model gives a value. -/
import Derived.Test.YteommboffflkbaaGreatHN
namespace Go.E
open Go.RowKit Go.Proofs
set_option linter.unusedVariables false
set_option linter.unusedSimpArgs false
set_option maxHeartbeats 2000000
set_option maxRecDepth 100000

theorem zo2:EN 167:=en Tryz.func167
def zat (fu:Nat) (t2:Int):Option Int:=some t2
def z3G (fu:Nat) (x0:(List D.Qe)) (s1:Int × Int):Option (Rd (Int × Int) (Int) (Int)):=(if(decide (s1.2<(x0.length:Int)))=true then((idx x0 s1.2).bind fun S=>(if(S.Qj != s1.1)=true then some (.ret (-1)) else((idx x0 s1.2).bind fun X=>(if(X.Qz.Qj != (w64 (s1.1+1)))=true then some (.ret (-1)) else((idx x0 s1.2).bind fun Y=>(if(Y.Qz.QL != (w64 ((w64 (s1.1+1))+1)))=true then some (.ret (-1)) else((idx x0 s1.2).bind fun Z=>(if(Z.Qz.Value != (w64 ((w64 ((w64 (s1.1+1))+1))+1)))=true then some (.ret (-1)) else((idx x0 s1.2).bind fun a0=>((z1W fu a0.Qz.Data (w64 ((w64 ((w64 ((w64 (s1.1+1))+1))+1))+1))).bind fun O=>(if(decide (O<0))=true then some (.ret (-1)) else((idx x0 s1.2).bind fun b0=>((z3k fu b0.Qz.QX O).bind fun d=>(if(decide (d<0))=true then some (.ret (-1)) else((idx x0 s1.2).bind fun h=>(if(h.A.Qg != d)=true then some (.ret (-1)) else((idx x0 s1.2).bind fun o=>(if(o.A.Qj != (w64 (d+1)))=true then some (.ret (-1)) else((idx x0 s1.2).bind fun q=>(if(q.A.Qs != (w64 ((w64 (d+1))+1)))=true then some (.ret (-1)) else((idx x0 s1.2).bind fun G=>(if(G.B.Qg != (w64 ((w64 ((w64 (d+1))+1))+1)))=true then some (.ret (-1)) else((idx x0 s1.2).bind fun H=>(if(H.B.Qj != (w64 ((w64 ((w64 ((w64 (d+1))+1))+1))+1)))=true then some (.ret (-1)) else((idx x0 s1.2).bind fun M=>(if(M.B.Qs != (w64 ((w64 ((w64 ((w64 ((w64 (d+1))+1))+1))+1))+1)))=true then some (.ret (-1)) else some (.next (w64 ((w64 ((w64 ((w64 ((w64 ((w64 (d+1))+1))+1))+1))+1))+1),w64 (s1.2+1))))))))))))))))))))))))))))) else some (.brk s1.1))
def z67 (fu:Nat) (x0:(List D.Qe)) (x1:Int):Option (Int):=((iter (z3G fu x0) fu (x1,0)).bind fun o=>aft o (zat fu))

theorem laws_heldParcelS_ok {W w:World}(hE:Ext W w){y0:Option Addr}{n1:Nat}{x0:(List D.Qe)}{x1:Int}(G:z7U.ro W [sl y0 x0 n1] x0){fu:Nat}{r:Int}(hm:z67 fu x0 x1=some r):
  CL 167 ⟨[sl y0 x0 n1,iv x1]⟩ w (RI w r):=by
 refine into Tryz.func167 132 _ ?_;unfold z67 at hm;have hS:=St.start w;refine sq<|rg<|rr 1 ?_;refine rn<|sq<|sq<|rg<|rr 1 ?_;refine rn ?_;obtain⟨O2,R0,hm⟩:=bS hm;refine ct (fun(t2:Int) F w9=>O2=.inl t2∧Ext w w9∧St w w9 []∧F=[(1,iv t2)]) ?_ ?_
 ·rintro t2 F w7 ⟨S0,E3,K0,rfl⟩;subst S0;rw [z8] at hm;unfold zat at hm;refine sq<|rg<|rr 2 ?_;refine rn<|rt ?_;cases hm;exact⟨_,tR rfl,rfl,K0⟩
 ·refine bk<|wk [0,1,5] ?_;refine it (fun(s1:Int × Int) F w9=>Ext w w9∧St w w9 []∧F=[(0,sl y0 x0 n1),(1,iv s1.1),(5,iv s1.2)]) R0 ⟨(Ext.refl _),hS,rfl⟩ ?_;rintro s1 F b4 _ R3 ⟨B1,o,rfl⟩ d q;unfold z3G at d;refine sq<|sq<|rg<|rr 4 ?_;refine rn<|ci d (fun d=>?_) (fun d=>?_)
  ·refine sp<|sq<|bk<|sq<|sq<|rg<|rr 2 ?_;obtain⟨d4,d1,d⟩:=bS d;refine ix (hE.trans o.ext) G d1 (fun S3 V1 L0 T0=>?_);obtain⟨f3,F3,g3,G3,Q1,s3,t3⟩:=zC T0;subst Q1;refine rr 1 ?_;refine l1 (ax hE o L0) 0 ?_;refine rr 2 ?_;refine rn<|ci d (fun d=>?_) (fun d=>?_)
   ·refine sq<|rg<|rr 1 ?_;refine rn<|rt ?_;cases d;cases q;have hm:some _=some _:=hm;cases hm;exact⟨_,tR rfl,rfl,o⟩
   ·refine sp<|sq<|rg<|rr 3 ?_;refine rn<|sq<|sq<|rg<|rr 2 ?_;obtain⟨e4,e1,d⟩:=bS d;refine ix (hE.trans o.ext) G e1 (fun T3 W1 M0 U0=>?_);obtain⟨i3,H3,j3,J3,R1,u3,v3⟩:=zC U0;subst R1;refine rr 2 ?_;refine l1 (ax hE o M0) 1 ?_;refine rr 2 ?_;refine rn<|ci d (fun d=>?_) (fun d=>?_)
    ·refine sq<|rg<|rr 1 ?_;refine rn<|rt ?_;cases d;cases q;have hm:some _=some _:=hm;cases hm;exact⟨_,tR rfl,rfl,o⟩
    ·refine sp<|sq<|rg<|rr 3 ?_;refine rn<|sq<|sq<|rg<|rr 2 ?_;obtain⟨f4,f1,d⟩:=bS d;refine ix (hE.trans o.ext) G f1 (fun U3 X1 N0 V0=>?_);obtain⟨k3,K3,m3,L3,S1,y3,A3⟩:=zC V0;subst S1;refine rr 2 ?_;refine l1 (ax hE o N0) 2 ?_;refine rr 2 ?_;refine rn<|ci d (fun d=>?_) (fun d=>?_)
     ·refine sq<|rg<|rr 1 ?_;refine rn<|rt ?_;cases d;cases q;have hm:some _=some _:=hm;cases hm;exact⟨_,tR rfl,rfl,o⟩
     ·refine sp<|sq<|rg<|rr 3 ?_;refine rn<|sq<|sq<|rg<|rr 2 ?_;obtain⟨g4,g1,d⟩:=bS d;refine ix (hE.trans o.ext) G g1 (fun V3 Y1 O0 X0=>?_);obtain⟨n3,M3,o3,N3,T1,B3,C3⟩:=zC X0;subst T1;refine rr 2 ?_;refine l1 (ax hE o O0) 3 ?_;refine rr 2 ?_;refine rn<|ci d (fun d=>?_) (fun d=>?_)
      ·refine sq<|rg<|rr 1 ?_;refine rn<|rt ?_;cases d;cases q;have hm:some _=some _:=hm;cases hm;exact⟨_,tR rfl,rfl,o⟩
      ·refine sp<|sq<|rg<|rr 3 ?_;refine rn<|sq<|rg<|rr 2 ?_;obtain⟨i4,i1,d⟩:=bS d;refine ix (hE.trans o.ext) G i1 (fun W3 a2 P0 Y0=>?_);obtain⟨p3,O3,q3,P3,U1,y2,D3⟩:=zC Y0;subst U1;refine rr 2 ?_;refine l1 (ax hE o P0) 4 ?_;refine rr 1 ?_;obtain⟨Y3,j1,d⟩:=bS d;refine ca zef (laws_heldInt64S_ok (hE.trans o.ext) y2 j1) (fun a4 c4 J0=>?_);obtain⟨rfl,S⟩:=J0;have H:=o.join S;refine rr 1 ?_;refine rn<|sq<|sq<|rg<|rr 2 ?_;refine rn<|ci d (fun d=>?_) (fun d=>?_)
       ·refine sq<|rg<|rr 1 ?_;refine rn<|rt ?_;cases d;cases q;have hm:some _=some _:=hm;cases hm;exact⟨_,tR rfl,rfl,H⟩
       ·refine sp<|sq<|rg<|rr 2 ?_;obtain⟨j4,m1,d⟩:=bS d;refine ix (hE.trans H.ext) G m1 (fun X3 d2 Q0 a1=>?_);obtain⟨r3,Q3,C1,A2,A0,e2,H0⟩:=zC a1;subst A0;refine rr 2 ?_;refine l1 (ax hE H Q0) 5 ?_;refine rr 1 ?_;obtain⟨V2,o0,d⟩:=bS d;refine ca ziL (laws_heldAddressS_ok (hE.trans H.ext) H0 o0) (fun W2 X2 O=>?_);obtain⟨rfl,M⟩:=O;have h:=H.join M;refine rr 1 ?_;refine rn<|sq<|sq<|rg<|rr 2 ?_;refine rn<|ci d (fun d=>?_) (fun d=>?_)
        ·refine sq<|rg<|rr 1 ?_;refine rn<|rt ?_;cases d;cases q;have hm:some _=some _:=hm;cases hm;exact⟨_,tR rfl,rfl,h⟩
        ·refine sp<|sq<|sq<|rg<|rr 2 ?_;obtain⟨Y2,p0,d⟩:=bS d;refine ix (hE.trans h.ext) G p0 (fun P2 p1 X e0=>?_);obtain⟨D1,B2,E1,C2,B0,f2,g2⟩:=zC e0;subst B0;refine rr 2 ?_;refine l1 (ax hE h X) 6 ?_;refine rr 2 ?_;refine rn<|ci d (fun d=>?_) (fun d=>?_)
         ·refine sq<|rg<|rr 1 ?_;refine rn<|rt ?_;cases d;cases q;have hm:some _=some _:=hm;cases hm;exact⟨_,tR rfl,rfl,h⟩
         ·refine sp<|sq<|rg<|rr 3 ?_;refine rn<|sq<|sq<|rg<|rr 2 ?_;obtain⟨a3,q0,d⟩:=bS d;refine ix (hE.trans h.ext) G q0 (fun Q2 t1 Y f0=>?_);obtain⟨F1,D2,G1,E2,C0,i2,j2⟩:=zC f0;subst C0;refine rr 2 ?_;refine l1 (ax hE h Y) 7 ?_;refine rr 2 ?_;refine rn<|ci d (fun d=>?_) (fun d=>?_)
          ·refine sq<|rg<|rr 1 ?_;refine rn<|rt ?_;cases d;cases q;have hm:some _=some _:=hm;cases hm;exact⟨_,tR rfl,rfl,h⟩
          ·refine sp<|sq<|rg<|rr 3 ?_;refine rn<|sq<|sq<|rg<|rr 2 ?_;obtain⟨b3,r0,d⟩:=bS d;refine ix (hE.trans h.ext) G r0 (fun R2 u1 Z g0=>?_);obtain⟨H1,F2,J1,G2,D0,m2,n2⟩:=zC g0;subst D0;refine rr 2 ?_;refine l1 (ax hE h Z) 8 ?_;refine rr 2 ?_;refine rn<|ci d (fun d=>?_) (fun d=>?_)
           ·refine sq<|rg<|rr 1 ?_;refine rn<|rt ?_;cases d;cases q;have hm:some _=some _:=hm;cases hm;exact⟨_,tR rfl,rfl,h⟩
           ·refine sp<|sq<|rg<|rr 3 ?_;refine rn<|sq<|sq<|rg<|rr 2 ?_;obtain⟨c3,t0,d⟩:=bS d;refine ix (hE.trans h.ext) G t0 (fun S2 v1 a0 i0=>?_);obtain⟨K1,H2,L1,J2,E0,o2,p2⟩:=zC i0;subst E0;refine rr 2 ?_;refine l1 (ax hE h a0) 9 ?_;refine rr 2 ?_;refine rn<|ci d (fun d=>?_) (fun d=>?_)
            ·refine sq<|rg<|rr 1 ?_;refine rn<|rt ?_;cases d;cases q;have hm:some _=some _:=hm;cases hm;exact⟨_,tR rfl,rfl,h⟩
            ·refine sp<|sq<|rg<|rr 3 ?_;refine rn<|sq<|sq<|rg<|rr 2 ?_;obtain⟨d3,u0,d⟩:=bS d;refine ix (hE.trans h.ext) G u0 (fun T2 y1 b0 j0=>?_);obtain⟨M1,K2,N1,L2,F0,q2,r2⟩:=zC j0;subst F0;refine rr 2 ?_;refine l1 (ax hE h b0) 10 ?_;refine rr 2 ?_;refine rn<|ci d (fun d=>?_) (fun d=>?_)
             ·refine sq<|rg<|rr 1 ?_;refine rn<|rt ?_;cases d;cases q;have hm:some _=some _:=hm;cases hm;exact⟨_,tR rfl,rfl,h⟩
             ·refine sp<|sq<|rg<|rr 3 ?_;refine rn<|sq<|sq<|rg<|rr 2 ?_;obtain⟨e3,v0,d⟩:=bS d;refine ix (hE.trans h.ext) G v0 (fun U2 A1 d0 k0=>?_);obtain⟨O1,M2,P1,N2,G0,u2,v2⟩:=zC k0;subst G0;refine rr 2 ?_;refine l1 (ax hE h d0) 11 ?_;refine rr 2 ?_;refine rn<|ci d (fun d=>?_) (fun d=>?_)
              ·refine sq<|rg<|rr 1 ?_;refine rn<|rt ?_;cases d;cases q;have hm:some _=some _:=hm;cases hm;exact⟨_,tR rfl,rfl,h⟩
              ·refine sp<|rg<|rr 3 ?_;refine rn<|rg<|rr 3 ?_;refine rn ?_;cases d;exact⟨_,_,rfl,⟨((B1.trans S.ext).trans M.ext),h,rfl⟩,rfl⟩
  ·refine xt ?_;cases d;exact⟨_,_,⟨q,B1,o,rfl⟩,rfl⟩

theorem zos:EN 118:=en Tryz.func118
def za1 (fu:Nat) (t2:Int):Option Int:=some t2
def z3b (fu:Nat) (x0:(List (List D.Qe))) (s1:Int × Int):Option (Rd (Int × Int) (Int) (Int)):=(if(decide (s1.2<(x0.length:Int)))=true then((idx x0 s1.2).bind fun h=>((z67 fu h s1.1).bind fun d=>(if(decide (d<0))=true then some (.ret (-1)) else some (.next (d,w64 (s1.2+1)))))) else some (.brk s1.1))
def z5d (fu:Nat) (x0:(List (List D.Qe))) (x1:Int):Option (Int):=((iter (z3b fu x0) fu (x1,0)).bind fun o=>aft o (za1 fu))

theorem laws_heldParcelSS_ok {W w:World}(hE:Ext W w){M:Option Addr}{d0:Nat}{x0:(List (List D.Qe))}{x1:Int}(i0:ty38.ro W [sl M x0 d0] x0){fu:Nat}{r:Int}(hm:z5d fu x0 x1=some r):
  CL 118 ⟨[sl M x0 d0,iv x1]⟩ w (RI w r):=by
 refine into Tryz.func118 21 _ ?_;unfold z5d at hm;have hS:=St.start w;refine sq<|rg<|rr 1 ?_;refine rn<|sq<|sq<|rg<|rr 1 ?_;refine rn ?_;obtain⟨j0,Y,hm⟩:=bS hm;refine ct (fun(t2:Int) F w9=>j0=.inl t2∧Ext w w9∧St w w9 []∧F=[(1,iv t2)]) ?_ ?_
 ·rintro t2 F w7 ⟨Z,o0,S,rfl⟩;subst Z;rw [z8] at hm;unfold za1 at hm;refine sq<|rg<|rr 2 ?_;refine rn<|rt ?_;cases hm;exact⟨_,tR rfl,rfl,S⟩
 ·refine bk<|wk [0,1,5] ?_;refine it (fun(s1:Int × Int) F w9=>Ext w w9∧St w w9 []∧F=[(0,sl M x0 d0),(1,iv s1.1),(5,iv s1.2)]) Y ⟨(Ext.refl _),hS,rfl⟩ ?_;rintro s1 F v0 _ q0 ⟨e0,h,rfl⟩ d G;unfold z3b at d;refine sq<|sq<|rg<|rr 4 ?_;refine rn<|ci d (fun d=>?_) (fun d=>?_)
  ·refine sp<|sq<|bk<|sq<|rg<|rr 2 ?_;obtain⟨A0,a0,d⟩:=bS d;refine ix (hE.trans h.ext) i0 a0 (fun r0 g0 X H=>?_);obtain⟨k0,p0,f0⟩:=zZ H;subst f0;refine l1 (ax hE h X) 0 ?_;refine rr 1 ?_;obtain⟨t0,b0,d⟩:=bS d;refine ca zo2 (laws_heldParcelS_ok (hE.trans h.ext) H b0) (fun u0 y0 O=>?_);obtain⟨rfl,o⟩:=O;have q:=h.join o;refine rr 1 ?_;refine rn<|sq<|rg<|rr 2 ?_;refine rn<|ci d (fun d=>?_) (fun d=>?_)
   ·refine sq<|rg<|rr 1 ?_;refine rn<|rt ?_;cases d;cases G;have hm:some _=some _:=hm;cases hm;exact⟨_,tR rfl,rfl,q⟩
   ·refine sp<|rg<|rr 3 ?_;refine rn ?_;cases d;exact⟨_,_,rfl,⟨(e0.trans o.ext),q,rfl⟩,rfl⟩
  ·refine xt ?_;cases d;exact⟨_,_,⟨G,e0,h,rfl⟩,rfl⟩

theorem zor:EN 119:=en Tryz.func119
def zau (fu:Nat) (t2:Int):Option Int:=some t2
def z3H (fu:Nat) (x0:(List (List Int))) (s1:Int × Int):Option (Rd (Int × Int) (Int) (Int)):=(if(decide (s1.2<(x0.length:Int)))=true then((idx x0 s1.2).bind fun h=>((z1W fu h s1.1).bind fun d=>(if(decide (d<0))=true then some (.ret (-1)) else some (.next (d,w64 (s1.2+1)))))) else some (.brk s1.1))
def z68 (fu:Nat) (x0:(List (List Int))) (x1:Int):Option (Int):=((iter (z3H fu x0) fu (x1,0)).bind fun o=>aft o (zau fu))

theorem laws_heldInt64SS_ok {W w:World}(hE:Ext W w){M:Option Addr}{d0:Nat}{x0:(List (List Int))}{x1:Int}(i0:ty28.ro W [sl M x0 d0] x0){fu:Nat}{r:Int}(hm:z68 fu x0 x1=some r):
  CL 119 ⟨[sl M x0 d0,iv x1]⟩ w (RI w r):=by
 refine into Tryz.func119 21 _ ?_;unfold z68 at hm;have hS:=St.start w;refine sq<|rg<|rr 1 ?_;refine rn<|sq<|sq<|rg<|rr 1 ?_;refine rn ?_;obtain⟨j0,Y,hm⟩:=bS hm;refine ct (fun(t2:Int) F w9=>j0=.inl t2∧Ext w w9∧St w w9 []∧F=[(1,iv t2)]) ?_ ?_
 ·rintro t2 F w7 ⟨Z,o0,S,rfl⟩;subst Z;rw [z8] at hm;unfold zau at hm;refine sq<|rg<|rr 2 ?_;refine rn<|rt ?_;cases hm;exact⟨_,tR rfl,rfl,S⟩
 ·refine bk<|wk [0,1,5] ?_;refine it (fun(s1:Int × Int) F w9=>Ext w w9∧St w w9 []∧F=[(0,sl M x0 d0),(1,iv s1.1),(5,iv s1.2)]) Y ⟨(Ext.refl _),hS,rfl⟩ ?_;rintro s1 F v0 _ q0 ⟨e0,h,rfl⟩ d G;unfold z3H at d;refine sq<|sq<|rg<|rr 4 ?_;refine rn<|ci d (fun d=>?_) (fun d=>?_)
  ·refine sp<|sq<|bk<|sq<|rg<|rr 2 ?_;obtain⟨A0,a0,d⟩:=bS d;refine ix (hE.trans h.ext) i0 a0 (fun r0 g0 X H=>?_);obtain⟨k0,p0,f0⟩:=z1z H;subst f0;refine l1 (ax hE h X) 0 ?_;refine rr 1 ?_;obtain⟨t0,b0,d⟩:=bS d;refine ca zef (laws_heldInt64S_ok (hE.trans h.ext) H b0) (fun u0 y0 O=>?_);obtain⟨rfl,o⟩:=O;have q:=h.join o;refine rr 1 ?_;refine rn<|sq<|rg<|rr 2 ?_;refine rn<|ci d (fun d=>?_) (fun d=>?_)
   ·refine sq<|rg<|rr 1 ?_;refine rn<|rt ?_;cases d;cases G;have hm:some _=some _:=hm;cases hm;exact⟨_,tR rfl,rfl,q⟩
   ·refine sp<|rg<|rr 3 ?_;refine rn ?_;cases d;exact⟨_,_,rfl,⟨(e0.trans o.ext),q,rfl⟩,rfl⟩
  ·refine xt ?_;cases d;exact⟨_,_,⟨G,e0,h,rfl⟩,rfl⟩

theorem zki:EN 58:=en Tryz.func58
def z44 (fu:Nat) (x0:D.Qa) (x1:Int):Option (Int):=((z9K fu x0.Qi x1).bind fun d=>(if(decide (d<0))=true then some (-1) else((z5d fu x0.Qh d).bind fun h=>(if(decide (h<0))=true then some (-1) else((z68 fu x0.Qo h).bind fun o=>(if(decide (o<0))=true then some (-1) else((z1W fu x0.QU o).bind fun q=>(if(decide (q<0))=true then some (-1) else((z1W fu x0.QZ q).bind fun G=>(if(decide (G<0))=true then some (-1) else some G))))))))))

theorem laws_heldCluster_ok {W w:World}(hE:Ext W w){o0:List Value}{x0:D.Qa}{x1:Int}(q0:ty40.ro W o0 x0){fu:Nat}{r:Int}(hm:z44 fu x0 x1=some r):
  CL 58 ⟨[.agg ⟨o0⟩,iv x1]⟩ w (RI w r):=by
 obtain⟨A1,k2,A4,k5,A7,C0,v0,D0,y0,E0,p0,h3,h6,r0,t0,u0⟩:=z88 q0;subst p0;refine into Tryz.func58 36 _ ?_;unfold z44 at hm;have hS:=St.start w;refine sq<|rg<|nw hS (fun B0 Q0 A0 G=>?_);refine rr 1 ?_;refine rn<|sq<|rg<|rr 1 ?_;refine lN (At.sub ((G.bring 0 rfl).box) 0 4) ?_;refine rr 1 ?_;obtain⟨F0,f0,hm⟩:=bS hm;refine ca zot (laws_heldGrid_ok (hE.trans G.ext) (z5J x0.Qi h3) f0) (fun L0 R0 M=>?_);obtain⟨rfl,O⟩:=M;have d:=G.join O;refine rr 1 ?_;refine rn<|sq<|sq<|rg<|rr 2 ?_;refine rn<|ci hm (fun hm=>?_) (fun hm=>?_)
 ·refine sq<|rg<|rr 1 ?_;refine rn<|rt ?_;cases hm;exact⟨_,tR rfl,rfl,(d.taken 0)⟩
 ·refine sp<|sq<|rg<|rr 1 ?_;refine l1 ((d.bring 0 rfl).box) 4 ?_;refine rr 1 ?_;obtain⟨G0,g0,hm⟩:=bS hm;refine ca zos (laws_heldParcelSS_ok (hE.trans d.ext) h6 g0) (fun M0 S0 S=>?_);obtain⟨rfl,X⟩:=S;have h:=d.join X;refine rr 1 ?_;refine rn<|sq<|sq<|rg<|rr 2 ?_;refine rn<|ci hm (fun hm=>?_) (fun hm=>?_)
  ·refine sq<|rg<|rr 1 ?_;refine rn<|rt ?_;cases hm;exact⟨_,tR rfl,rfl,(h.taken 0)⟩
  ·refine sp<|sq<|rg<|rr 1 ?_;refine l1 ((h.bring 0 rfl).box) 5 ?_;refine rr 1 ?_;obtain⟨H0,i0,hm⟩:=bS hm;refine ca zor (laws_heldInt64SS_ok (hE.trans h.ext) r0 i0) (fun N0 T0 Y=>?_);obtain⟨rfl,Z⟩:=Y;have o:=h.join Z;refine rr 1 ?_;refine rn<|sq<|sq<|rg<|rr 2 ?_;refine rn<|ci hm (fun hm=>?_) (fun hm=>?_)
   ·refine sq<|rg<|rr 1 ?_;refine rn<|rt ?_;cases hm;exact⟨_,tR rfl,rfl,(o.taken 0)⟩
   ·refine sp<|sq<|rg<|rr 1 ?_;refine l1 ((o.bring 0 rfl).box) 6 ?_;refine rr 1 ?_;obtain⟨J0,j0,hm⟩:=bS hm;refine ca zef (laws_heldInt64S_ok (hE.trans o.ext) t0 j0) (fun O0 U0 a0=>?_);obtain⟨rfl,b0⟩:=a0;have q:=o.join b0;refine rr 1 ?_;refine rn<|sq<|sq<|rg<|rr 2 ?_;refine rn<|ci hm (fun hm=>?_) (fun hm=>?_)
    ·refine sq<|rg<|rr 1 ?_;refine rn<|rt ?_;cases hm;exact⟨_,tR rfl,rfl,(q.taken 0)⟩
    ·refine sp<|sq<|rg<|rr 1 ?_;refine l1 ((q.bring 0 rfl).box) 7 ?_;refine rr 1 ?_;obtain⟨K0,k0,hm⟩:=bS hm;refine ca zef (laws_heldInt64S_ok (hE.trans q.ext) u0 k0) (fun P0 V0 d0=>?_);obtain⟨rfl,e0⟩:=d0;have H:=q.join e0;refine rr 1 ?_;refine rn<|sq<|sq<|rg<|rr 2 ?_;refine rn<|ci hm (fun hm=>?_) (fun hm=>?_)
     ·refine sq<|rg<|rr 1 ?_;refine rn<|rt ?_;cases hm;exact⟨_,tR rfl,rfl,(H.taken 0)⟩
     ·refine sp<|sq<|rg<|rr 2 ?_;refine rn<|rt ?_;cases hm;exact⟨_,tR rfl,rfl,(H.taken 0)⟩

end Go.E


