/- Models of functions and proofs that the code runs as they say (written by program). Conditions: the model gives a value. -/
import Derived.Test.YteommboffflkbaaGreatHN
import Derived.Test.YteommboffflkbaaGreatShort
import Derived.Test.YteommboffflkbaaGreatSizesD
import Derived.Test.YteommboffflkbaaGreatFM
import Derived.Test.YteommboffflkbaaGreatFGe
import Derived.Test.YteommboffflkbaaGreatFA
namespace Go.E
open Go.RowKit Go.Proofs
set_option linter.unusedVariables false
set_option linter.unusedSimpArgs false
set_option maxHeartbeats 2000000
set_option maxRecDepth 100000

theorem zmD:Enters Tryz.prog 167:=⟨_,_,Tryz.func167,rfl,by kernel_rfl⟩
def z9K (fuel:Nat) (t2:Int):Option Int:=some t2
def z3b (fuel:Nat) (x0:(List D.Qi)) (s1:Int × Int):Option (Rd (Int × Int) (Int) (Int)):=(if(decide (s1.2<(x0.length:Int)))=true then((idx x0 s1.2).bind fun O=>(if(O.Qj != s1.1)=true then some (.ret (-1)) else((idx x0 s1.2).bind fun S=>(if(S.Qz.Qj != (w64 (s1.1+1)))=true then some (.ret (-1)) else((idx x0 s1.2).bind fun X=>(if(X.Qz.QO != (w64 ((w64 (s1.1+1))+1)))=true then some (.ret (-1)) else((idx x0 s1.2).bind fun Y=>(if(Y.Qz.Value != (w64 ((w64 ((w64 (s1.1+1))+1))+1)))=true then some (.ret (-1)) else((idx x0 s1.2).bind fun Z=>((z1B fuel Z.Qz.Data (w64 ((w64 ((w64 ((w64 (s1.1+1))+1))+1))+1))).bind fun M=>(if(decide (M<0))=true then some (.ret (-1)) else((idx x0 s1.2).bind fun a0=>((z2U fuel a0.Qz.QY M).bind fun d=>(if(decide (d<0))=true then some (.ret (-1)) else((idx x0 s1.2).bind fun h=>(if(h.A.Qb != d)=true then some (.ret (-1)) else((idx x0 s1.2).bind fun o=>(if(o.A.Qj != (w64 (d+1)))=true then some (.ret (-1)) else((idx x0 s1.2).bind fun q=>(if(q.A.Qk != (w64 ((w64 (d+1))+1)))=true then some (.ret (-1)) else((idx x0 s1.2).bind fun y=>(if(y.B.Qb != (w64 ((w64 ((w64 (d+1))+1))+1)))=true then some (.ret (-1)) else((idx x0 s1.2).bind fun G=>(if(G.B.Qj != (w64 ((w64 ((w64 ((w64 (d+1))+1))+1))+1)))=true then some (.ret (-1)) else((idx x0 s1.2).bind fun H=>(if(H.B.Qk != (w64 ((w64 ((w64 ((w64 ((w64 (d+1))+1))+1))+1))+1)))=true then some (.ret (-1)) else some (.next (w64 ((w64 ((w64 ((w64 ((w64 ((w64 (d+1))+1))+1))+1))+1))+1),w64 (s1.2+1))))))))))))))))))))))))))))) else some (.brk s1.1))
def z5t (fuel:Nat) (x0:(List D.Qi)) (x1:Int):Option (Int):=((iter (z3b fuel x0) fuel (x1,0)).bind fun o=>aft o (z9K fuel))

theorem laws_heldParcelS_ok {W w:World}(hE:Ext W w){v0:Option Addr}{j1:Nat}{x0:(List D.Qi)}{x1:Int}(y:z62.ro W [sl v0 x0 j1] x0){fuel:Nat}{r:Int}(hm:z5t fuel x0 x1=some r):
  Calls Tryz.prog 167 ⟨[sl v0 x0 j1,.int .i64 x1]⟩ w (Ret fun v w8=>v=.int .i64 r∧St w w8 []):=by
 refine into Tryz.func167 132 _ ?_;unfold z5t at hm;have hS:=St.start w;refine sq<|rg<|rr 1 ?_;refine rn<|sq<|sq<|rg<|rr 1 ?_;refine rn ?_;obtain⟨K2,Q0,hm⟩:=bS hm;refine ct (fun(t2:Int) F w9=>K2=.inl t2∧Ext w w9∧St w w9 []∧F=[(1,.int .i64 t2)]) ?_ ?_
 ·rintro t2 F w7 ⟨R0,A3,J0,rfl⟩;subst R0;rw [z8] at hm;unfold z9K at hm;refine sq<|rg<|rr 2 ?_;refine rn<|rt ?_;cases hm;exact⟨_,.cons (.tmp rfl) .nil,rfl,J0⟩
 ·refine bk<|wk [0,1,5] ?_;refine it (fun(s1:Int × Int) F w9=>Ext w w9∧St w w9 []∧F=[(0,sl v0 x0 j1),(1,.int .i64 s1.1),(5,.int .i64 s1.2)]) Q0 ⟨(Ext.refl _),hS,rfl⟩ ?_;rintro s1 F W3 _ N3 ⟨y1,o,rfl⟩ d q;unfold z3b at d;refine sq<|sq<|rg<|rr 4 ?_;refine rn<|ci d (fun d=>?_) (fun d=>?_)
  ·refine sp<|sq<|bk<|sq<|sq<|rg<|rr 2 ?_;obtain⟨Y3,a1,d⟩:=bS d;refine ix (hE.trans o.ext) y a1 (fun O3 T1 K0 S0=>?_);obtain⟨b3,B3,c3,C3,O1,o3,p3⟩:=zv S0;subst O1;refine rr 1 ?_;refine l1 (At.ext (hE.trans o.ext) K0) 0 ?_;refine rr 2 ?_;refine rn<|ci d (fun d=>?_) (fun d=>?_)
   ·refine sq<|rg<|rr 1 ?_;refine rn<|rt ?_;cases d;cases q;have hm:some _=some _:=hm;cases hm;exact⟨_,.cons (.tmp rfl) .nil,rfl,o⟩
   ·refine sp<|sq<|rg<|rr 3 ?_;refine rn<|sq<|sq<|rg<|rr 2 ?_;obtain⟨a4,b1,d⟩:=bS d;refine ix (hE.trans o.ext) y b1 (fun P3 U1 L0 T0=>?_);obtain⟨d3,D3,e3,E3,P1,q3,r3⟩:=zv T0;subst P1;refine rr 2 ?_;refine l1 (At.ext (hE.trans o.ext) L0) 1 ?_;refine rr 2 ?_;refine rn<|ci d (fun d=>?_) (fun d=>?_)
    ·refine sq<|rg<|rr 1 ?_;refine rn<|rt ?_;cases d;cases q;have hm:some _=some _:=hm;cases hm;exact⟨_,.cons (.tmp rfl) .nil,rfl,o⟩
    ·refine sp<|sq<|rg<|rr 3 ?_;refine rn<|sq<|sq<|rg<|rr 2 ?_;obtain⟨b4,d1,d⟩:=bS d;refine ix (hE.trans o.ext) y d1 (fun Q3 V1 M0 U0=>?_);obtain⟨f3,F3,g3,G3,Q1,s3,t3⟩:=zv U0;subst Q1;refine rr 2 ?_;refine l1 (At.ext (hE.trans o.ext) M0) 2 ?_;refine rr 2 ?_;refine rn<|ci d (fun d=>?_) (fun d=>?_)
     ·refine sq<|rg<|rr 1 ?_;refine rn<|rt ?_;cases d;cases q;have hm:some _=some _:=hm;cases hm;exact⟨_,.cons (.tmp rfl) .nil,rfl,o⟩
     ·refine sp<|sq<|rg<|rr 3 ?_;refine rn<|sq<|sq<|rg<|rr 2 ?_;obtain⟨c4,e1,d⟩:=bS d;refine ix (hE.trans o.ext) y e1 (fun R3 W1 N0 V0=>?_);obtain⟨i3,H3,j3,J3,R1,u3,v3⟩:=zv V0;subst R1;refine rr 2 ?_;refine l1 (At.ext (hE.trans o.ext) N0) 3 ?_;refine rr 2 ?_;refine rn<|ci d (fun d=>?_) (fun d=>?_)
      ·refine sq<|rg<|rr 1 ?_;refine rn<|rt ?_;cases d;cases q;have hm:some _=some _:=hm;cases hm;exact⟨_,.cons (.tmp rfl) .nil,rfl,o⟩
      ·refine sp<|sq<|rg<|rr 3 ?_;refine rn<|sq<|rg<|rr 2 ?_;obtain⟨d4,f1,d⟩:=bS d;refine ix (hE.trans o.ext) y f1 (fun S3 X1 O0 X0=>?_);obtain⟨k3,K3,m3,L3,S1,r2,y3⟩:=zv X0;subst S1;refine rr 2 ?_;refine l1 (At.ext (hE.trans o.ext) O0) 4 ?_;refine rr 1 ?_;obtain⟨U3,g1,d⟩:=bS d;refine ca zdc (laws_heldInt64S_ok (hE.trans o.ext) r2 g1) (fun V3 X3 H0=>?_);obtain⟨rfl,O⟩:=H0;have G:=o.join O;refine rr 1 ?_;refine rn<|sq<|sq<|rg<|rr 2 ?_;refine rn<|ci d (fun d=>?_) (fun d=>?_)
       ·refine sq<|rg<|rr 1 ?_;refine rn<|rt ?_;cases d;cases q;have hm:some _=some _:=hm;cases hm;exact⟨_,.cons (.tmp rfl) .nil,rfl,G⟩
       ·refine sp<|sq<|rg<|rr 2 ?_;obtain⟨e4,i1,d⟩:=bS d;refine ix (hE.trans G.ext) y i1 (fun T3 Y1 P0 Y0=>?_);obtain⟨n3,M3,A1,s2,y0,a2,G0⟩:=zv Y0;subst y0;refine rr 2 ?_;refine l1 (At.ext (hE.trans G.ext) P0) 5 ?_;refine rr 1 ?_;obtain⟨R2,k0,d⟩:=bS d;refine ca zhG (laws_heldAddressS_ok (hE.trans G.ext) G0 k0) (fun S2 T2 M=>?_);obtain⟨rfl,H⟩:=M;have h:=G.join H;refine rr 1 ?_;refine rn<|sq<|sq<|rg<|rr 2 ?_;refine rn<|ci d (fun d=>?_) (fun d=>?_)
        ·refine sq<|rg<|rr 1 ?_;refine rn<|rt ?_;cases d;cases q;have hm:some _=some _:=hm;cases hm;exact⟨_,.cons (.tmp rfl) .nil,rfl,h⟩
        ·refine sp<|sq<|sq<|rg<|rr 2 ?_;obtain⟨U2,o0,d⟩:=bS d;refine ix (hE.trans h.ext) y o0 (fun L2 m1 S d0=>?_);obtain⟨B1,u2,C1,v2,A0,b2,d2⟩:=zv d0;subst A0;refine rr 2 ?_;refine l1 (At.ext (hE.trans h.ext) S) 6 ?_;refine rr 2 ?_;refine rn<|ci d (fun d=>?_) (fun d=>?_)
         ·refine sq<|rg<|rr 1 ?_;refine rn<|rt ?_;cases d;cases q;have hm:some _=some _:=hm;cases hm;exact⟨_,.cons (.tmp rfl) .nil,rfl,h⟩
         ·refine sp<|sq<|rg<|rr 3 ?_;refine rn<|sq<|sq<|rg<|rr 2 ?_;obtain⟨V2,p0,d⟩:=bS d;refine ix (hE.trans h.ext) y p0 (fun M2 n1 X e0=>?_);obtain⟨D1,y2,E1,A2,B0,e2,f2⟩:=zv e0;subst B0;refine rr 2 ?_;refine l1 (At.ext (hE.trans h.ext) X) 7 ?_;refine rr 2 ?_;refine rn<|ci d (fun d=>?_) (fun d=>?_)
          ·refine sq<|rg<|rr 1 ?_;refine rn<|rt ?_;cases d;cases q;have hm:some _=some _:=hm;cases hm;exact⟨_,.cons (.tmp rfl) .nil,rfl,h⟩
          ·refine sp<|sq<|rg<|rr 3 ?_;refine rn<|sq<|sq<|rg<|rr 2 ?_;obtain⟨W2,q0,d⟩:=bS d;refine ix (hE.trans h.ext) y q0 (fun N2 p1 Y f0=>?_);obtain⟨F1,B2,G1,C2,C0,g2,i2⟩:=zv f0;subst C0;refine rr 2 ?_;refine l1 (At.ext (hE.trans h.ext) Y) 8 ?_;refine rr 2 ?_;refine rn<|ci d (fun d=>?_) (fun d=>?_)
           ·refine sq<|rg<|rr 1 ?_;refine rn<|rt ?_;cases d;cases q;have hm:some _=some _:=hm;cases hm;exact⟨_,.cons (.tmp rfl) .nil,rfl,h⟩
           ·refine sp<|sq<|rg<|rr 3 ?_;refine rn<|sq<|sq<|rg<|rr 2 ?_;obtain⟨X2,r0,d⟩:=bS d;refine ix (hE.trans h.ext) y r0 (fun O2 t1 Z g0=>?_);obtain⟨H1,D2,J1,E2,D0,j2,m2⟩:=zv g0;subst D0;refine rr 2 ?_;refine l1 (At.ext (hE.trans h.ext) Z) 9 ?_;refine rr 2 ?_;refine rn<|ci d (fun d=>?_) (fun d=>?_)
            ·refine sq<|rg<|rr 1 ?_;refine rn<|rt ?_;cases d;cases q;have hm:some _=some _:=hm;cases hm;exact⟨_,.cons (.tmp rfl) .nil,rfl,h⟩
            ·refine sp<|sq<|rg<|rr 3 ?_;refine rn<|sq<|sq<|rg<|rr 2 ?_;obtain⟨Y2,t0,d⟩:=bS d;refine ix (hE.trans h.ext) y t0 (fun P2 u1 a0 i0=>?_);obtain⟨K1,F2,L1,G2,E0,n2,o2⟩:=zv i0;subst E0;refine rr 2 ?_;refine l1 (At.ext (hE.trans h.ext) a0) 10 ?_;refine rr 2 ?_;refine rn<|ci d (fun d=>?_) (fun d=>?_)
             ·refine sq<|rg<|rr 1 ?_;refine rn<|rt ?_;cases d;cases q;have hm:some _=some _:=hm;cases hm;exact⟨_,.cons (.tmp rfl) .nil,rfl,h⟩
             ·refine sp<|sq<|rg<|rr 3 ?_;refine rn<|sq<|sq<|rg<|rr 2 ?_;obtain⟨a3,u0,d⟩:=bS d;refine ix (hE.trans h.ext) y u0 (fun Q2 v1 b0 j0=>?_);obtain⟨M1,H2,N1,J2,F0,p2,q2⟩:=zv j0;subst F0;refine rr 2 ?_;refine l1 (At.ext (hE.trans h.ext) b0) 11 ?_;refine rr 2 ?_;refine rn<|ci d (fun d=>?_) (fun d=>?_)
              ·refine sq<|rg<|rr 1 ?_;refine rn<|rt ?_;cases d;cases q;have hm:some _=some _:=hm;cases hm;exact⟨_,.cons (.tmp rfl) .nil,rfl,h⟩
              ·refine sp<|rg<|rr 3 ?_;refine rn<|rg<|rr 3 ?_;refine rn ?_;cases d;exact⟨_,_,rfl,⟨((y1.trans O.ext).trans H.ext),h,rfl⟩,rfl⟩
  ·refine xt ?_;cases d;exact⟨_,_,⟨q,y1,o,rfl⟩,rfl⟩

theorem zn8:Enters Tryz.prog 118:=⟨_,_,Tryz.func118,rfl,by kernel_rfl⟩
def z9k (fuel:Nat) (t2:Int):Option Int:=some t2
def z2J (fuel:Nat) (x0:(List (List D.Qi))) (s1:Int × Int):Option (Rd (Int × Int) (Int) (Int)):=(if(decide (s1.2<(x0.length:Int)))=true then((idx x0 s1.2).bind fun h=>((z5t fuel h s1.1).bind fun d=>(if(decide (d<0))=true then some (.ret (-1)) else some (.next (d,w64 (s1.2+1)))))) else some (.brk s1.1))
def z4C (fuel:Nat) (x0:(List (List D.Qi))) (x1:Int):Option (Int):=((iter (z2J fuel x0) fuel (x1,0)).bind fun o=>aft o (z9k fuel))

theorem laws_heldParcelSS_ok {W w:World}(hE:Ext W w){H:Option Addr}{b0:Nat}{x0:(List (List D.Qi))}{x1:Int}(g0:ty38.ro W [sl H x0 b0] x0){fuel:Nat}{r:Int}(hm:z4C fuel x0 x1=some r):
  Calls Tryz.prog 118 ⟨[sl H x0 b0,.int .i64 x1]⟩ w (Ret fun v w8=>v=.int .i64 r∧St w w8 []):=by
 refine into Tryz.func118 21 _ ?_;unfold z4C at hm;have hS:=St.start w;refine sq<|rg<|rr 1 ?_;refine rn<|sq<|sq<|rg<|rr 1 ?_;refine rn ?_;obtain⟨i0,X,hm⟩:=bS hm;refine ct (fun(t2:Int) F w9=>i0=.inl t2∧Ext w w9∧St w w9 []∧F=[(1,.int .i64 t2)]) ?_ ?_
 ·rintro t2 F w7 ⟨Y,k0,O,rfl⟩;subst Y;rw [z8] at hm;unfold z9k at hm;refine sq<|rg<|rr 2 ?_;refine rn<|rt ?_;cases hm;exact⟨_,.cons (.tmp rfl) .nil,rfl,O⟩
 ·refine bk<|wk [0,1,5] ?_;refine it (fun(s1:Int × Int) F w9=>Ext w w9∧St w w9 []∧F=[(0,sl H x0 b0),(1,.int .i64 s1.1),(5,.int .i64 s1.2)]) X ⟨(Ext.refl _),hS,rfl⟩ ?_;rintro s1 F u0 _ p0 ⟨d0,h,rfl⟩ d y;unfold z2J at d;refine sq<|sq<|rg<|rr 4 ?_;refine rn<|ci d (fun d=>?_) (fun d=>?_)
  ·refine sp<|sq<|bk<|sq<|rg<|rr 2 ?_;obtain⟨y0,Z,d⟩:=bS d;refine ix (hE.trans h.ext) g0 Z (fun q0 f0 S G=>?_);obtain⟨j0,o0,e0⟩:=z1i G;subst e0;refine l1 (At.ext (hE.trans h.ext) S) 0 ?_;refine rr 1 ?_;obtain⟨r0,a0,d⟩:=bS d;refine ca zmD (laws_heldParcelS_ok (hE.trans h.ext) G a0) (fun t0 v0 M=>?_);obtain⟨rfl,o⟩:=M;have q:=h.join o;refine rr 1 ?_;refine rn<|sq<|rg<|rr 2 ?_;refine rn<|ci d (fun d=>?_) (fun d=>?_)
   ·refine sq<|rg<|rr 1 ?_;refine rn<|rt ?_;cases d;cases y;have hm:some _=some _:=hm;cases hm;exact⟨_,.cons (.tmp rfl) .nil,rfl,q⟩
   ·refine sp<|rg<|rr 3 ?_;refine rn ?_;cases d;exact⟨_,_,rfl,⟨(d0.trans o.ext),q,rfl⟩,rfl⟩
  ·refine xt ?_;cases d;exact⟨_,_,⟨y,d0,h,rfl⟩,rfl⟩

theorem zn7:Enters Tryz.prog 119:=⟨_,_,Tryz.func119,rfl,by kernel_rfl⟩
def z9L (fuel:Nat) (t2:Int):Option Int:=some t2
def z3c (fuel:Nat) (x0:(List (List Int))) (s1:Int × Int):Option (Rd (Int × Int) (Int) (Int)):=(if(decide (s1.2<(x0.length:Int)))=true then((idx x0 s1.2).bind fun h=>((z1B fuel h s1.1).bind fun d=>(if(decide (d<0))=true then some (.ret (-1)) else some (.next (d,w64 (s1.2+1)))))) else some (.brk s1.1))
def z5u (fuel:Nat) (x0:(List (List Int))) (x1:Int):Option (Int):=((iter (z3c fuel x0) fuel (x1,0)).bind fun o=>aft o (z9L fuel))

theorem laws_heldInt64SS_ok {W w:World}(hE:Ext W w){H:Option Addr}{b0:Nat}{x0:(List (List Int))}{x1:Int}(g0:ty28.ro W [sl H x0 b0] x0){fuel:Nat}{r:Int}(hm:z5u fuel x0 x1=some r):
  Calls Tryz.prog 119 ⟨[sl H x0 b0,.int .i64 x1]⟩ w (Ret fun v w8=>v=.int .i64 r∧St w w8 []):=by
 refine into Tryz.func119 21 _ ?_;unfold z5u at hm;have hS:=St.start w;refine sq<|rg<|rr 1 ?_;refine rn<|sq<|sq<|rg<|rr 1 ?_;refine rn ?_;obtain⟨i0,X,hm⟩:=bS hm;refine ct (fun(t2:Int) F w9=>i0=.inl t2∧Ext w w9∧St w w9 []∧F=[(1,.int .i64 t2)]) ?_ ?_
 ·rintro t2 F w7 ⟨Y,k0,O,rfl⟩;subst Y;rw [z8] at hm;unfold z9L at hm;refine sq<|rg<|rr 2 ?_;refine rn<|rt ?_;cases hm;exact⟨_,.cons (.tmp rfl) .nil,rfl,O⟩
 ·refine bk<|wk [0,1,5] ?_;refine it (fun(s1:Int × Int) F w9=>Ext w w9∧St w w9 []∧F=[(0,sl H x0 b0),(1,.int .i64 s1.1),(5,.int .i64 s1.2)]) X ⟨(Ext.refl _),hS,rfl⟩ ?_;rintro s1 F u0 _ p0 ⟨d0,h,rfl⟩ d y;unfold z3c at d;refine sq<|sq<|rg<|rr 4 ?_;refine rn<|ci d (fun d=>?_) (fun d=>?_)
  ·refine sp<|sq<|bk<|sq<|rg<|rr 2 ?_;obtain⟨y0,Z,d⟩:=bS d;refine ix (hE.trans h.ext) g0 Z (fun q0 f0 S G=>?_);obtain⟨j0,o0,e0⟩:=z1F G;subst e0;refine l1 (At.ext (hE.trans h.ext) S) 0 ?_;refine rr 1 ?_;obtain⟨r0,a0,d⟩:=bS d;refine ca zdc (laws_heldInt64S_ok (hE.trans h.ext) G a0) (fun t0 v0 M=>?_);obtain⟨rfl,o⟩:=M;have q:=h.join o;refine rr 1 ?_;refine rn<|sq<|rg<|rr 2 ?_;refine rn<|ci d (fun d=>?_) (fun d=>?_)
   ·refine sq<|rg<|rr 1 ?_;refine rn<|rt ?_;cases d;cases y;have hm:some _=some _:=hm;cases hm;exact⟨_,.cons (.tmp rfl) .nil,rfl,q⟩
   ·refine sp<|rg<|rr 3 ?_;refine rn ?_;cases d;exact⟨_,_,rfl,⟨(d0.trans o.ext),q,rfl⟩,rfl⟩
  ·refine xt ?_;cases d;exact⟨_,_,⟨y,d0,h,rfl⟩,rfl⟩

theorem zoK:Enters Tryz.prog 58:=⟨_,_,Tryz.func58,rfl,by kernel_rfl⟩
def z7p (fuel:Nat) (x0:D.Qa) (x1:Int):Option (Int):=((z94 fuel x0.Qe x1).bind fun d=>(if(decide (d<0))=true then some (-1) else((z4C fuel x0.Qf d).bind fun h=>(if(decide (h<0))=true then some (-1) else((z5u fuel x0.Qt h).bind fun o=>(if(decide (o<0))=true then some (-1) else((z1B fuel x0.QK o).bind fun q=>(if(decide (q<0))=true then some (-1) else((z1B fuel x0.QZ q).bind fun y=>(if(decide (y<0))=true then some (-1) else some y))))))))))

theorem laws_heldCluster_ok {W w:World}(hE:Ext W w){k0:List Value}{x0:D.Qa}{x1:Int}(p0:ty40.ro W k0 x0){fuel:Nat}{r:Int}(hm:z7p fuel x0 x1=some r):
  Calls Tryz.prog 58 ⟨[.agg ⟨k0⟩,.int .i64 x1]⟩ w (Ret fun v w8=>v=.int .i64 r∧St w w8 []):=by
 obtain⟨A1,k2,A4,k5,A7,B0,u0,C0,v0,D0,o0,h3,h6,q0,r0,t0⟩:=z2E p0;subst o0;refine into Tryz.func58 36 _ ?_;unfold z7p at hm;have hS:=St.start w;refine sq<|rg<|nw hS (fun A0 P0 y0 y=>?_);refine rr 1 ?_;refine rn<|sq<|rg<|rr 1 ?_;refine lN (At.sub ((y.bring 0 rfl).box) 0 4) ?_;refine rr 1 ?_;obtain⟨E0,e0,hm⟩:=bS hm;refine ca zn9 (laws_heldGrid_ok (hE.trans y.ext) (z54 x0.Qe h3) e0) (fun K0 Q0 H=>?_);obtain⟨rfl,M⟩:=H;have d:=y.join M;refine rr 1 ?_;refine rn<|sq<|sq<|rg<|rr 2 ?_;refine rn<|ci hm (fun hm=>?_) (fun hm=>?_)
 ·refine sq<|rg<|rr 1 ?_;refine rn<|rt ?_;cases hm;exact⟨_,.cons (.tmp rfl) .nil,rfl,(d.taken 0)⟩
 ·refine sp<|sq<|rg<|rr 1 ?_;refine l1 ((d.bring 0 rfl).box) 4 ?_;refine rr 1 ?_;obtain⟨F0,f0,hm⟩:=bS hm;refine ca zn8 (laws_heldParcelSS_ok (hE.trans d.ext) h6 f0) (fun L0 R0 O=>?_);obtain⟨rfl,S⟩:=O;have h:=d.join S;refine rr 1 ?_;refine rn<|sq<|sq<|rg<|rr 2 ?_;refine rn<|ci hm (fun hm=>?_) (fun hm=>?_)
  ·refine sq<|rg<|rr 1 ?_;refine rn<|rt ?_;cases hm;exact⟨_,.cons (.tmp rfl) .nil,rfl,(h.taken 0)⟩
  ·refine sp<|sq<|rg<|rr 1 ?_;refine l1 ((h.bring 0 rfl).box) 5 ?_;refine rr 1 ?_;obtain⟨G0,g0,hm⟩:=bS hm;refine ca zn7 (laws_heldInt64SS_ok (hE.trans h.ext) q0 g0) (fun M0 S0 X=>?_);obtain⟨rfl,Y⟩:=X;have o:=h.join Y;refine rr 1 ?_;refine rn<|sq<|sq<|rg<|rr 2 ?_;refine rn<|ci hm (fun hm=>?_) (fun hm=>?_)
   ·refine sq<|rg<|rr 1 ?_;refine rn<|rt ?_;cases hm;exact⟨_,.cons (.tmp rfl) .nil,rfl,(o.taken 0)⟩
   ·refine sp<|sq<|rg<|rr 1 ?_;refine l1 ((o.bring 0 rfl).box) 6 ?_;refine rr 1 ?_;obtain⟨H0,i0,hm⟩:=bS hm;refine ca zdc (laws_heldInt64S_ok (hE.trans o.ext) r0 i0) (fun N0 T0 Z=>?_);obtain⟨rfl,a0⟩:=Z;have q:=o.join a0;refine rr 1 ?_;refine rn<|sq<|sq<|rg<|rr 2 ?_;refine rn<|ci hm (fun hm=>?_) (fun hm=>?_)
    ·refine sq<|rg<|rr 1 ?_;refine rn<|rt ?_;cases hm;exact⟨_,.cons (.tmp rfl) .nil,rfl,(q.taken 0)⟩
    ·refine sp<|sq<|rg<|rr 1 ?_;refine l1 ((q.bring 0 rfl).box) 7 ?_;refine rr 1 ?_;obtain⟨J0,j0,hm⟩:=bS hm;refine ca zdc (laws_heldInt64S_ok (hE.trans q.ext) t0 j0) (fun O0 U0 b0=>?_);obtain⟨rfl,d0⟩:=b0;have G:=q.join d0;refine rr 1 ?_;refine rn<|sq<|sq<|rg<|rr 2 ?_;refine rn<|ci hm (fun hm=>?_) (fun hm=>?_)
     ·refine sq<|rg<|rr 1 ?_;refine rn<|rt ?_;cases hm;exact⟨_,.cons (.tmp rfl) .nil,rfl,(G.taken 0)⟩
     ·refine sp<|sq<|rg<|rr 2 ?_;refine rn<|rt ?_;cases hm;exact⟨_,.cons (.tmp rfl) .nil,rfl,(G.taken 0)⟩

theorem znf:Enters Tryz.prog 108:=⟨_,_,Tryz.func108,rfl,by kernel_rfl⟩
def zay (fuel:Nat) (t2:Int):Option Int:=some t2
def z4D (fuel:Nat) (x0:(List Bool)) (s1:Int × Int):Option (Rd (Int × Int) (Int) (Int)):=(if(decide (s1.2<(x0.length:Int)))=true then((idx x0 s1.2).bind fun d=>(if(!(d == ((s1.1.tmod 3) == 0)))=true then some (.ret (-1)) else some (.next (w64 (s1.1+1),w64 (s1.2+1))))) else some (.brk s1.1))
def z72 (fuel:Nat) (x0:(List Bool)) (x1:Int):Option (Int):=((iter (z4D fuel x0) fuel (x1,0)).bind fun o=>aft o (zay fuel))

theorem laws_heldBoolS_ok {W w:World}(hE:Ext W w){q:Option Addr}{X:Nat}{x0:(List Bool)}{x1:Int}(a0:ty56.ro W [sl q x0 X] x0){fuel:Nat}{r:Int}(hm:z72 fuel x0 x1=some r):
  Calls Tryz.prog 108 ⟨[sl q x0 X,.int .i64 x1]⟩ w (Ret fun v w8=>v=.int .i64 r∧St w w8 []):=by
 refine into Tryz.func108 23 _ ?_;unfold z72 at hm;have hS:=St.start w;refine sq<|rg<|rr 1 ?_;refine rn<|sq<|sq<|rg<|rr 1 ?_;refine rn ?_;obtain⟨b0,H,hm⟩:=bS hm;refine ct (fun(t2:Int) F w9=>b0=.inl t2∧Ext w w9∧St w w9 []∧F=[(1,.int .i64 t2)]) ?_ ?_
 ·rintro t2 F w7 ⟨M,d0,y,rfl⟩;subst M;rw [z8] at hm;unfold zay at hm;refine sq<|rg<|rr 2 ?_;refine rn<|rt ?_;cases hm;exact⟨_,.cons (.tmp rfl) .nil,rfl,y⟩
 ·refine bk<|wk [0,1,5] ?_;refine it (fun(s1:Int × Int) F w9=>Ext w w9∧St w w9 []∧F=[(0,sl q x0 X),(1,.int .i64 s1.1),(5,.int .i64 s1.2)]) H ⟨(Ext.refl _),hS,rfl⟩ ?_;rintro s1 F g0 _ e0 ⟨Y,h,rfl⟩ d o;unfold z4D at d;refine sq<|sq<|rg<|rr 4 ?_;refine rn<|ci d (fun d=>?_) (fun d=>?_)
  ·refine sp<|sq<|bk<|sq<|sq<|rg<|rr 2 ?_;obtain⟨i0,S,d⟩:=bS d;refine ix (hE.trans h.ext) a0 S (fun f0 Z G O=>?_);cases O;refine l1 (At.ext (hE.trans h.ext) G) 0 ?_;refine rr 4 ?_;refine rn<|ci d (fun d=>?_) (fun d=>?_)
   ·refine sq<|rg<|rr 1 ?_;refine rn<|rt ?_;cases d;cases o;have hm:some _=some _:=hm;cases hm;exact⟨_,.cons (.tmp rfl) .nil,rfl,h⟩
   ·refine sp<|rg<|rr 3 ?_;refine rn<|rg<|rr 3 ?_;refine rn ?_;cases d;exact⟨_,_,rfl,⟨Y,h,rfl⟩,rfl⟩
  ·refine xt ?_;cases d;exact⟨_,_,⟨o,Y,h,rfl⟩,rfl⟩

theorem ziV:Enters Tryz.prog 52:=⟨_,_,Tryz.func52,rfl,by kernel_rfl⟩
def z2T (fuel:Nat) (x0:D.Qq) (x1:Int):Option (Int):=((z7p fuel x0.Qa x1).bind fun d=>(if(decide (d<0))=true then some (-1) else((z72 fuel x0.Qs d).bind fun h=>(if(decide (h<0))=true then some (-1) else some h))))

theorem laws_heldDetector_ok {W w:World}(hE:Ext W w){S:List Value}{x0:D.Qq}{x1:Int}(Y:ty62.ro W S x0){fuel:Nat}{r:Int}(hm:z2T fuel x0 x1=some r):
  Calls Tryz.prog 52 ⟨[.agg ⟨S⟩,.int .i64 x1]⟩ w (Ret fun v w8=>v=.int .i64 r∧St w w8 []):=by
 obtain⟨A1,k2,A4,k5,A7,k0,e0,o0,f0,p0,g0,q0,X,h3,h6,Z,a0,b0,d0⟩:=z6N Y;subst X;refine into Tryz.func52 18 _ ?_;unfold z2T at hm;have hS:=St.start w;refine sq<|rg<|nw hS (fun j0 y0 i0 h=>?_);refine rr 1 ?_;refine rn<|sq<|rg<|rr 1 ?_;refine lN (At.sub ((h.bring 0 rfl).box) 0 8) ?_;refine rr 1 ?_;obtain⟨r0,M,hm⟩:=bS hm;refine ca zoK (laws_heldCluster_ok (hE.trans h.ext) (z5Z x0.Qa h3 h6 Z a0 b0) M) (fun u0 A0 q=>?_);obtain⟨rfl,y⟩:=q;have d:=h.join y;refine rr 1 ?_;refine rn<|sq<|sq<|rg<|rr 2 ?_;refine rn<|ci hm (fun hm=>?_) (fun hm=>?_)
 ·refine sq<|rg<|rr 1 ?_;refine rn<|rt ?_;cases hm;exact⟨_,.cons (.tmp rfl) .nil,rfl,(d.taken 0)⟩
 ·refine sp<|sq<|rg<|rr 1 ?_;refine l1 ((d.bring 0 rfl).box) 11 ?_;refine rr 1 ?_;obtain⟨t0,O,hm⟩:=bS hm;refine ca znf (laws_heldBoolS_ok (hE.trans d.ext) d0 O) (fun v0 B0 G=>?_);obtain⟨rfl,H⟩:=G;have o:=d.join H;refine rr 1 ?_;refine rn<|sq<|sq<|rg<|rr 2 ?_;refine rn<|ci hm (fun hm=>?_) (fun hm=>?_)
  ·refine sq<|rg<|rr 1 ?_;refine rn<|rt ?_;cases hm;exact⟨_,.cons (.tmp rfl) .nil,rfl,(o.taken 0)⟩
  ·refine sp<|sq<|rg<|rr 2 ?_;refine rn<|rt ?_;cases hm;exact⟨_,.cons (.tmp rfl) .nil,rfl,(o.taken 0)⟩

end Go.E


namespace Go.E
open Go.RowKit Go.Proofs
set_option linter.unusedSimpArgs false
set_option linter.unusedVariables false

def zcq (fuel:Nat) (x:Int) (k:Int):Int:=k
def z9x (x:Int):Nat:=1
def z8s (fuel:Nat) (xs:List Int) (k:Int):List Int:=markL (zcq fuel) z9x xs k
def z32 (xs:List Int):Nat:=sumL z9x xs
theorem z7u {fuel:Nat}{xs:List Int}{k:Int}(hf:18446744073709551616≤fuel) (hl:xs.length≤1048576) (h0:0≤k) (h1:k+(z32 xs:Nat)≤2147483648):z1A fuel xs k=some (k+(z32 xs:Nat),z8s fuel xs k):=by
 unfold z1A
 rw [z87 (f:=zcq fuel) (c:=z9x) (xs:=xs) (k:=k) (by have:=hl;omega) hf h0 h1 ?_ ?_]
 ·rfl
 ·intro i x ys k hi d hx hm h0 h1
  unfold z9x at h1
  unfold z5R zcq z9x
  rw [if_pos (decide_eq_true (show(i:Int)<xs.length by omega))]
  rw [if_pos (decide_eq_true (show 0≤(i:Int)∧(i:Int).toNat<ys.length from⟨by omega,by rw [d];simpa using hi⟩))]
  simp (disch:=omega) only [z7Z,Int.toNat_natCast,Int.ofNat_one,Int.natCast_one]
 ·intro k ys;unfold z5R;rw [if_neg (by simp)]

theorem zaG {xs:List Int}:z32 xs≤64*(xs.length):=by
 have h:=zaj (c:=z9x) (g:=(fun _=>0)) (m:=64) (xs:=xs) fun x _=>by
  unfold z9x
  omega
 rw [zcj (fun _=>rfl)] at h
 exact h

def elAddressS (fuel:Nat) (x:D.Qc) (k:Int):D.Qc:=(⟨k,k+1,k+1+1⟩:D.Qc)
def ecAddressS (x:D.Qc):Nat:=1+1+1
def mkAddressS (fuel:Nat) (xs:List D.Qc) (k:Int):List D.Qc:=markL (elAddressS fuel) ecAddressS xs k
def ctAddressS (xs:List D.Qc):Nat:=sumL ecAddressS xs
theorem zbc {fuel:Nat}{xs:List D.Qc}{k:Int}(hf:18446744073709551616≤fuel) (hl:xs.length≤1048576) (h0:0≤k) (h1:k+(ctAddressS xs:Nat)≤2147483648):z2S fuel xs k=some (k+(ctAddressS xs:Nat),mkAddressS fuel xs k):=by
 unfold z2S
 rw [z87 (f:=elAddressS fuel) (c:=ecAddressS) (xs:=xs) (k:=k) (by have:=hl;omega) hf h0 h1 ?_ ?_]
 ·rfl
 ·intro i x ys k hi d hx hm h0 h1
  unfold ecAddressS at h1
  unfold z4O elAddressS ecAddressS
  rw [if_pos (decide_eq_true (show(i:Int)<xs.length by omega))]
  simp only [z9 hx,Option.bind_some]
  simp (disch:=omega) only [z7Z,Option.bind_some,Int.toNat_natCast]
  all_goals (refine congrArg some (congrArg Rd.next (Prod.ext ?_ ?_));rotate_left;first | rfl | (dsimp only;simp only [Int.natCast_add,Int.natCast_one,Int.ofNat_one,← Int.add_assoc]))
  all_goals (dsimp only;simp only [Int.natCast_add,Int.natCast_one,Int.ofNat_one];try omega)
 ·intro k ys;unfold z4O;rw [if_neg (by simp)]

theorem zdg {xs:List D.Qc}:ctAddressS xs≤64*(xs.length):=by
 have h:=zaj (c:=ecAddressS) (g:=(fun _=>0)) (m:=64) (xs:=xs) fun x _=>by
  unfold ecAddressS
  omega
 rw [zcj (fun _=>rfl)] at h
 exact h

def elParcelS (fuel:Nat) (x:D.Qi) (k:Int):D.Qi:=(⟨k,(⟨k+1,k+1+1,k+1+1+1,(z8s fuel x.Qz.Data (k+1+1+1+1)),(mkAddressS fuel x.Qz.QY (k+1+1+1+1+((z32 x.Qz.Data:Nat):Int)))⟩:D.Qd),(⟨k+1+((1+1+1+z32 x.Qz.Data+ctAddressS x.Qz.QY:Nat):Int),k+1+((1+1+1+z32 x.Qz.Data+ctAddressS x.Qz.QY:Nat):Int)+1,k+1+((1+1+1+z32 x.Qz.Data+ctAddressS x.Qz.QY:Nat):Int)+1+1⟩:D.Qc),(⟨k+1+((1+1+1+z32 x.Qz.Data+ctAddressS x.Qz.QY:Nat):Int)+((1+1+1:Nat):Int),k+1+((1+1+1+z32 x.Qz.Data+ctAddressS x.Qz.QY:Nat):Int)+((1+1+1:Nat):Int)+1,k+1+((1+1+1+z32 x.Qz.Data+ctAddressS x.Qz.QY:Nat):Int)+((1+1+1:Nat):Int)+1+1⟩:D.Qc)⟩:D.Qi)
def ecParcelS (x:D.Qi):Nat:=1+1+1+1+z32 x.Qz.Data+ctAddressS x.Qz.QY+1+1+1+1+1+1
def mkParcelS (fuel:Nat) (xs:List D.Qi) (k:Int):List D.Qi:=markL (elParcelS fuel) ecParcelS xs k
def ctParcelS (xs:List D.Qi):Nat:=sumL ecParcelS xs
theorem zdU {fuel:Nat}{xs:List D.Qi}{k:Int}(hf:18446744073709551616≤fuel) (hl:szL D.Qi.sz xs≤1048576) (h0:0≤k) (h1:k+(ctParcelS xs:Nat)≤2147483648):z5q fuel xs k=some (k+(ctParcelS xs:Nat),mkParcelS fuel xs k):=by
 unfold z5q
 rw [z87 (f:=elParcelS fuel) (c:=ecParcelS) (xs:=xs) (k:=k) (by have:=(z3B hl);omega) hf h0 h1 ?_ ?_]
 ·rfl
 ·intro i x ys k hi d hx hm h0 h1
  unfold ecParcelS at h1
  have hsx:=z3A hl hm
  simp only [D.Qi.sz,D.Qd.sz] at hsx
  unfold z5p elParcelS ecParcelS
  rw [if_pos (decide_eq_true (show(i:Int)<xs.length by omega))]
  simp only [z9 hx,Option.bind_some]
  simp (disch:=omega) only [z7u hf (show x.Qz.Data.length≤1048576 by omega),zbc hf (show x.Qz.QY.length≤1048576 by omega),z7Z,Option.bind_some,Int.toNat_natCast]
  all_goals (refine congrArg some (congrArg Rd.next (Prod.ext ?_ ?_));rotate_left;first | rfl | (dsimp only;simp only [Int.natCast_add,Int.natCast_one,Int.ofNat_one,← Int.add_assoc]))
  all_goals (dsimp only;simp only [Int.natCast_add,Int.natCast_one,Int.ofNat_one];try omega)
 ·intro k ys;unfold z5p;rw [if_neg (by simp)]

theorem zhU {xs:List D.Qi}:ctParcelS xs≤64*(szL D.Qi.sz xs):=by
 have h:=zaj (c:=ecParcelS) (g:=D.Qi.sz) (m:=64) (xs:=xs) fun x _=>by
  unfold ecParcelS
  simp only [D.Qi.sz,D.Qd.sz]
  have:=zaG (xs:=x.Qz.Data)
  have:=zdg (xs:=x.Qz.QY)
  omega
 exact h

def elParcelSS (fuel:Nat) (x:(List D.Qi)) (k:Int):(List D.Qi):=(mkParcelS fuel x (k))
def ecParcelSS (x:(List D.Qi)):Nat:=ctParcelS x
def mkParcelSS (fuel:Nat) (xs:List (List D.Qi)) (k:Int):List (List D.Qi):=markL (elParcelSS fuel) ecParcelSS xs k
def ctParcelSS (xs:List (List D.Qi)):Nat:=sumL ecParcelSS xs
theorem zdy {fuel:Nat}{xs:List (List D.Qi)}{k:Int}(hf:18446744073709551616≤fuel) (hl:szL (fun x=>szL D.Qi.sz x) xs≤1048576) (h0:0≤k) (h1:k+(ctParcelSS xs:Nat)≤2147483648):z4B fuel xs k=some (k+(ctParcelSS xs:Nat),mkParcelSS fuel xs k):=by
 unfold z4B
 rw [z87 (f:=elParcelSS fuel) (c:=ecParcelSS) (xs:=xs) (k:=k) (by have:=(z3B hl);omega) hf h0 h1 ?_ ?_]
 ·rfl
 ·intro i x ys k hi d hx hm h0 h1
  unfold ecParcelSS at h1
  have hsx:=z3A hl hm
  unfold z4N elParcelSS ecParcelSS
  rw [if_pos (decide_eq_true (show(i:Int)<xs.length by omega))]
  simp only [z9 hx,Option.bind_some]
  simp (disch:=omega) only [zdU hf (show szL D.Qi.sz x≤1048576 by omega),z7Z,Option.bind_some,Int.toNat_natCast]
  all_goals (refine congrArg some (congrArg Rd.next (Prod.ext ?_ ?_));rotate_left;first | rfl | (dsimp only;simp only [Int.natCast_add,Int.natCast_one,Int.ofNat_one,← Int.add_assoc]))
  all_goals (dsimp only;simp only [Int.natCast_add,Int.natCast_one,Int.ofNat_one];try omega)
 ·intro k ys;unfold z4N;rw [if_neg (by simp)]

theorem zgH {xs:List (List D.Qi)}:ctParcelSS xs≤64*(szL (fun x=>szL D.Qi.sz x) xs):=by
 have h:=zaj (c:=ecParcelSS) (g:=(fun x=>szL D.Qi.sz x)) (m:=64) (xs:=xs) fun x _=>by
  unfold ecParcelSS
  have:=zhU (xs:=x)
  omega
 exact h

def zbm (fuel:Nat) (x:(List Int)) (k:Int):(List Int):=(z8s fuel x (k))
def z8r (x:(List Int)):Nat:=z32 x
def z9B (fuel:Nat) (xs:List (List Int)) (k:Int):List (List Int):=markL (zbm fuel) z8r xs k
def z9d (xs:List (List Int)):Nat:=sumL z8r xs
theorem zdV {fuel:Nat}{xs:List (List Int)}{k:Int}(hf:18446744073709551616≤fuel) (hl:szL (fun x=>x.length) xs≤1048576) (h0:0≤k) (h1:k+(z9d xs:Nat)≤2147483648):z5s fuel xs k=some (k+(z9d xs:Nat),z9B fuel xs k):=by
 unfold z5s
 rw [z87 (f:=zbm fuel) (c:=z8r) (xs:=xs) (k:=k) (by have:=(z3B hl);omega) hf h0 h1 ?_ ?_]
 ·rfl
 ·intro i x ys k hi d hx hm h0 h1
  unfold z8r at h1
  have hsx:=z3A hl hm
  unfold z5r zbm z8r
  rw [if_pos (decide_eq_true (show(i:Int)<xs.length by omega))]
  simp only [z9 hx,Option.bind_some]
  simp (disch:=omega) only [z7u hf (show x.length≤1048576 by omega),z7Z,Option.bind_some,Int.toNat_natCast]
  all_goals (refine congrArg some (congrArg Rd.next (Prod.ext ?_ ?_));rotate_left;first | rfl | (dsimp only;simp only [Int.natCast_add,Int.natCast_one,Int.ofNat_one,← Int.add_assoc]))
  all_goals (dsimp only;simp only [Int.natCast_add,Int.natCast_one,Int.ofNat_one];try omega)
 ·intro k ys;unfold z5r;rw [if_neg (by simp)]

theorem zhV {xs:List (List Int)}:z9d xs≤64*(szL (fun x=>x.length) xs):=by
 have h:=zaj (c:=z8r) (g:=(fun x=>x.length)) (m:=64) (xs:=xs) fun x _=>by
  unfold z8r
  have:=zaG (xs:=x)
  omega
 exact h

def elShardCellS (fuel:Nat) (x:D.Qd) (k:Int):D.Qd:=(⟨k,k+1,k+1+1,(z8s fuel x.Data (k+1+1+1)),(mkAddressS fuel x.QY (k+1+1+1+((z32 x.Data:Nat):Int)))⟩:D.Qd)
def ecShardCellS (x:D.Qd):Nat:=1+1+1+z32 x.Data+ctAddressS x.QY
def mkShardCellS (fuel:Nat) (xs:List D.Qd) (k:Int):List D.Qd:=markL (elShardCellS fuel) ecShardCellS xs k
def ctShardCellS (xs:List D.Qd):Nat:=sumL ecShardCellS xs
theorem zcF {fuel:Nat}{xs:List D.Qd}{k:Int}(hf:18446744073709551616≤fuel) (hl:szL D.Qd.sz xs≤1048576) (h0:0≤k) (h1:k+(ctShardCellS xs:Nat)≤2147483648):z39 fuel xs k=some (k+(ctShardCellS xs:Nat),mkShardCellS fuel xs k):=by
 unfold z39
 rw [z87 (f:=elShardCellS fuel) (c:=ecShardCellS) (xs:=xs) (k:=k) (by have:=(z3B hl);omega) hf h0 h1 ?_ ?_]
 ·rfl
 ·intro i x ys k hi d hx hm h0 h1
  unfold ecShardCellS at h1
  have hsx:=z3A hl hm
  unfold D.Qd.sz at hsx
  unfold z3w elShardCellS ecShardCellS
  rw [if_pos (decide_eq_true (show(i:Int)<xs.length by omega))]
  simp only [z9 hx,Option.bind_some]
  simp (disch:=omega) only [z7u hf (show x.Data.length≤1048576 by omega),zbc hf (show x.QY.length≤1048576 by omega),z7Z,Option.bind_some,Int.toNat_natCast]
  all_goals (refine congrArg some (congrArg Rd.next (Prod.ext ?_ ?_));rotate_left;first | rfl | (dsimp only;simp only [Int.natCast_add,Int.natCast_one,Int.ofNat_one,← Int.add_assoc]))
  all_goals (dsimp only;simp only [Int.natCast_add,Int.natCast_one,Int.ofNat_one];try omega)
 ·intro k ys;unfold z3w;rw [if_neg (by simp)]

theorem zfb {xs:List D.Qd}:ctShardCellS xs≤64*(szL D.Qd.sz xs):=by
 have h:=zaj (c:=ecShardCellS) (g:=D.Qd.sz) (m:=64) (xs:=xs) fun x _=>by
  unfold ecShardCellS
  unfold D.Qd.sz
  have:=zaG (xs:=x.Data)
  have:=zdg (xs:=x.QY)
  omega
 exact h

def elShardVarS (fuel:Nat) (x:D.Qp) (k:Int):D.Qp:=(⟨((k).tmod 3 == 0),((k+1).tmod 3 == 0),(⟨k+1+1,k+1+1+1,k+1+1+1+1⟩:D.Qc)⟩:D.Qp)
def ecShardVarS (x:D.Qp):Nat:=1+1+1+1+1
def mkShardVarS (fuel:Nat) (xs:List D.Qp) (k:Int):List D.Qp:=markL (elShardVarS fuel) ecShardVarS xs k
def ctShardVarS (xs:List D.Qp):Nat:=sumL ecShardVarS xs
theorem zd1 {fuel:Nat}{xs:List D.Qp}{k:Int}(hf:18446744073709551616≤fuel) (hl:xs.length≤1048576) (h0:0≤k) (h1:k+(ctShardVarS xs:Nat)≤2147483648):z3M fuel xs k=some (k+(ctShardVarS xs:Nat),mkShardVarS fuel xs k):=by
 unfold z3M
 rw [z87 (f:=elShardVarS fuel) (c:=ecShardVarS) (xs:=xs) (k:=k) (by have:=hl;omega) hf h0 h1 ?_ ?_]
 ·rfl
 ·intro i x ys k hi d hx hm h0 h1
  unfold ecShardVarS at h1
  unfold z45 elShardVarS ecShardVarS
  rw [if_pos (decide_eq_true (show(i:Int)<xs.length by omega))]
  simp only [z9 hx,Option.bind_some]
  simp (disch:=omega) only [z7Z,Option.bind_some,Int.toNat_natCast]
  all_goals (refine congrArg some (congrArg Rd.next (Prod.ext ?_ ?_));rotate_left;first | rfl | (dsimp only;simp only [Int.natCast_add,Int.natCast_one,Int.ofNat_one,← Int.add_assoc]))
  all_goals (dsimp only;simp only [Int.natCast_add,Int.natCast_one,Int.ofNat_one];try omega)
 ·intro k ys;unfold z45;rw [if_neg (by simp)]

theorem zfG {xs:List D.Qp}:ctShardVarS xs≤64*(xs.length):=by
 have h:=zaj (c:=ecShardVarS) (g:=(fun _=>0)) (m:=64) (xs:=xs) fun x _=>by
  unfold ecShardVarS
  omega
 rw [zcj (fun _=>rfl)] at h
 exact h

def elShardRedexS (fuel:Nat) (x:D.Qn) (k:Int):D.Qn:=(⟨(⟨k,k+1,k+1+1⟩:D.Qc),(⟨k+((1+1+1:Nat):Int),k+((1+1+1:Nat):Int)+1,k+((1+1+1:Nat):Int)+1+1⟩:D.Qc)⟩:D.Qn)
def ecShardRedexS (x:D.Qn):Nat:=1+1+1+1+1+1
def mkShardRedexS (fuel:Nat) (xs:List D.Qn) (k:Int):List D.Qn:=markL (elShardRedexS fuel) ecShardRedexS xs k
def ctShardRedexS (xs:List D.Qn):Nat:=sumL ecShardRedexS xs
theorem zct {fuel:Nat}{xs:List D.Qn}{k:Int}(hf:18446744073709551616≤fuel) (hl:xs.length≤1048576) (h0:0≤k) (h1:k+(ctShardRedexS xs:Nat)≤2147483648):z2G fuel xs k=some (k+(ctShardRedexS xs:Nat),mkShardRedexS fuel xs k):=by
 unfold z2G
 rw [z87 (f:=elShardRedexS fuel) (c:=ecShardRedexS) (xs:=xs) (k:=k) (by have:=hl;omega) hf h0 h1 ?_ ?_]
 ·rfl
 ·intro i x ys k hi d hx hm h0 h1
  unfold ecShardRedexS at h1
  unfold z2Z elShardRedexS ecShardRedexS
  rw [if_pos (decide_eq_true (show(i:Int)<xs.length by omega))]
  simp only [z9 hx,Option.bind_some]
  simp (disch:=omega) only [z7Z,Option.bind_some,Int.toNat_natCast]
  all_goals (refine congrArg some (congrArg Rd.next (Prod.ext ?_ ?_));rotate_left;first | rfl | (dsimp only;simp only [Int.natCast_add,Int.natCast_one,Int.ofNat_one,← Int.add_assoc]))
  all_goals (dsimp only;simp only [Int.natCast_add,Int.natCast_one,Int.ofNat_one];try omega)
 ·intro k ys;unfold z2Z;rw [if_neg (by simp)]

theorem ze2 {xs:List D.Qn}:ctShardRedexS xs≤64*(xs.length):=by
 have h:=zaj (c:=ecShardRedexS) (g:=(fun _=>0)) (m:=64) (xs:=xs) fun x _=>by
  unfold ecShardRedexS
  omega
 rw [zcj (fun _=>rfl)] at h
 exact h

def elShardS (fuel:Nat) (x:D.Qv) (k:Int):D.Qv:=(⟨(mkShardCellS fuel x.Cells (k)),(mkShardVarS fuel x.QM (k+((ctShardCellS x.Cells:Nat):Int))),(mkShardRedexS fuel x.Qu (k+((ctShardCellS x.Cells:Nat):Int)+((ctShardVarS x.QM:Nat):Int)))⟩:D.Qv)
def ecShardS (x:D.Qv):Nat:=ctShardCellS x.Cells+ctShardVarS x.QM+ctShardRedexS x.Qu
def mkShardS (fuel:Nat) (xs:List D.Qv) (k:Int):List D.Qv:=markL (elShardS fuel) ecShardS xs k
def ctShardS (xs:List D.Qv):Nat:=sumL ecShardS xs
theorem zeR {fuel:Nat}{xs:List D.Qv}{k:Int}(hf:18446744073709551616≤fuel) (hl:szL D.Qv.sz xs≤1048576) (h0:0≤k) (h1:k+(ctShardS xs:Nat)≤2147483648):z6m fuel xs k=some (k+(ctShardS xs:Nat),mkShardS fuel xs k):=by
 unfold z6m
 rw [z87 (f:=elShardS fuel) (c:=ecShardS) (xs:=xs) (k:=k) (by have:=(z3B hl);omega) hf h0 h1 ?_ ?_]
 ·rfl
 ·intro i x ys k hi d hx hm h0 h1
  unfold ecShardS at h1
  have hsx:=z3A hl hm
  unfold D.Qv.sz at hsx
  unfold z5Q elShardS ecShardS
  rw [if_pos (decide_eq_true (show(i:Int)<xs.length by omega))]
  simp only [z9 hx,Option.bind_some]
  simp (disch:=omega) only [zcF hf (show szL D.Qd.sz x.Cells≤1048576 by omega),zd1 hf (show x.QM.length≤1048576 by omega),zct hf (show x.Qu.length≤1048576 by omega),z7Z,Option.bind_some,Int.toNat_natCast]
  all_goals (refine congrArg some (congrArg Rd.next (Prod.ext ?_ ?_));rotate_left;first | rfl | (dsimp only;simp only [Int.natCast_add,Int.natCast_one,Int.ofNat_one,← Int.add_assoc]))
  all_goals (dsimp only;simp only [Int.natCast_add,Int.natCast_one,Int.ofNat_one];try omega)
 ·intro k ys;unfold z5Q;rw [if_neg (by simp)]

theorem ziy {xs:List D.Qv}:ctShardS xs≤64*(szL D.Qv.sz xs):=by
 have h:=zaj (c:=ecShardS) (g:=D.Qv.sz) (m:=64) (xs:=xs) fun x _=>by
  unfold ecShardS
  unfold D.Qv.sz
  have:=zfb (xs:=x.Cells)
  have:=zfG (xs:=x.QM)
  have:=ze2 (xs:=x.Qu)
  omega
 exact h

end Go.E


namespace Go.E
open Go.RowKit Go.Proofs
set_option linter.unusedSimpArgs false
set_option linter.unusedVariables false
set_option maxHeartbeats 1000000

theorem z7Q {fuel:Nat}{xs:List Int}{k:Int}(hf:18446744073709551616≤fuel) (hl:xs.length≤1048576) (h0:0≤k) (h1:k+(z32 xs:Nat)≤2147483648):z1B fuel (z8s fuel xs k) k=some (k+(z32 xs:Nat)):=by
 unfold z1B
 have hlen:(z8s fuel xs k).length=xs.length:=z1w _ _
 rw [z8q (f:=zcq fuel) (c:=z9x) (xs:=xs) (k:=k) (by have:=hl;omega) hf h0 h1 ?_ ?_]
 ·rfl
 ·intro i x k' hi hx hm h0 h1
  unfold z9x at h1
  have d:(z8s fuel xs k)[i]? = some (zcq fuel x k'):=hx
  unfold z3P
  rw [if_pos (decide_eq_true (show(i:Int)<(z8s fuel xs k).length by rw [hlen];omega))]
  simp only [z9 d,Option.bind_some]
  unfold zcq z9x
  simp (disch:=omega) only [z7Z,Option.bind_some,lt_f,if_false,bne_self_eq_false,Bool.false_eq_true,beq_self_eq_true,Bool.not_true,Int.ofNat_one,Int.natCast_one]
 ·intro k';show z3P fuel (z8s fuel xs k) (k',((z8s fuel xs k).length:Int))=_;unfold z3P;rw [if_neg (by simp)]

theorem zbk {fuel:Nat}{xs:List D.Qc}{k:Int}(hf:18446744073709551616≤fuel) (hl:xs.length≤1048576) (h0:0≤k) (h1:k+(ctAddressS xs:Nat)≤2147483648):z2U fuel (mkAddressS fuel xs k) k=some (k+(ctAddressS xs:Nat)):=by
 unfold z2U
 have hlen:(mkAddressS fuel xs k).length=xs.length:=z1w _ _
 rw [z8q (f:=elAddressS fuel) (c:=ecAddressS) (xs:=xs) (k:=k) (by have:=hl;omega) hf h0 h1 ?_ ?_]
 ·rfl
 ·intro i x k' hi hx hm h0 h1
  unfold ecAddressS at h1
  have d:(mkAddressS fuel xs k)[i]? = some (elAddressS fuel x k'):=hx
  unfold z2K
  rw [if_pos (decide_eq_true (show(i:Int)<(mkAddressS fuel xs k).length by rw [hlen];omega))]
  simp only [z9 d,Option.bind_some]
  unfold elAddressS ecAddressS
  simp (disch:=omega) only [z7Z,Option.bind_some,lt_f,if_false,bne_self_eq_false,Bool.false_eq_true,beq_self_eq_true,Bool.not_true,Int.ofNat_one,Int.natCast_one]
  try (refine congrArg some (congrArg Rd.next (Prod.ext ?_ rfl));dsimp only;simp only [Int.natCast_add,Int.natCast_one,Int.ofNat_one];try omega)
 ·intro k';show z2K fuel (mkAddressS fuel xs k) (k',((mkAddressS fuel xs k).length:Int))=_;unfold z2K;rw [if_neg (by simp)]

theorem zdZ {fuel:Nat}{xs:List D.Qi}{k:Int}(hf:18446744073709551616≤fuel) (hl:szL D.Qi.sz xs≤1048576) (h0:0≤k) (h1:k+(ctParcelS xs:Nat)≤2147483648):z5t fuel (mkParcelS fuel xs k) k=some (k+(ctParcelS xs:Nat)):=by
 unfold z5t
 have hlen:(mkParcelS fuel xs k).length=xs.length:=z1w _ _
 rw [z8q (f:=elParcelS fuel) (c:=ecParcelS) (xs:=xs) (k:=k) (by have:=(z3B hl);omega) hf h0 h1 ?_ ?_]
 ·rfl
 ·intro i x k' hi hx hm h0 h1
  unfold ecParcelS at h1
  have hsx:=z3A hl hm
  simp only [D.Qi.sz,D.Qd.sz] at hsx
  have d:(mkParcelS fuel xs k)[i]? = some (elParcelS fuel x k'):=hx
  unfold z3b
  rw [if_pos (decide_eq_true (show(i:Int)<(mkParcelS fuel xs k).length by rw [hlen];omega))]
  simp only [z9 d,Option.bind_some]
  unfold elParcelS ecParcelS
  simp only [Int.natCast_add,Int.natCast_one,Int.ofNat_one,← Int.add_assoc] at h1 ⊢
  simp (disch:=omega) only [z7Q hf (show x.Qz.Data.length≤1048576 by omega),zbk hf (show x.Qz.QY.length≤1048576 by omega),z7Z,Option.bind_some,lt_f,if_false,bne_self_eq_false,Bool.false_eq_true,beq_self_eq_true,Bool.not_true,Int.ofNat_one,Int.natCast_one]
  try (refine congrArg some (congrArg Rd.next (Prod.ext ?_ rfl));dsimp only;simp only [Int.natCast_add,Int.natCast_one,Int.ofNat_one];try omega)
 ·intro k';show z3b fuel (mkParcelS fuel xs k) (k',((mkParcelS fuel xs k).length:Int))=_;unfold z3b;rw [if_neg (by simp)]

theorem zdC {fuel:Nat}{xs:List (List D.Qi)}{k:Int}(hf:18446744073709551616≤fuel) (hl:szL (fun x=>szL D.Qi.sz x) xs≤1048576) (h0:0≤k) (h1:k+(ctParcelSS xs:Nat)≤2147483648):z4C fuel (mkParcelSS fuel xs k) k=some (k+(ctParcelSS xs:Nat)):=by
 unfold z4C
 have hlen:(mkParcelSS fuel xs k).length=xs.length:=z1w _ _
 rw [z8q (f:=elParcelSS fuel) (c:=ecParcelSS) (xs:=xs) (k:=k) (by have:=(z3B hl);omega) hf h0 h1 ?_ ?_]
 ·rfl
 ·intro i x k' hi hx hm h0 h1
  unfold ecParcelSS at h1
  have hsx:=z3A hl hm
  have d:(mkParcelSS fuel xs k)[i]? = some (elParcelSS fuel x k'):=hx
  unfold z2J
  rw [if_pos (decide_eq_true (show(i:Int)<(mkParcelSS fuel xs k).length by rw [hlen];omega))]
  simp only [z9 d,Option.bind_some]
  unfold elParcelSS ecParcelSS
  simp (disch:=omega) only [zdZ hf (show szL D.Qi.sz x≤1048576 by omega),z7Z,Option.bind_some,lt_f,if_false,bne_self_eq_false,Bool.false_eq_true,beq_self_eq_true,Bool.not_true,Int.ofNat_one,Int.natCast_one]
  try (refine congrArg some (congrArg Rd.next (Prod.ext ?_ rfl));dsimp only;simp only [Int.natCast_add,Int.natCast_one,Int.ofNat_one];try omega)
 ·intro k';show z2J fuel (mkParcelSS fuel xs k) (k',((mkParcelSS fuel xs k).length:Int))=_;unfold z2J;rw [if_neg (by simp)]

theorem ze0 {fuel:Nat}{xs:List (List Int)}{k:Int}(hf:18446744073709551616≤fuel) (hl:szL (fun x=>x.length) xs≤1048576) (h0:0≤k) (h1:k+(z9d xs:Nat)≤2147483648):z5u fuel (z9B fuel xs k) k=some (k+(z9d xs:Nat)):=by
 unfold z5u
 have hlen:(z9B fuel xs k).length=xs.length:=z1w _ _
 rw [z8q (f:=zbm fuel) (c:=z8r) (xs:=xs) (k:=k) (by have:=(z3B hl);omega) hf h0 h1 ?_ ?_]
 ·rfl
 ·intro i x k' hi hx hm h0 h1
  unfold z8r at h1
  have hsx:=z3A hl hm
  have d:(z9B fuel xs k)[i]? = some (zbm fuel x k'):=hx
  unfold z3c
  rw [if_pos (decide_eq_true (show(i:Int)<(z9B fuel xs k).length by rw [hlen];omega))]
  simp only [z9 d,Option.bind_some]
  unfold zbm z8r
  simp (disch:=omega) only [z7Q hf (show x.length≤1048576 by omega),z7Z,Option.bind_some,lt_f,if_false,bne_self_eq_false,Bool.false_eq_true,beq_self_eq_true,Bool.not_true,Int.ofNat_one,Int.natCast_one]
  try (refine congrArg some (congrArg Rd.next (Prod.ext ?_ rfl));dsimp only;simp only [Int.natCast_add,Int.natCast_one,Int.ofNat_one];try omega)
 ·intro k';show z3c fuel (z9B fuel xs k) (k',((z9B fuel xs k).length:Int))=_;unfold z3c;rw [if_neg (by simp)]

def elBoolS (fuel:Nat) (x:Bool) (k:Int):Bool:=((k).tmod 3 == 0)
def ecBoolS (x:Bool):Nat:=1
def mkBoolS (fuel:Nat) (xs:List Bool) (k:Int):List Bool:=markL (elBoolS fuel) ecBoolS xs k
def ctBoolS (xs:List Bool):Nat:=sumL ecBoolS xs
theorem zfB {fuel:Nat}{xs:List Bool}{k:Int}(hf:18446744073709551616≤fuel) (hl:xs.length≤1048576) (h0:0≤k) (h1:k+(ctBoolS xs:Nat)≤2147483648):z71 fuel xs k=some (k+(ctBoolS xs:Nat),mkBoolS fuel xs k):=by
 unfold z71
 rw [z87 (f:=elBoolS fuel) (c:=ecBoolS) (xs:=xs) (k:=k) (by have:=hl;omega) hf h0 h1 ?_ ?_]
 ·rfl
 ·intro i x ys k hi d hx hm h0 h1
  unfold ecBoolS at h1
  unfold z6E elBoolS ecBoolS
  rw [if_pos (decide_eq_true (show(i:Int)<xs.length by omega))]
  rw [if_pos (decide_eq_true (show 0≤(i:Int)∧(i:Int).toNat<ys.length from⟨by omega,by rw [d];simpa using hi⟩))]
  simp (disch:=omega) only [z7Z,Int.toNat_natCast,Int.ofNat_one,Int.natCast_one]
 ·intro k ys;unfold z6E;rw [if_neg (by simp)]

theorem zfC {fuel:Nat}{xs:List Bool}{k:Int}(hf:18446744073709551616≤fuel) (hl:xs.length≤1048576) (h0:0≤k) (h1:k+(ctBoolS xs:Nat)≤2147483648):z72 fuel (mkBoolS fuel xs k) k=some (k+(ctBoolS xs:Nat)):=by
 unfold z72
 have hlen:(mkBoolS fuel xs k).length=xs.length:=z1w _ _
 rw [z8q (f:=elBoolS fuel) (c:=ecBoolS) (xs:=xs) (k:=k) (by have:=hl;omega) hf h0 h1 ?_ ?_]
 ·rfl
 ·intro i x k' hi hx hm h0 h1
  unfold ecBoolS at h1
  have d:(mkBoolS fuel xs k)[i]? = some (elBoolS fuel x k'):=hx
  unfold z4D
  rw [if_pos (decide_eq_true (show(i:Int)<(mkBoolS fuel xs k).length by rw [hlen];omega))]
  simp only [z9 d,Option.bind_some]
  unfold elBoolS ecBoolS
  simp (disch:=omega) only [z7Z,Option.bind_some,lt_f,if_false,bne_self_eq_false,Bool.false_eq_true,beq_self_eq_true,Bool.not_true,Int.ofNat_one,Int.natCast_one]
 ·intro k';show z4D fuel (mkBoolS fuel xs k) (k',((mkBoolS fuel xs k).length:Int))=_;unfold z4D;rw [if_neg (by simp)]

theorem zjD {xs:List Bool}:ctBoolS xs≤64*(xs.length):=by
 have h:=zaj (c:=ecBoolS) (g:=(fun _=>0)) (m:=64) (xs:=xs) fun x _=>by
  unfold ecBoolS
  omega
 rw [zcj (fun _=>rfl)] at h
 exact h

theorem zcL {fuel:Nat}{xs:List D.Qd}{k:Int}(hf:18446744073709551616≤fuel) (hl:szL D.Qd.sz xs≤1048576) (h0:0≤k) (h1:k+(ctShardCellS xs:Nat)≤2147483648):z3a fuel (mkShardCellS fuel xs k) k=some (k+(ctShardCellS xs:Nat)):=by
 unfold z3a
 have hlen:(mkShardCellS fuel xs k).length=xs.length:=z1w _ _
 rw [z8q (f:=elShardCellS fuel) (c:=ecShardCellS) (xs:=xs) (k:=k) (by have:=(z3B hl);omega) hf h0 h1 ?_ ?_]
 ·rfl
 ·intro i x k' hi hx hm h0 h1
  unfold ecShardCellS at h1
  have hsx:=z3A hl hm
  unfold D.Qd.sz at hsx
  have d:(mkShardCellS fuel xs k)[i]? = some (elShardCellS fuel x k'):=hx
  unfold z28
  rw [if_pos (decide_eq_true (show(i:Int)<(mkShardCellS fuel xs k).length by rw [hlen];omega))]
  simp only [z9 d,Option.bind_some]
  unfold elShardCellS ecShardCellS
  simp (disch:=omega) only [z7Q hf (show x.Data.length≤1048576 by omega),zbk hf (show x.QY.length≤1048576 by omega),z7Z,Option.bind_some,lt_f,if_false,bne_self_eq_false,Bool.false_eq_true,beq_self_eq_true,Bool.not_true,Int.ofNat_one,Int.natCast_one]
  try (refine congrArg some (congrArg Rd.next (Prod.ext ?_ rfl));dsimp only;simp only [Int.natCast_add,Int.natCast_one,Int.ofNat_one];try omega)
 ·intro k';show z28 fuel (mkShardCellS fuel xs k) (k',((mkShardCellS fuel xs k).length:Int))=_;unfold z28;rw [if_neg (by simp)]

theorem zd9 {fuel:Nat}{xs:List D.Qp}{k:Int}(hf:18446744073709551616≤fuel) (hl:xs.length≤1048576) (h0:0≤k) (h1:k+(ctShardVarS xs:Nat)≤2147483648):z3N fuel (mkShardVarS fuel xs k) k=some (k+(ctShardVarS xs:Nat)):=by
 unfold z3N
 have hlen:(mkShardVarS fuel xs k).length=xs.length:=z1w _ _
 rw [z8q (f:=elShardVarS fuel) (c:=ecShardVarS) (xs:=xs) (k:=k) (by have:=hl;omega) hf h0 h1 ?_ ?_]
 ·rfl
 ·intro i x k' hi hx hm h0 h1
  unfold ecShardVarS at h1
  have d:(mkShardVarS fuel xs k)[i]? = some (elShardVarS fuel x k'):=hx
  unfold z2s
  rw [if_pos (decide_eq_true (show(i:Int)<(mkShardVarS fuel xs k).length by rw [hlen];omega))]
  simp only [z9 d,Option.bind_some]
  unfold elShardVarS ecShardVarS
  simp (disch:=omega) only [z7Z,Option.bind_some,lt_f,if_false,bne_self_eq_false,Bool.false_eq_true,beq_self_eq_true,Bool.not_true,Int.ofNat_one,Int.natCast_one]
  try (refine congrArg some (congrArg Rd.next (Prod.ext ?_ rfl));dsimp only;simp only [Int.natCast_add,Int.natCast_one,Int.ofNat_one];try omega)
 ·intro k';show z2s fuel (mkShardVarS fuel xs k) (k',((mkShardVarS fuel xs k).length:Int))=_;unfold z2s;rw [if_neg (by simp)]

theorem zcx {fuel:Nat}{xs:List D.Qn}{k:Int}(hf:18446744073709551616≤fuel) (hl:xs.length≤1048576) (h0:0≤k) (h1:k+(ctShardRedexS xs:Nat)≤2147483648):z2H fuel (mkShardRedexS fuel xs k) k=some (k+(ctShardRedexS xs:Nat)):=by
 unfold z2H
 have hlen:(mkShardRedexS fuel xs k).length=xs.length:=z1w _ _
 rw [z8q (f:=elShardRedexS fuel) (c:=ecShardRedexS) (xs:=xs) (k:=k) (by have:=hl;omega) hf h0 h1 ?_ ?_]
 ·rfl
 ·intro i x k' hi hx hm h0 h1
  unfold ecShardRedexS at h1
  have d:(mkShardRedexS fuel xs k)[i]? = some (elShardRedexS fuel x k'):=hx
  unfold z1M
  rw [if_pos (decide_eq_true (show(i:Int)<(mkShardRedexS fuel xs k).length by rw [hlen];omega))]
  simp only [z9 d,Option.bind_some]
  unfold elShardRedexS ecShardRedexS
  simp only [Int.natCast_add,Int.natCast_one,Int.ofNat_one,← Int.add_assoc] at h1 ⊢
  simp (disch:=omega) only [z7Z,Option.bind_some,lt_f,if_false,bne_self_eq_false,Bool.false_eq_true,beq_self_eq_true,Bool.not_true,Int.ofNat_one,Int.natCast_one]
  try (refine congrArg some (congrArg Rd.next (Prod.ext ?_ rfl));dsimp only;simp only [Int.natCast_add,Int.natCast_one,Int.ofNat_one];try omega)
 ·intro k';show z1M fuel (mkShardRedexS fuel xs k) (k',((mkShardRedexS fuel xs k).length:Int))=_;unfold z1M;rw [if_neg (by simp)]

theorem zeX {fuel:Nat}{xs:List D.Qv}{k:Int}(hf:18446744073709551616≤fuel) (hl:szL D.Qv.sz xs≤1048576) (h0:0≤k) (h1:k+(ctShardS xs:Nat)≤2147483648):z6n fuel (mkShardS fuel xs k) k=some (k+(ctShardS xs:Nat)):=by
 unfold z6n
 have hlen:(mkShardS fuel xs k).length=xs.length:=z1w _ _
 rw [z8q (f:=elShardS fuel) (c:=ecShardS) (xs:=xs) (k:=k) (by have:=(z3B hl);omega) hf h0 h1 ?_ ?_]
 ·rfl
 ·intro i x k' hi hx hm h0 h1
  unfold ecShardS at h1
  have hsx:=z3A hl hm
  unfold D.Qv.sz at hsx
  have d:(mkShardS fuel xs k)[i]? = some (elShardS fuel x k'):=hx
  unfold z3O
  rw [if_pos (decide_eq_true (show(i:Int)<(mkShardS fuel xs k).length by rw [hlen];omega))]
  simp only [z9 d,Option.bind_some]
  unfold elShardS ecShardS
  simp (disch:=omega) only [zcL hf (show szL D.Qd.sz x.Cells≤1048576 by omega),zd9 hf (show x.QM.length≤1048576 by omega),zcx hf (show x.Qu.length≤1048576 by omega),z7Z,Option.bind_some,lt_f,if_false,bne_self_eq_false,Bool.false_eq_true,beq_self_eq_true,Bool.not_true,Int.ofNat_one,Int.natCast_one]
  try (refine congrArg some (congrArg Rd.next (Prod.ext ?_ rfl));dsimp only;simp only [Int.natCast_add,Int.natCast_one,Int.ofNat_one];try omega)
 ·intro k';show z3O fuel (mkShardS fuel xs k) (k',((mkShardS fuel xs k).length:Int))=_;unfold z3O;rw [if_neg (by simp)]

def mkDetector (fuel:Nat) (x:D.Qq) (k:Int):D.Qq:=(⟨(⟨(⟨mkShardS fuel x.Qa.Qe.Qg (k),(⟨x.Qa.Qe.Qo.Qb,x.Qa.Qe.Qo.Qj,x.Qa.Qe.Qo.Qk⟩:D.Qc)⟩:D.Qe),mkParcelSS fuel x.Qa.Qf (k+((ctShardS x.Qa.Qe.Qg:Nat):Int)),z9B fuel x.Qa.Qt (k+((ctShardS x.Qa.Qe.Qg:Nat):Int)+((ctParcelSS x.Qa.Qf:Nat):Int)),z8s fuel x.Qa.QK (k+((ctShardS x.Qa.Qe.Qg:Nat):Int)+((ctParcelSS x.Qa.Qf:Nat):Int)+((z9d x.Qa.Qt:Nat):Int)),z8s fuel x.Qa.QZ (k+((ctShardS x.Qa.Qe.Qg:Nat):Int)+((ctParcelSS x.Qa.Qf:Nat):Int)+((z9d x.Qa.Qt:Nat):Int)+((z32 x.Qa.QK:Nat):Int))⟩:D.Qa),x.QB,x.QL,x.Qa1,mkBoolS fuel x.Qs (k+((ctShardS x.Qa.Qe.Qg:Nat):Int)+((ctParcelSS x.Qa.Qf:Nat):Int)+((z9d x.Qa.Qt:Nat):Int)+((z32 x.Qa.QK:Nat):Int)+((z32 x.Qa.QZ:Nat):Int)),x.QG,x.Qx⟩:D.Qq)
def ctDetector (x:D.Qq):Nat:=ctShardS x.Qa.Qe.Qg+ctParcelSS x.Qa.Qf+z9d x.Qa.Qt+z32 x.Qa.QK+z32 x.Qa.QZ+ctBoolS x.Qs
theorem z9v {fuel:Nat}{x:D.Qq}{k:Int}:(⟨(⟨(⟨(mkDetector fuel x k).Qa.Qe.Qg,(⟨x.Qa.Qe.Qo.Qb,x.Qa.Qe.Qo.Qj,x.Qa.Qe.Qo.Qk⟩:D.Qc)⟩:D.Qe),(mkDetector fuel x k).Qa.Qf,(mkDetector fuel x k).Qa.Qt,(mkDetector fuel x k).Qa.QK,(mkDetector fuel x k).Qa.QZ⟩:D.Qa),x.QB,x.QL,x.Qa1,(mkDetector fuel x k).Qs,x.QG,x.Qx⟩:D.Qq)=mkDetector fuel x k:=rfl
theorem zbb {fuel:Nat}{x:D.Qq}{k:Int}(hf:18446744073709551616≤fuel) (hs:x.sz≤1048576) (h0:0≤k) (h1:k+(ctDetector x:Nat)≤2147483648):z2R fuel x k=some (k+(ctDetector x:Nat),(mkDetector fuel x k).Qa.Qe.Qg,(mkDetector fuel x k).Qa.Qf,(mkDetector fuel x k).Qa.Qt,(mkDetector fuel x k).Qa.QK,(mkDetector fuel x k).Qa.QZ,(mkDetector fuel x k).Qs):=by
 unfold ctDetector at h1 ⊢
 simp only [D.Qq.sz,D.Qa.sz,D.Qe.sz] at hs
 unfold z2R mkDetector
 simp (disch:=omega) only [zeR hf (show szL D.Qv.sz x.Qa.Qe.Qg≤1048576 by omega),zdy hf (show szL (fun x=>szL D.Qi.sz x) x.Qa.Qf≤1048576 by omega),zdV hf (show szL (fun x=>x.length) x.Qa.Qt≤1048576 by omega),z7u hf (show x.Qa.QK.length≤1048576 by omega),z7u hf (show x.Qa.QZ.length≤1048576 by omega),zfB hf (show x.Qs.length≤1048576 by omega),Option.bind_some,z7o,z92]
 all_goals try simp only [Int.natCast_add,Int.add_assoc]

theorem zdD {fuel:Nat}{x:D.Qq}{k:Int}(hf:18446744073709551616≤fuel) (hs:x.sz≤1048576) (h0:0≤k) (h1:k+(ctDetector x:Nat)≤2147483648):z2T fuel (mkDetector fuel x k) k=some (k+(ctDetector x:Nat)):=by
 unfold ctDetector at h1 ⊢
 simp only [D.Qq.sz,D.Qa.sz,D.Qe.sz] at hs
 unfold z2T mkDetector
 simp (disch:=omega) only [zeX hf (show szL D.Qv.sz x.Qa.Qe.Qg≤1048576 by omega),zdC hf (show szL (fun x=>szL D.Qi.sz x) x.Qa.Qf≤1048576 by omega),ze0 hf (show szL (fun x=>x.length) x.Qa.Qt≤1048576 by omega),z7Q hf (show x.Qa.QK.length≤1048576 by omega),z7Q hf (show x.Qa.QZ.length≤1048576 by omega),zfC hf (show x.Qs.length≤1048576 by omega),Option.bind_some,lt_f,if_false,z7p,z94]
 all_goals try simp only [Int.natCast_add,Int.add_assoc]

theorem zdf {x:D.Qq}:ctDetector x≤64*x.sz:=by
 unfold ctDetector
 simp only [D.Qq.sz,D.Qa.sz,D.Qe.sz]
 have:=ziy (xs:=x.Qa.Qe.Qg)
 have:=zgH (xs:=x.Qa.Qf)
 have:=zhV (xs:=x.Qa.Qt)
 have:=zaG (xs:=x.Qa.QK)
 have:=zaG (xs:=x.Qa.QZ)
 have:=zjD (xs:=x.Qs)
 omega

end Go.E


namespace Go.E
open Go.RowKit Go.Proofs
set_option linter.unusedVariables false
set_option linter.unusedSimpArgs false
set_option maxHeartbeats 2000000
set_option maxRecDepth 100000

end Go.E


namespace Go.E
open Go.RowKit Go.Proofs
set_option linter.unusedSimpArgs false
set_option linter.unusedVariables false

theorem z6M {fuel:Nat}{a l h:Int}:zw fuel a l h=some (decide (l≤a∧a≤h)):=by
 unfold zw
 by_cases h1:l≤a
 ·rw [if_pos (decide_eq_true (by omega))];simp [h1]
 ·rw [if_neg (by simp;omega)];simp [h1]

def portsN (k f:Int):Int:=
 if k=9 then(if 0≤f∧f≤3 then 1+f else 0) else if f≠0 then 0 else if k=1∨k=5∨k=6∨k=12 then 1 else
 if k=8∨k=10∨k=11 then 2 else if k=2∨k=3∨k=4∨k=7 then 3 else 0
def levelN (k:Int):Bool:=decide (2≤k∧k≤12∧k≠5∧k≠6)
def allowN (k l:Int):Bool:=decide (1≤k∧k≤12) && (decide (l=0) || (levelN k && decide (0≤l∧l≤8)))
def defN (n:Int):Bool:=decide (0≤n∧n≤23)
def contentN (k v:Int) (d:List Int):Bool:=
 if k=6 then decide (d.length=0∧-2147483648≤v∧v≤2147483647) else
 if k=7 then decide (d.length=0∧1≤v∧v≤6) else
 if k=8 then decide (d.length=1∧1≤v∧v≤6) && d.all (fun n=>decide (-2147483648≤n∧n≤2147483647)) else
 if k=9 then decide (d.length=0∧0≤v∧v≤3) else
 if k=10 then decide (v=0∧1≤d.length∧d.length≤4) && d.all defN else
 if k=11 then decide (v=0∧d.length=2) && d.all defN else
 if k=12 then decide (d.length=0∧0≤v∧v≤23) else decide (v=0∧d.length=0)
def agentN (k l v:Int) (d:List Int) (n:Nat):Bool:=decide (portsN k (if k=9 then n - 1 else 0)=n) && (allowN k l && contentN k v d)

theorem kinds (k:Int):(k=1∨k=2∨k=3∨k=4∨k=5∨k=6∨k=7∨k=8∨k=9∨k=10∨k=11∨k=12)∨¬ (1≤k∧k≤12):=by omega
theorem ziP {k:Int}(h:¬ (1≤k∧k≤12)) (c:Int) (h1:1≤c∧c≤12):(k == c)=false:=by
 rw [beq_eq_false_iff_ne];rintro rfl;exact h h1

theorem zg2 {fuel:Nat}{k f:Int}:z5F fuel k f=some (portsN k f):=by
 by_cases h9:k=9
 ·subst h9
  unfold z5F portsN
  simp only [z6M,Option.bind_some,beq_self_eq_true,if_true,decide_eq_true_eq]
  split
  ·rw [za (by omega) (by omega)]
  ·rfl
 ·by_cases hf:f=0
  ·subst hf
   rcases kinds k with h | h
   ·rcases h with rfl | rfl | rfl | rfl | rfl | rfl | rfl | rfl | rfl | rfl | rfl | rfl<;>first | exact absurd rfl h9 | rfl
   ·simp [z5F,z6e,z6d,z6c,z6b,z6a,z69,z68,z67,portsN,ziP h,h9]
    omega
  ·unfold z5F portsN
   rw [if_neg (by simpa using h9),if_pos (by simpa using hf),if_neg h9,if_pos hf]
theorem zbw {fuel:Nat}{k:Int}:z6K fuel k=some (decide (1≤k∧k≤12)):=by
 unfold z6K
 by_cases h1:1≤k
 ·rw [if_pos (decide_eq_true (by omega))];simp [h1]
 ·rw [if_neg (by simp;omega)];simp [h1]
theorem zjs {fuel:Nat}{k f:Int}:z7d fuel k f=some (portsN k f):=by
 by_cases h9:k=9
 ·subst h9
  unfold z7d portsN z2W
  simp only [zbw,Option.bind_some,beq_self_eq_true,if_true]
  by_cases h0:0≤f
  ·by_cases h3:f≤3
   ·rw [if_pos (decide_eq_true (by omega)),if_pos (decide_eq_true h3),if_pos ⟨h0,h3⟩,za (by omega) (by omega),Int.add_comm]
   ·rw [if_pos (decide_eq_true (by omega)),if_neg (by simpa using h3)];simp [z1D,h3]
  ·rw [if_neg (by simp;omega),if_neg Bool.false_ne_true];simp [z1D,h0]
 ·unfold z7d z2W
  rw [if_neg (by simpa using h9),if_neg Bool.false_ne_true,zbw,Option.bind_some]
  rcases kinds k with h | h
  ·by_cases hf:f=0
   ·subst hf
    rcases h with rfl | rfl | rfl | rfl | rfl | rfl | rfl | rfl | rfl | rfl | rfl | rfl<;>first | exact absurd rfl h9 | rfl
   ·rw [if_neg (by simp;omega),if_neg (by simpa using h9),show(f != 0)=true by simpa using hf]
    simp [z1D,portsN,h9,hf]
  ·rw [if_pos (by simp;omega)]
   simp [z1D,portsN,h9]
   omega

theorem zjv {fuel:Nat}{k:Int}:z7z fuel k=some (levelN k):=by
 rcases kinds k with h | h
 ·rcases h with rfl | rfl | rfl | rfl | rfl | rfl | rfl | rfl | rfl | rfl | rfl | rfl<;>rfl
 ·simp [z7z,z5k,z5j,z5i,z5h,z5g,z5f,z5e,z5d,levelN,ziP h]
  omega
theorem zjw {fuel:Nat}{k:Int}:z7M fuel k=some (levelN k):=by
 unfold z7M
 rw [zbw,Option.bind_some]
 rcases kinds k with h | h
 ·rcases h with rfl | rfl | rfl | rfl | rfl | rfl | rfl | rfl | rfl | rfl | rfl | rfl<;>rfl
 ·rw [if_neg (by simpa using h)]
  simp [levelN];omega
theorem zjN {fuel:Nat}{k l:Int}:z7y fuel k l=some (allowN k l):=by
 unfold z7y z9w allowN
 simp only [zjv,z6M,Option.bind_some]
 cases hl:levelN k with
 | true=>
  have:1≤k∧k≤12:=by unfold levelN at hl;simp at hl;omega
  simp [this];omega
 | false=>by_cases h:1≤k∧k≤12<;>by_cases h0:l=0<;>simp [h,h0]
theorem zjO {fuel:Nat}{k l:Int}:z76 fuel k l=some (allowN k l):=by
 unfold z76 allowN
 have hL:z8j fuel l=some (decide (0≤l∧l≤8)):=by
  unfold z8j
  by_cases h1:0≤l
  ·rw [if_pos (decide_eq_true (by omega))];simp [h1]
  ·rw [if_neg (by simp;omega)];simp [h1]
 simp only [zbw,zjw,hL,Option.bind_some]
 by_cases h:1≤k∧k≤12
 ·by_cases h0:l=0
  ·simp [h,h0]
  ·cases hl:levelN k<;>simp [h,h0]
 ·simp [h]

theorem ziX {fuel:Nat}{n:Int}:z7V fuel n=some (defN n):=by
 unfold z7V defN;rw [z6M];rfl
theorem ziY {fuel:Nat}{n:Int}:z4h fuel n=some (defN n):=by
 unfold z4h defN
 by_cases h1:0≤n
 ·rw [if_pos (decide_eq_true (by omega))];simp [h1];omega
 ·rw [if_neg (by simp;omega)];simp [h1]
theorem zo9 {fuel:Nat}{n:Int}:z8G fuel n=some (decide (-2147483648≤n∧n≤2147483647)):=by
 unfold z8G
 by_cases h1:-2147483648≤n
 ·rw [if_pos (decide_eq_true (by omega))];simp [h1]
 ·rw [if_neg (by simp;omega)];simp [h1]
theorem zka {fuel:Nat}{n:Int}:z4g fuel n=some (decide (1≤n∧n≤6)):=by
 unfold z4g
 by_cases h1:1≤n
 ·rw [if_pos (decide_eq_true (by omega))];simp [h1]
 ·rw [if_neg (by simp;omega)];simp [h1]
theorem zb2 {α:Type}{p:α→Bool}:∀ {xs:List α},xs.any (fun x=>!p x)=!xs.all p
 | []=>rfl
 | x::xs=>by simp [zb2 (p:=p) (xs:=xs)]
theorem znk {fuel:Nat}{a:D.QJ}(hf:18446744073709551616≤fuel) (hl:a.Data.length≤maxLen):
  ((iter (z3J fuel a) fuel 0).bind fun o=>aft o (z83 fuel))=some (a.Data.all defN):=by
 rw [askOne (xs:=a.Data) (p:=fun n=>!defN n) (v:=false) (t:=()) hl hf (fun i x hi hx=>by
  unfold z3J
  simp only [z9 hx,ziX,lt_t (show(i:Int)<a.Data.length by omega),if_true,Option.bind_some]) (by simp [z3J]),zb2]
 cases a.Data.all defN<;>rfl
theorem zdL {fuel:Nat}{p:Int→Bool}{f:Int→Option Bool}{xs:List Int}(hf:18446744073709551616≤fuel) (hl:xs.length≤maxLen) (h:∀ n,f n=some (p n)):
  zL fuel xs f=some (xs.any p):=by
 unfold zL z1L
 obtain⟨r,h1,h2⟩:=askIndex (xs:=xs) (p:=p) (body:=z14 fuel xs f) (j:=z2q fuel) (t:=()) hl hf rfl (fun i x hi hx=>by
  simp only [z14,z9 hx,h,lt_t (show(i:Int)<xs.length by omega),if_true,Option.bind_some]) (by simp [z14])
 rw [h1,Option.bind_some,h2]

theorem zhX {fuel:Nat}{a:D.QJ}(hf:18446744073709551616≤fuel) (hl:a.Data.length≤maxLen):z13 fuel a=some (contentN a.Qj a.Value a.Data):=by
 have hd:=znk (a:=a) hf hl
 obtain⟨k,l,v,d,ps⟩:=a
 dsimp only at hl hd ⊢
 by_cases h6:k=6
 ·subst h6
  simp only [z13,contentN,z6M,Option.bind_some,beq_self_eq_true,if_true]
  by_cases h:d.length=0<;>simp [h]<;>omega
 by_cases h7:k=7
 ·subst h7
  simp only [z13,contentN,z6M,Option.bind_some,beq_self_eq_true,if_true]
  by_cases h:d.length=0<;>simp [h]<;>omega
 by_cases h8:k=8
 ·subst h8
  simp only [z13,contentN,z6M,Option.bind_some,beq_self_eq_true,if_true]
  match d with
  | []=>simp
  | [n]=>by_cases h:1≤v∧v≤6<;>simp [h,idx]
  | _::_::_=>simp;omega
 by_cases h9:k=9
 ·subst h9
  simp only [z13,contentN,z6M,Option.bind_some,beq_self_eq_true,if_true]
  by_cases h:d.length=0<;>simp [h]<;>omega
 by_cases y:k=12
 ·subst y
  simp only [z13,contentN,z6M,ziX,Option.bind_some,beq_self_eq_true,if_true]
  by_cases h:d.length=0<;>simp [h,defN]<;>omega
 by_cases o:k=10
 ·subst o
  simp only [z13,z1H,zY,contentN,z6M,Option.bind_some,beq_self_eq_true,if_true,hd]
  by_cases h:v=0
  ·by_cases h1:1≤d.length∧d.length≤4
   ·have h2:(1:Int)≤d.length∧(d.length:Int)≤4:=by omega
    simp [h,h1,h2]
   ·have h2:¬ ((1:Int)≤d.length∧(d.length:Int)≤4):=by omega
    simp [h,h1,h2]
  ·simp [h]
 by_cases q:k=11
 ·subst q
  simp only [z13,z1H,zY,contentN,z6M,Option.bind_some,beq_self_eq_true,if_true,hd]
  by_cases h:v=0
  ·by_cases h1:d.length=2
   ·simp [h,h1]
   ·have h2:¬ ((d.length:Int)=2):=by omega
    simp [h,h1,h2]
  ·simp [h]
 ·simp only [z13,z1H,contentN,h6,h7,h8,h9,o,q,y,if_false]
  by_cases h:v=0<;>by_cases h1:d.length=0<;>simp [h,h1,h6,h7,h8,h9,o,q,y]

theorem zhY {fuel:Nat}{a:D.QJ}(hf:18446744073709551616≤fuel) (hl:a.Data.length≤maxLen):z1J fuel a false=some (contentN a.Qj a.Value a.Data):=by
 unfold z1J
 rw [if_neg Bool.false_ne_true,zdL (p:=fun n=>!defN n) hf hl (fun n=>by unfold z5U;rw [ziY];rfl),Option.bind_some,zb2,Bool.not_not]
 obtain⟨k,l,v,d,ps⟩:=a
 dsimp only at hl ⊢
 simp only [z3X,z3W,z3V,z3U,z3T,z2z,z3S,z3R,z3e,zo9,zka,ziY,Option.bind_some]
 by_cases h6:k=6
 ·subst h6
  simp only [contentN,beq_self_eq_true,if_true]
  by_cases h:d.length=0<;>by_cases h1:-2147483648≤v∧v≤2147483647<;>simp [h,h1]
 by_cases h7:k=7
 ·subst h7
  simp only [contentN,beq_self_eq_true,if_true]
  by_cases h:d.length=0<;>by_cases h1:1≤v∧v≤6<;>simp [h,h1]
 by_cases h8:k=8
 ·subst h8
  simp only [contentN,beq_self_eq_true,if_true]
  match d with
  | []=>simp
  | [n]=>by_cases h:1≤v∧v≤6<;>simp [h,idx]
  | _::_::_=>simp;omega
 by_cases h9:k=9
 ·subst h9
  simp only [contentN,beq_self_eq_true,if_true]
  by_cases h1:0≤v
  ·by_cases h:d.length=0<;>by_cases h2:v<4<;>simp [h,h1,h2]<;>omega
  ·simp [h1]
 by_cases y:k=12
 ·subst y
  simp only [contentN,beq_self_eq_true,if_true]
  by_cases h:d.length=0<;>by_cases h1:0≤v∧v≤23<;>simp [h,h1,defN]
 by_cases o:k=10
 ·subst o
  simp only [contentN,beq_self_eq_true,if_true]
  by_cases h:v=0
  ·by_cases h1:1≤d.length
   ·by_cases h2:d.length≤4
    ·have h3:(1:Int)≤d.length:=by omega
     have h4:(d.length:Int)≤4:=by omega
     simp [h,h1,h2,h3,h4]
    ·have h3:(1:Int)≤d.length:=by omega
     have h4:¬ (d.length:Int)≤4:=by omega
     simp [h,h1,h2,h3,h4]
   ·have h3:¬ (1:Int)≤d.length:=by omega
    simp [h,h1,h3]
  ·by_cases h1:(1:Int)≤d.length<;>by_cases h2:(d.length:Int)≤4<;>simp [h,h1,h2]
 by_cases q:k=11
 ·subst q
  simp only [contentN,beq_self_eq_true,if_true]
  by_cases h:v=0<;>by_cases h1:d.length=2
  ·simp [h,h1]
  ·have h2:¬ ((d.length:Int)=2):=by omega
   simp [h,h1,h2]
  ·simp [h,h1]
  ·have h2:¬ ((d.length:Int)=2):=by omega
   simp [h,h1,h2]
 ·simp only [contentN,h6,h7,h8,h9,o,q,y,if_false]
  by_cases h:v=0<;>by_cases h1:d.length=0<;>simp [h,h1,h6,h7,h8,h9,o,q,y]

theorem zcp {n:Nat}(hn:n≤maxLen):w64 ((n:Int) - 1)=(n:Int) - 1:=by
 have:maxLen=9223372036854775807:=rfl
 exact za (by omega) (by omega)
theorem zjQ {fuel:Nat}{a:D.QJ}(hf:18446744073709551616≤fuel) (hl:a.Data.length≤maxLen) (h1:1≤a.Qa0.length) (h2:a.Qa0.length≤maxLen):
  z2V fuel a=some (agentN a.Qj a.QO a.Value a.Data a.Qa0.length):=by
 unfold z2V agentN
 rw [if_neg (by simp;intro h;rw [h] at h1;exact absurd h1 (by decide))]
 have hF:z7J fuel a.Qj (a.Qa0.length:Int)=some (if a.Qj=9 then(a.Qa0.length:Int) - 1 else 0):=by
  unfold z7J
  by_cases h:a.Qj=9
  ·rw [if_pos (by simpa using h),if_pos h,zcp h2]
  ·rw [if_neg (by simpa using h),if_neg h]
 rw [hF,Option.bind_some,zjs,Option.bind_some,zjO,Option.bind_some]
 by_cases hp:portsN a.Qj (if a.Qj=9 then(a.Qa0.length:Int) - 1 else 0)=(a.Qa0.length:Int)
 ·rw [if_neg (by simp [hp]),decide_eq_true hp,Bool.true_and]
  cases allowN a.Qj a.QO with
  | false=>rfl
  | true=>rw [Bool.true_and];exact zhY hf hl
 ·rw [if_pos (by simpa using hp),decide_eq_false hp];rfl
theorem zjP {fuel:Nat}{a:D.QJ}(hf:18446744073709551616≤fuel) (hl:a.Data.length≤maxLen) (h1:1≤a.Qa0.length) (h2:a.Qa0.length≤maxLen):
  z4x fuel a=some (agentN a.Qj a.QO a.Value a.Data a.Qa0.length):=by
 unfold z4x agentN
 have hF:z3D fuel a=some (if a.Qj=9 then(a.Qa0.length:Int) - 1 else 0):=by
  unfold z3D
  by_cases h:a.Qj=9
  ·rw [if_pos (by simpa using h),if_pos h,zcp h2]
  ·rw [if_neg (by simpa using h),if_neg h]
 rw [hF,Option.bind_some,zg2,Option.bind_some,zjN,Option.bind_some,zhX hf hl]
 by_cases hp:portsN a.Qj (if a.Qj=9 then(a.Qa0.length:Int) - 1 else 0)=(a.Qa0.length:Int)
 ·rw [hp,if_pos (decide_eq_true (by omega)),if_pos (by simp),decide_eq_true rfl,Bool.true_and]
  cases allowN a.Qj a.QO<;>rfl
 ·rw [decide_eq_false hp]
  generalize portsN a.Qj (if a.Qj=9 then(a.Qa0.length:Int) - 1 else 0)=r at hp ⊢
  by_cases h:r>0
  ·rw [if_pos (decide_eq_true h),if_neg (by simpa using fun h=>hp h.symm)];rfl
  ·rw [if_neg (by simpa using h)];rfl



def agN (a:D.QJ):Bool:=decide (a.Qa0.length≠0) && agentN a.Qj a.QO a.Value a.Data a.Qa0.length
theorem zpt {fuel:Nat}{a:D.QJ}(hf:18446744073709551616≤fuel) (hl:a.Data.length≤maxLen) (h2:a.Qa0.length≤maxLen):z2V fuel a=some (agN a):=by
 by_cases h:a.Qa0.length=0
 ·unfold z2V agN
  rw [if_pos (by simp [h]),show decide (a.Qa0.length≠0)=false by simp [h],Bool.false_and]
  rfl
 ·rw [zjQ hf hl (by omega) h2]
  unfold agN
  rw [decide_eq_true (by simpa using h),Bool.true_and]
theorem zps {fuel:Nat}{a:D.QJ}(hf:18446744073709551616≤fuel) (hl:a.Data.length≤maxLen) (h2:a.Qa0.length≤maxLen):z4x fuel a=some (agN a):=by
 by_cases h:a.Qa0.length=0
 ·unfold z4x agN
  have hF:z3D fuel a=some (if a.Qj=9 then(a.Qa0.length:Int) - 1 else 0):=by
   unfold z3D
   by_cases h:a.Qj=9
   ·rw [if_pos (by simpa using h),if_pos h,zcp h2]
   ·rw [if_neg (by simpa using h),if_neg h]
  rw [hF,Option.bind_some,zg2,Option.bind_some,show decide (a.Qa0.length≠0)=false by simp [h],Bool.false_and]
  generalize portsN a.Qj (if a.Qj=9 then(a.Qa0.length:Int) - 1 else 0)=r
  by_cases hr:r>0
  ·rw [if_pos (decide_eq_true hr),if_neg (by rw [h];simp;omega)]
  ·rw [if_neg (by simpa using hr)]
 ·rw [zjP hf hl (by omega) h2]
  unfold agN
  rw [decide_eq_true (by simpa using h),Bool.true_and]
end Go.E


namespace Go.E
open Go.RowKit Go.Proofs
set_option linter.unusedSimpArgs false
set_option linter.unusedVariables false


inductive Rnd (σ ρ:Type) where
 | go (s:σ)
 | back (r:ρ)
def foldR {α σ ρ:Type}(f:Nat→σ→α→Rnd σ ρ):Nat→List α→σ→Rnd σ ρ
 | _,[],s=>.go s
 | i,x::xs,s=>match f i s x with
  | .go s'=>foldR f (i+1) xs s'
  | .back r=>.back r
theorem loopR {α σ S τ ρ:Type}{xs:List α}{body:S→Option (Rd S τ ρ)}{mk:Int→σ→S}{out:σ→τ}{f:Nat→σ→α→Rnd σ ρ}{J:Nat→σ→Prop}{s0:σ}{fuel:Nat}
  (hl:xs.length≤maxLen) (hf:18446744073709551616≤fuel) (hJ:J 0 s0)
  (step:∀ (i:Nat) s x,i<xs.length→xs[i]? = some x→J i s→match f i s x with
   | .go s'=>body (mk i s)=some (.next (mk (w64 (i+1)) s'))∧J (i+1) s'
   | .back r=>body (mk i s)=some (.ret r))
  (last:∀ s,J xs.length s→body (mk xs.length s)=some (.brk (out s))):
  (match foldR f 0 xs s0 with
   | .go s=>iter body fuel (mk 0 s0)=some (.inl (out s))∧J xs.length s
   | .back r=>iter body fuel (mk 0 s0)=some (.inr r)):=by
 have hm:maxLen=9223372036854775807:=rfl
 have key:∀ (ys:List α) (i:Nat) (s:σ) (fu:Nat),i+ys.length=xs.length→(∀ j,ys[j]? = xs[i+j]?)→ys.length<fu→J i s→(match foldR f i ys s with
   | .go s'=>iter body fu (mk i s)=some (.inl (out s'))∧J xs.length s'
   | .back r=>iter body fu (mk i s)=some (.inr r)):=by
  intro ys
  induction ys with
  | nil=>
   intro i s fu hi _ hfu hj
   obtain⟨fu,rfl⟩:∃ f',fu=f'+1:=⟨fu - 1,by simp at hfu;omega⟩
   simp only [List.length_nil,Nat.add_zero] at hi
   subst hi
   simp only [foldR,iter,last s hj]
   exact⟨trivial,hj⟩
  | cons y ys ih=>
   intro i s fu hi hat hfu hj
   obtain⟨fu,rfl⟩:∃ f',fu=f'+1:=⟨fu - 1,by simp at hfu;omega⟩
   simp only [List.length_cons] at hi hfu
   have hx:xs[i]? = some y:=by have:=hat 0;simpa using this.symm
   have hs:=step i s y (by omega) hx hj
   unfold foldR
   cases hfs:f i s y with
   | go s'=>
    rw [hfs] at hs
    have h2:=ih (i+1) s' fu (by omega) (fun j=>by have:=hat (j+1);rw [show i+1+j=i+(j+1) by omega];simpa using this) (by omega) hs.2
    simp only [iter,hs.1]
    rw [za (by omega) (by omega)]
    exact_mod_cast h2
   | back r=>
    rw [hfs] at hs
    simp only [iter,hs]
 have:=key xs 0 s0 fuel (by simp) (by simp) (by omega) hJ
 exact_mod_cast this

theorem z8K {α:Type}{xs:List α}{p:Nat→α→Bool}{k:Nat}:((xs.zipIdx k).all fun y=>p y.2 y.1)=true↔∀ i x,xs[i]? = some x→p (k+i) x=true:=by
 rw [List.all_eq_true]
 constructor
 ·intro h i x hx
  have:(x,k+i)∈xs.zipIdx k:=by
   rw [List.mem_zipIdx_iff_le_and_getElem?_sub]
   exact⟨Nat.le_add_right _ _,by simpa using hx⟩
  exact h _ this
 ·rintro h ⟨x,j⟩ hj
  rw [List.mem_zipIdx_iff_le_and_getElem?_sub] at hj
  have:=h (j - k) x hj.2
  rwa [show k+(j - k)=j by have:=hj.1;simp at this;omega] at this

theorem zhq {α ρ:Type}{p:Nat→α→Bool}{v:ρ}:∀ {xs:List α}{k:Nat},foldR (fun i (_:Unit) x=>if p i x=true then Rnd.go () else Rnd.back v) k xs ()=if((xs.zipIdx k).all fun y=>p y.2 y.1)=true then Rnd.go () else Rnd.back v
 | [],k=>by simp [foldR]
 | x::xs,k=>by
  unfold foldR
  cases h:p k x with
  | true=>simp only [if_true,zhq (xs:=xs),List.zipIdx_cons,List.all_cons,h,Bool.true_and]
  | false=>simp [h]


theorem allLoop {α τ ρ:Type}{xs:List α}{body:Int→Option (Rd Int τ ρ)}{p:Nat→α→Bool}{t:τ}{v:ρ}{fuel:Nat}(hl:xs.length≤maxLen) (hf:18446744073709551616≤fuel)
  (step:∀ (i:Nat) x,i<xs.length→xs[i]? = some x→body i=if p i x=true then some (.next (w64 (i+1))) else some (.ret v)) (last:body xs.length=some (.brk t)):
  iter body fuel 0=some (if(xs.zipIdx.all fun y=>p y.2 y.1)=true then .inl t else .inr v):=by
 have h:=loopR (xs:=xs) (body:=body) (mk:=fun i _=>i) (out:=fun(_:Unit)=>t) (f:=fun i (_:Unit) x=>if p i x=true then Rnd.go () else Rnd.back v) (J:=fun _ _=>True) (s0:=()) hl hf trivial
  (fun i s x hi hx _=>by
   have:=step i x hi hx
   cases hp:p i x with
   | true=>rw [hp] at this;exact⟨this,trivial⟩
   | false=>rw [hp] at this;simpa using this) (fun s _=>last)
 rw [zhq] at h
 cases hp:(xs.zipIdx.all fun y=>p y.2 y.1) with
 | true=>rw [hp] at h;exact h.1
 | false=>rw [hp] at h;exact h

theorem zcN {α:Type}{xs:List α}{i:Nat}{x:α}(h:xs[i]? = some x):(xs.take (i+1)).zipIdx=(xs.take i).zipIdx++[(x,i)]:=by
 have hl:=(List.getElem?_eq_some_iff.1 h).1
 rw [List.take_add_one,h,List.zipIdx_append]
 simp [Nat.min_eq_left (Nat.le_of_lt hl)]

theorem mapLoop {α β ρ:Type}{xs:List α}{body:Int × List β→Option (Rd (Int × List β) (List β) ρ)}{g:α→β}{fuel:Nat}(hl:xs.length≤1048576) (hf:18446744073709551616≤fuel)
  (step:∀ (i:Nat) x (s:List β),xs[i]? = some x→s.length=i→body ((i:Int),s)=some (.next (w64 (i+1),s++[g x]))) (last:∀ s,body ((xs.length:Int),s)=some (.brk s)):
  iter body fuel (0,[])=some (.inl (xs.map g)):=by
 have hm:maxLen=9223372036854775807:=rfl
 obtain⟨o,h1,h2⟩:=z1g (body:=body) (fun i s=>s.1=(i:Int)∧s.2=(xs.take i).map g) xs.length (fun o=>o=.inl (xs.map g)) (by
  rintro i ⟨a,s⟩ hi ⟨g1,g2⟩
  dsimp only at g1 g2
  subst g1;subst g2
  obtain⟨x,hx⟩:=z42 hi
  refine .inl ⟨_,step i x _ hx (by simp;omega),?_,?_⟩
  ·dsimp only;rw [za (by omega) (by omega)];simp
  ·dsimp only;rw [List.take_add_one,hx];simp) (by
  rintro⟨a,s⟩ ⟨g1,g2⟩
  dsimp only at g1 g2
  subst g1;subst g2
  exact .inr ⟨_,last _,by rw [List.take_length]⟩) (fuel:=fuel) (i:=0) (s:=(0,[])) (Nat.zero_le _) (by omega) ⟨rfl,by simp⟩
 rw [h1,h2]

theorem sumLoop {α S τ ρ:Type}{xs:List α}{body:S→Option (Rd S τ ρ)}{mk:Int→Int→S}{out:Int→τ}{f:α→Nat}{c0:Int}{fuel:Nat}(hl:xs.length≤1048576) (hf:18446744073709551616≤fuel)
  (step:∀ (i:Nat) x,xs[i]? = some x→body (mk i (c0+(sumL f (xs.take i):Nat)))=some (.next (mk (w64 (i+1)) (c0+(sumL f (xs.take i):Nat)+(f x:Nat)))))
  (last:∀ c,body (mk xs.length c)=some (.brk (out c))):
  iter body fuel (mk 0 c0)=some (.inl (out (c0+(sumL f xs:Nat)))):=by
 obtain⟨o,h1,h2⟩:=z1g (body:=body) (fun k s=>s=mk k (c0+(sumL f (xs.take k):Nat))) xs.length (fun o=>o=.inl (out (c0+(sumL f xs:Nat)))) (by
  rintro k s hk rfl
  obtain⟨x,hx⟩:=z42 hk
  refine .inl ⟨_,step k x hx,?_⟩
  rw [za (by omega) (by omega),zb5 hx]
  congr 1
  omega) (by
  rintro s rfl
  rw [List.take_length]
  exact .inr ⟨_,last _,rfl⟩) (fuel:=fuel) (i:=0) (s:=mk 0 c0) (Nat.zero_le _) (by omega) (by simp [sumL])
 rw [h1,h2]

theorem z7i {α:Type}{xs:List α}{p:α→Bool}:(xs.zipIdx.all fun y=>p y.1)=xs.all p:=by
 rw [Bool.eq_iff_iff,z8K (p:=fun _ x=>p x),List.all_eq_true]
 constructor
 ·intro h x hx
  obtain⟨i,hi⟩:=List.getElem?_of_mem hx
  exact h i x hi
 ·exact fun h i x hi=>h x (List.mem_of_getElem? hi)
end Go.E


