/- Models of functions and proofs that the code runs as they say (written by program). Conditions: the model gives a value. -/
import Derived.Test.YteommboffflkbaaGreatHN
import Derived.Test.YteommboffflkbaaGreatShort
import Derived.Test.YteommboffflkbaaGreatSizesD
import Derived.Test.YteommboffflkbaaGreatFM
namespace Go.E
open Go.RowKit Go.Proofs
set_option linter.unusedVariables false
set_option linter.unusedSimpArgs false
set_option maxHeartbeats 2000000
set_option maxRecDepth 100000

theorem zm1:Enters Tryz.prog 167:=⟨_,_,Tryz.func167,rfl,by kernel_rfl⟩
def z9m (fuel:Nat) (t2:Int):Option Int:=some t2
def z35 (fuel:Nat) (x0:(List D.Parcel)) (s1:Int × Int):Option (Rd (Int × Int) (Int) (Int)):=(if(decide (s1.2<(x0.length:Int)))=true then((idx x0 s1.2).bind fun O=>(if(O.Kind != s1.1)=true then some (.ret (-1)) else((idx x0 s1.2).bind fun S=>(if(S.Cell.Kind != (w64 (s1.1+1)))=true then some (.ret (-1)) else((idx x0 s1.2).bind fun X=>(if(X.Cell.Level != (w64 ((w64 (s1.1+1))+1)))=true then some (.ret (-1)) else((idx x0 s1.2).bind fun Y=>(if(Y.Cell.Value != (w64 ((w64 ((w64 (s1.1+1))+1))+1)))=true then some (.ret (-1)) else((idx x0 s1.2).bind fun Z=>((z1z fuel Z.Cell.Data (w64 ((w64 ((w64 ((w64 (s1.1+1))+1))+1))+1))).bind fun M=>(if(decide (M<0))=true then some (.ret (-1)) else((idx x0 s1.2).bind fun a0=>((z2N fuel a0.Cell.Aux M).bind fun d=>(if(decide (d<0))=true then some (.ret (-1)) else((idx x0 s1.2).bind fun h=>(if(h.A.Machine != d)=true then some (.ret (-1)) else((idx x0 s1.2).bind fun o=>(if(o.A.Kind != (w64 (d+1)))=true then some (.ret (-1)) else((idx x0 s1.2).bind fun q=>(if(q.A.Index != (w64 ((w64 (d+1))+1)))=true then some (.ret (-1)) else((idx x0 s1.2).bind fun y=>(if(y.B.Machine != (w64 ((w64 ((w64 (d+1))+1))+1)))=true then some (.ret (-1)) else((idx x0 s1.2).bind fun G=>(if(G.B.Kind != (w64 ((w64 ((w64 ((w64 (d+1))+1))+1))+1)))=true then some (.ret (-1)) else((idx x0 s1.2).bind fun H=>(if(H.B.Index != (w64 ((w64 ((w64 ((w64 ((w64 (d+1))+1))+1))+1))+1)))=true then some (.ret (-1)) else some (.next (w64 ((w64 ((w64 ((w64 ((w64 ((w64 (d+1))+1))+1))+1))+1))+1),w64 (s1.2+1))))))))))))))))))))))))))))) else some (.brk s1.1))
def z5j (fuel:Nat) (x0:(List D.Parcel)) (x1:Int):Option (Int):=((iter (z35 fuel x0) fuel (x1,0)).bind fun o=>aft o (z9m fuel))

theorem laws_heldParcelS_ok {W w:World}(hE:Ext W w){v0:Option Addr}{j1:Nat}{x0:(List D.Parcel)}{x1:Int}(y:z6k.ro W [sl v0 x0 j1] x0){fuel:Nat}{r:Int}(hm:z5j fuel x0 x1=some r):
    Calls Tryz.prog 167 ⟨[sl v0 x0 j1,.int .i64 x1]⟩ w (Ret fun v w8=>v=.int .i64 r∧St w w8 []):=by
  refine into Tryz.func167 132 _ ?_;unfold z5j at hm;have hS:=St.start w;refine sq<|rg<|rr 1 ?_;refine rn<|sq<|sq<|rg<|rr 1 ?_;refine rn ?_;obtain⟨K2,Q0,hm⟩:=bS hm;refine ct (fun(t2:Int) F w9=>K2=.inl t2∧Ext w w9∧St w w9 []∧F=[(1,.int .i64 t2)]) ?_ ?_
  · rintro t2 F w7 ⟨R0,A3,J0,rfl⟩;subst R0;rw [z8] at hm;unfold z9m at hm;refine sq<|rg<|rr 2 ?_;refine rn<|rt ?_;cases hm;exact⟨_,.cons (.tmp rfl) .nil,rfl,J0⟩
  · refine bk<|wk [0,1,5] ?_;refine it (fun(s1:Int × Int) F w9=>Ext w w9∧St w w9 []∧F=[(0,sl v0 x0 j1),(1,.int .i64 s1.1),(5,.int .i64 s1.2)]) Q0 ⟨(Ext.refl _),hS,rfl⟩ ?_;rintro s1 F W3 _ N3 ⟨y1,o,rfl⟩ d q;unfold z35 at d;refine sq<|sq<|rg<|rr 4 ?_;refine rn<|ci d (fun d=>?_) (fun d=>?_)
    · refine sp<|sq<|bk<|sq<|sq<|rg<|rr 2 ?_;obtain⟨Y3,a1,d⟩:=bS d;refine ix (hE.trans o.ext) y a1 (fun O3 T1 K0 S0=>?_);obtain⟨b3,B3,c3,C3,O1,o3,p3⟩:=zv S0;subst O1;refine rr 1 ?_;refine l1 (At.ext (hE.trans o.ext) K0) 0 ?_;refine rr 2 ?_;refine rn<|ci d (fun d=>?_) (fun d=>?_)
      · refine sq<|rg<|rr 1 ?_;refine rn<|rt ?_;cases d;cases q;have hm:some _=some _:=hm;cases hm;exact⟨_,.cons (.tmp rfl) .nil,rfl,o⟩
      · refine sp<|sq<|rg<|rr 3 ?_;refine rn<|sq<|sq<|rg<|rr 2 ?_;obtain⟨a4,b1,d⟩:=bS d;refine ix (hE.trans o.ext) y b1 (fun P3 U1 L0 T0=>?_);obtain⟨d3,D3,e3,E3,P1,q3,r3⟩:=zv T0;subst P1;refine rr 2 ?_;refine l1 (At.ext (hE.trans o.ext) L0) 1 ?_;refine rr 2 ?_;refine rn<|ci d (fun d=>?_) (fun d=>?_)
        · refine sq<|rg<|rr 1 ?_;refine rn<|rt ?_;cases d;cases q;have hm:some _=some _:=hm;cases hm;exact⟨_,.cons (.tmp rfl) .nil,rfl,o⟩
        · refine sp<|sq<|rg<|rr 3 ?_;refine rn<|sq<|sq<|rg<|rr 2 ?_;obtain⟨b4,d1,d⟩:=bS d;refine ix (hE.trans o.ext) y d1 (fun Q3 V1 M0 U0=>?_);obtain⟨f3,F3,g3,G3,Q1,s3,t3⟩:=zv U0;subst Q1;refine rr 2 ?_;refine l1 (At.ext (hE.trans o.ext) M0) 2 ?_;refine rr 2 ?_;refine rn<|ci d (fun d=>?_) (fun d=>?_)
          · refine sq<|rg<|rr 1 ?_;refine rn<|rt ?_;cases d;cases q;have hm:some _=some _:=hm;cases hm;exact⟨_,.cons (.tmp rfl) .nil,rfl,o⟩
          · refine sp<|sq<|rg<|rr 3 ?_;refine rn<|sq<|sq<|rg<|rr 2 ?_;obtain⟨c4,e1,d⟩:=bS d;refine ix (hE.trans o.ext) y e1 (fun R3 W1 N0 V0=>?_);obtain⟨i3,H3,j3,J3,R1,u3,v3⟩:=zv V0;subst R1;refine rr 2 ?_;refine l1 (At.ext (hE.trans o.ext) N0) 3 ?_;refine rr 2 ?_;refine rn<|ci d (fun d=>?_) (fun d=>?_)
            · refine sq<|rg<|rr 1 ?_;refine rn<|rt ?_;cases d;cases q;have hm:some _=some _:=hm;cases hm;exact⟨_,.cons (.tmp rfl) .nil,rfl,o⟩
            · refine sp<|sq<|rg<|rr 3 ?_;refine rn<|sq<|rg<|rr 2 ?_;obtain⟨d4,f1,d⟩:=bS d;refine ix (hE.trans o.ext) y f1 (fun S3 X1 O0 X0=>?_);obtain⟨k3,K3,m3,L3,S1,r2,y3⟩:=zv X0;subst S1;refine rr 2 ?_;refine l1 (At.ext (hE.trans o.ext) O0) 4 ?_;refine rr 1 ?_;obtain⟨U3,g1,d⟩:=bS d;refine ca zcJ (laws_heldInt64S_ok (hE.trans o.ext) r2 g1) (fun V3 X3 H0=>?_);obtain⟨rfl,O⟩:=H0;have G:=o.join O;refine rr 1 ?_;refine rn<|sq<|sq<|rg<|rr 2 ?_;refine rn<|ci d (fun d=>?_) (fun d=>?_)
              · refine sq<|rg<|rr 1 ?_;refine rn<|rt ?_;cases d;cases q;have hm:some _=some _:=hm;cases hm;exact⟨_,.cons (.tmp rfl) .nil,rfl,G⟩
              · refine sp<|sq<|rg<|rr 2 ?_;obtain⟨e4,i1,d⟩:=bS d;refine ix (hE.trans G.ext) y i1 (fun T3 Y1 P0 Y0=>?_);obtain⟨n3,M3,A1,s2,y0,a2,G0⟩:=zv Y0;subst y0;refine rr 2 ?_;refine l1 (At.ext (hE.trans G.ext) P0) 5 ?_;refine rr 1 ?_;obtain⟨R2,k0,d⟩:=bS d;refine ca zh4 (laws_heldAddressS_ok (hE.trans G.ext) G0 k0) (fun S2 T2 M=>?_);obtain⟨rfl,H⟩:=M;have h:=G.join H;refine rr 1 ?_;refine rn<|sq<|sq<|rg<|rr 2 ?_;refine rn<|ci d (fun d=>?_) (fun d=>?_)
                · refine sq<|rg<|rr 1 ?_;refine rn<|rt ?_;cases d;cases q;have hm:some _=some _:=hm;cases hm;exact⟨_,.cons (.tmp rfl) .nil,rfl,h⟩
                · refine sp<|sq<|sq<|rg<|rr 2 ?_;obtain⟨U2,o0,d⟩:=bS d;refine ix (hE.trans h.ext) y o0 (fun L2 m1 S d0=>?_);obtain⟨B1,u2,C1,v2,A0,b2,d2⟩:=zv d0;subst A0;refine rr 2 ?_;refine l1 (At.ext (hE.trans h.ext) S) 6 ?_;refine rr 2 ?_;refine rn<|ci d (fun d=>?_) (fun d=>?_)
                  · refine sq<|rg<|rr 1 ?_;refine rn<|rt ?_;cases d;cases q;have hm:some _=some _:=hm;cases hm;exact⟨_,.cons (.tmp rfl) .nil,rfl,h⟩
                  · refine sp<|sq<|rg<|rr 3 ?_;refine rn<|sq<|sq<|rg<|rr 2 ?_;obtain⟨V2,p0,d⟩:=bS d;refine ix (hE.trans h.ext) y p0 (fun M2 n1 X e0=>?_);obtain⟨D1,y2,E1,A2,B0,e2,f2⟩:=zv e0;subst B0;refine rr 2 ?_;refine l1 (At.ext (hE.trans h.ext) X) 7 ?_;refine rr 2 ?_;refine rn<|ci d (fun d=>?_) (fun d=>?_)
                    · refine sq<|rg<|rr 1 ?_;refine rn<|rt ?_;cases d;cases q;have hm:some _=some _:=hm;cases hm;exact⟨_,.cons (.tmp rfl) .nil,rfl,h⟩
                    · refine sp<|sq<|rg<|rr 3 ?_;refine rn<|sq<|sq<|rg<|rr 2 ?_;obtain⟨W2,q0,d⟩:=bS d;refine ix (hE.trans h.ext) y q0 (fun N2 p1 Y f0=>?_);obtain⟨F1,B2,G1,C2,C0,g2,i2⟩:=zv f0;subst C0;refine rr 2 ?_;refine l1 (At.ext (hE.trans h.ext) Y) 8 ?_;refine rr 2 ?_;refine rn<|ci d (fun d=>?_) (fun d=>?_)
                      · refine sq<|rg<|rr 1 ?_;refine rn<|rt ?_;cases d;cases q;have hm:some _=some _:=hm;cases hm;exact⟨_,.cons (.tmp rfl) .nil,rfl,h⟩
                      · refine sp<|sq<|rg<|rr 3 ?_;refine rn<|sq<|sq<|rg<|rr 2 ?_;obtain⟨X2,r0,d⟩:=bS d;refine ix (hE.trans h.ext) y r0 (fun O2 t1 Z g0=>?_);obtain⟨H1,D2,J1,E2,D0,j2,m2⟩:=zv g0;subst D0;refine rr 2 ?_;refine l1 (At.ext (hE.trans h.ext) Z) 9 ?_;refine rr 2 ?_;refine rn<|ci d (fun d=>?_) (fun d=>?_)
                        · refine sq<|rg<|rr 1 ?_;refine rn<|rt ?_;cases d;cases q;have hm:some _=some _:=hm;cases hm;exact⟨_,.cons (.tmp rfl) .nil,rfl,h⟩
                        · refine sp<|sq<|rg<|rr 3 ?_;refine rn<|sq<|sq<|rg<|rr 2 ?_;obtain⟨Y2,t0,d⟩:=bS d;refine ix (hE.trans h.ext) y t0 (fun P2 u1 a0 i0=>?_);obtain⟨K1,F2,L1,G2,E0,n2,o2⟩:=zv i0;subst E0;refine rr 2 ?_;refine l1 (At.ext (hE.trans h.ext) a0) 10 ?_;refine rr 2 ?_;refine rn<|ci d (fun d=>?_) (fun d=>?_)
                          · refine sq<|rg<|rr 1 ?_;refine rn<|rt ?_;cases d;cases q;have hm:some _=some _:=hm;cases hm;exact⟨_,.cons (.tmp rfl) .nil,rfl,h⟩
                          · refine sp<|sq<|rg<|rr 3 ?_;refine rn<|sq<|sq<|rg<|rr 2 ?_;obtain⟨a3,u0,d⟩:=bS d;refine ix (hE.trans h.ext) y u0 (fun Q2 v1 b0 j0=>?_);obtain⟨M1,H2,N1,J2,F0,p2,q2⟩:=zv j0;subst F0;refine rr 2 ?_;refine l1 (At.ext (hE.trans h.ext) b0) 11 ?_;refine rr 2 ?_;refine rn<|ci d (fun d=>?_) (fun d=>?_)
                            · refine sq<|rg<|rr 1 ?_;refine rn<|rt ?_;cases d;cases q;have hm:some _=some _:=hm;cases hm;exact⟨_,.cons (.tmp rfl) .nil,rfl,h⟩
                            · refine sp<|rg<|rr 3 ?_;refine rn<|rg<|rr 3 ?_;refine rn ?_;cases d;exact⟨_,_,rfl,⟨((y1.trans O.ext).trans H.ext),h,rfl⟩,rfl⟩
    · refine xt ?_;cases d;exact⟨_,_,⟨q,y1,o,rfl⟩,rfl⟩

theorem zmv:Enters Tryz.prog 118:=⟨_,_,Tryz.func118,rfl,by kernel_rfl⟩
def z8X (fuel:Nat) (t2:Int):Option Int:=some t2
def z2D (fuel:Nat) (x0:(List (List D.Parcel))) (s1:Int × Int):Option (Rd (Int × Int) (Int) (Int)):=(if(decide (s1.2<(x0.length:Int)))=true then((idx x0 s1.2).bind fun h=>((z5j fuel h s1.1).bind fun d=>(if(decide (d<0))=true then some (.ret (-1)) else some (.next (d,w64 (s1.2+1)))))) else some (.brk s1.1))
def z4t (fuel:Nat) (x0:(List (List D.Parcel))) (x1:Int):Option (Int):=((iter (z2D fuel x0) fuel (x1,0)).bind fun o=>aft o (z8X fuel))

theorem laws_heldParcelSS_ok {W w:World}(hE:Ext W w){H:Option Addr}{b0:Nat}{x0:(List (List D.Parcel))}{x1:Int}(g0:ty38.ro W [sl H x0 b0] x0){fuel:Nat}{r:Int}(hm:z4t fuel x0 x1=some r):
    Calls Tryz.prog 118 ⟨[sl H x0 b0,.int .i64 x1]⟩ w (Ret fun v w8=>v=.int .i64 r∧St w w8 []):=by
  refine into Tryz.func118 21 _ ?_;unfold z4t at hm;have hS:=St.start w;refine sq<|rg<|rr 1 ?_;refine rn<|sq<|sq<|rg<|rr 1 ?_;refine rn ?_;obtain⟨i0,X,hm⟩:=bS hm;refine ct (fun(t2:Int) F w9=>i0=.inl t2∧Ext w w9∧St w w9 []∧F=[(1,.int .i64 t2)]) ?_ ?_
  · rintro t2 F w7 ⟨Y,k0,O,rfl⟩;subst Y;rw [z8] at hm;unfold z8X at hm;refine sq<|rg<|rr 2 ?_;refine rn<|rt ?_;cases hm;exact⟨_,.cons (.tmp rfl) .nil,rfl,O⟩
  · refine bk<|wk [0,1,5] ?_;refine it (fun(s1:Int × Int) F w9=>Ext w w9∧St w w9 []∧F=[(0,sl H x0 b0),(1,.int .i64 s1.1),(5,.int .i64 s1.2)]) X ⟨(Ext.refl _),hS,rfl⟩ ?_;rintro s1 F u0 _ p0 ⟨d0,h,rfl⟩ d y;unfold z2D at d;refine sq<|sq<|rg<|rr 4 ?_;refine rn<|ci d (fun d=>?_) (fun d=>?_)
    · refine sp<|sq<|bk<|sq<|rg<|rr 2 ?_;obtain⟨y0,Z,d⟩:=bS d;refine ix (hE.trans h.ext) g0 Z (fun q0 f0 S G=>?_);obtain⟨j0,o0,e0⟩:=z1h G;subst e0;refine l1 (At.ext (hE.trans h.ext) S) 0 ?_;refine rr 1 ?_;obtain⟨r0,a0,d⟩:=bS d;refine ca zm1 (laws_heldParcelS_ok (hE.trans h.ext) G a0) (fun t0 v0 M=>?_);obtain⟨rfl,o⟩:=M;have q:=h.join o;refine rr 1 ?_;refine rn<|sq<|rg<|rr 2 ?_;refine rn<|ci d (fun d=>?_) (fun d=>?_)
      · refine sq<|rg<|rr 1 ?_;refine rn<|rt ?_;cases d;cases y;have hm:some _=some _:=hm;cases hm;exact⟨_,.cons (.tmp rfl) .nil,rfl,q⟩
      · refine sp<|rg<|rr 3 ?_;refine rn ?_;cases d;exact⟨_,_,rfl,⟨(d0.trans o.ext),q,rfl⟩,rfl⟩
    · refine xt ?_;cases d;exact⟨_,_,⟨y,d0,h,rfl⟩,rfl⟩

theorem zmu:Enters Tryz.prog 119:=⟨_,_,Tryz.func119,rfl,by kernel_rfl⟩
def z9n (fuel:Nat) (t2:Int):Option Int:=some t2
def z36 (fuel:Nat) (x0:(List (List Int))) (s1:Int × Int):Option (Rd (Int × Int) (Int) (Int)):=(if(decide (s1.2<(x0.length:Int)))=true then((idx x0 s1.2).bind fun h=>((z1z fuel h s1.1).bind fun d=>(if(decide (d<0))=true then some (.ret (-1)) else some (.next (d,w64 (s1.2+1)))))) else some (.brk s1.1))
def z5k (fuel:Nat) (x0:(List (List Int))) (x1:Int):Option (Int):=((iter (z36 fuel x0) fuel (x1,0)).bind fun o=>aft o (z9n fuel))

theorem laws_heldInt64SS_ok {W w:World}(hE:Ext W w){H:Option Addr}{b0:Nat}{x0:(List (List Int))}{x1:Int}(g0:ty28.ro W [sl H x0 b0] x0){fuel:Nat}{r:Int}(hm:z5k fuel x0 x1=some r):
    Calls Tryz.prog 119 ⟨[sl H x0 b0,.int .i64 x1]⟩ w (Ret fun v w8=>v=.int .i64 r∧St w w8 []):=by
  refine into Tryz.func119 21 _ ?_;unfold z5k at hm;have hS:=St.start w;refine sq<|rg<|rr 1 ?_;refine rn<|sq<|sq<|rg<|rr 1 ?_;refine rn ?_;obtain⟨i0,X,hm⟩:=bS hm;refine ct (fun(t2:Int) F w9=>i0=.inl t2∧Ext w w9∧St w w9 []∧F=[(1,.int .i64 t2)]) ?_ ?_
  · rintro t2 F w7 ⟨Y,k0,O,rfl⟩;subst Y;rw [z8] at hm;unfold z9n at hm;refine sq<|rg<|rr 2 ?_;refine rn<|rt ?_;cases hm;exact⟨_,.cons (.tmp rfl) .nil,rfl,O⟩
  · refine bk<|wk [0,1,5] ?_;refine it (fun(s1:Int × Int) F w9=>Ext w w9∧St w w9 []∧F=[(0,sl H x0 b0),(1,.int .i64 s1.1),(5,.int .i64 s1.2)]) X ⟨(Ext.refl _),hS,rfl⟩ ?_;rintro s1 F u0 _ p0 ⟨d0,h,rfl⟩ d y;unfold z36 at d;refine sq<|sq<|rg<|rr 4 ?_;refine rn<|ci d (fun d=>?_) (fun d=>?_)
    · refine sp<|sq<|bk<|sq<|rg<|rr 2 ?_;obtain⟨y0,Z,d⟩:=bS d;refine ix (hE.trans h.ext) g0 Z (fun q0 f0 S G=>?_);obtain⟨j0,o0,e0⟩:=z1D G;subst e0;refine l1 (At.ext (hE.trans h.ext) S) 0 ?_;refine rr 1 ?_;obtain⟨r0,a0,d⟩:=bS d;refine ca zcJ (laws_heldInt64S_ok (hE.trans h.ext) G a0) (fun t0 v0 M=>?_);obtain⟨rfl,o⟩:=M;have q:=h.join o;refine rr 1 ?_;refine rn<|sq<|rg<|rr 2 ?_;refine rn<|ci d (fun d=>?_) (fun d=>?_)
      · refine sq<|rg<|rr 1 ?_;refine rn<|rt ?_;cases d;cases y;have hm:some _=some _:=hm;cases hm;exact⟨_,.cons (.tmp rfl) .nil,rfl,q⟩
      · refine sp<|rg<|rr 3 ?_;refine rn ?_;cases d;exact⟨_,_,rfl,⟨(d0.trans o.ext),q,rfl⟩,rfl⟩
    · refine xt ?_;cases d;exact⟨_,_,⟨y,d0,h,rfl⟩,rfl⟩

theorem znX:Enters Tryz.prog 58:=⟨_,_,Tryz.func58,rfl,by kernel_rfl⟩
def z76 (fuel:Nat) (x0:D.Cluster) (x1:Int):Option (Int):=((z8H fuel x0.Grid x1).bind fun d=>(if(decide (d<0))=true then some (-1) else((z4t fuel x0.Channels d).bind fun h=>(if(decide (h<0))=true then some (-1) else((z5k fuel x0.Counts h).bind fun o=>(if(decide (o<0))=true then some (-1) else((z1z fuel x0.Sent o).bind fun q=>(if(decide (q<0))=true then some (-1) else((z1z fuel x0.Got q).bind fun y=>(if(decide (y<0))=true then some (-1) else some y))))))))))

theorem laws_heldCluster_ok {W w:World}(hE:Ext W w){k0:List Value}{x0:D.Cluster}{x1:Int}(p0:ty40.ro W k0 x0){fuel:Nat}{r:Int}(hm:z76 fuel x0 x1=some r):
    Calls Tryz.prog 58 ⟨[.agg ⟨k0⟩,.int .i64 x1]⟩ w (Ret fun v w8=>v=.int .i64 r∧St w w8 []):=by
  obtain⟨A1,k2,A4,k5,A7,B0,u0,C0,v0,D0,o0,h3,h6,q0,r0,t0⟩:=z1K p0;subst o0;refine into Tryz.func58 36 _ ?_;unfold z76 at hm;have hS:=St.start w;refine sq<|rg<|nw hS (fun A0 P0 y0 y=>?_);refine rr 1 ?_;refine rn<|sq<|rg<|rr 1 ?_;refine lN (At.sub ((y.bring 0 rfl).box) 0 4) ?_;refine rr 1 ?_;obtain⟨E0,e0,hm⟩:=bS hm;refine ca zmw (laws_heldGrid_ok (hE.trans y.ext) (z4U x0.Grid h3) e0) (fun K0 Q0 H=>?_);obtain⟨rfl,M⟩:=H;have d:=y.join M;refine rr 1 ?_;refine rn<|sq<|sq<|rg<|rr 2 ?_;refine rn<|ci hm (fun hm=>?_) (fun hm=>?_)
  · refine sq<|rg<|rr 1 ?_;refine rn<|rt ?_;cases hm;exact⟨_,.cons (.tmp rfl) .nil,rfl,(d.taken 0)⟩
  · refine sp<|sq<|rg<|rr 1 ?_;refine l1 ((d.bring 0 rfl).box) 4 ?_;refine rr 1 ?_;obtain⟨F0,f0,hm⟩:=bS hm;refine ca zmv (laws_heldParcelSS_ok (hE.trans d.ext) h6 f0) (fun L0 R0 O=>?_);obtain⟨rfl,S⟩:=O;have h:=d.join S;refine rr 1 ?_;refine rn<|sq<|sq<|rg<|rr 2 ?_;refine rn<|ci hm (fun hm=>?_) (fun hm=>?_)
    · refine sq<|rg<|rr 1 ?_;refine rn<|rt ?_;cases hm;exact⟨_,.cons (.tmp rfl) .nil,rfl,(h.taken 0)⟩
    · refine sp<|sq<|rg<|rr 1 ?_;refine l1 ((h.bring 0 rfl).box) 5 ?_;refine rr 1 ?_;obtain⟨G0,g0,hm⟩:=bS hm;refine ca zmu (laws_heldInt64SS_ok (hE.trans h.ext) q0 g0) (fun M0 S0 X=>?_);obtain⟨rfl,Y⟩:=X;have o:=h.join Y;refine rr 1 ?_;refine rn<|sq<|sq<|rg<|rr 2 ?_;refine rn<|ci hm (fun hm=>?_) (fun hm=>?_)
      · refine sq<|rg<|rr 1 ?_;refine rn<|rt ?_;cases hm;exact⟨_,.cons (.tmp rfl) .nil,rfl,(o.taken 0)⟩
      · refine sp<|sq<|rg<|rr 1 ?_;refine l1 ((o.bring 0 rfl).box) 6 ?_;refine rr 1 ?_;obtain⟨H0,i0,hm⟩:=bS hm;refine ca zcJ (laws_heldInt64S_ok (hE.trans o.ext) r0 i0) (fun N0 T0 Z=>?_);obtain⟨rfl,a0⟩:=Z;have q:=o.join a0;refine rr 1 ?_;refine rn<|sq<|sq<|rg<|rr 2 ?_;refine rn<|ci hm (fun hm=>?_) (fun hm=>?_)
        · refine sq<|rg<|rr 1 ?_;refine rn<|rt ?_;cases hm;exact⟨_,.cons (.tmp rfl) .nil,rfl,(q.taken 0)⟩
        · refine sp<|sq<|rg<|rr 1 ?_;refine l1 ((q.bring 0 rfl).box) 7 ?_;refine rr 1 ?_;obtain⟨J0,j0,hm⟩:=bS hm;refine ca zcJ (laws_heldInt64S_ok (hE.trans q.ext) t0 j0) (fun O0 U0 b0=>?_);obtain⟨rfl,d0⟩:=b0;have G:=q.join d0;refine rr 1 ?_;refine rn<|sq<|sq<|rg<|rr 2 ?_;refine rn<|ci hm (fun hm=>?_) (fun hm=>?_)
          · refine sq<|rg<|rr 1 ?_;refine rn<|rt ?_;cases hm;exact⟨_,.cons (.tmp rfl) .nil,rfl,(G.taken 0)⟩
          · refine sp<|sq<|rg<|rr 2 ?_;refine rn<|rt ?_;cases hm;exact⟨_,.cons (.tmp rfl) .nil,rfl,(G.taken 0)⟩

theorem zmx:Enters Tryz.prog 108:=⟨_,_,Tryz.func108,rfl,by kernel_rfl⟩
def zaa (fuel:Nat) (t2:Int):Option Int:=some t2
def z4u (fuel:Nat) (x0:(List Bool)) (s1:Int × Int):Option (Rd (Int × Int) (Int) (Int)):=(if(decide (s1.2<(x0.length:Int)))=true then((idx x0 s1.2).bind fun d=>(if(!(d == ((s1.1.tmod 3) == 0)))=true then some (.ret (-1)) else some (.next (w64 (s1.1+1),w64 (s1.2+1))))) else some (.brk s1.1))
def z6N (fuel:Nat) (x0:(List Bool)) (x1:Int):Option (Int):=((iter (z4u fuel x0) fuel (x1,0)).bind fun o=>aft o (zaa fuel))

theorem laws_heldBoolS_ok {W w:World}(hE:Ext W w){q:Option Addr}{X:Nat}{x0:(List Bool)}{x1:Int}(a0:ty56.ro W [sl q x0 X] x0){fuel:Nat}{r:Int}(hm:z6N fuel x0 x1=some r):
    Calls Tryz.prog 108 ⟨[sl q x0 X,.int .i64 x1]⟩ w (Ret fun v w8=>v=.int .i64 r∧St w w8 []):=by
  refine into Tryz.func108 23 _ ?_;unfold z6N at hm;have hS:=St.start w;refine sq<|rg<|rr 1 ?_;refine rn<|sq<|sq<|rg<|rr 1 ?_;refine rn ?_;obtain⟨b0,H,hm⟩:=bS hm;refine ct (fun(t2:Int) F w9=>b0=.inl t2∧Ext w w9∧St w w9 []∧F=[(1,.int .i64 t2)]) ?_ ?_
  · rintro t2 F w7 ⟨M,d0,y,rfl⟩;subst M;rw [z8] at hm;unfold zaa at hm;refine sq<|rg<|rr 2 ?_;refine rn<|rt ?_;cases hm;exact⟨_,.cons (.tmp rfl) .nil,rfl,y⟩
  · refine bk<|wk [0,1,5] ?_;refine it (fun(s1:Int × Int) F w9=>Ext w w9∧St w w9 []∧F=[(0,sl q x0 X),(1,.int .i64 s1.1),(5,.int .i64 s1.2)]) H ⟨(Ext.refl _),hS,rfl⟩ ?_;rintro s1 F g0 _ e0 ⟨Y,h,rfl⟩ d o;unfold z4u at d;refine sq<|sq<|rg<|rr 4 ?_;refine rn<|ci d (fun d=>?_) (fun d=>?_)
    · refine sp<|sq<|bk<|sq<|sq<|rg<|rr 2 ?_;obtain⟨i0,S,d⟩:=bS d;refine ix (hE.trans h.ext) a0 S (fun f0 Z G O=>?_);cases O;refine l1 (At.ext (hE.trans h.ext) G) 0 ?_;refine rr 4 ?_;refine rn<|ci d (fun d=>?_) (fun d=>?_)
      · refine sq<|rg<|rr 1 ?_;refine rn<|rt ?_;cases d;cases o;have hm:some _=some _:=hm;cases hm;exact⟨_,.cons (.tmp rfl) .nil,rfl,h⟩
      · refine sp<|rg<|rr 3 ?_;refine rn<|rg<|rr 3 ?_;refine rn ?_;cases d;exact⟨_,_,rfl,⟨Y,h,rfl⟩,rfl⟩
    · refine xt ?_;cases d;exact⟨_,_,⟨o,Y,h,rfl⟩,rfl⟩

theorem zid:Enters Tryz.prog 52:=⟨_,_,Tryz.func52,rfl,by kernel_rfl⟩
def z2M (fuel:Nat) (x0:D.Detector) (x1:Int):Option (Int):=((z76 fuel x0.Cluster x1).bind fun d=>(if(decide (d<0))=true then some (-1) else((z6N fuel x0.Stained d).bind fun h=>(if(decide (h<0))=true then some (-1) else some h))))

theorem laws_heldDetector_ok {W w:World}(hE:Ext W w){S:List Value}{x0:D.Detector}{x1:Int}(Y:ty62.ro W S x0){fuel:Nat}{r:Int}(hm:z2M fuel x0 x1=some r):
    Calls Tryz.prog 52 ⟨[.agg ⟨S⟩,.int .i64 x1]⟩ w (Ret fun v w8=>v=.int .i64 r∧St w w8 []):=by
  obtain⟨A1,k2,A4,k5,A7,k0,e0,o0,f0,p0,g0,q0,X,h3,h6,Z,a0,b0,d0⟩:=zdO Y;subst X;refine into Tryz.func52 18 _ ?_;unfold z2M at hm;have hS:=St.start w;refine sq<|rg<|nw hS (fun j0 y0 i0 h=>?_);refine rr 1 ?_;refine rn<|sq<|rg<|rr 1 ?_;refine lN (At.sub ((h.bring 0 rfl).box) 0 8) ?_;refine rr 1 ?_;obtain⟨r0,M,hm⟩:=bS hm;refine ca znX (laws_heldCluster_ok (hE.trans h.ext) (z8p x0.Cluster h3 h6 Z a0 b0) M) (fun u0 A0 q=>?_);obtain⟨rfl,y⟩:=q;have d:=h.join y;refine rr 1 ?_;refine rn<|sq<|sq<|rg<|rr 2 ?_;refine rn<|ci hm (fun hm=>?_) (fun hm=>?_)
  · refine sq<|rg<|rr 1 ?_;refine rn<|rt ?_;cases hm;exact⟨_,.cons (.tmp rfl) .nil,rfl,(d.taken 0)⟩
  · refine sp<|sq<|rg<|rr 1 ?_;refine l1 ((d.bring 0 rfl).box) 11 ?_;refine rr 1 ?_;obtain⟨t0,O,hm⟩:=bS hm;refine ca zmx (laws_heldBoolS_ok (hE.trans d.ext) d0 O) (fun v0 B0 G=>?_);obtain⟨rfl,H⟩:=G;have o:=d.join H;refine rr 1 ?_;refine rn<|sq<|sq<|rg<|rr 2 ?_;refine rn<|ci hm (fun hm=>?_) (fun hm=>?_)
    · refine sq<|rg<|rr 1 ?_;refine rn<|rt ?_;cases hm;exact⟨_,.cons (.tmp rfl) .nil,rfl,(o.taken 0)⟩
    · refine sp<|sq<|rg<|rr 2 ?_;refine rn<|rt ?_;cases hm;exact⟨_,.cons (.tmp rfl) .nil,rfl,(o.taken 0)⟩

def z1r (fuel:Nat) (h:D.Detector × Int) (d:Int × (List D.Shard) × (List (List D.Parcel)) × (List (List Int)) × (List Int) × (List Int) × (List Bool)) (q:Bool):Option Bool:=(if q=true then some false else((z2M fuel (⟨(⟨(⟨d.2.1,(⟨h.1.Cluster.Grid.Root.Machine,h.1.Cluster.Grid.Root.Kind,h.1.Cluster.Grid.Root.Index⟩:D.Address)⟩:D.Grid),d.2.2.1,d.2.2.2.1,d.2.2.2.2.1,d.2.2.2.2.2.1⟩:D.Cluster),h.1.Holder,h.1.Count,h.1.Dark,d.2.2.2.2.2.2,h.1.Rounds,h.1.Announced⟩:D.Detector) 1).bind fun o=>(if(decide (o<0))=true then some false else(if(o != d.1)=true then some false else some true))))
def z17 (fuel:Nat) (x0:D.Cluster) (M:D.Detector × Int) (h:D.Detector × Int) (H:Bool):Option Bool:=(if H=true then some false else((z4s fuel h.1 1).bind fun d=>((z2M fuel (⟨(⟨(⟨d.2.1,(⟨h.1.Cluster.Grid.Root.Machine,h.1.Cluster.Grid.Root.Kind,h.1.Cluster.Grid.Root.Index⟩:D.Address)⟩:D.Grid),d.2.2.1,d.2.2.2.1,d.2.2.2.2.1,d.2.2.2.2.2.1⟩:D.Cluster),h.1.Holder,h.1.Count,h.1.Dark,d.2.2.2.2.2.2,h.1.Rounds,h.1.Announced⟩:D.Detector) 1).bind fun o=>(if(decide (o<0))=true then some false else(if(o != d.1)=true then some false else((z2x fuel x0).bind fun y=>((z3s fuel y).bind fun q=>((z2O fuel q.1 M.1).bind fun G=>(if(!G)=true then z1r fuel h d true else z1r fuel h d (q.2 != M.2))))))))))
def z1s (fuel:Nat) (x0:D.Cluster) (d:D.Detector × Int) (M:D.Cluster) (h:D.Detector × Int) (H:Bool):Option Bool:=(if H=true then some false else((z2x fuel x0).bind fun o=>((z4T fuel M o).bind fun q=>(if(!q)=true then some false else((z2o fuel M 1).bind fun y=>(if(decide (y.1<0))=true then z17 fuel x0 d h true else((z2O fuel h.1 d.1).bind fun G=>(if(!G)=true then z17 fuel x0 d h true else z17 fuel x0 d h (h.2 != d.2)))))))))
def z2U (fuel:Nat) (x0:D.Cluster):Option (Bool):=((z6L fuel x0 1048576).bind fun y=>(if(decide (y<0))=true then some true else((z2x fuel x0).bind fun G=>((z53 fuel G).bind fun d=>((z2x fuel x0).bind fun q=>((z3s fuel q).bind fun h=>((z2O fuel h.1 d.1).bind fun o=>(if(!o)=true then z1s fuel x0 d q h true else z1s fuel x0 d q h (h.2 != d.2)))))))))

theorem laws_FnExactNewDetector_ok {W w:World}(hE:Ext W w){q4:List Value}{x0:D.Cluster}(B1:ty31.ro W q4 x0){fuel:Nat}{r:Bool}(hm:z2U fuel x0=some r):
    Calls Tryz.prog 12 ⟨[.agg ⟨q4⟩]⟩ w (Ret fun v w8=>v=.bool r∧St w w8 []):=by
  obtain⟨A1,k2,A4,k5,A7,X3,n3,Y3,o3,a4,v4,h3,h6,q5,r5,s5⟩:=zdP B1;subst v4;refine into Tryz.func12 96 _ ?_;unfold z2U at hm;have hS:=St.start w;refine sq<|rg<|nw hS (fun a2 A5 n5 a1=>?_);refine rr 1 ?_;refine rn<|sq<|rg<|rr 1 ?_;refine rn<|sq<|rg<|lN ((a1.bring 0 rfl).box) ?_;refine rr 1 ?_;obtain⟨t5,S3,hm⟩:=bS hm;refine ca zo1 (laws_szCluster_ok (hE.trans a1.ext) B1 S3) (fun u5 B5 D3=>?_);obtain⟨rfl,E3⟩:=D3;have M0:=a1.join E3;refine rr 1 ?_;refine rn<|sq<|sq<|rg<|rr 2 ?_;refine rn<|ci hm (fun hm=>?_) (fun hm=>?_)
  · refine sq<|rg<|rr 1 ?_;refine rn<|rt ?_;cases hm;exact⟨_,.cons (.tmp rfl) .nil,rfl,(M0.taken 0)⟩
  · refine sp<|sq<|rg<|lN ((M0.bring 0 rfl).box) ?_;obtain⟨y0,T3,hm⟩:=bS hm;refine ca zdL (laws_toCluster_ok (hE.trans M0.ext) B1 T3) (fun v5 C5 F3=>?_);obtain⟨u3,g4,v3,i4,y3,j4,A3,k4,B3,m4,rfl,G3⟩:=F3;have C0:=M0.join G3;obtain⟨o,U3,hm⟩:=bS hm;refine ca znZ (zc8 (Ext.refl _) (z8p y0 ((C0.bring 0 rfl).own) ((C0.bring 1 rfl).own) ((C0.bring 2 rfl).own) ((C0.bring 3 rfl).own) ((C0.bring 4 rfl).own)) U3) (fun x5 D5 H3=>?_);obtain⟨g1,C1,i1,D1,j1,E1,m1,F1,n1,G1,p1,H1,rfl,J3⟩:=H3;have M3:=C0.join J3;refine rr 3 ?_;refine nw M3 (fun b2 E5 o5 N3=>?_);have O3:=N3.bring 0 rfl;refine so (A:=[]) O3 0 (fun F5 b1=>?_);refine rr 1 ?_;refine rn<|sq<|rg<|lN ((b1.bring 12 rfl).box) ?_;obtain⟨i0,V3,hm⟩:=bS hm;refine ca zdL (laws_toCluster_ok (hE.trans b1.ext) B1 V3) (fun y5 G5 K3=>?_);obtain⟨s1,J1,t1,K1,u1,L1,v1,M1,y1,N1,rfl,L3⟩:=K3;have P3:=b1.join L3;refine nw P3 (fun m3 H5 p5 Q3=>?_);have R3:=Q3.bring 0 rfl;refine so (A:=[]) R3 0 (fun J5 A0=>?_);refine rn<|sq<|rg<|lN ((A0.bring 0 rfl).box) ?_;obtain⟨d,W3,hm⟩:=bS hm;refine ca zie (zae (Ext.refl _) (z8p i0 ((A0.bring 1 rfl).own) ((A0.bring 2 rfl).own) ((A0.bring 3 rfl).own) ((A0.bring 4 rfl).own) ((A0.bring 5 rfl).own)) W3) (fun G4 T4 d2=>?_);obtain⟨q,S,y,X,G,Y,H,Z,M,a0,O,b0,rfl,e2⟩:=d2;have A2:=A0.join e2;refine rr 3 ?_;refine nw A2 (fun B0 U4 u4 B2=>?_);have C2:=B2.bring 0 rfl;refine so (A:=[]) C2 0 (fun n4 e0=>?_);refine rr 1 ?_;refine rn<|sq<|sq<|ct (fun(d1:Bool) F w9=>z1s fuel x0 o i0 d d1=some r∧Ext n4 w9∧St w w9 [Box B0 [sl q d.1.Cluster.Grid.Shards S,.int .i64 d.1.Cluster.Grid.Root.Machine,.int .i64 d.1.Cluster.Grid.Root.Kind,.int .i64 d.1.Cluster.Grid.Root.Index,sl y d.1.Cluster.Channels X,sl G d.1.Cluster.Counts Y,sl H d.1.Cluster.Sent Z,sl M d.1.Cluster.Got a0,.int .i64 d.1.Holder,.int .i64 d.1.Count,.bool d.1.Dark,sl O d.1.Stained b0,.int .i64 d.1.Rounds,.bool d.1.Announced] 62,ow ty34 q d.1.Cluster.Grid.Shards S,ow ty38 y d.1.Cluster.Channels X,ow ty28 G d.1.Cluster.Counts Y,ow ty29 H d.1.Cluster.Sent Z,ow ty29 M d.1.Cluster.Got a0,ow ty56 O d.1.Stained b0,Box m3 [sl s1 i0.Grid.Shards J1,.int .i64 i0.Grid.Root.Machine,.int .i64 i0.Grid.Root.Kind,.int .i64 i0.Grid.Root.Index,sl t1 i0.Channels K1,sl u1 i0.Counts L1,sl v1 i0.Sent M1,sl y1 i0.Got N1] 40,ow ty34 s1 i0.Grid.Shards J1,ow ty38 t1 i0.Channels K1,ow ty28 u1 i0.Counts L1,ow ty29 v1 i0.Sent M1,ow ty29 y1 i0.Got N1,Box b2 [sl g1 o.1.Cluster.Grid.Shards C1,.int .i64 o.1.Cluster.Grid.Root.Machine,.int .i64 o.1.Cluster.Grid.Root.Kind,.int .i64 o.1.Cluster.Grid.Root.Index,sl i1 o.1.Cluster.Channels D1,sl j1 o.1.Cluster.Counts E1,sl m1 o.1.Cluster.Sent F1,sl n1 o.1.Cluster.Got G1,.int .i64 o.1.Holder,.int .i64 o.1.Count,.bool o.1.Dark,sl p1 o.1.Stained H1,.int .i64 o.1.Rounds,.bool o.1.Announced] 62,ow ty34 g1 o.1.Cluster.Grid.Shards C1,ow ty38 i1 o.1.Cluster.Channels D1,ow ty28 j1 o.1.Cluster.Counts E1,ow ty29 m1 o.1.Cluster.Sent F1,ow ty29 n1 o.1.Cluster.Got G1,ow ty56 p1 o.1.Stained H1,ow ty34 u3 y0.Grid.Shards g4,ow ty38 v3 y0.Channels i4,ow ty28 y3 y0.Counts j4,ow ty29 A3 y0.Sent k4,ow ty29 B3 y0.Got m4,Box a2 [sl A1 x0.Grid.Shards k2,.int .i64 x0.Grid.Root.Machine,.int .i64 x0.Grid.Root.Kind,.int .i64 x0.Grid.Root.Index,sl A4 x0.Channels k5,sl A7 x0.Counts X3,sl n3 x0.Sent Y3,sl o3 x0.Got a4] 31]∧F=[(1,.pointer (some ⟨a2,0,none⟩)),(4,.pointer (some ⟨b2,0,none⟩)),(5,.int .i64 o.2),(6,.pointer (some ⟨m3,0,none⟩)),(7,.pointer (some ⟨B0,0,none⟩)),(8,.int .i64 d.2),(40,.bool d1)]) ?_ ?_
    · rintro d1 F V4 ⟨hm,r4,u0,rfl⟩;unfold z1s at hm;refine ci hm (fun hm=>?_) (fun hm=>?_)
      · refine sq<|rg<|rr 1 ?_;refine rn<|rt ?_;cases hm;exact⟨_,.cons (.tmp rfl) .nil,rfl,(u0.taken 0)⟩
      · refine sp<|sq<|sq<|dn 0 mixed 5 [([],31),([],31),([1],29),([0,2,2],26),([3],23)] u0.ext (fun o0=>?_);have P0:=u0.step (Ext.draw _);refine dL o0 0 ((u0.bring 7 rfl).box) ?_;refine dL o0 1 ((u0.bring 25 rfl).box) ?_;obtain⟨q0,N2,hm⟩:=bS hm;refine o1 o0 2 (mc o0 zdL (laws_toCluster_ok (hE.trans P0.ext) B1 N2) (fun H4 W4 f2=>?_));obtain⟨O1,Y2,P1,a3,Q1,b3,R1,c3,S1,d3,rfl,N0⟩:=f2;refine⟨N0.ext,?_⟩;have j0:=P0.join N0;obtain⟨y4,O2,hm⟩:=bS hm;refine o1 o0 3 (mc o0 zig (laws_eqCluster_ok (Ext.refl _) (z8p i0 ((j0.bring 13 rfl).own) ((j0.bring 14 rfl).own) ((j0.bring 15 rfl).own) ((j0.bring 16 rfl).own) ((j0.bring 17 rfl).own)) (z8p q0 ((j0.bring 0 rfl).own) ((j0.bring 1 rfl).own) ((j0.bring 2 rfl).own) ((j0.bring 3 rfl).own) ((j0.bring 4 rfl).own)) O2) (fun J4 X4 g2=>?_));obtain⟨rfl,O0⟩:=g2;refine⟨O0.ext,?_⟩;have H0:=j0.join O0;refine dr 0 o0 [4] ?_;refine dd o0 ?_;refine ci hm (fun hm=>?_) (fun hm=>?_)
        · refine sq<|rg<|rr 1 ?_;refine rn<|rt ?_;cases hm;exact⟨_,.cons (.tmp rfl) .nil,rfl,(H0.taken 0)⟩
        · refine sp<|sq<|rg<|rr 1 ?_;refine rn<|sq<|rg<|lN ((H0.bring 12 rfl).box) ?_;refine rr 1 ?_;obtain⟨r0,P2,hm⟩:=bS hm;refine ca zif (laws_markCluster_ok (W:=w) (RR:=_) (x0:=i0) (x1:=1) (((((H0.bring 17 rfl).bring 17 rfl).bring 17 rfl).bring 17 rfl).bring 17 rfl)  P2) (fun K4 o4 i2=>?_);obtain⟨rfl,d0⟩:=i2;refine rr 1 ?_;refine rn<|sq<|sq<|ct (fun(e1:Bool) F w9=>z17 fuel x0 o d e1=some r∧Ext o4 w9∧St w w9 [Own ty34 [sl s1 i0.Grid.Shards J1] r0.2.1,Own ty38 [sl t1 i0.Channels K1] r0.2.2.1,Own ty28 [sl u1 i0.Counts L1] r0.2.2.2.1,Own ty29 [sl v1 i0.Sent M1] r0.2.2.2.2.1,Own ty29 [sl y1 i0.Got N1] r0.2.2.2.2.2,ow ty34 O1 q0.Grid.Shards Y2,ow ty38 P1 q0.Channels a3,ow ty28 Q1 q0.Counts b3,ow ty29 R1 q0.Sent c3,ow ty29 S1 q0.Got d3,Box B0 [sl q d.1.Cluster.Grid.Shards S,.int .i64 d.1.Cluster.Grid.Root.Machine,.int .i64 d.1.Cluster.Grid.Root.Kind,.int .i64 d.1.Cluster.Grid.Root.Index,sl y d.1.Cluster.Channels X,sl G d.1.Cluster.Counts Y,sl H d.1.Cluster.Sent Z,sl M d.1.Cluster.Got a0,.int .i64 d.1.Holder,.int .i64 d.1.Count,.bool d.1.Dark,sl O d.1.Stained b0,.int .i64 d.1.Rounds,.bool d.1.Announced] 62,ow ty34 q d.1.Cluster.Grid.Shards S,ow ty38 y d.1.Cluster.Channels X,ow ty28 G d.1.Cluster.Counts Y,ow ty29 H d.1.Cluster.Sent Z,ow ty29 M d.1.Cluster.Got a0,ow ty56 O d.1.Stained b0,Box m3 [sl s1 i0.Grid.Shards J1,.int .i64 i0.Grid.Root.Machine,.int .i64 i0.Grid.Root.Kind,.int .i64 i0.Grid.Root.Index,sl t1 i0.Channels K1,sl u1 i0.Counts L1,sl v1 i0.Sent M1,sl y1 i0.Got N1] 40,Box b2 [sl g1 o.1.Cluster.Grid.Shards C1,.int .i64 o.1.Cluster.Grid.Root.Machine,.int .i64 o.1.Cluster.Grid.Root.Kind,.int .i64 o.1.Cluster.Grid.Root.Index,sl i1 o.1.Cluster.Channels D1,sl j1 o.1.Cluster.Counts E1,sl m1 o.1.Cluster.Sent F1,sl n1 o.1.Cluster.Got G1,.int .i64 o.1.Holder,.int .i64 o.1.Count,.bool o.1.Dark,sl p1 o.1.Stained H1,.int .i64 o.1.Rounds,.bool o.1.Announced] 62,ow ty34 g1 o.1.Cluster.Grid.Shards C1,ow ty38 i1 o.1.Cluster.Channels D1,ow ty28 j1 o.1.Cluster.Counts E1,ow ty29 m1 o.1.Cluster.Sent F1,ow ty29 n1 o.1.Cluster.Got G1,ow ty56 p1 o.1.Stained H1,ow ty34 u3 y0.Grid.Shards g4,ow ty38 v3 y0.Channels i4,ow ty28 y3 y0.Counts j4,ow ty29 A3 y0.Sent k4,ow ty29 B3 y0.Got m4,Box a2 [sl A1 x0.Grid.Shards k2,.int .i64 x0.Grid.Root.Machine,.int .i64 x0.Grid.Root.Kind,.int .i64 x0.Grid.Root.Index,sl A4 x0.Channels k5,sl A7 x0.Counts X3,sl n3 x0.Sent Y3,sl o3 x0.Got a4] 31]∧F=[(1,.pointer (some ⟨a2,0,none⟩)),(4,.pointer (some ⟨b2,0,none⟩)),(5,.int .i64 o.2),(7,.pointer (some ⟨B0,0,none⟩)),(61,.bool e1)]) ?_ ?_
          · rintro e1 F Y4 ⟨hm,s4,J0,rfl⟩;unfold z17 at hm;refine ci hm (fun hm=>?_) (fun hm=>?_)
            · refine sq<|rg<|rr 1 ?_;refine rn<|rt ?_;cases hm;exact⟨_,.cons (.tmp rfl) .nil,rfl,(J0.taken 0)⟩
            · refine sp<|sq<|rg<|rr 1 ?_;refine rn<|sq<|rg<|lN ((J0.bring 10 rfl).box) ?_;refine rr 1 ?_;obtain⟨h,Q2,hm⟩:=bS hm;refine ca znY (laws_markDetector_ok (W:=w) (RR:=_) (x0:=d.1) (x1:=1) ((((((J0.bring 16 rfl).bring 16 rfl).bring 16 rfl).bring 16 rfl).bring 16 rfl).bring 16 rfl)  Q2) (fun L4 a5 j2=>?_);obtain⟨rfl,K0⟩:=j2;refine rr 1 ?_;refine rn<|sq<|rg<|rr 1 ?_;refine rn<|sq<|rg<|lN ((K0.bring 16 rfl).box) ?_;refine rr 1 ?_;have hn172:=(K0.bring 0 rfl).lenEq;have D2:=(K0.bring 0 rfl).reLen hn172;have Q0:=(D2.bring 16 rfl).reBox (cs':=[.slice q h.2.1.length S,.int .i64 d.1.Cluster.Grid.Root.Machine,.int .i64 d.1.Cluster.Grid.Root.Kind,.int .i64 d.1.Cluster.Grid.Root.Index,.slice y d.1.Cluster.Channels.length X,.slice G d.1.Cluster.Counts.length Y,.slice H d.1.Cluster.Sent.length Z,.slice M d.1.Cluster.Got.length a0,.int .i64 d.1.Holder,.int .i64 d.1.Count,.bool d.1.Dark,.slice O d.1.Stained.length b0,.int .i64 d.1.Rounds,.bool d.1.Announced]) (by show([.slice q d.1.Cluster.Grid.Shards.length S,.int .i64 d.1.Cluster.Grid.Root.Machine,.int .i64 d.1.Cluster.Grid.Root.Kind,.int .i64 d.1.Cluster.Grid.Root.Index,.slice y d.1.Cluster.Channels.length X,.slice G d.1.Cluster.Counts.length Y,.slice H d.1.Cluster.Sent.length Z,.slice M d.1.Cluster.Got.length a0,.int .i64 d.1.Holder,.int .i64 d.1.Count,.bool d.1.Dark,.slice O d.1.Stained.length b0,.int .i64 d.1.Rounds,.bool d.1.Announced]:List Value)=[.slice q h.2.1.length S,.int .i64 d.1.Cluster.Grid.Root.Machine,.int .i64 d.1.Cluster.Grid.Root.Kind,.int .i64 d.1.Cluster.Grid.Root.Index,.slice y d.1.Cluster.Channels.length X,.slice G d.1.Cluster.Counts.length Y,.slice H d.1.Cluster.Sent.length Z,.slice M d.1.Cluster.Got.length a0,.int .i64 d.1.Holder,.int .i64 d.1.Count,.bool d.1.Dark,.slice O d.1.Stained.length b0,.int .i64 d.1.Rounds,.bool d.1.Announced];first | (simp only [sl,hn172];done) | (simp only [sl,hn172];rfl));have hn175:=(Q0.bring 2 rfl).lenEq;have E2:=(Q0.bring 2 rfl).reLen hn175;have R0:=(E2.bring 1 rfl).reBox (cs':=[.slice q h.2.1.length S,.int .i64 d.1.Cluster.Grid.Root.Machine,.int .i64 d.1.Cluster.Grid.Root.Kind,.int .i64 d.1.Cluster.Grid.Root.Index,.slice y h.2.2.1.length X,.slice G d.1.Cluster.Counts.length Y,.slice H d.1.Cluster.Sent.length Z,.slice M d.1.Cluster.Got.length a0,.int .i64 d.1.Holder,.int .i64 d.1.Count,.bool d.1.Dark,.slice O d.1.Stained.length b0,.int .i64 d.1.Rounds,.bool d.1.Announced]) (by show([.slice q h.2.1.length S,.int .i64 d.1.Cluster.Grid.Root.Machine,.int .i64 d.1.Cluster.Grid.Root.Kind,.int .i64 d.1.Cluster.Grid.Root.Index,.slice y d.1.Cluster.Channels.length X,.slice G d.1.Cluster.Counts.length Y,.slice H d.1.Cluster.Sent.length Z,.slice M d.1.Cluster.Got.length a0,.int .i64 d.1.Holder,.int .i64 d.1.Count,.bool d.1.Dark,.slice O d.1.Stained.length b0,.int .i64 d.1.Rounds,.bool d.1.Announced]:List Value)=[.slice q h.2.1.length S,.int .i64 d.1.Cluster.Grid.Root.Machine,.int .i64 d.1.Cluster.Grid.Root.Kind,.int .i64 d.1.Cluster.Grid.Root.Index,.slice y h.2.2.1.length X,.slice G d.1.Cluster.Counts.length Y,.slice H d.1.Cluster.Sent.length Z,.slice M d.1.Cluster.Got.length a0,.int .i64 d.1.Holder,.int .i64 d.1.Count,.bool d.1.Dark,.slice O d.1.Stained.length b0,.int .i64 d.1.Rounds,.bool d.1.Announced];first | (simp only [sl,hn175];done) | (simp only [sl,hn175];rfl));have hn178:=(R0.bring 3 rfl).lenEq;have F2:=(R0.bring 3 rfl).reLen hn178;have S0:=(F2.bring 1 rfl).reBox (cs':=[.slice q h.2.1.length S,.int .i64 d.1.Cluster.Grid.Root.Machine,.int .i64 d.1.Cluster.Grid.Root.Kind,.int .i64 d.1.Cluster.Grid.Root.Index,.slice y h.2.2.1.length X,.slice G h.2.2.2.1.length Y,.slice H d.1.Cluster.Sent.length Z,.slice M d.1.Cluster.Got.length a0,.int .i64 d.1.Holder,.int .i64 d.1.Count,.bool d.1.Dark,.slice O d.1.Stained.length b0,.int .i64 d.1.Rounds,.bool d.1.Announced]) (by show([.slice q h.2.1.length S,.int .i64 d.1.Cluster.Grid.Root.Machine,.int .i64 d.1.Cluster.Grid.Root.Kind,.int .i64 d.1.Cluster.Grid.Root.Index,.slice y h.2.2.1.length X,.slice G d.1.Cluster.Counts.length Y,.slice H d.1.Cluster.Sent.length Z,.slice M d.1.Cluster.Got.length a0,.int .i64 d.1.Holder,.int .i64 d.1.Count,.bool d.1.Dark,.slice O d.1.Stained.length b0,.int .i64 d.1.Rounds,.bool d.1.Announced]:List Value)=[.slice q h.2.1.length S,.int .i64 d.1.Cluster.Grid.Root.Machine,.int .i64 d.1.Cluster.Grid.Root.Kind,.int .i64 d.1.Cluster.Grid.Root.Index,.slice y h.2.2.1.length X,.slice G h.2.2.2.1.length Y,.slice H d.1.Cluster.Sent.length Z,.slice M d.1.Cluster.Got.length a0,.int .i64 d.1.Holder,.int .i64 d.1.Count,.bool d.1.Dark,.slice O d.1.Stained.length b0,.int .i64 d.1.Rounds,.bool d.1.Announced];first | (simp only [sl,hn178];done) | (simp only [sl,hn178];rfl));have hn181:=(S0.bring 4 rfl).lenEq;have G2:=(S0.bring 4 rfl).reLen hn181;have T0:=(G2.bring 1 rfl).reBox (cs':=[.slice q h.2.1.length S,.int .i64 d.1.Cluster.Grid.Root.Machine,.int .i64 d.1.Cluster.Grid.Root.Kind,.int .i64 d.1.Cluster.Grid.Root.Index,.slice y h.2.2.1.length X,.slice G h.2.2.2.1.length Y,.slice H h.2.2.2.2.1.length Z,.slice M d.1.Cluster.Got.length a0,.int .i64 d.1.Holder,.int .i64 d.1.Count,.bool d.1.Dark,.slice O d.1.Stained.length b0,.int .i64 d.1.Rounds,.bool d.1.Announced]) (by show([.slice q h.2.1.length S,.int .i64 d.1.Cluster.Grid.Root.Machine,.int .i64 d.1.Cluster.Grid.Root.Kind,.int .i64 d.1.Cluster.Grid.Root.Index,.slice y h.2.2.1.length X,.slice G h.2.2.2.1.length Y,.slice H d.1.Cluster.Sent.length Z,.slice M d.1.Cluster.Got.length a0,.int .i64 d.1.Holder,.int .i64 d.1.Count,.bool d.1.Dark,.slice O d.1.Stained.length b0,.int .i64 d.1.Rounds,.bool d.1.Announced]:List Value)=[.slice q h.2.1.length S,.int .i64 d.1.Cluster.Grid.Root.Machine,.int .i64 d.1.Cluster.Grid.Root.Kind,.int .i64 d.1.Cluster.Grid.Root.Index,.slice y h.2.2.1.length X,.slice G h.2.2.2.1.length Y,.slice H h.2.2.2.2.1.length Z,.slice M d.1.Cluster.Got.length a0,.int .i64 d.1.Holder,.int .i64 d.1.Count,.bool d.1.Dark,.slice O d.1.Stained.length b0,.int .i64 d.1.Rounds,.bool d.1.Announced];first | (simp only [sl,hn181];done) | (simp only [sl,hn181];rfl));have hn184:=(T0.bring 5 rfl).lenEq;have H2:=(T0.bring 5 rfl).reLen hn184;have U0:=(H2.bring 1 rfl).reBox (cs':=[.slice q h.2.1.length S,.int .i64 d.1.Cluster.Grid.Root.Machine,.int .i64 d.1.Cluster.Grid.Root.Kind,.int .i64 d.1.Cluster.Grid.Root.Index,.slice y h.2.2.1.length X,.slice G h.2.2.2.1.length Y,.slice H h.2.2.2.2.1.length Z,.slice M h.2.2.2.2.2.1.length a0,.int .i64 d.1.Holder,.int .i64 d.1.Count,.bool d.1.Dark,.slice O d.1.Stained.length b0,.int .i64 d.1.Rounds,.bool d.1.Announced]) (by show([.slice q h.2.1.length S,.int .i64 d.1.Cluster.Grid.Root.Machine,.int .i64 d.1.Cluster.Grid.Root.Kind,.int .i64 d.1.Cluster.Grid.Root.Index,.slice y h.2.2.1.length X,.slice G h.2.2.2.1.length Y,.slice H h.2.2.2.2.1.length Z,.slice M d.1.Cluster.Got.length a0,.int .i64 d.1.Holder,.int .i64 d.1.Count,.bool d.1.Dark,.slice O d.1.Stained.length b0,.int .i64 d.1.Rounds,.bool d.1.Announced]:List Value)=[.slice q h.2.1.length S,.int .i64 d.1.Cluster.Grid.Root.Machine,.int .i64 d.1.Cluster.Grid.Root.Kind,.int .i64 d.1.Cluster.Grid.Root.Index,.slice y h.2.2.1.length X,.slice G h.2.2.2.1.length Y,.slice H h.2.2.2.2.1.length Z,.slice M h.2.2.2.2.2.1.length a0,.int .i64 d.1.Holder,.int .i64 d.1.Count,.bool d.1.Dark,.slice O d.1.Stained.length b0,.int .i64 d.1.Rounds,.bool d.1.Announced];first | (simp only [sl,hn184];done) | (simp only [sl,hn184];rfl));have hn187:=(U0.bring 6 rfl).lenEq;have J2:=(U0.bring 6 rfl).reLen hn187;have p0:=(J2.bring 1 rfl).reBox (cs':=[.slice q h.2.1.length S,.int .i64 d.1.Cluster.Grid.Root.Machine,.int .i64 d.1.Cluster.Grid.Root.Kind,.int .i64 d.1.Cluster.Grid.Root.Index,.slice y h.2.2.1.length X,.slice G h.2.2.2.1.length Y,.slice H h.2.2.2.2.1.length Z,.slice M h.2.2.2.2.2.1.length a0,.int .i64 d.1.Holder,.int .i64 d.1.Count,.bool d.1.Dark,.slice O h.2.2.2.2.2.2.length b0,.int .i64 d.1.Rounds,.bool d.1.Announced]) (by show([.slice q h.2.1.length S,.int .i64 d.1.Cluster.Grid.Root.Machine,.int .i64 d.1.Cluster.Grid.Root.Kind,.int .i64 d.1.Cluster.Grid.Root.Index,.slice y h.2.2.1.length X,.slice G h.2.2.2.1.length Y,.slice H h.2.2.2.2.1.length Z,.slice M h.2.2.2.2.2.1.length a0,.int .i64 d.1.Holder,.int .i64 d.1.Count,.bool d.1.Dark,.slice O d.1.Stained.length b0,.int .i64 d.1.Rounds,.bool d.1.Announced]:List Value)=[.slice q h.2.1.length S,.int .i64 d.1.Cluster.Grid.Root.Machine,.int .i64 d.1.Cluster.Grid.Root.Kind,.int .i64 d.1.Cluster.Grid.Root.Index,.slice y h.2.2.1.length X,.slice G h.2.2.2.1.length Y,.slice H h.2.2.2.2.1.length Z,.slice M h.2.2.2.2.2.1.length a0,.int .i64 d.1.Holder,.int .i64 d.1.Count,.bool d.1.Dark,.slice O h.2.2.2.2.2.2.length b0,.int .i64 d.1.Rounds,.bool d.1.Announced];first | (simp only [sl,hn187];done) | (simp only [sl,hn187];rfl));refine kn (u:=.agg ⟨[.slice q h.2.1.length S,.int .i64 d.1.Cluster.Grid.Root.Machine,.int .i64 d.1.Cluster.Grid.Root.Kind,.int .i64 d.1.Cluster.Grid.Root.Index,.slice y h.2.2.1.length X,.slice G h.2.2.2.1.length Y,.slice H h.2.2.2.2.1.length Z,.slice M h.2.2.2.2.2.1.length a0,.int .i64 d.1.Holder,.int .i64 d.1.Count,.bool d.1.Dark,.slice O h.2.2.2.2.2.2.length b0,.int .i64 d.1.Rounds,.bool d.1.Announced]⟩) 65 rfl (by simp only [sl,hn172,hn175,hn178,hn181,hn184,hn187]) ?_;obtain⟨B4,R2,hm⟩:=bS hm;refine ca zid (laws_heldDetector_ok (Ext.refl _) (z9b (⟨(⟨(⟨h.2.1,(⟨d.1.Cluster.Grid.Root.Machine,d.1.Cluster.Grid.Root.Kind,d.1.Cluster.Grid.Root.Index⟩:D.Address)⟩:D.Grid),h.2.2.1,h.2.2.2.1,h.2.2.2.2.1,h.2.2.2.2.2.1⟩:D.Cluster),d.1.Holder,d.1.Count,d.1.Dark,h.2.2.2.2.2.2,d.1.Rounds,d.1.Announced⟩:D.Detector) ((p0.bring 6 rfl).own) ((p0.bring 5 rfl).own) ((p0.bring 4 rfl).own) ((p0.bring 3 rfl).own) ((p0.bring 2 rfl).own) ((p0.bring 1 rfl).own)) R2) (fun M4 b5 m2=>?_);obtain⟨rfl,n2⟩:=m2;have v0:=p0.join n2;refine rr 1 ?_;refine rn<|sq<|sq<|rg<|rr 2 ?_;refine rn<|ci hm (fun hm=>?_) (fun hm=>?_)
              · refine sq<|rg<|rr 1 ?_;refine rn<|rt ?_;cases hm;exact⟨_,.cons (.tmp rfl) .nil,rfl,(v0.taken 0)⟩
              · refine sp<|sq<|sq<|rg<|rr 3 ?_;refine rn<|ci hm (fun hm=>?_) (fun hm=>?_)
                · refine sq<|rg<|rr 1 ?_;refine rn<|rt ?_;cases hm;exact⟨_,.cons (.tmp rfl) .nil,rfl,(v0.taken 0)⟩
                · refine sp<|sq<|rg<|lN ((v0.bring 30 rfl).box) ?_;obtain⟨D0,S2,hm⟩:=bS hm;refine ca zdL (laws_toCluster_ok (hE.trans v0.ext) B1 S2) (fun N4 c5 o2=>?_);obtain⟨p3,b4,q3,c4,r3,d4,s3,e4,t3,f4,rfl,p2⟩:=o2;have t0:=v0.join p2;obtain⟨g0,T2,hm⟩:=bS hm;refine ca zie (zae (Ext.refl _) (z8p D0 ((t0.bring 0 rfl).own) ((t0.bring 1 rfl).own) ((t0.bring 2 rfl).own) ((t0.bring 3 rfl).own) ((t0.bring 4 rfl).own)) T2) (fun O4 d5 q2=>?_);obtain⟨T1,e3,U1,f3,V1,g3,W1,i3,X1,j3,Y1,k3,rfl,r2⟩:=q2;have K2:=t0.join r2;refine rr 3 ?_;refine nw K2 (fun C3 e5 x4 L2=>?_);have M2:=L2.bring 0 rfl;refine so (A:=[]) M2 0 (fun p4 f0=>?_);refine rr 1 ?_;refine rn<|sq<|sq<|ct (fun(f1:Bool) F w9=>z1r fuel d h f1=some r∧Ext p4 w9∧St w w9 [Box C3 [sl T1 g0.1.Cluster.Grid.Shards e3,.int .i64 g0.1.Cluster.Grid.Root.Machine,.int .i64 g0.1.Cluster.Grid.Root.Kind,.int .i64 g0.1.Cluster.Grid.Root.Index,sl U1 g0.1.Cluster.Channels f3,sl V1 g0.1.Cluster.Counts g3,sl W1 g0.1.Cluster.Sent i3,sl X1 g0.1.Cluster.Got j3,.int .i64 g0.1.Holder,.int .i64 g0.1.Count,.bool g0.1.Dark,sl Y1 g0.1.Stained k3,.int .i64 g0.1.Rounds,.bool g0.1.Announced] 62,ow ty34 T1 g0.1.Cluster.Grid.Shards e3,ow ty38 U1 g0.1.Cluster.Channels f3,ow ty28 V1 g0.1.Cluster.Counts g3,ow ty29 W1 g0.1.Cluster.Sent i3,ow ty29 X1 g0.1.Cluster.Got j3,ow ty56 Y1 g0.1.Stained k3,ow ty34 p3 D0.Grid.Shards b4,ow ty38 q3 D0.Channels c4,ow ty28 r3 D0.Counts d4,ow ty29 s3 D0.Sent e4,ow ty29 t3 D0.Got f4,Box B0 [sl q h.2.1 S,.int .i64 d.1.Cluster.Grid.Root.Machine,.int .i64 d.1.Cluster.Grid.Root.Kind,.int .i64 d.1.Cluster.Grid.Root.Index,sl y h.2.2.1 X,sl G h.2.2.2.1 Y,sl H h.2.2.2.2.1 Z,sl M h.2.2.2.2.2.1 a0,.int .i64 d.1.Holder,.int .i64 d.1.Count,.bool d.1.Dark,sl O h.2.2.2.2.2.2 b0,.int .i64 d.1.Rounds,.bool d.1.Announced] 62,ow ty56 O h.2.2.2.2.2.2 b0,ow ty29 M h.2.2.2.2.2.1 a0,ow ty29 H h.2.2.2.2.1 Z,ow ty28 G h.2.2.2.1 Y,ow ty38 y h.2.2.1 X,ow ty34 q h.2.1 S,Own ty34 [sl s1 i0.Grid.Shards J1] r0.2.1,Own ty38 [sl t1 i0.Channels K1] r0.2.2.1,Own ty28 [sl u1 i0.Counts L1] r0.2.2.2.1,Own ty29 [sl v1 i0.Sent M1] r0.2.2.2.2.1,Own ty29 [sl y1 i0.Got N1] r0.2.2.2.2.2,ow ty34 O1 q0.Grid.Shards Y2,ow ty38 P1 q0.Channels a3,ow ty28 Q1 q0.Counts b3,ow ty29 R1 q0.Sent c3,ow ty29 S1 q0.Got d3,Box m3 [sl s1 i0.Grid.Shards J1,.int .i64 i0.Grid.Root.Machine,.int .i64 i0.Grid.Root.Kind,.int .i64 i0.Grid.Root.Index,sl t1 i0.Channels K1,sl u1 i0.Counts L1,sl v1 i0.Sent M1,sl y1 i0.Got N1] 40,Box b2 [sl g1 o.1.Cluster.Grid.Shards C1,.int .i64 o.1.Cluster.Grid.Root.Machine,.int .i64 o.1.Cluster.Grid.Root.Kind,.int .i64 o.1.Cluster.Grid.Root.Index,sl i1 o.1.Cluster.Channels D1,sl j1 o.1.Cluster.Counts E1,sl m1 o.1.Cluster.Sent F1,sl n1 o.1.Cluster.Got G1,.int .i64 o.1.Holder,.int .i64 o.1.Count,.bool o.1.Dark,sl p1 o.1.Stained H1,.int .i64 o.1.Rounds,.bool o.1.Announced] 62,ow ty34 g1 o.1.Cluster.Grid.Shards C1,ow ty38 i1 o.1.Cluster.Channels D1,ow ty28 j1 o.1.Cluster.Counts E1,ow ty29 m1 o.1.Cluster.Sent F1,ow ty29 n1 o.1.Cluster.Got G1,ow ty56 p1 o.1.Stained H1,ow ty34 u3 y0.Grid.Shards g4,ow ty38 v3 y0.Channels i4,ow ty28 y3 y0.Counts j4,ow ty29 A3 y0.Sent k4,ow ty29 B3 y0.Got m4,Box a2 [sl A1 x0.Grid.Shards k2,.int .i64 x0.Grid.Root.Machine,.int .i64 x0.Grid.Root.Kind,.int .i64 x0.Grid.Root.Index,sl A4 x0.Channels k5,sl A7 x0.Counts X3,sl n3 x0.Sent Y3,sl o3 x0.Got a4] 31]∧F=[(7,.pointer (some ⟨B0,0,none⟩)),(10,.int .i64 h.1),(87,.bool f1)]) ?_ ?_
                  · rintro f1 F f5 ⟨hm,t4,k0,rfl⟩;unfold z1r at hm;refine ci hm (fun hm=>?_) (fun hm=>?_)
                    · refine sq<|rg<|rr 1 ?_;refine rn<|rt ?_;cases hm;exact⟨_,.cons (.tmp rfl) .nil,rfl,(k0.taken 0)⟩
                    · refine sp<|sq<|rg<|rr 1 ?_;refine rn<|sq<|rg<|lN ((k0.bring 12 rfl).box) ?_;refine rr 1 ?_;obtain⟨C4,U2,hm⟩:=bS hm;refine ca zid (laws_heldDetector_ok (Ext.refl _) (z9b (⟨(⟨(⟨h.2.1,(⟨d.1.Cluster.Grid.Root.Machine,d.1.Cluster.Grid.Root.Kind,d.1.Cluster.Grid.Root.Index⟩:D.Address)⟩:D.Grid),h.2.2.1,h.2.2.2.1,h.2.2.2.2.1,h.2.2.2.2.2.1⟩:D.Cluster),d.1.Holder,d.1.Count,d.1.Dark,h.2.2.2.2.2.2,d.1.Rounds,d.1.Announced⟩:D.Detector) ((k0.bring 18 rfl).own) ((k0.bring 17 rfl).own) ((k0.bring 16 rfl).own) ((k0.bring 15 rfl).own) ((k0.bring 14 rfl).own) ((k0.bring 13 rfl).own)) U2) (fun P4 g5 s2=>?_);obtain⟨rfl,t2⟩:=s2;have L0:=k0.join t2;refine rr 1 ?_;refine rn<|sq<|sq<|rg<|rr 2 ?_;refine rn<|ci hm (fun hm=>?_) (fun hm=>?_)
                      · refine sq<|rg<|rr 1 ?_;refine rn<|rt ?_;cases hm;exact⟨_,.cons (.tmp rfl) .nil,rfl,(L0.taken 0)⟩
                      · refine sp<|sq<|sq<|rg<|rr 3 ?_;refine rn<|ci hm (fun hm=>?_) (fun hm=>?_)
                        · refine sq<|rg<|rr 1 ?_;refine rn<|rt ?_;cases hm;exact⟨_,.cons (.tmp rfl) .nil,rfl,(L0.taken 0)⟩
                        · refine sp<|sq<|rg<|rr 1 ?_;refine rn<|rt ?_;cases hm;exact⟨_,.cons (.tmp rfl) .nil,rfl,(L0.taken 0)⟩
                  · refine rg<|lN ((f0.bring 0 rfl).box) ?_;refine lN ((f0.bring 30 rfl).box) ?_;obtain⟨D4,V2,hm⟩:=bS hm;refine ca zg6 (laws_eqDetector_ok (Ext.refl _) (z9b g0.1 ((f0.bring 1 rfl).own) ((f0.bring 2 rfl).own) ((f0.bring 3 rfl).own) ((f0.bring 4 rfl).own) ((f0.bring 5 rfl).own) ((f0.bring 6 rfl).own)) (z9b o.1 ((f0.bring 31 rfl).own) ((f0.bring 32 rfl).own) ((f0.bring 33 rfl).own) ((f0.bring 34 rfl).own) ((f0.bring 35 rfl).own) ((f0.bring 36 rfl).own)) V2) (fun Q4 i5 u2=>?_);obtain⟨rfl,E0⟩:=u2;have V0:=f0.join E0;refine rr 2 ?_;refine rb 83 hm (fun hm=>?_) (fun hm=>?_)
                    · refine rr 4 ?_;refine rn ?_;exact⟨true,_,⟨hm,E0.ext,V0,rfl⟩,rfl⟩
                    · refine rr 4 ?_;refine rn ?_;exact⟨(g0.2 != o.2),_,⟨hm,E0.ext,V0,rfl⟩,rfl⟩
          · refine rg<|rr 3 ?_;refine rb 51 hm (fun hm=>?_) (fun hm=>?_)
            · refine rr 10 ?_;refine rn ?_;exact⟨true,_,⟨hm,(Ext.refl _),d0,rfl⟩,rfl⟩
            · refine lN ((d0.bring 10 rfl).box) ?_;refine lN ((d0.bring 18 rfl).box) ?_;obtain⟨E4,W2,hm⟩:=bS hm;refine ca zg6 (laws_eqDetector_ok (Ext.refl _) (z9b d.1 ((d0.bring 11 rfl).own) ((d0.bring 12 rfl).own) ((d0.bring 13 rfl).own) ((d0.bring 14 rfl).own) ((d0.bring 15 rfl).own) ((d0.bring 16 rfl).own)) (z9b o.1 ((d0.bring 19 rfl).own) ((d0.bring 20 rfl).own) ((d0.bring 21 rfl).own) ((d0.bring 22 rfl).own) ((d0.bring 23 rfl).own) ((d0.bring 24 rfl).own)) W2) (fun R4 j5 v2=>?_);obtain⟨rfl,F0⟩:=v2;have X0:=d0.join F0;refine rr 3 ?_;refine rb 57 hm (fun hm=>?_) (fun hm=>?_)
              · refine rr 4 ?_;refine rn ?_;exact⟨true,_,⟨hm,F0.ext,X0,rfl⟩,rfl⟩
              · refine rr 4 ?_;refine rn ?_;exact⟨(d.2 != o.2),_,⟨hm,F0.ext,X0,rfl⟩,rfl⟩
    · refine rg<|lN ((e0.bring 0 rfl).box) ?_;refine lN ((e0.bring 13 rfl).box) ?_;obtain⟨F4,X2,hm⟩:=bS hm;refine ca zg6 (laws_eqDetector_ok (Ext.refl _) (z9b d.1 ((e0.bring 1 rfl).own) ((e0.bring 2 rfl).own) ((e0.bring 3 rfl).own) ((e0.bring 4 rfl).own) ((e0.bring 5 rfl).own) ((e0.bring 6 rfl).own)) (z9b o.1 ((e0.bring 14 rfl).own) ((e0.bring 15 rfl).own) ((e0.bring 16 rfl).own) ((e0.bring 17 rfl).own) ((e0.bring 18 rfl).own) ((e0.bring 19 rfl).own)) X2) (fun S4 m5 y2=>?_);obtain⟨rfl,G0⟩:=y2;have Y0:=e0.join G0;refine rr 2 ?_;refine rb 36 hm (fun hm=>?_) (fun hm=>?_)
      · refine rr 4 ?_;refine rn ?_;exact⟨true,_,⟨hm,G0.ext,Y0,rfl⟩,rfl⟩
      · refine rr 4 ?_;refine rn ?_;exact⟨(d.2 != o.2),_,⟨hm,G0.ext,Y0,rfl⟩,rfl⟩

end Go.E


namespace Go.E
open Go.RowKit Go.Proofs
set_option linter.unusedSimpArgs false
set_option linter.unusedVariables false

def zbU (fuel:Nat) (x:Int) (k:Int):Int:=k
def z9a (x:Int):Nat:=1
def z71 (fuel:Nat) (xs:List Int) (k:Int):List Int:=markL (zbU fuel) z9a xs k
def z2b (xs:List Int):Nat:=sumL z9a xs
theorem z48 {fuel:Nat}{xs:List Int}{k:Int}(hf:18446744073709551616≤fuel) (hl:xs.length≤1048576) (h0:0≤k) (h1:k+(z2b xs:Nat)≤2147483648):z1y fuel xs k=some (k+(z2b xs:Nat),z71 fuel xs k):=by
  unfold z1y
  rw [z7N (f:=zbU fuel) (c:=z9a) (xs:=xs) (k:=k) (by have:=hl;omega) hf h0 h1 ?_ ?_]
  · rfl
  · intro i x ys k hi d hx hm h0 h1
    unfold z9a at h1
    unfold z5H zbU z9a
    rw [if_pos (decide_eq_true (show(i:Int)<xs.length by omega))]
    rw [if_pos (decide_eq_true (show 0≤(i:Int)∧(i:Int).toNat<ys.length from⟨by omega,by rw [d];simpa using hi⟩))]
    simp (disch:=omega) only [z7F,Int.toNat_natCast,Int.ofNat_one,Int.natCast_one]
  · intro k ys;unfold z5H;rw [if_neg (by simp)]

theorem z8e {xs:List Int}:z2b xs≤64*(xs.length):=by
  have h:=z9W (c:=z9a) (g:=(fun _=>0)) (m:=64) (xs:=xs) fun x _=>by
    unfold z9a
    omega
  rw [zbO (fun _=>rfl)] at h
  exact h

def elAddressS (fuel:Nat) (x:D.Address) (k:Int):D.Address:=(⟨k,k+1,k+1+1⟩:D.Address)
def ecAddressS (x:D.Address):Nat:=1+1+1
def mkAddressS (fuel:Nat) (xs:List D.Address) (k:Int):List D.Address:=markL (elAddressS fuel) ecAddressS xs k
def ctAddressS (xs:List D.Address):Nat:=sumL ecAddressS xs
theorem zaO {fuel:Nat}{xs:List D.Address}{k:Int}(hf:18446744073709551616≤fuel) (hl:xs.length≤1048576) (h0:0≤k) (h1:k+(ctAddressS xs:Nat)≤2147483648):z2L fuel xs k=some (k+(ctAddressS xs:Nat),mkAddressS fuel xs k):=by
  unfold z2L
  rw [z7N (f:=elAddressS fuel) (c:=ecAddressS) (xs:=xs) (k:=k) (by have:=hl;omega) hf h0 h1 ?_ ?_]
  · rfl
  · intro i x ys k hi d hx hm h0 h1
    unfold ecAddressS at h1
    unfold z4D elAddressS ecAddressS
    rw [if_pos (decide_eq_true (show(i:Int)<xs.length by omega))]
    simp only [z9 hx,Option.bind_some]
    simp (disch:=omega) only [z7F,Option.bind_some,Int.toNat_natCast]
    all_goals (refine congrArg some (congrArg Rd.next (Prod.ext ?_ ?_));rotate_left;first | rfl | (dsimp only;simp only [Int.natCast_add,Int.natCast_one,Int.ofNat_one,← Int.add_assoc]))
    all_goals (dsimp only;simp only [Int.natCast_add,Int.natCast_one,Int.ofNat_one];try omega)
  · intro k ys;unfold z4D;rw [if_neg (by simp)]

theorem zcN {xs:List D.Address}:ctAddressS xs≤64*(xs.length):=by
  have h:=z9W (c:=ecAddressS) (g:=(fun _=>0)) (m:=64) (xs:=xs) fun x _=>by
    unfold ecAddressS
    omega
  rw [zbO (fun _=>rfl)] at h
  exact h

def elParcelS (fuel:Nat) (x:D.Parcel) (k:Int):D.Parcel:=(⟨k,(⟨k+1,k+1+1,k+1+1+1,(z71 fuel x.Cell.Data (k+1+1+1+1)),(mkAddressS fuel x.Cell.Aux (k+1+1+1+1+((z2b x.Cell.Data:Nat):Int)))⟩:D.ShardCell),(⟨k+1+((1+1+1+z2b x.Cell.Data+ctAddressS x.Cell.Aux:Nat):Int),k+1+((1+1+1+z2b x.Cell.Data+ctAddressS x.Cell.Aux:Nat):Int)+1,k+1+((1+1+1+z2b x.Cell.Data+ctAddressS x.Cell.Aux:Nat):Int)+1+1⟩:D.Address),(⟨k+1+((1+1+1+z2b x.Cell.Data+ctAddressS x.Cell.Aux:Nat):Int)+((1+1+1:Nat):Int),k+1+((1+1+1+z2b x.Cell.Data+ctAddressS x.Cell.Aux:Nat):Int)+((1+1+1:Nat):Int)+1,k+1+((1+1+1+z2b x.Cell.Data+ctAddressS x.Cell.Aux:Nat):Int)+((1+1+1:Nat):Int)+1+1⟩:D.Address)⟩:D.Parcel)
def ecParcelS (x:D.Parcel):Nat:=1+1+1+1+z2b x.Cell.Data+ctAddressS x.Cell.Aux+1+1+1+1+1+1
def mkParcelS (fuel:Nat) (xs:List D.Parcel) (k:Int):List D.Parcel:=markL (elParcelS fuel) ecParcelS xs k
def ctParcelS (xs:List D.Parcel):Nat:=sumL ecParcelS xs
theorem zdr {fuel:Nat}{xs:List D.Parcel}{k:Int}(hf:18446744073709551616≤fuel) (hl:szL D.Parcel.sz xs≤1048576) (h0:0≤k) (h1:k+(ctParcelS xs:Nat)≤2147483648):z5g fuel xs k=some (k+(ctParcelS xs:Nat),mkParcelS fuel xs k):=by
  unfold z5g
  rw [z7N (f:=elParcelS fuel) (c:=ecParcelS) (xs:=xs) (k:=k) (by have:=(z3v hl);omega) hf h0 h1 ?_ ?_]
  · rfl
  · intro i x ys k hi d hx hm h0 h1
    unfold ecParcelS at h1
    have hsx:=z3u hl hm
    simp only [D.Parcel.sz,D.ShardCell.sz] at hsx
    unfold z5f elParcelS ecParcelS
    rw [if_pos (decide_eq_true (show(i:Int)<xs.length by omega))]
    simp only [z9 hx,Option.bind_some]
    simp (disch:=omega) only [z48 hf (show x.Cell.Data.length≤1048576 by omega),zaO hf (show x.Cell.Aux.length≤1048576 by omega),z7F,Option.bind_some,Int.toNat_natCast]
    all_goals (refine congrArg some (congrArg Rd.next (Prod.ext ?_ ?_));rotate_left;first | rfl | (dsimp only;simp only [Int.natCast_add,Int.natCast_one,Int.ofNat_one,← Int.add_assoc]))
    all_goals (dsimp only;simp only [Int.natCast_add,Int.natCast_one,Int.ofNat_one];try omega)
  · intro k ys;unfold z5f;rw [if_neg (by simp)]

theorem zhh {xs:List D.Parcel}:ctParcelS xs≤64*(szL D.Parcel.sz xs):=by
  have h:=z9W (c:=ecParcelS) (g:=D.Parcel.sz) (m:=64) (xs:=xs) fun x _=>by
    unfold ecParcelS
    simp only [D.Parcel.sz,D.ShardCell.sz]
    have:=z8e (xs:=x.Cell.Data)
    have:=zcN (xs:=x.Cell.Aux)
    omega
  exact h

def elParcelSS (fuel:Nat) (x:(List D.Parcel)) (k:Int):(List D.Parcel):=(mkParcelS fuel x (k))
def ecParcelSS (x:(List D.Parcel)):Nat:=ctParcelS x
def mkParcelSS (fuel:Nat) (xs:List (List D.Parcel)) (k:Int):List (List D.Parcel):=markL (elParcelSS fuel) ecParcelSS xs k
def ctParcelSS (xs:List (List D.Parcel)):Nat:=sumL ecParcelSS xs
theorem zaN {fuel:Nat}{xs:List (List D.Parcel)}{k:Int}(hf:18446744073709551616≤fuel) (hl:szL (fun x=>szL D.Parcel.sz x) xs≤1048576) (h0:0≤k) (h1:k+(ctParcelSS xs:Nat)≤2147483648):z4r fuel xs k=some (k+(ctParcelSS xs:Nat),mkParcelSS fuel xs k):=by
  unfold z4r
  rw [z7N (f:=elParcelSS fuel) (c:=ecParcelSS) (xs:=xs) (k:=k) (by have:=(z3v hl);omega) hf h0 h1 ?_ ?_]
  · rfl
  · intro i x ys k hi d hx hm h0 h1
    unfold ecParcelSS at h1
    have hsx:=z3u hl hm
    unfold z4C elParcelSS ecParcelSS
    rw [if_pos (decide_eq_true (show(i:Int)<xs.length by omega))]
    simp only [z9 hx,Option.bind_some]
    simp (disch:=omega) only [zdr hf (show szL D.Parcel.sz x≤1048576 by omega),z7F,Option.bind_some,Int.toNat_natCast]
    all_goals (refine congrArg some (congrArg Rd.next (Prod.ext ?_ ?_));rotate_left;first | rfl | (dsimp only;simp only [Int.natCast_add,Int.natCast_one,Int.ofNat_one,← Int.add_assoc]))
    all_goals (dsimp only;simp only [Int.natCast_add,Int.natCast_one,Int.ofNat_one];try omega)
  · intro k ys;unfold z4C;rw [if_neg (by simp)]

theorem zcM {xs:List (List D.Parcel)}:ctParcelSS xs≤64*(szL (fun x=>szL D.Parcel.sz x) xs):=by
  have h:=z9W (c:=ecParcelSS) (g:=(fun x=>szL D.Parcel.sz x)) (m:=64) (xs:=xs) fun x _=>by
    unfold ecParcelSS
    have:=zhh (xs:=x)
    omega
  exact h

def zaU (fuel:Nat) (x:(List Int)) (k:Int):(List Int):=(z71 fuel x (k))
def z82 (x:(List Int)):Nat:=z2b x
def z8r (fuel:Nat) (xs:List (List Int)) (k:Int):List (List Int):=markL (zaU fuel) z82 xs k
def z6S (xs:List (List Int)):Nat:=sumL z82 xs
theorem zbd {fuel:Nat}{xs:List (List Int)}{k:Int}(hf:18446744073709551616≤fuel) (hl:szL (fun x=>x.length) xs≤1048576) (h0:0≤k) (h1:k+(z6S xs:Nat)≤2147483648):z5i fuel xs k=some (k+(z6S xs:Nat),z8r fuel xs k):=by
  unfold z5i
  rw [z7N (f:=zaU fuel) (c:=z82) (xs:=xs) (k:=k) (by have:=(z3v hl);omega) hf h0 h1 ?_ ?_]
  · rfl
  · intro i x ys k hi d hx hm h0 h1
    unfold z82 at h1
    have hsx:=z3u hl hm
    unfold z5h zaU z82
    rw [if_pos (decide_eq_true (show(i:Int)<xs.length by omega))]
    simp only [z9 hx,Option.bind_some]
    simp (disch:=omega) only [z48 hf (show x.length≤1048576 by omega),z7F,Option.bind_some,Int.toNat_natCast]
    all_goals (refine congrArg some (congrArg Rd.next (Prod.ext ?_ ?_));rotate_left;first | rfl | (dsimp only;simp only [Int.natCast_add,Int.natCast_one,Int.ofNat_one,← Int.add_assoc]))
    all_goals (dsimp only;simp only [Int.natCast_add,Int.natCast_one,Int.ofNat_one];try omega)
  · intro k ys;unfold z5h;rw [if_neg (by simp)]

theorem zdf {xs:List (List Int)}:z6S xs≤64*(szL (fun x=>x.length) xs):=by
  have h:=z9W (c:=z82) (g:=(fun x=>x.length)) (m:=64) (xs:=xs) fun x _=>by
    unfold z82
    have:=z8e (xs:=x)
    omega
  exact h

def elShardCellS (fuel:Nat) (x:D.ShardCell) (k:Int):D.ShardCell:=(⟨k,k+1,k+1+1,(z71 fuel x.Data (k+1+1+1)),(mkAddressS fuel x.Aux (k+1+1+1+((z2b x.Data:Nat):Int)))⟩:D.ShardCell)
def ecShardCellS (x:D.ShardCell):Nat:=1+1+1+z2b x.Data+ctAddressS x.Aux
def mkShardCellS (fuel:Nat) (xs:List D.ShardCell) (k:Int):List D.ShardCell:=markL (elShardCellS fuel) ecShardCellS xs k
def ctShardCellS (xs:List D.ShardCell):Nat:=sumL ecShardCellS xs
theorem zcb {fuel:Nat}{xs:List D.ShardCell}{k:Int}(hf:18446744073709551616≤fuel) (hl:szL D.ShardCell.sz xs≤1048576) (h0:0≤k) (h1:k+(ctShardCellS xs:Nat)≤2147483648):z33 fuel xs k=some (k+(ctShardCellS xs:Nat),mkShardCellS fuel xs k):=by
  unfold z33
  rw [z7N (f:=elShardCellS fuel) (c:=ecShardCellS) (xs:=xs) (k:=k) (by have:=(z3v hl);omega) hf h0 h1 ?_ ?_]
  · rfl
  · intro i x ys k hi d hx hm h0 h1
    unfold ecShardCellS at h1
    have hsx:=z3u hl hm
    unfold D.ShardCell.sz at hsx
    unfold z3p elShardCellS ecShardCellS
    rw [if_pos (decide_eq_true (show(i:Int)<xs.length by omega))]
    simp only [z9 hx,Option.bind_some]
    simp (disch:=omega) only [z48 hf (show x.Data.length≤1048576 by omega),zaO hf (show x.Aux.length≤1048576 by omega),z7F,Option.bind_some,Int.toNat_natCast]
    all_goals (refine congrArg some (congrArg Rd.next (Prod.ext ?_ ?_));rotate_left;first | rfl | (dsimp only;simp only [Int.natCast_add,Int.natCast_one,Int.ofNat_one,← Int.add_assoc]))
    all_goals (dsimp only;simp only [Int.natCast_add,Int.natCast_one,Int.ofNat_one];try omega)
  · intro k ys;unfold z3p;rw [if_neg (by simp)]

theorem zeF {xs:List D.ShardCell}:ctShardCellS xs≤64*(szL D.ShardCell.sz xs):=by
  have h:=z9W (c:=ecShardCellS) (g:=D.ShardCell.sz) (m:=64) (xs:=xs) fun x _=>by
    unfold ecShardCellS
    unfold D.ShardCell.sz
    have:=z8e (xs:=x.Data)
    have:=zcN (xs:=x.Aux)
    omega
  exact h

def elShardVarS (fuel:Nat) (x:D.ShardVar) (k:Int):D.ShardVar:=(⟨((k).tmod 3 == 0),((k+1).tmod 3 == 0),(⟨k+1+1,k+1+1+1,k+1+1+1+1⟩:D.Address)⟩:D.ShardVar)
def ecShardVarS (x:D.ShardVar):Nat:=1+1+1+1+1
def mkShardVarS (fuel:Nat) (xs:List D.ShardVar) (k:Int):List D.ShardVar:=markL (elShardVarS fuel) ecShardVarS xs k
def ctShardVarS (xs:List D.ShardVar):Nat:=sumL ecShardVarS xs
theorem zcy {fuel:Nat}{xs:List D.ShardVar}{k:Int}(hf:18446744073709551616≤fuel) (hl:xs.length≤1048576) (h0:0≤k) (h1:k+(ctShardVarS xs:Nat)≤2147483648):z3F fuel xs k=some (k+(ctShardVarS xs:Nat),mkShardVarS fuel xs k):=by
  unfold z3F
  rw [z7N (f:=elShardVarS fuel) (c:=ecShardVarS) (xs:=xs) (k:=k) (by have:=hl;omega) hf h0 h1 ?_ ?_]
  · rfl
  · intro i x ys k hi d hx hm h0 h1
    unfold ecShardVarS at h1
    unfold z3X elShardVarS ecShardVarS
    rw [if_pos (decide_eq_true (show(i:Int)<xs.length by omega))]
    simp only [z9 hx,Option.bind_some]
    simp (disch:=omega) only [z7F,Option.bind_some,Int.toNat_natCast]
    all_goals (refine congrArg some (congrArg Rd.next (Prod.ext ?_ ?_));rotate_left;first | rfl | (dsimp only;simp only [Int.natCast_add,Int.natCast_one,Int.ofNat_one,← Int.add_assoc]))
    all_goals (dsimp only;simp only [Int.natCast_add,Int.natCast_one,Int.ofNat_one];try omega)
  · intro k ys;unfold z3X;rw [if_neg (by simp)]

theorem zf6 {xs:List D.ShardVar}:ctShardVarS xs≤64*(xs.length):=by
  have h:=z9W (c:=ecShardVarS) (g:=(fun _=>0)) (m:=64) (xs:=xs) fun x _=>by
    unfold ecShardVarS
    omega
  rw [zbO (fun _=>rfl)] at h
  exact h

def elShardRedexS (fuel:Nat) (x:D.ShardRedex) (k:Int):D.ShardRedex:=(⟨(⟨k,k+1,k+1+1⟩:D.Address),(⟨k+((1+1+1:Nat):Int),k+((1+1+1:Nat):Int)+1,k+((1+1+1:Nat):Int)+1+1⟩:D.Address)⟩:D.ShardRedex)
def ecShardRedexS (x:D.ShardRedex):Nat:=1+1+1+1+1+1
def mkShardRedexS (fuel:Nat) (xs:List D.ShardRedex) (k:Int):List D.ShardRedex:=markL (elShardRedexS fuel) ecShardRedexS xs k
def ctShardRedexS (xs:List D.ShardRedex):Nat:=sumL ecShardRedexS xs
theorem zbX {fuel:Nat}{xs:List D.ShardRedex}{k:Int}(hf:18446744073709551616≤fuel) (hl:xs.length≤1048576) (h0:0≤k) (h1:k+(ctShardRedexS xs:Nat)≤2147483648):z2B fuel xs k=some (k+(ctShardRedexS xs:Nat),mkShardRedexS fuel xs k):=by
  unfold z2B
  rw [z7N (f:=elShardRedexS fuel) (c:=ecShardRedexS) (xs:=xs) (k:=k) (by have:=hl;omega) hf h0 h1 ?_ ?_]
  · rfl
  · intro i x ys k hi d hx hm h0 h1
    unfold ecShardRedexS at h1
    unfold z2T elShardRedexS ecShardRedexS
    rw [if_pos (decide_eq_true (show(i:Int)<xs.length by omega))]
    simp only [z9 hx,Option.bind_some]
    simp (disch:=omega) only [z7F,Option.bind_some,Int.toNat_natCast]
    all_goals (refine congrArg some (congrArg Rd.next (Prod.ext ?_ ?_));rotate_left;first | rfl | (dsimp only;simp only [Int.natCast_add,Int.natCast_one,Int.ofNat_one,← Int.add_assoc]))
    all_goals (dsimp only;simp only [Int.natCast_add,Int.natCast_one,Int.ofNat_one];try omega)
  · intro k ys;unfold z2T;rw [if_neg (by simp)]

theorem zdz {xs:List D.ShardRedex}:ctShardRedexS xs≤64*(xs.length):=by
  have h:=z9W (c:=ecShardRedexS) (g:=(fun _=>0)) (m:=64) (xs:=xs) fun x _=>by
    unfold ecShardRedexS
    omega
  rw [zbO (fun _=>rfl)] at h
  exact h

def elShardS (fuel:Nat) (x:D.Shard) (k:Int):D.Shard:=(⟨(mkShardCellS fuel x.Cells (k)),(mkShardVarS fuel x.Vars (k+((ctShardCellS x.Cells:Nat):Int))),(mkShardRedexS fuel x.Redexes (k+((ctShardCellS x.Cells:Nat):Int)+((ctShardVarS x.Vars:Nat):Int)))⟩:D.Shard)
def ecShardS (x:D.Shard):Nat:=ctShardCellS x.Cells+ctShardVarS x.Vars+ctShardRedexS x.Redexes
def mkShardS (fuel:Nat) (xs:List D.Shard) (k:Int):List D.Shard:=markL (elShardS fuel) ecShardS xs k
def ctShardS (xs:List D.Shard):Nat:=sumL ecShardS xs
theorem zbs {fuel:Nat}{xs:List D.Shard}{k:Int}(hf:18446744073709551616≤fuel) (hl:szL D.Shard.sz xs≤1048576) (h0:0≤k) (h1:k+(ctShardS xs:Nat)≤2147483648):z69 fuel xs k=some (k+(ctShardS xs:Nat),mkShardS fuel xs k):=by
  unfold z69
  rw [z7N (f:=elShardS fuel) (c:=ecShardS) (xs:=xs) (k:=k) (by have:=(z3v hl);omega) hf h0 h1 ?_ ?_]
  · rfl
  · intro i x ys k hi d hx hm h0 h1
    unfold ecShardS at h1
    have hsx:=z3u hl hm
    unfold D.Shard.sz at hsx
    unfold z5G elShardS ecShardS
    rw [if_pos (decide_eq_true (show(i:Int)<xs.length by omega))]
    simp only [z9 hx,Option.bind_some]
    simp (disch:=omega) only [zcb hf (show szL D.ShardCell.sz x.Cells≤1048576 by omega),zcy hf (show x.Vars.length≤1048576 by omega),zbX hf (show x.Redexes.length≤1048576 by omega),z7F,Option.bind_some,Int.toNat_natCast]
    all_goals (refine congrArg some (congrArg Rd.next (Prod.ext ?_ ?_));rotate_left;first | rfl | (dsimp only;simp only [Int.natCast_add,Int.natCast_one,Int.ofNat_one,← Int.add_assoc]))
    all_goals (dsimp only;simp only [Int.natCast_add,Int.natCast_one,Int.ofNat_one];try omega)
  · intro k ys;unfold z5G;rw [if_neg (by simp)]

theorem zeE {xs:List D.Shard}:ctShardS xs≤64*(szL D.Shard.sz xs):=by
  have h:=z9W (c:=ecShardS) (g:=D.Shard.sz) (m:=64) (xs:=xs) fun x _=>by
    unfold ecShardS
    unfold D.Shard.sz
    have:=zeF (xs:=x.Cells)
    have:=zf6 (xs:=x.Vars)
    have:=zdz (xs:=x.Redexes)
    omega
  exact h

def mkCluster (fuel:Nat) (x:D.Cluster) (k:Int):D.Cluster:=(⟨(⟨mkShardS fuel x.Grid.Shards (k),(⟨x.Grid.Root.Machine,x.Grid.Root.Kind,x.Grid.Root.Index⟩:D.Address)⟩:D.Grid),mkParcelSS fuel x.Channels (k+((ctShardS x.Grid.Shards:Nat):Int)),z8r fuel x.Counts (k+((ctShardS x.Grid.Shards:Nat):Int)+((ctParcelSS x.Channels:Nat):Int)),z71 fuel x.Sent (k+((ctShardS x.Grid.Shards:Nat):Int)+((ctParcelSS x.Channels:Nat):Int)+((z6S x.Counts:Nat):Int)),z71 fuel x.Got (k+((ctShardS x.Grid.Shards:Nat):Int)+((ctParcelSS x.Channels:Nat):Int)+((z6S x.Counts:Nat):Int)+((z2b x.Sent:Nat):Int))⟩:D.Cluster)
def ctCluster (x:D.Cluster):Nat:=ctShardS x.Grid.Shards+ctParcelSS x.Channels+z6S x.Counts+z2b x.Sent+z2b x.Got
theorem zds {fuel:Nat}{x:D.Cluster}{k:Int}(hf:18446744073709551616≤fuel) (hs:x.sz≤1048576) (h0:0≤k) (h1:k+(ctCluster x:Nat)≤2147483648):z2o fuel x k=some (k+(ctCluster x:Nat),(mkCluster fuel x k).Grid.Shards,(mkCluster fuel x k).Channels,(mkCluster fuel x k).Counts,(mkCluster fuel x k).Sent,(mkCluster fuel x k).Got):=by
  unfold ctCluster at h1 ⊢
  simp only [D.Cluster.sz,D.Grid.sz] at hs
  unfold z2o mkCluster
  simp (disch:=omega) only [zbs hf (show szL D.Shard.sz x.Grid.Shards≤1048576 by omega),zaN hf (show szL (fun x=>szL D.Parcel.sz x) x.Channels≤1048576 by omega),zbd hf (show szL (fun x=>x.length) x.Counts≤1048576 by omega),z48 hf (show x.Sent.length≤1048576 by omega),z48 hf (show x.Got.length≤1048576 by omega),Option.bind_some,z7j]
  all_goals try simp only [Int.natCast_add,Int.add_assoc]

theorem zhi {x:D.Cluster}:ctCluster x≤64*x.sz:=by
  unfold ctCluster
  simp only [D.Cluster.sz,D.Grid.sz]
  have:=zeE (xs:=x.Grid.Shards)
  have:=zcM (xs:=x.Channels)
  have:=zdf (xs:=x.Counts)
  have:=z8e (xs:=x.Sent)
  have:=z8e (xs:=x.Got)
  omega

end Go.E


