/- Models of functions and proofs that the code runs as they say (written by program). Conditions: the model gives a value. -/
import Derived.Test.YtfndicpnccabkaaGreatFZ
import Derived.Test.YtfndicpnccabkaaGreatMixed
namespace Go.E
open Go.RowKit Go.Proofs
set_option linter.unusedVariables false
set_option linter.unusedSimpArgs false
set_option maxHeartbeats 2000000
set_option maxRecDepth 100000

theorem zmg:Enters Tryz.prog 110:=⟨_,_,Tryz.func110,rfl,by kernel_rfl⟩
def z8R (fuel:Nat) (t2:Int):Option Int:=some t2
def z3N (fuel:Nat) (x0:(List D.Port)) (s1:Int × Int):Option (Rd (Int × Int) (Int) (Int)):=(if(decide (s1.2<(x0.length:Int)))=true then((idx x0 s1.2).bind fun o=>(if(o.Agent != s1.1)=true then some (.ret (-1)) else((idx x0 s1.2).bind fun q=>(if(q.Slot != (w64 (s1.1+1)))=true then some (.ret (-1)) else some (.next (w64 ((w64 (s1.1+1))+1),w64 (s1.2+1))))))) else some (.brk s1.1))
def z5G (fuel:Nat) (x0:(List D.Port)) (x1:Int):Option (Int):=((iter (z3N fuel x0) fuel (x1,0)).bind fun o=>aft o (z8R fuel))

theorem laws_heldPortS_ok {W:Base}{w:World}(hE:Ext W w){H:Option Addr}{g0:Nat}{x0:(List D.Port)}{x1:Int}(i0:zq.ro W [sl H x0 g0] x0){fuel:Nat}{r:Int}(hm:z5G fuel x0 x1=some r):
  Calls Tryz.prog 110 ⟨[sl H x0 g0,.int .i64 x1]⟩ w (Ret fun v w8=>v=.int .i64 r∧St w w8 []):=by
 refine into Tryz.func110 31 _ ?_;unfold z5G at hm;have hS:=St.start w;refine sq<|rg<|rr 1 ?_;refine rn<|sq<|sq<|rg<|rr 1 ?_;refine rn ?_;obtain⟨r0,Z,hm⟩:=bS hm;refine ct (fun(t2:Int) F w9=>r0=.inl t2∧Ext w w9∧St w w9 []∧F=[(1,.int .i64 t2)]) ?_ ?_
 ·rintro t2 F w7 ⟨a0,t0,O,rfl⟩;subst a0;rw [z6] at hm;unfold z8R at hm;refine sq<|rg<|rr 2 ?_;refine rn<|rt ?_;cases hm;exact⟨_,.cons (.tmp rfl) .nil,rfl,O⟩
 ·refine bk<|wk [0,1,5] ?_;refine it (fun(s1:Int × Int) F w9=>Ext w w9∧St w w9 []∧F=[(0,sl H x0 g0),(1,.int .i64 s1.1),(5,.int .i64 s1.2)]) Z ⟨(Ext.refl _),hS,rfl⟩ ?_;rintro s1 F A0 _ u0 ⟨j0,q,rfl⟩ o G;unfold z3N at o;refine sq<|sq<|rg<|rr 4 ?_;refine rn<|ci o (fun o=>?_) (fun o=>?_)
  ·refine sp<|sq<|bk<|sq<|sq<|rg<|rr 2 ?_;obtain⟨B0,e0,o⟩:=bS o;refine ix (hE.trans q.ext) i0 e0 (fun v0 p0 X b0=>?_);have k0:=z2n b0;subst k0;refine rr 1 ?_;refine l1 (At.ext (hE.trans q.ext) X) 0 ?_;refine rr 2 ?_;refine rn<|ci o (fun o=>?_) (fun o=>?_)
   ·refine sq<|rg<|rr 1 ?_;refine rn<|rt ?_;cases o;cases G;have hm:some _=some _:=hm;cases hm;exact⟨_,.cons (.tmp rfl) .nil,rfl,q⟩
   ·refine sp<|sq<|rg<|rr 3 ?_;refine rn<|sq<|sq<|rg<|rr 2 ?_;obtain⟨C0,f0,o⟩:=bS o;refine ix (hE.trans q.ext) i0 f0 (fun y0 q0 Y c0=>?_);have o0:=z2n c0;subst o0;refine rr 1 ?_;refine l1 (At.ext (hE.trans q.ext) Y) 1 ?_;refine rr 2 ?_;refine rn<|ci o (fun o=>?_) (fun o=>?_)
    ·refine sq<|rg<|rr 1 ?_;refine rn<|rt ?_;cases o;cases G;have hm:some _=some _:=hm;cases hm;exact⟨_,.cons (.tmp rfl) .nil,rfl,q⟩
    ·refine sp<|rg<|rr 3 ?_;refine rn<|rg<|rr 3 ?_;refine rn ?_;cases o;exact⟨_,_,rfl,⟨j0,q,rfl⟩,rfl⟩
  ·refine xt ?_;cases o;exact⟨_,_,⟨G,j0,q,rfl⟩,rfl⟩

theorem znL:Enters Tryz.prog 49:=⟨_,_,Tryz.func49,rfl,by kernel_rfl⟩
def z8u (fuel:Nat) (t2:Int):Option Int:=some t2
def z37 (fuel:Nat) (x0:(List D.Agent)) (s1:Int × Int):Option (Rd (Int × Int) (Int) (Int)):=(if(decide (s1.2<(x0.length:Int)))=true then((idx x0 s1.2).bind fun G=>(if(G.Kind != s1.1)=true then some (.ret (-1)) else((idx x0 s1.2).bind fun H=>(if(H.Level != (w64 (s1.1+1)))=true then some (.ret (-1)) else((idx x0 s1.2).bind fun O=>(if(O.Value != (w64 ((w64 (s1.1+1))+1)))=true then some (.ret (-1)) else((idx x0 s1.2).bind fun X=>((z5e fuel X.Data (w64 ((w64 ((w64 (s1.1+1))+1))+1))).bind fun o=>(if(decide (o<0))=true then some (.ret (-1)) else((idx x0 s1.2).bind fun Y=>((z5G fuel Y.Ports o).bind fun q=>(if(decide (q<0))=true then some (.ret (-1)) else some (.next (q,w64 (s1.2+1))))))))))))))) else some (.brk s1.1))
def z5f (fuel:Nat) (x0:(List D.Agent)) (x1:Int):Option (Int):=((iter (z37 fuel x0) fuel (x1,0)).bind fun o=>aft o (z8u fuel))

theorem laws_heldAgentS_ok {W:Base}{w:World}(hE:Ext W w){a0:Option Addr}{G0:Nat}{x0:(List D.Agent)}{x1:Int}(O:ty28.ro W [sl a0 x0 G0] x0){fuel:Nat}{r:Int}(hm:z5f fuel x0 x1=some r):
  Calls Tryz.prog 49 ⟨[sl a0 x0 G0,.int .i64 x1]⟩ w (Ret fun v w8=>v=.int .i64 r∧St w w8 []):=by
 refine into Tryz.func49 58 _ ?_;unfold z5f at hm;have hS:=St.start w;refine sq<|rg<|rr 1 ?_;refine rn<|sq<|sq<|rg<|rr 1 ?_;refine rn ?_;obtain⟨V0,o0,hm⟩:=bS hm;refine ct (fun(t2:Int) F w9=>V0=.inl t2∧Ext w w9∧St w w9 []∧F=[(1,.int .i64 t2)]) ?_ ?_
 ·rintro t2 F w7 ⟨p0,B1,e0,rfl⟩;subst p0;rw [z6] at hm;unfold z8u at hm;refine sq<|rg<|rr 2 ?_;refine rn<|rt ?_;cases hm;exact⟨_,.cons (.tmp rfl) .nil,rfl,e0⟩
 ·refine bk<|wk [0,1,5] ?_;refine it (fun(s1:Int × Int) F w9=>Ext w w9∧St w w9 []∧F=[(0,sl a0 x0 G0),(1,.int .i64 s1.1),(5,.int .i64 s1.2)]) o0 ⟨(Ext.refl _),hS,rfl⟩ ?_;rintro s1 F X1 _ N1 ⟨H0,q,rfl⟩ o G;unfold z37 at o;refine sq<|sq<|rg<|rr 4 ?_;refine rn<|ci o (fun o=>?_) (fun o=>?_)
  ·refine sp<|sq<|bk<|sq<|sq<|rg<|rr 2 ?_;obtain⟨b2,y0,o⟩:=bS o;refine ix (hE.trans q.ext) O y0 (fun O1 O0 f0 q0=>?_);obtain⟨X0,C1,Y0,D1,J0,m1,n1⟩:=zU q0;subst J0;refine rr 1 ?_;refine l1 (At.ext (hE.trans q.ext) f0) 0 ?_;refine rr 2 ?_;refine rn<|ci o (fun o=>?_) (fun o=>?_)
   ·refine sq<|rg<|rr 1 ?_;refine rn<|rt ?_;cases o;cases G;have hm:some _=some _:=hm;cases hm;exact⟨_,.cons (.tmp rfl) .nil,rfl,q⟩
   ·refine sp<|sq<|rg<|rr 3 ?_;refine rn<|sq<|sq<|rg<|rr 2 ?_;obtain⟨d2,A0,o⟩:=bS o;refine ix (hE.trans q.ext) O A0 (fun P1 P0 g0 r0=>?_);obtain⟨a1,E1,b1,F1,K0,p1,t1⟩:=zU r0;subst K0;refine rr 1 ?_;refine l1 (At.ext (hE.trans q.ext) g0) 1 ?_;refine rr 2 ?_;refine rn<|ci o (fun o=>?_) (fun o=>?_)
    ·refine sq<|rg<|rr 1 ?_;refine rn<|rt ?_;cases o;cases G;have hm:some _=some _:=hm;cases hm;exact⟨_,.cons (.tmp rfl) .nil,rfl,q⟩
    ·refine sp<|sq<|rg<|rr 3 ?_;refine rn<|sq<|sq<|rg<|rr 2 ?_;obtain⟨e2,B0,o⟩:=bS o;refine ix (hE.trans q.ext) O B0 (fun Q1 Q0 i0 t0=>?_);obtain⟨d1,G1,e1,H1,L0,u1,v1⟩:=zU t0;subst L0;refine rr 1 ?_;refine l1 (At.ext (hE.trans q.ext) i0) 2 ?_;refine rr 2 ?_;refine rn<|ci o (fun o=>?_) (fun o=>?_)
     ·refine sq<|rg<|rr 1 ?_;refine rn<|rt ?_;cases o;cases G;have hm:some _=some _:=hm;cases hm;exact⟨_,.cons (.tmp rfl) .nil,rfl,q⟩
     ·refine sp<|sq<|rg<|rr 3 ?_;refine rn<|sq<|rg<|rr 2 ?_;obtain⟨f2,C0,o⟩:=bS o;refine ix (hE.trans q.ext) O C0 (fun R1 R0 j0 u0=>?_);obtain⟨f1,J1,g1,K1,M0,T0,y1⟩:=zU u0;subst M0;refine rr 1 ?_;refine l1 (At.ext (hE.trans q.ext) j0) 3 ?_;refine rr 1 ?_;obtain⟨T1,D0,o⟩:=bS o;refine ca znG (laws_heldInt64S_ok (hE.trans q.ext) T0 D0) (fun V1 Y1 b0=>?_);obtain⟨rfl,X⟩:=b0;have H:=q.join X;refine rr 1 ?_;refine rn<|sq<|sq<|rg<|rr 2 ?_;refine rn<|ci o (fun o=>?_) (fun o=>?_)
      ·refine sq<|rg<|rr 1 ?_;refine rn<|rt ?_;cases o;cases G;have hm:some _=some _:=hm;cases hm;exact⟨_,.cons (.tmp rfl) .nil,rfl,H⟩
      ·refine sp<|sq<|rg<|rr 2 ?_;obtain⟨g2,E0,o⟩:=bS o;refine ix (hE.trans H.ext) O E0 (fun S1 S0 k0 v0=>?_);obtain⟨i1,L1,j1,M1,N0,A1,U0⟩:=zU v0;subst N0;refine rr 1 ?_;refine l1 (At.ext (hE.trans H.ext) k0) 4 ?_;refine rr 1 ?_;obtain⟨U1,F0,o⟩:=bS o;refine ca zmg (laws_heldPortS_ok (hE.trans H.ext) U0 F0) (fun W1 a2 c0=>?_);obtain⟨rfl,Y⟩:=c0;have Z:=H.join Y;refine rr 1 ?_;refine rn<|sq<|rg<|rr 2 ?_;refine rn<|ci o (fun o=>?_) (fun o=>?_)
       ·refine sq<|rg<|rr 1 ?_;refine rn<|rt ?_;cases o;cases G;have hm:some _=some _:=hm;cases hm;exact⟨_,.cons (.tmp rfl) .nil,rfl,Z⟩
       ·refine sp<|rg<|rr 3 ?_;refine rn ?_;cases o;exact⟨_,_,rfl,⟨((H0.trans X.ext).trans Y.ext),Z,rfl⟩,rfl⟩
  ·refine xt ?_;cases o;exact⟨_,_,⟨G,H0,q,rfl⟩,rfl⟩

theorem zhQ:Enters Tryz.prog 15:=⟨_,_,Tryz.func15,rfl,by kernel_rfl⟩
def z5O (fuel:Nat) (x0:D.Net) (x1:Int):Option (Int):=((z5f fuel x0.Agents x1).bind fun o=>(if(decide (o<0))=true then some (-1) else some o))

theorem laws_heldNet_ok {W:Base}{w:World}(hE:Ext W w){X:List Value}{x0:D.Net}{x1:Int}(Y:ty30.ro W X x0){fuel:Nat}{r:Int}(hm:z5O fuel x0 x1=some r):
  Calls Tryz.prog 15 ⟨[.agg ⟨X⟩,.int .i64 x1]⟩ w (Ret fun v w8=>v=.int .i64 r∧St w w8 []):=by
 obtain⟨A1,k2,e4,h3⟩:=z2Y Y;subst e4;refine into Tryz.func15 12 _ ?_;unfold z5O at hm;have hS:=St.start w;refine sq<|rg<|nw hS (fun g5 w6 e7 o=>?_);refine rr 1 ?_;refine rn<|sq<|rg<|rr 1 ?_;refine l1 ((o.bring 0 rfl).box) 0 ?_;refine rr 1 ?_;obtain⟨Z,O,hm⟩:=bS hm;refine ca znL (laws_heldAgentS_ok (hE.trans o.ext) h3 O) (fun a0 b0 G=>?_);obtain⟨rfl,H⟩:=G;have q:=o.join H;refine rr 1 ?_;refine rn<|sq<|sq<|rg<|rr 2 ?_;refine rn<|ci hm (fun hm=>?_) (fun hm=>?_)
 ·refine sq<|rg<|rr 1 ?_;refine rn<|rt ?_;cases hm;exact⟨_,.cons (.tmp rfl) .nil,rfl,(q.taken 0)⟩
 ·refine sp<|sq<|rg<|rr 2 ?_;refine rn<|rt ?_;cases hm;exact⟨_,.cons (.tmp rfl) .nil,rfl,(q.taken 0)⟩

def z12 (fuel:Nat) (o:Int × (List D.Agent)) (G:Bool):Option Bool:=(if G=true then some false else((z5O fuel (⟨o.2⟩:D.Net) 1).bind fun q=>(if(decide (q<0))=true then some false else(if(q != o.1)=true then some false else some true))))
def zC (fuel:Nat) (x0:D.Grid) (Y:D.Net × Int) (Z:D.Net × Int) (X:Bool):Option Bool:=(if X=true then some false else((z6Q fuel Z.1 1).bind fun o=>((z5O fuel (⟨o.2⟩:D.Net) 1).bind fun q=>(if(decide (q<0))=true then some false else(if(q != o.1)=true then some false else((z4r fuel x0).bind fun H=>((z2r fuel H).bind fun G=>((z6s fuel G.1 Y.1).bind fun O=>(if(!O)=true then z12 fuel o true else z12 fuel o (G.2 != Y.2))))))))))
def z13 (fuel:Nat) (x0:D.Grid) (o:D.Net × Int) (H:D.Grid) (q:D.Net × Int) (Z:Bool):Option Bool:=(if Z=true then some false else((z4r fuel x0).bind fun O=>((z7E fuel H O).bind fun X=>(if(!X)=true then some false else((z6q fuel H 1).bind fun Y=>(if(decide (Y.1<0))=true then zC fuel x0 o q true else((z6s fuel q.1 o.1).bind fun G=>(if(!G)=true then zC fuel x0 o q true else zC fuel x0 o q (q.2 != o.2)))))))))
def z2c (fuel:Nat) (x0:D.Grid):Option (Bool):=((z7A fuel x0 1048576).bind fun O=>(if(decide (O<0))=true then some true else((z4r fuel x0).bind fun X=>((z3H fuel X).bind fun o=>((z4r fuel x0).bind fun H=>((z2r fuel H).bind fun q=>((z6s fuel q.1 o.1).bind fun G=>(if(!G)=true then z13 fuel x0 o H q true else z13 fuel x0 o H q (q.2 != o.2)))))))))

theorem laws_FnExactAssembleGrid_ok {W:Base}{w:World}(hE:Ext W w){s2:List Value}{x0:D.Grid}(J0:ty26.ro W s2 x0){fuel:Nat}{r:Bool}(hm:z2c fuel x0=some r):
  Calls Tryz.prog 3 ⟨[.agg ⟨s2⟩]⟩ w (Ret fun v w8=>v=.bool r∧St w w8 []):=by
 obtain⟨A1,k2,e4,h3⟩:=zcS J0;subst e4;refine into Tryz.func3 96 _ ?_;unfold z2c at hm;have hS:=St.start w;refine sq<|rg<|nw hS (fun g5 w6 e7 A0=>?_);refine rr 1 ?_;refine rn<|sq<|rg<|rr 1 ?_;refine rn<|sq<|rg<|lN ((A0.bring 0 rfl).box) ?_;refine rr 1 ?_;obtain⟨u3,d2,hm⟩:=bS hm;refine ca zou (laws_szGrid_ok (hE.trans A0.ext) J0 d2) (fun A3 H3 F1=>?_);obtain⟨rfl,G1⟩:=F1;have p0:=A0.join G1;refine rr 1 ?_;refine rn<|sq<|sq<|rg<|rr 2 ?_;refine rn<|ci hm (fun hm=>?_) (fun hm=>?_)
 ·refine sq<|rg<|rr 1 ?_;refine rn<|rt ?_;cases hm;exact⟨_,.cons (.tmp rfl) .nil,rfl,(p0.taken 0)⟩
 ·refine sp<|sq<|rg<|lN ((p0.bring 0 rfl).box) ?_;obtain⟨M2,e2,hm⟩:=bS hm;refine ca zf4 (laws_toGrid_ok (hE.trans p0.ext) J0 e2) (fun B3 J3 H1=>?_);obtain⟨n3,s3,rfl,J1⟩:=H1;have g1:=p0.join J1;obtain⟨Y,f2,hm⟩:=bS hm;refine ca zot (zaG (Ext.refl _) (z7m M2 ((g1.bring 0 rfl).own)) f2) (fun C3 K3 K1=>?_);obtain⟨C1,E1,rfl,L1⟩:=K1;have S1:=g1.join L1;refine rr 3 ?_;refine nw S1 (fun D1 L3 p3 T1=>?_);have U1:=T1.bring 0 rfl;refine so (A:=[]) U1 0 (fun M3 B0=>?_);refine rr 1 ?_;refine rn<|sq<|rg<|lN ((B0.bring 3 rfl).box) ?_;obtain⟨q0,g2,hm⟩:=bS hm;refine ca zf4 (laws_toGrid_ok (hE.trans B0.ext) J0 g2) (fun D3 N3 M1=>?_);obtain⟨r2,y2,rfl,N1⟩:=M1;have V1:=B0.join N1;refine nw V1 (fun t2 O3 q3 W1=>?_);have X1:=W1.bring 0 rfl;refine so (A:=[]) X1 0 (fun P3 C0=>?_);refine rn<|sq<|rg<|lN ((C0.bring 0 rfl).box) ?_;obtain⟨Z,i2,hm⟩:=bS hm;refine ca zhR (z8w (Ext.refl _) (z7m q0 ((C0.bring 1 rfl).own)) i2) (fun E3 Q3 O1=>?_);obtain⟨k0,o0,rfl,P1⟩:=O1;have Y1:=C0.join P1;refine rr 3 ?_;refine nw Y1 (fun H0 R3 r3 a2=>?_);have b2:=a2.bring 0 rfl;refine so (A:=[]) b2 0 (fun m3 i0=>?_);refine rr 1 ?_;refine rn<|sq<|sq<|ct (fun(o2:Bool) F w9=>z13 fuel x0 Y q0 Z o2=some r∧Ext m3 w9∧St w w9 [Box H0 [sl k0 Z.1.Agents o0] 30,ow ty28 k0 Z.1.Agents o0,Box t2 [sl r2 q0.Shards y2,.int .i64 q0.Root.Machine,.int .i64 q0.Root.Kind,.int .i64 q0.Root.Index] 36,ow ty33 r2 q0.Shards y2,Box D1 [sl C1 Y.1.Agents E1] 30,ow ty28 C1 Y.1.Agents E1,Box g5 [sl A1 x0.Shards k2,.int .i64 x0.Root.Machine,.int .i64 x0.Root.Kind,.int .i64 x0.Root.Index] 26]∧F=[(1,.pointer (some ⟨g5,0,none⟩)),(4,.pointer (some ⟨D1,0,none⟩)),(5,.int .i64 Y.2),(6,.pointer (some ⟨t2,0,none⟩)),(7,.pointer (some ⟨H0,0,none⟩)),(8,.int .i64 Z.2),(40,.bool o2)]) ?_ ?_
  ·rintro o2 F S3 ⟨hm,E2,j0,rfl⟩;unfold z13 at hm;refine ci hm (fun hm=>?_) (fun hm=>?_)
   ·refine sq<|rg<|rr 1 ?_;refine rn<|rt ?_;cases hm;exact⟨_,.cons (.tmp rfl) .nil,rfl,(j0.taken 0)⟩
   ·refine sp<|sq<|sq<|dn 0 mixed 5 [([],31),([],31),([1],29),([0,2,2],26),([3],23)] j0.ext (fun O=>?_);have i1:=j0.step (Ext.draw _);refine dL O 0 ((j0.bring 2 rfl).box) ?_;refine dL O 1 ((j0.bring 6 rfl).box) ?_;obtain⟨O2,j2,hm⟩:=bS hm;refine o1 O 2 (mc O zf4 (laws_toGrid_ok (hE.trans i1.ext) J0 j2) (fun F3 T3 Q1=>?_));obtain⟨o3,t3,rfl,Y0⟩:=Q1;refine⟨Y0.ext,?_⟩;have D0:=i1.join Y0;obtain⟨v3,m2,hm⟩:=bS hm;refine o1 O 3 (mc O zo0 (laws_eqGrid_ok (Ext.refl _) (z7m q0 ((D0.bring 4 rfl).own)) (z7m O2 ((D0.bring 0 rfl).own)) m2) (fun G3 U3 R1=>?_));obtain⟨rfl,a1⟩:=R1;refine⟨a1.ext,?_⟩;have E0:=D0.join a1;refine dr 0 O [4] ?_;refine dd O ?_;refine ci hm (fun hm=>?_) (fun hm=>?_)
    ·refine sq<|rg<|rr 1 ?_;refine rn<|rt ?_;cases hm;exact⟨_,.cons (.tmp rfl) .nil,rfl,(E0.taken 0)⟩
    ·refine sp<|sq<|rg<|rr 1 ?_;refine rn<|sq<|rg<|lN ((E0.bring 3 rfl).box) ?_;refine rr 1 ?_;obtain⟨y3,j1,hm⟩:=bS hm;refine ca znZ (laws_markGrid_ok (W:=w) (RR:=_) (x0:=q0) (x1:=1) (E0.bring 4 rfl)  j1) (fun P2 p2 K0=>?_);obtain⟨rfl,o⟩:=K0;refine rr 1 ?_;refine rn<|sq<|sq<|ct (fun(F0:Bool) F w9=>zC fuel x0 Y Z F0=some r∧Ext p2 w9∧St w w9 [Box H0 [sl k0 Z.1.Agents o0] 30,ow ty28 k0 Z.1.Agents o0,Box D1 [sl C1 Y.1.Agents E1] 30,ow ty28 C1 Y.1.Agents E1,Box g5 [sl A1 x0.Shards k2,.int .i64 x0.Root.Machine,.int .i64 x0.Root.Kind,.int .i64 x0.Root.Index] 26]∧F=[(1,.pointer (some ⟨g5,0,none⟩)),(4,.pointer (some ⟨D1,0,none⟩)),(5,.int .i64 Y.2),(7,.pointer (some ⟨H0,0,none⟩)),(61,.bool F0)]) ?_ ?_
     ·rintro F0 F Y2 ⟨hm,u2,e0,rfl⟩;unfold zC at hm;refine ci hm (fun hm=>?_) (fun hm=>?_)
      ·refine sq<|rg<|rr 1 ?_;refine rn<|rt ?_;cases hm;exact⟨_,.cons (.tmp rfl) .nil,rfl,(e0.taken 0)⟩
      ·refine sp<|sq<|rg<|rr 1 ?_;refine rn<|sq<|rg<|lN ((e0.bring 0 rfl).box) ?_;refine rr 1 ?_;obtain⟨q,m1,hm⟩:=bS hm;refine ca znY (laws_markNet_ok (W:=w) (RR:=_) (x0:=Z.1) (x1:=1) (e0.bring 1 rfl)  m1) (fun Q2 a3 L0=>?_);obtain⟨rfl,f0⟩:=L0;refine rr 1 ?_;refine rn<|sq<|rg<|rr 1 ?_;refine rn<|sq<|rg<|lN ((f0.bring 1 rfl).box) ?_;refine rr 1 ?_;have hn116:=(f0.bring 0 rfl).lenEq;have b1:=(f0.bring 0 rfl).reLen hn116;have r0:=(b1.bring 1 rfl).reBox (cs':=[.slice k0 q.2.length o0]) (by show([.slice k0 Z.1.Agents.length o0]:List Value)=[.slice k0 q.2.length o0];first | (simp only [sl,hn116];done) | (simp only [sl,hn116];rfl));refine kn (u:=.agg ⟨[.slice k0 q.2.length o0]⟩) 65 rfl (by simp only [sl,hn116]) ?_;obtain⟨H2,n1,hm⟩:=bS hm;refine ca zhQ (laws_heldNet_ok (Ext.refl _) (z6J (⟨q.2⟩:D.Net) ((r0.bring 1 rfl).own)) n1) (fun R2 b3 M0=>?_);obtain⟨rfl,N0⟩:=M0;have G:=r0.join N0;refine rr 1 ?_;refine rn<|sq<|sq<|rg<|rr 2 ?_;refine rn<|ci hm (fun hm=>?_) (fun hm=>?_)
       ·refine sq<|rg<|rr 1 ?_;refine rn<|rt ?_;cases hm;exact⟨_,.cons (.tmp rfl) .nil,rfl,(G.taken 0)⟩
       ·refine sp<|sq<|sq<|rg<|rr 3 ?_;refine rn<|ci hm (fun hm=>?_) (fun hm=>?_)
        ·refine sq<|rg<|rr 1 ?_;refine rn<|rt ?_;cases hm;exact⟨_,.cons (.tmp rfl) .nil,rfl,(G.taken 0)⟩
        ·refine sp<|sq<|rg<|lN ((G.bring 4 rfl).box) ?_;obtain⟨n2,p1,hm⟩:=bS hm;refine ca zf4 (laws_toGrid_ok (hE.trans G.ext) J0 p1) (fun S2 c3 O0=>?_);obtain⟨A2,F2,rfl,P0⟩:=O0;have t0:=G.join P0;obtain⟨B1,s1,hm⟩:=bS hm;refine ca zhR (z8w (Ext.refl _) (z7m n2 ((t0.bring 0 rfl).own)) s1) (fun T2 d3 Q0=>?_);obtain⟨B2,G2,rfl,R0⟩:=Q0;have d1:=t0.join R0;refine rr 3 ?_;refine nw d1 (fun D2 e3 C2 e1=>?_);have f1:=e1.bring 0 rfl;refine so (A:=[]) f1 0 (fun q2 H=>?_);refine rr 1 ?_;refine rn<|sq<|sq<|ct (fun(G0:Bool) F w9=>z12 fuel q G0=some r∧Ext q2 w9∧St w w9 [Box H0 [sl k0 q.2 o0] 30,ow ty28 k0 q.2 o0]∧F=[(7,.pointer (some ⟨H0,0,none⟩)),(10,.int .i64 q.1),(87,.bool G0)]) ?_ ?_
         ·rintro G0 F f3 ⟨hm,v2,X,rfl⟩;unfold z12 at hm;refine ci hm (fun hm=>?_) (fun hm=>?_)
          ·refine sq<|rg<|rr 1 ?_;refine rn<|rt ?_;cases hm;exact⟨_,.cons (.tmp rfl) .nil,rfl,(X.taken 0)⟩
          ·refine sp<|sq<|rg<|rr 1 ?_;refine rn<|sq<|rg<|lN ((X.bring 0 rfl).box) ?_;refine rr 1 ?_;obtain⟨J2,t1,hm⟩:=bS hm;refine ca zhQ (laws_heldNet_ok (Ext.refl _) (z6J (⟨q.2⟩:D.Net) ((X.bring 1 rfl).own)) t1) (fun U2 g3 S0=>?_);obtain⟨rfl,T0⟩:=S0;have g0:=X.join T0;refine rr 1 ?_;refine rn<|sq<|sq<|rg<|rr 2 ?_;refine rn<|ci hm (fun hm=>?_) (fun hm=>?_)
           ·refine sq<|rg<|rr 1 ?_;refine rn<|rt ?_;cases hm;exact⟨_,.cons (.tmp rfl) .nil,rfl,(g0.taken 0)⟩
           ·refine sp<|sq<|sq<|rg<|rr 3 ?_;refine rn<|ci hm (fun hm=>?_) (fun hm=>?_)
            ·refine sq<|rg<|rr 1 ?_;refine rn<|rt ?_;cases hm;exact⟨_,.cons (.tmp rfl) .nil,rfl,(g0.taken 0)⟩
            ·refine sp<|sq<|rg<|rr 1 ?_;refine rn<|rt ?_;cases hm;exact⟨_,.cons (.tmp rfl) .nil,rfl,(g0.taken 0)⟩
         ·refine rg<|lN ((H.bring 0 rfl).box) ?_;refine lN ((H.bring 5 rfl).box) ?_;obtain⟨K2,u1,hm⟩:=bS hm;refine ca zf7 (laws_eqNet_ok (Ext.refl _) (z6J B1.1 ((H.bring 1 rfl).own)) (z6J Y.1 ((H.bring 6 rfl).own)) u1) (fun V2 i3 U0=>?_);obtain⟨rfl,a0⟩:=U0;have u0:=H.join a0;refine rr 2 ?_;refine rb 83 hm (fun hm=>?_) (fun hm=>?_)
          ·refine rr 4 ?_;refine rn ?_;exact⟨true,_,⟨hm,a0.ext,(((u0.bring 4 rfl).bring 4 rfl).taken 2),rfl⟩,rfl⟩
          ·refine rr 4 ?_;refine rn ?_;exact⟨(B1.2 != Y.2),_,⟨hm,a0.ext,(((u0.bring 4 rfl).bring 4 rfl).taken 2),rfl⟩,rfl⟩
     ·refine rg<|rr 3 ?_;refine rb 51 hm (fun hm=>?_) (fun hm=>?_)
      ·refine rr 10 ?_;refine rn ?_;exact⟨true,_,⟨hm,(Ext.refl _),(o.sel [2,3,5,6,7]),rfl⟩,rfl⟩
      ·refine lN ((o.bring 2 rfl).box) ?_;refine lN ((o.bring 5 rfl).box) ?_;obtain⟨L2,v1,hm⟩:=bS hm;refine ca zf7 (laws_eqNet_ok (Ext.refl _) (z6J Z.1 ((o.bring 3 rfl).own)) (z6J Y.1 ((o.bring 6 rfl).own)) v1) (fun W2 j3 V0=>?_);obtain⟨rfl,b0⟩:=V0;have v0:=o.join b0;refine rr 3 ?_;refine rb 57 hm (fun hm=>?_) (fun hm=>?_)
       ·refine rr 4 ?_;refine rn ?_;exact⟨true,_,⟨hm,b0.ext,(v0.sel [2,3,5,6,7]),rfl⟩,rfl⟩
       ·refine rr 4 ?_;refine rn ?_;exact⟨(Z.2 != Y.2),_,⟨hm,b0.ext,(v0.sel [2,3,5,6,7]),rfl⟩,rfl⟩
  ·refine rg<|lN ((i0.bring 0 rfl).box) ?_;refine lN ((i0.bring 4 rfl).box) ?_;obtain⟨N2,y1,hm⟩:=bS hm;refine ca zf7 (laws_eqNet_ok (Ext.refl _) (z6J Z.1 ((i0.bring 1 rfl).own)) (z6J Y.1 ((i0.bring 5 rfl).own)) y1) (fun X2 k3 X0=>?_);obtain⟨rfl,c0⟩:=X0;have y0:=i0.join c0;refine rr 2 ?_;refine rb 36 hm (fun hm=>?_) (fun hm=>?_)
   ·refine rr 4 ?_;refine rn ?_;exact⟨true,_,⟨hm,c0.ext,(y0.sel [0,1,2,3,4,5,7]),rfl⟩,rfl⟩
   ·refine rr 4 ?_;refine rn ?_;exact⟨(Z.2 != Y.2),_,⟨hm,c0.ext,(y0.sel [0,1,2,3,4,5,7]),rfl⟩,rfl⟩

end Go.E


