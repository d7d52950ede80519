/- Models of functions and proofs that the code runs as they say (written by program). Conditions: the model gives a value. -/
import Derived.Test.YtfndicpnccabkaaGreatFA
namespace Go.E
open Go.RowKit Go.Proofs
set_option linter.unusedVariables false
set_option linter.unusedSimpArgs false
set_option maxHeartbeats 2000000
set_option maxRecDepth 100000

theorem zdS:Enters Tryz.prog 126:=⟨_,_,Tryz.func126,rfl,by kernel_rfl⟩
def z6m (fuel:Nat) (o:Unit):Option Bool:=some true
def z2m (fuel:Nat) (o:Int) (z:Bool):Option (Rd (Int) (Unit) (Bool)):=(if z=true then some (.ret false) else some (.next (w64 (o+1))))
def z3V (fuel:Nat) (x0:(List D.Agent)) (o:Int):Option (Rd (Int) (Unit) (Bool)):=(if(decide (o<(x0.length:Int)))=true then((idx x0 o).bind fun G=>((z2n fuel G).bind fun z=>(if(!z)=true then z2m fuel o true else((idx x0 o).bind fun H=>z2m fuel o (!((H.Kind == 1) == (o == 0))))))) else some (.brk ()))
def z46 (fuel:Nat) (x0:(List D.Agent)):Option (Bool):=((zo fuel (x0.length:Int) 1 600).bind fun r1=>(if(!r1)=true then some false else((iter (z3V fuel x0) fuel 0).bind fun o=>aft o (z6m fuel))))

theorem z8f {W w:World}(hE:Ext W w){Z:Option Addr}{a0:Nat}{x0:(List D.Agent)}(t0:ty28.ro W [sl Z x0 a0] x0){fuel:Nat}{r:Bool}(hm:z46 fuel x0=some r):
  Calls Tryz.prog 126 ⟨[sl Z x0 a0]⟩ w (Ret fun v w8=>v=.bool r∧St w w8 []):=by
 refine into Tryz.func126 30 _ ?_;unfold z46 at hm;have hS:=St.start w;refine sq<|rg<|rr 1 ?_;refine rn<|sq<|sq<|rg<|rr 2 ?_;obtain⟨r1,G0,hm⟩:=bS hm;refine ca z3u (zD (hE.trans hS.ext)  G0) (fun v3 w4 E0=>?_);obtain⟨rfl,F0⟩:=E0;have u0:=hS.join F0;refine rr 1 ?_;refine rn<|ci hm (fun hm=>?_) (fun hm=>?_)
 ·refine sq<|rg<|rr 1 ?_;refine rn<|rt ?_;cases hm;exact⟨_,.cons (.tmp rfl) .nil,rfl,u0⟩
 ·refine sp<|sq<|sq<|rg<|rr 1 ?_;refine rn ?_;obtain⟨H0,i0,hm⟩:=bS hm;refine ct (fun(v0:Unit) F w9=>H0=.inl v0∧Ext w4 w9∧St w w9 []∧F=[]) ?_ ?_
  ·rintro v0 F f1 ⟨j0,D0,d0,rfl⟩;subst j0;rw [z8] at hm;unfold z6m at hm;refine sq<|rg<|rr 1 ?_;refine rn<|rt ?_;cases hm;exact⟨_,.cons (.tmp rfl) .nil,rfl,d0⟩
  ·refine bk<|wk [0,3] ?_;refine it (fun(Y:Int) F w9=>Ext w4 w9∧St w w9 []∧F=[(0,sl Z x0 a0),(3,.int .i64 Y)]) i0 ⟨(Ext.refl _),u0,rfl⟩ ?_;rintro Y F K0 _ J0 ⟨L,z,rfl⟩ o O;unfold z3V at o;refine sq<|sq<|rg<|rr 4 ?_;refine rn<|ci o (fun o=>?_) (fun o=>?_)
   ·refine sp<|sq<|bk<|sq<|ct (fun(r0:Bool) F w9=>z2m fuel Y r0=some J0∧Ext K0 w9∧St w w9 []∧F=[(0,sl Z x0 a0),(3,.int .i64 Y),(29,.bool r0)]) ?_ ?_
    ·rintro r0 F g1 ⟨o,b0,M,rfl⟩;unfold z2m at o;refine ci o (fun o=>?_) (fun o=>?_)
     ·refine sq<|rg<|rr 1 ?_;refine rn<|rt ?_;cases o;cases O;have hm:some _=some _:=hm;cases hm;exact⟨_,.cons (.tmp rfl) .nil,rfl,M⟩
     ·refine sp<|rg<|rr 3 ?_;refine rn ?_;cases o;exact⟨_,_,rfl,⟨(L.trans b0),M,rfl⟩,rfl⟩
    ·refine rg<|rr 2 ?_;obtain⟨j1,o0,o⟩:=bS o;refine ix (hE.trans z.ext) t0 o0 (fun a1 B0 f0 X=>?_);obtain⟨M0,V0,N0,W0,y0,Q0,R0⟩:=zG X;subst y0;obtain⟨d1,p0,o⟩:=bS o;refine ca zdr (z8B (hE.trans z.ext) X f0 p0) (fun e1 i1 c0=>?_);obtain⟨rfl,H⟩:=c0;have G:=z.join H;refine rr 2 ?_;refine rb 19 o (fun o=>?_) (fun o=>?_)
     ·refine rr 10 ?_;refine rn ?_;exact⟨true,_,⟨o,H.ext,G,rfl⟩,rfl⟩
     ·refine rr 2 ?_;obtain⟨L0,q0,o⟩:=bS o;refine ix (hE.trans G.ext) t0 q0 (fun b1 C0 g0 k0=>?_);obtain⟨O0,X0,P0,Y0,A0,T0,U0⟩:=zG k0;subst A0;refine rr 1 ?_;refine l1 (At.ext (hE.trans G.ext) g0) 0 ?_;refine rr 5 ?_;refine rn ?_;exact⟨!((L0.Kind == 1) == (Y == 0)),_,⟨o,H.ext,G,rfl⟩,rfl⟩
   ·refine xt ?_;cases o;exact⟨_,_,⟨O,L,z,rfl⟩,rfl⟩

theorem zdR:Enters Tryz.prog 127:=⟨_,_,Tryz.func127,rfl,by kernel_rfl⟩
def z4Z (fuel:Nat) (x0:(List D.Agent)) (x1:D.Port):Option (Bool):=((zo fuel x1.Agent 0 (w64 ((x0.length:Int) - 1))).bind fun o=>(if o=true then((idx x0 x1.Agent).bind fun G=>((zo fuel x1.Slot 0 (w64 ((G.Ports.length:Int) - 1))).bind fun z=>some z)) else some false))

theorem z93 {W w:World}(hE:Ext W w){d0:Option Addr}{i0:Nat}{x0:(List D.Agent)}{f0:List Value}{x1:D.Port}(o0:ty28.ro W [sl d0 x0 i0] x0) (p0:z2M.ro W f0 x1){fuel:Nat}{r:Bool}(hm:z4Z fuel x0 x1=some r):
  Calls Tryz.prog 127 ⟨[sl d0 x0 i0,.agg ⟨f0⟩]⟩ w (Ret fun v w8=>v=.bool r∧St w w8 []):=by
 have e1:=zn p0;subst e1;refine into Tryz.func127 24 _ ?_;unfold z4Z at hm;have hS:=St.start w;refine sq<|rg<|nw hS (fun g2 w3 e4 G=>?_);refine rr 1 ?_;refine rn<|sq<|dn 0 mixed 20 [([],1048575),([0],1048574),([],1048575),([2],1048571),([3],1048567),([1,4],1048557),([5,5],1048543),([6],1048511),([7,6],1048383),([6],1048511),([6],1048511),([10,6],1047487),([9,11,6],1045951),([12,6],1044415),([13,6],1040319),([14,6],1032127),([15,6],1015743),([8,16,6,6],982719),([6,17],917439),([18,17,0,1,2,3,4,5,6,7,8,9,10,11,12,13,14,15,16,17,18],786431)] G.ext (fun o=>?_);have g0:=G.step (Ext.draw _);refine dr 16 o [0,2,3,4] ?_;refine dl o 1 ((G.bring 0 rfl).box) 0 ?_;obtain⟨B0,a0,hm⟩:=bS hm;refine o1 o 5 (mc o z3u (zD (hE.trans g0.ext)  a0) (fun D0 F0 M=>?_));obtain⟨rfl,H⟩:=M;refine⟨H.ext,?_⟩;have z:=g0.join H;refine dr 13 o [6] ?_;refine dw [0,3,4,11] ?_;refine db 11 hm (fun hm=>?_) (fun hm=>?_)
 ·refine dr 10 o [7,9,10] ?_;refine dl o 8 ((G.bring 0 rfl).box) 1 ?_;refine dl o 11 ((G.bring 0 rfl).box) 0 ?_;obtain⟨H0,b0,hm⟩:=bS hm;refine dx (hE.trans G.ext) o 12 o0 b0 (fun A0 k0 Y Z=>?_);obtain⟨q0,v0,r0,y0,j0,t0,u0⟩:=zG Z;subst j0;refine dr 6 o [13] ?_;refine dw [4,11,13,18] ?_;refine dl o 14 (At.ext (hE.trans G.ext) Y) 4 ?_;refine dr 3 o [15,16] ?_;obtain⟨C0,c0,hm⟩:=bS hm;refine o1 o 17 (mc o z3u (zD (hE.trans z.ext)  c0) (fun E0 G0 O=>?_));obtain⟨rfl,L⟩:=O;refine⟨L.ext,?_⟩;have X:=z.join L;refine dr 0 o [18,19] ?_;refine dw [4] ?_;refine dd o ?_;refine rt ?_;cases hm;exact⟨_,.cons (.tmp rfl) .nil,rfl,(X.taken 0)⟩
 ·refine dr 0 o [7,8,9,10,11,12,13,14,15,16,17,18,19] ?_;refine dw [4] ?_;refine dd o ?_;refine rt ?_;cases hm;exact⟨_,.cons (.tmp rfl) .nil,rfl,(z.taken 0)⟩

theorem zeR:Enters Tryz.prog 64:=⟨_,_,Tryz.func64,rfl,by kernel_rfl⟩
def z7g (fuel:Nat) (o:Unit):Option Bool:=some true
def z7f (fuel:Nat) (o:Int) (z:Unit):Option (Rd (Int) (Unit) (Bool)):=some (.next (w64 (o+1)))
def z3x (fuel:Nat) (o:Int) (z:Bool):Option (Rd (Int) (Unit) (Rd (Int) (Unit) (Bool))):=(if z=true then some (.ret (.ret false)) else some (.next (w64 (o+1))))
def z5v (fuel:Nat) (x0:D.Net) (H:Int) (L:D.Agent) (o:Int):Option (Rd (Int) (Unit) (Rd (Int) (Unit) (Bool))):=(if(decide (o<(L.Ports.length:Int)))=true then((idx L.Ports o).bind fun G=>(if(((G.Agent:Int) == H) && (((G.Slot:Int) == o) && true))=true then z3x fuel o true else((z4Z fuel x0.Agents G).bind fun M=>(if(!M)=true then z3x fuel o true else((idx x0.Agents G.Agent).bind fun O=>((idx O.Ports G.Slot).bind fun z=>z3x fuel o (!(((z.Agent:Int) == H) && (((z.Slot:Int) == o) && true))))))))) else some (.brk ()))
def z5w (fuel:Nat) (x0:D.Net) (z:Int):Option (Rd (Int) (Unit) (Bool)):=(if(decide (z<(x0.Agents.length:Int)))=true then((idx x0.Agents z).bind fun G=>((iter (z5v fuel x0 z G) fuel 0).bind fun o=>aft o (z7f fuel z))) else some (.brk ()))
def z5V (fuel:Nat) (x0:D.Net):Option (Bool):=((z46 fuel x0.Agents).bind fun r5=>(if(!r5)=true then some false else((iter (z5w fuel x0) fuel 0).bind fun o=>aft o (z7g fuel))))

theorem za5 {W w:World}(hE:Ext W w){Z:Addr}{Y0:List Value}{x0:D.Net}(n1:ty30.ro W Y0 x0) (b0:At W Z Y0){fuel:Nat}{r:Bool}(hm:z5V fuel x0=some r):
  Calls Tryz.prog 64 ⟨[.pointer (some Z)]⟩ w (Ret fun v w8=>v=.bool r∧St w w8 []):=by
 obtain⟨A1,k2,e4,h3⟩:=z2L n1;subst e4;refine into Tryz.func64 77 _ ?_;unfold z5V at hm;have hS:=St.start w;refine sq<|rg<|rr 1 ?_;refine rn<|sq<|sq<|rg<|rr 3 ?_;refine l1 (At.ext (hE.trans hS.ext) b0) 0 ?_;obtain⟨r5,t1,hm⟩:=bS hm;refine ca zdS (z8f (hE.trans hS.ext) h3 t1) (fun v7 X1 y0=>?_);obtain⟨rfl,A0⟩:=y0;have c0:=hS.join A0;refine rr 1 ?_;refine rn<|ci hm (fun hm=>?_) (fun hm=>?_)
 ·refine sq<|rg<|rr 1 ?_;refine rn<|rt ?_;cases hm;exact⟨_,.cons (.tmp rfl) .nil,rfl,c0⟩
 ·refine sp<|sq<|sq<|rg<|rr 1 ?_;refine rn ?_;obtain⟨v1,L0,hm⟩:=bS hm;refine ct (fun(d1:Unit) F w9=>v1=.inl d1∧St w w9 []∧F=[]) ?_ ?_
  ·rintro d1 F Y1 ⟨N0,C0,rfl⟩;subst N0;rw [z8] at hm;unfold z7g at hm;refine sq<|rg<|rr 1 ?_;refine rn<|rt ?_;cases hm;exact⟨_,.cons (.tmp rfl) .nil,rfl,C0⟩
  ·refine bk<|wk [0,3] ?_;refine it (fun(a0:Int) F w9=>St w w9 []∧F=[(0,.pointer (some Z)),(3,.int .i64 a0)]) L0 ⟨c0,rfl⟩ ?_;rintro a0 F a2 _ S1 ⟨L,rfl⟩ G j0;unfold z5w at G;refine sq<|sq<|rg<|rr 4 ?_;refine l1 (At.ext (hE.trans L.ext) b0) 0 ?_;refine rr 2 ?_;refine rn<|ci G (fun G=>?_) (fun G=>?_)
   ·refine sp<|sq<|bk<|sq<|rg<|rr 3 ?_;refine l1 (At.ext (hE.trans L.ext) b0) 0 ?_;refine rr 1 ?_;obtain⟨m2,T0,G⟩:=bS G;refine ix (hE.trans L.ext) h3 T0 (fun b1 j1 i0 P0=>?_);obtain⟨F1,P1,G1,Q1,g1,N1,p1⟩:=zG P0;subst g1;refine rr 1 ?_;refine rn<|sq<|rg<|rr 1 ?_;refine rn ?_;obtain⟨y1,M0,G⟩:=bS G;refine ct (fun(e1:Unit) F w9=>y1=.inl e1∧St w w9 []∧F=[(0,.pointer (some Z)),(3,.int .i64 a0)]) ?_ ?_
    ·rintro e1 F b2 ⟨O0,D0,rfl⟩;subst O0;rw [z8] at G;unfold z7f at G;refine rg<|rr 3 ?_;refine rn ?_;cases G;exact⟨_,_,rfl,⟨D0,rfl⟩,rfl⟩
    ·refine bk<|wk [0,3,4,5] ?_;refine it (fun(q0:Int) F w9=>St w w9 []∧F=[(0,.pointer (some Z)),(3,.int .i64 a0),(4,.pointer (some b1)),(5,.int .i64 q0)]) M0 ⟨L,rfl⟩ ?_;rintro q0 F d2 _ B1 ⟨X,rfl⟩ o k0;unfold z5v at o;refine sq<|sq<|rg<|rr 4 ?_;refine l1 (At.ext (hE.trans X.ext) i0) 4 ?_;refine rr 2 ?_;refine rn<|ci o (fun o=>?_) (fun o=>?_)
     ·refine sp<|sq<|bk<|sq<|rg<|rr 2 ?_;refine qt (qb) ?_;refine nw X (fun L1 e2 J1 E0=>?_);have F0:=E0.bring 0 rfl;refine so (A:=[]) F0 0 (fun f2 O=>?_);refine rn<|sq<|rg<|rr 3 ?_;refine l1 (At.ext (hE.trans O.ext) i0) 4 ?_;refine rr 1 ?_;obtain⟨E1,U0,o⟩:=bS o;refine ix (hE.trans O.ext) p1 U0 (fun T1 k1 J0 Q0=>?_);have i1:=zn Q0;subst i1;refine lN (At.ext (hE.trans O.ext) J0) ?_;refine nw O (fun M1 g2 K1 G0=>?_);have H0:=G0.bring 0 rfl;refine so (A:=[]) H0 0 (fun D1 H=>?_);refine rn<|sq<|ct (fun(X0:Bool) F w9=>z3x fuel q0 X0=some B1∧Ext D1 w9∧St w w9 []∧F=[(0,.pointer (some Z)),(3,.int .i64 a0),(4,.pointer (some b1)),(5,.int .i64 q0),(76,.bool X0)]) ?_ ?_
      ·rintro X0 F i2 ⟨o,s1,d0,rfl⟩;unfold z3x at o;refine ci o (fun o=>?_) (fun o=>?_)
       ·refine sq<|rg<|rr 1 ?_;refine rn<|rt ?_;cases o;cases k0;have G:some _=some _:=G;cases G;cases j0;have hm:some _=some _:=hm;cases hm;exact⟨_,.cons (.tmp rfl) .nil,rfl,d0⟩
       ·refine sp<|rg<|rr 3 ?_;refine rn ?_;cases o;exact⟨_,_,rfl,⟨d0,rfl⟩,rfl⟩
      ·refine dn 0 mixed 29 [([],536870911),([],536870911),([0,1],536870908),([2],536870907),([3],536870903),([4,3],536870887),([5,3],536870871),([6,3],536870839),([3],536870903),([7,8,3,3],536870519),([9,3],536870391),([3,10],536869879),([11,9],536868863),([12],536866815),([13,12],536858623),([14,12],536850431),([15,12],536834047),([12],536866815),([17,12],536735743),([16,18,12],536539135),([19,12],536342527),([20,12],535818239),([12],536866815),([22,12],532672511),([21,23,12],526381055),([24,12],520089599),([12],536866815),([25,26,12],436203519),([12,27],402649087)] H.ext (fun z=>?_);have Y:=H.step (Ext.draw _);refine dL z 0 ((H.bring 0 rfl).box) ?_;refine dL z 1 ((H.bring 1 rfl).box) ?_;refine dr 25 z [2,3] ?_;refine dw [0,3,4,5,6,7,51] ?_;refine db 51 o (fun o=>?_) (fun o=>?_)
       ·refine dr 0 z [4,5,6,7,8,9,10,11,12,13,14,15,16,17,18,19,20,21,22,23,24,25,26,27,28] ?_;refine dw [0,3,4,5,76] ?_;refine dd z ?_;exact⟨true,_,⟨o,(Ext.draw _),(Y.taken 0),rfl⟩,rfl⟩
       ·refine dr 22 z [4,5,6] ?_;refine dl z 7 (At.ext (hE.trans H.ext) b0) 0 ?_;refine dL z 8 ((H.bring 0 rfl).box) ?_;obtain⟨V1,V0,o⟩:=bS o;refine o1 z 9 (mc z zdR (z93 (hE.trans Y.ext) h3 (z2e E1) V0) (fun W1 j2 B0=>?_));obtain⟨rfl,M⟩:=B0;refine⟨M.ext,?_⟩;have f0:=Y.join M;refine dr 16 z [10,11,12] ?_;refine dw [0,3,4,5,6,7,60] ?_;refine db 60 o (fun o=>?_) (fun o=>?_)
        ·refine dr 0 z [13,14,15,16,17,18,19,20,21,22,23,24,25,26,27,28] ?_;refine dw [0,3,4,5,76] ?_;refine dd z ?_;exact⟨true,_,⟨o,((Ext.draw _).trans M.ext),(f0.taken 0),rfl⟩,rfl⟩
        ·refine dr 11 z [13,14,15,17,22] ?_;refine dl z 16 (At.ext (hE.trans H.ext) b0) 0 ?_;refine dl z 18 ((H.bring 0 rfl).box) 0 ?_;obtain⟨n2,W0,o⟩:=bS o;refine dx (hE.trans H.ext) z 19 h3 W0 (fun U1 m1 K0 R0=>?_);obtain⟨H1,R1,f1,u1,t0,O1,v0⟩:=zG R0;subst t0;refine dr 7 z [20] ?_;refine dw [0,3,4,5,6,60,68,70] ?_;refine dl z 21 (At.ext (hE.trans H.ext) K0) 4 ?_;refine dl z 23 ((H.bring 0 rfl).box) 1 ?_;obtain⟨r0,p0,o⟩:=bS o;refine dx (hE.trans H.ext) z 24 v0 p0 (fun C1 a1 g0 o0=>?_);have u0:=zn o0;subst u0;refine dL z 25 (At.ext (hE.trans H.ext) g0) ?_;refine dL z 26 ((H.bring 1 rfl).box) ?_;refine dr 0 z [27,28] ?_;refine dw [0,3,4,5,76] ?_;refine dd z ?_;exact⟨!(((r0.Agent:Int) == a0) && (((r0.Slot:Int) == q0) && true)),_,⟨o,((Ext.draw _).trans M.ext),(f0.taken 0),rfl⟩,rfl⟩
     ·refine xt ?_;cases o;exact⟨_,_,⟨k0,X,rfl⟩,rfl⟩
   ·refine xt ?_;cases G;exact⟨_,_,⟨j0,L,rfl⟩,rfl⟩

theorem zdO:Enters Tryz.prog 132:=⟨_,_,Tryz.func132,rfl,by kernel_rfl⟩
def z6q (fuel:Nat) (t7:Unit):Option Bool:=some true
def z2u (fuel:Nat) (s6:Int) (o:Bool):Option (Rd (Int) (Unit) (Bool)):=(if o=true then some (.ret false) else some (.next (w64 (s6+1))))
def z40 (fuel:Nat) (x0:(List D.Agent)) (s6:Int):Option (Rd (Int) (Unit) (Bool)):=(if(decide (s6<(x0.length:Int)))=true then((idx x0 s6).bind fun o=>((z16 fuel o).bind fun z=>(if(!z)=true then z2u fuel s6 true else z2u fuel s6 (!((o.Kind == 1) == (s6 == 0)))))) else some (.brk ()))
def z1u (fuel:Nat) (x0:(List D.Agent)) (t1:Bool):Option Bool:=(if t1=true then some false else((iter (z40 fuel x0) fuel 0).bind fun o=>aft o (z6q fuel)))
def z4c (fuel:Nat) (x0:(List D.Agent)):Option (Bool):=(if(decide ((x0.length:Int)<1))=true then z1u fuel x0 true else z1u fuel x0 (decide ((x0.length:Int)>600)))

theorem z8o {W w:World}(hE:Ext W w){M:Option Addr}{Y:Nat}{x0:(List D.Agent)}(u0:ty28.ro W [sl M x0 Y] x0){fuel:Nat}{r:Bool}(hm:z4c fuel x0=some r):
  Calls Tryz.prog 132 ⟨[sl M x0 Y]⟩ w (Ret fun v w8=>v=.bool r∧St w w8 []):=by
 refine into Tryz.func132 32 _ ?_;unfold z4c at hm;have hS:=St.start w;refine sq<|rg<|rr 1 ?_;refine rn<|sq<|sq<|ct (fun(t1:Bool) F w9=>z1u fuel x0 t1=some r∧Ext w w9∧St w w9 []∧F=[(0,sl M x0 Y),(12,.bool t1)]) ?_ ?_
 ·rintro t1 F w4 ⟨hm,J0,p0,rfl⟩;unfold z1u at hm;refine ci hm (fun hm=>?_) (fun hm=>?_)
  ·refine sq<|rg<|rr 1 ?_;refine rn<|rt ?_;cases hm;exact⟨_,.cons (.tmp rfl) .nil,rfl,p0⟩
  ·refine sp<|sq<|sq<|rg<|rr 3 ?_;refine rn ?_;obtain⟨B0,f0,hm⟩:=bS hm;refine ct (fun(t7:Unit) F w9=>B0=.inl t7∧St w w9 []∧F=[]) ?_ ?_
   ·rintro t7 F P0 ⟨g0,a0,rfl⟩;subst g0;rw [z8] at hm;unfold z6q at hm;refine sq<|rg<|rr 1 ?_;refine rn<|rt ?_;cases hm;exact⟨_,.cons (.tmp rfl) .nil,rfl,a0⟩
   ·refine bk<|wk [13,14,15] ?_;refine it (fun(s6:Int) F w9=>St w w9 []∧F=[(13,sl M x0 Y),(14,.int .i64 (x0.length:Int)),(15,.int .i64 s6)]) f0 ⟨p0,rfl⟩ ?_;rintro s6 F Q0 _ C0 ⟨z,rfl⟩ o X;unfold z40 at o;refine sq<|rg<|rr 1 ?_;refine rn<|sq<|ci o (fun o=>?_) (fun o=>?_)
    ·refine sp<|sq<|bk<|sq<|rg<|rr 1 ?_;obtain⟨q0,j0,o⟩:=bS o;refine ix (hE.trans z.ext) u0 j0 (fun M0 t0 d0 i0=>?_);obtain⟨E0,K0,F0,L0,r0,v0,y0⟩:=zG i0;subst r0;refine lN (At.ext (hE.trans z.ext) d0) ?_;refine nw z (fun H0 R0 G0 b0=>?_);refine rr 1 ?_;have c0:=b0.bring 0 rfl;refine so (A:=[]) c0 0 (fun D0 H=>?_);refine rn<|sq<|ct (fun(o0:Bool) F w9=>z2u fuel s6 o0=some C0∧Ext D0 w9∧St w w9 []∧F=[(13,sl M x0 Y),(14,.int .i64 (x0.length:Int)),(15,.int .i64 s6),(30,.bool o0)]) ?_ ?_
     ·rintro o0 F T0 ⟨o,A0,O,rfl⟩;unfold z2u at o;refine ci o (fun o=>?_) (fun o=>?_)
      ·refine sq<|rg<|rr 1 ?_;refine rn<|rt ?_;cases o;cases X;have hm:some _=some _:=hm;cases hm;exact⟨_,.cons (.tmp rfl) .nil,rfl,O⟩
      ·refine sp<|rg<|rr 2 ?_;refine rn ?_;cases o;exact⟨_,_,rfl,⟨O,rfl⟩,rfl⟩
     ·refine rg<|lN ((H.bring 0 rfl).box) ?_;obtain⟨N0,k0,o⟩:=bS o;refine ca zb2 (z6D (hE.trans H.ext) (z9K q0 v0 y0) k0) (fun O0 U0 Z=>?_);obtain⟨rfl,G⟩:=Z;have L:=H.join G;refine rr 2 ?_;refine rb 23 o (fun o=>?_) (fun o=>?_)
      ·refine rr 7 ?_;refine rn ?_;exact⟨true,_,⟨o,G.ext,(L.taken 0),rfl⟩,rfl⟩
      ·refine rr 1 ?_;refine l1 ((L.bring 0 rfl).box) 0 ?_;refine rr 5 ?_;refine rn ?_;exact⟨!((q0.Kind == 1) == (s6 == 0)),_,⟨o,G.ext,(L.taken 0),rfl⟩,rfl⟩
    ·refine xt ?_;cases o;exact⟨_,_,⟨X,z,rfl⟩,rfl⟩
 ·refine rg<|rr 4 ?_;refine rb 8 hm (fun hm=>?_) (fun hm=>?_)
  ·refine rr 4 ?_;refine rn ?_;exact⟨true,_,⟨hm,(Ext.refl _),hS,rfl⟩,rfl⟩
  ·refine rr 4 ?_;refine rn ?_;exact⟨decide ((x0.length:Int)>600),_,⟨hm,(Ext.refl _),hS,rfl⟩,rfl⟩

theorem zbS:Enters Tryz.prog 72:=⟨_,_,Tryz.func72,rfl,by kernel_rfl⟩
def z5g (fuel:Nat) (t6:(List D.Port)):Option (List D.Port):=some t6
def z6r (fuel:Nat) (s5:(List D.Port) × Int) (o:(List D.Port)):Option (Rd ((List D.Port) × Int) ((List D.Port)) ((List D.Port))):=some (.next (o,w64 (s5.2+1)))
def z2w (fuel:Nat) (s5:(List D.Port) × Int) (z:D.Agent) (o:Int × (List D.Port)):Option (Rd (Int × (List D.Port)) ((List D.Port)) (Rd ((List D.Port) × Int) ((List D.Port)) ((List D.Port)))):=(if(decide (o.1<(z.Ports.length:Int)))=true then(if decide ((o.2.length:Int)+(([(⟨s5.2,o.1⟩:D.Port)]:(List D.Port)).length:Int)≤4294967296)=true then some (.next (w64 (o.1+1),(o.2++([(⟨s5.2,o.1⟩:D.Port)]:(List D.Port))))) else none) else some (.brk o.2))
def z2x (fuel:Nat) (x0:D.Net) (s5:(List D.Port) × Int):Option (Rd ((List D.Port) × Int) ((List D.Port)) ((List D.Port))):=(if(decide (s5.2<(x0.Agents.length:Int)))=true then((idx x0.Agents s5.2).bind fun z=>((iter (z2w fuel s5 z) fuel (0,s5.1)).bind fun o=>aft o (z6r fuel s5))) else some (.brk s5.1))
def z2J (fuel:Nat) (x0:D.Net):Option ((List D.Port)):=((iter (z2x fuel x0) fuel ([],0)).bind fun o=>aft o (z5g fuel))

theorem z6S {W w:World}(hE:Ext W w){K0:Addr}{J0:List Value}{x0:D.Net}(P0:ty30.ro W J0 x0) (O0:At W K0 J0){fuel:Nat}{r:(List D.Port)}(hm:z2J fuel x0=some r):
  Calls Tryz.prog 72 ⟨[.pointer (some K0)]⟩ w (Ret fun v w8=>∃ A0 k0,v=sl A0 r k0∧St w w8 [ow z5f A0 r k0]):=by
 obtain⟨A1,k2,e4,h3⟩:=z2L P0;subst e4;refine into Tryz.func72 32 _ ?_;unfold z2J at hm;have hS:=St.start w;refine sq<|rg<|rr 1 ?_;refine rn<|sq<|rg<|rr 1 ?_;refine rn<|sq<|sq<|rg<|rr 3 ?_;refine l1 (At.ext (hE.trans hS.ext) O0) 0 ?_;refine rr 2 ?_;refine rn ?_;obtain⟨R0,y0,hm⟩:=bS hm;refine ct (fun(t6:(List D.Port)) F w9=>∃ Z c0,R0=.inl t6∧St w w9 [ow z5f Z t6 c0]∧F=[(3,sl Z t6 c0)]) ?_ ?_
 ·rintro t6 F n1 ⟨Z,c0,C0,i0,rfl⟩;subst C0;rw [z8] at hm;unfold z5g at hm;refine sq<|rg<|rr 2 ?_;refine rn<|rt ?_;cases hm;exact⟨_,.cons (.tmp rfl) .nil,Z,c0,rfl,i0⟩
 ·refine bk ?_;have j0:=hS.nilSl z2M 129;refine wk [3,10,11,12] ?_;refine it (fun(s5:(List D.Port) × Int) F w9=>∃ L Y,St w w9 [ow z5f L s5.1 Y]∧F=[(3,sl L s5.1 Y),(10,sl A1 x0.Agents k2),(11,.int .i64 (x0.Agents.length:Int)),(12,.int .i64 s5.2)]) y0 ⟨none,0,j0,rfl⟩ ?_;rintro s5 F p1 _ j1 ⟨L,Y,G,rfl⟩ o D0;unfold z2x at o;refine sq<|rg<|rr 1 ?_;refine rn<|sq<|ci o (fun o=>?_) (fun o=>?_)
  ·refine sp<|sq<|bk<|sq<|rg<|rr 1 ?_;obtain⟨U0,H0,o⟩:=bS o;refine ix (hE.trans G.ext) h3 H0 (fun m1 N0 u0 G0=>?_);obtain⟨V0,f1,W0,g1,M0,d1,e1⟩:=zG G0;subst M0;refine lN (At.ext (hE.trans G.ext) u0) ?_;refine nw G (fun b1 s1 Y0 o0=>?_);refine rr 1 ?_;have p0:=o0.bring 0 rfl;refine so (A:=[]) p0 0 (fun t1 M=>?_);refine rn<|sq<|rg<|rr 1 ?_;refine l1 ((M.bring 0 rfl).box) 4 ?_;refine rr 2 ?_;refine rn ?_;obtain⟨T0,B0,o⟩:=bS o;refine ct (fun(g0:(List D.Port)) F w9=>∃ b0 f0,T0=.inl g0∧St w w9 [ow z5f b0 g0 f0]∧F=[(3,sl b0 g0 f0),(10,sl A1 x0.Agents k2),(11,.int .i64 (x0.Agents.length:Int)),(12,.int .i64 s5.2)]) ?_ ?_
   ·rintro g0 F u1 ⟨b0,f0,E0,q0,rfl⟩;subst E0;rw [z8] at o;unfold z6r at o;refine rg<|rr 2 ?_;refine rn ?_;cases o;exact⟨_,_,rfl,⟨b0,f0,q0,rfl⟩,rfl⟩
   ·refine bk<|wk [3,4,10,11,12,19,20] ?_;refine it (fun(H:Int × (List D.Port)) F w9=>∃ a0 d0,St w w9 [ow z5f a0 H.2 d0]∧F=[(3,sl a0 H.2 d0),(4,.int .i64 s5.2),(10,sl A1 x0.Agents k2),(11,.int .i64 (x0.Agents.length:Int)),(12,.int .i64 s5.2),(19,.int .i64 (U0.Ports.length:Int)),(20,.int .i64 H.1)]) B0 ⟨L,Y,((M.bring 1 rfl).taken 1),rfl⟩ ?_;rintro H F v1 _ k1 ⟨a0,d0,O,rfl⟩ z F0;unfold z2w at z;refine sq<|rg<|rr 1 ?_;refine rn<|sq<|ci z (fun z=>?_) (fun z=>?_)
    ·refine sp<|sq<|bk<|sq<|rg<|rr 2 ?_;refine rn<|rg<|rr 3 ?_;refine qt (qb) ?_;refine ns (O.flatEls (U:=z2M) (els:=[.int .i64 s5.2,.int .i64 H.1]) (ys:=[(⟨s5.2,H.1⟩:D.Port)]) ⟨[.int .i64 s5.2,.int .i64 H.1],_,[],[],rfl,rfl,(z5O (c:=(⟨s5.2,H.1⟩:D.Port)) rfl),⟨rfl,rfl⟩⟩) (fun X0 i1 y1 a1 r0=>?_);have X:=r0.bring 1 rfl;obtain⟨v0,z⟩:=iS z;refine ap (Flat.map (Flat.pair Flat.int (Flat.pair Flat.int Flat.unit))) X ((X.bring 1 rfl).own) v0 (fun L0 Q0 B1 t0=>?_);refine rr 1 ?_;refine rn<|rg<|rr 2 ?_;refine rn ?_;cases z;exact⟨_,_,rfl,⟨L0,Q0,(t0.taken 1),rfl⟩,rfl⟩
    ·refine xt ?_;cases z;exact⟨_,_,⟨a0,d0,F0,O,rfl⟩,rfl⟩
  ·refine xt ?_;cases o;exact⟨_,_,⟨L,Y,D0,G,rfl⟩,rfl⟩

theorem zdo:Enters Tryz.prog 184:=⟨_,_,Tryz.func184,rfl,by kernel_rfl⟩
def zL (fuel:Nat) (t2:Unit):Option Int:=some (-1)
def ze (fuel:Nat) (x0:(List D.Port)) (x1:D.Port→Option Bool) (s1:Int):Option (Rd (Int) (Unit) (Int)):=(if(decide (s1<(x0.length:Int)))=true then((idx x0 s1).bind fun z=>((x1 z).bind fun o=>(if o=true then some (.ret s1) else some (.next (w64 (s1+1)))))) else some (.brk ()))
def zA (fuel:Nat) (x0:(List D.Port)) (x1:D.Port→Option Bool):Option (Int):=((iter (ze fuel x0 x1) fuel 0).bind fun o=>aft o (zL fuel))

theorem z4x {W w:World}(hE:Ext W w){O:Option Addr}{f0:Nat}{x0:(List D.Port)}{f1_:Nat}{u1_:List Value}{x1:D.Port→Option Bool}(o0:z5f.ro W [sl O x0 f0] x0) (g0:Enters Tryz.prog f1_∧∀ {w9:World},Ext W w9→∀ {cz0:List Value}{z0:D.Port}{y9:Bool},z2M.ro w9 cz0 z0→x1 z0=some y9→Calls Tryz.prog f1_ ⟨[.agg ⟨cz0⟩]++u1_⟩ w9 (Ret fun v w8=>v=.bool y9∧St w9 w8 [])){fuel:Nat}{r:Int}(hm:zA fuel x0 x1=some r):
  Calls Tryz.prog 184 ⟨[sl O x0 f0,.func (.func f1_) #[] ⟨u1_⟩]⟩ w (Ret fun v w8=>v=.int .i64 r∧St w w8 []):=by
 refine into Tryz.func184 19 _ ?_;unfold zA at hm;have hS:=St.start w;refine sq<|rg<|rr 1 ?_;refine rn<|sq<|sq<|rg<|rr 3 ?_;refine rn ?_;obtain⟨p0,a0,hm⟩:=bS hm;refine ct (fun(t2:Unit) F w9=>p0=.inl t2∧Ext w w9∧St w w9 []∧F=[]) ?_ ?_
 ·rintro t2 F w7 ⟨b0,q0,Y,rfl⟩;subst b0;rw [z8] at hm;unfold zL at hm;refine sq<|rg<|rr 1 ?_;refine rn<|rt ?_;cases hm;exact⟨_,.cons (.tmp rfl) .nil,rfl,Y⟩
 ·refine bk<|wk [0,1,7,8] ?_;refine it (fun(s1:Int) F w9=>Ext w w9∧St w w9 []∧F=[(0,sl O x0 f0),(1,.func (.func f1_) #[] ⟨u1_⟩),(7,.int .i64 (x0.length:Int)),(8,.int .i64 s1)]) a0 ⟨(Ext.refl _),hS,rfl⟩ ?_;rintro s1 F y0 _ r0 ⟨i0,z,rfl⟩ o L;unfold ze at o;refine sq<|rg<|rr 1 ?_;refine rn<|sq<|ci o (fun o=>?_) (fun o=>?_)
  ·refine sp<|sq<|bk<|sq<|rg<|rr 2 ?_;refine rn<|sq<|rg<|rr 3 ?_;obtain⟨B0,c0,o⟩:=bS o;refine ix (hE.trans z.ext) o0 c0 (fun t0 k0 Z M=>?_);have j0:=zn M;subst j0;refine lN (At.ext (hE.trans z.ext) Z) ?_;obtain⟨u0,d0,o⟩:=bS o;refine ca g0.1 (g0.2 (hE.trans z.ext) (z2M.ext (hE.trans z.ext) M) d0) (fun v0 A0 X=>?_);obtain⟨rfl,G⟩:=X;have H:=z.join G;refine rn<|ci o (fun o=>?_) (fun o=>?_)
   ·refine sq<|rg<|rr 2 ?_;refine rn<|rt ?_;cases o;cases L;have hm:some _=some _:=hm;cases hm;exact⟨_,.cons (.tmp rfl) .nil,rfl,H⟩
   ·refine sp<|rg<|rr 2 ?_;refine rn ?_;cases o;exact⟨_,_,rfl,⟨(i0.trans G.ext),H,rfl⟩,rfl⟩
  ·refine xt ?_;cases o;exact⟨_,_,⟨L,i0,z,rfl⟩,rfl⟩

theorem zdN:Enters Tryz.prog 133:=⟨_,_,Tryz.func133,rfl,by kernel_rfl⟩
def zf (fuel:Nat) (x0:(List D.Port)) (x1:D.Port→Option Bool):Option (Bool):=((zA fuel x0 x1).bind fun r1=>some (decide (r1≥0)))

theorem z43 {W w:World}(hE:Ext W w){o:Option Addr}{z:Nat}{x0:(List D.Port)}{f1_:Nat}{u1_:List Value}{x1:D.Port→Option Bool}(G:z5f.ro W [sl o x0 z] x0) (H:Enters Tryz.prog f1_∧∀ {w9:World},Ext W w9→∀ {cz0:List Value}{z0:D.Port}{y9:Bool},z2M.ro w9 cz0 z0→x1 z0=some y9→Calls Tryz.prog f1_ ⟨[.agg ⟨cz0⟩]++u1_⟩ w9 (Ret fun v w8=>v=.bool y9∧St w9 w8 [])){fuel:Nat}{r:Bool}(hm:zf fuel x0 x1=some r):
  Calls Tryz.prog 133 ⟨[sl o x0 z,.func (.func f1_) #[] ⟨u1_⟩]⟩ w (Ret fun v w8=>v=.bool r∧St w w8 []):=by
 refine into Tryz.func133 9 _ ?_;unfold zf at hm;have hS:=St.start w;refine sq<|rg<|rr 1 ?_;refine rn<|sq<|rg<|rr 2 ?_;obtain⟨r1,X,hm⟩:=bS hm;refine ca zdo (z4x (hE.trans hS.ext) G H X) (fun v3 w4 L=>?_);obtain⟨rfl,M⟩:=L;have O:=hS.join M;refine rr 2 ?_;refine rn<|rt ?_;cases hm;exact⟨_,.cons (.tmp rfl) .nil,rfl,O⟩

theorem zai:Enters Tryz.prog 73:=⟨_,_,Tryz.func73,rfl,by kernel_rfl⟩
def z2y (fuel:Nat) (x0:D.Net) (x1:D.Port):Option (D.Port):=((idx x0.Agents x1.Agent).bind fun z=>((idx z.Ports x1.Slot).bind fun o=>some (⟨o.Agent,o.Slot⟩:D.Port)))

theorem z66 {W w:World}(hE:Ext W w){f0:Addr}{c0:List Value}{x0:D.Net}{d0:List Value}{x1:D.Port}(p0:ty30.ro W c0 x0) (o0:At W f0 c0) (q0:z2M.ro W d0 x1){fuel:Nat}{r:D.Port}(hm:z2y fuel x0 x1=some r):
  Calls Tryz.prog 73 ⟨[.pointer (some f0),.agg ⟨d0⟩]⟩ w (Ret fun v w8=>v=.agg ⟨[.int .i64 r.Agent,.int .i64 r.Slot]⟩∧St w w8 []):=by
 obtain⟨A1,k2,e4,h3⟩:=z2L p0;subst e4;have e5:=zn q0;subst e5;refine into Tryz.func73 18 _ ?_;unfold z2y at hm;have hS:=St.start w;refine sq<|rg<|nw hS (fun g6 w7 v0 H=>?_);refine nw H (fun A0 G0 y0 z=>?_);refine rn<|sq<|dn 8192 mixed 14 [([],16383),([0],16382),([1],16381),([2],16379),([],16383),([4],16367),([3,5],16343),([6],16319),([7],16255),([],16383),([9],15871),([8,10],15103),([11],14335),([12,0,1,2,3,4,5,6,7,8,9,10,11,12],12287)] z.ext (fun o=>?_);have L:=z.step (Ext.draw _);refine dr 9 o [0,1,2,4,9] ?_;refine dl o 3 (At.ext (hE.trans z.ext) o0) 0 ?_;refine dl o 5 ((z.bring 1 rfl).box) 0 ?_;obtain⟨J0,a0,hm⟩:=bS hm;refine dx (hE.trans z.ext) o 6 h3 a0 (fun E0 j0 O Y=>?_);obtain⟨t0,C0,u0,D0,g0,B0,r0⟩:=zG Y;subst g0;refine dr 5 o [7] ?_;refine dw [4,12,14] ?_;refine dl o 8 (At.ext (hE.trans z.ext) O) 4 ?_;refine dl o 10 ((z.bring 1 rfl).box) 1 ?_;obtain⟨K0,b0,hm⟩:=bS hm;refine dx (hE.trans z.ext) o 11 r0 b0 (fun F0 k0 X Z=>?_);have i0:=zn Z;subst i0;refine dL o 12 (At.ext (hE.trans z.ext) X) ?_;have M:=L.bring 0 rfl;refine o1 o 13 (ms (A:=[]) M o 0 (fun H0 G=>?_));refine dd o ?_;refine rt ?_;cases hm;exact⟨_,.cons (ra ((G.bring 0 rfl).box)) .nil,rfl,(G.taken 0)⟩

theorem zdL:Enters Tryz.prog 135:=⟨_,_,Tryz.func135,rfl,by kernel_rfl⟩
def z5a (fuel:Nat) (x0:(List D.Agent)) (x1:D.Port):Option (Bool):=(if(decide (x1.Agent≥0))=true then(if(decide (x1.Agent<(x0.length:Int)))=true then(if(decide (x1.Slot≥0))=true then((idx x0 x1.Agent).bind fun o=>some (decide (x1.Slot<(o.Ports.length:Int)))) else some false) else some false) else some false)

theorem z9k {W w:World}(hE:Ext W w){O:Option Addr}{Y:Nat}{x0:(List D.Agent)}{X:List Value}{x1:D.Port}(b0:ty28.ro W [sl O x0 Y] x0) (c0:z2M.ro W X x1){fuel:Nat}{r:Bool}(hm:z5a fuel x0 x1=some r):
  Calls Tryz.prog 135 ⟨[sl O x0 Y,.agg ⟨X⟩]⟩ w (Ret fun v w8=>v=.bool r∧St w w8 []):=by
 have e1:=zn c0;subst e1;refine into Tryz.func135 32 _ ?_;unfold z5a at hm;have hS:=St.start w;refine sq<|rg<|nw hS (fun g2 w3 e4 z=>?_);refine rr 1 ?_;refine rn<|sq<|dn 0 mixed 28 [([],268435455),([0],268435454),([1],268435453),([2],268435451),([3],268435447),([4,3],268435431),([3],268435447),([6,3],268435383),([5,7,3],268435287),([3,8],268435191),([9,3],268434943),([10],268434431),([11,10],268432383),([12,10],268430335),([10,13],268426239),([14,10],268419071),([15],268402687),([16,15],268337151),([15],268402687),([15],268402687),([19,15],267878399),([18,20,15],267091967),([21,15],266305535),([22,15],264208383),([23,15],260014079),([17,24,15],251494399),([15,25],234848255),([26,15,0,1,2,3,4,5,6,7,8,9,10,11,12,13,14,15,16,17,18,19,20,21,22,23,24,25,26],201326591)] z.ext (fun o=>?_);have G:=z.step (Ext.draw _);refine dr 27 o [0] ?_;refine dl o 1 ((z.bring 0 rfl).box) 0 ?_;refine dr 24 o [2,3] ?_;refine db 8 hm (fun hm=>?_) (fun hm=>?_)
 ·refine dr 21 o [4,6,7] ?_;refine dl o 5 ((z.bring 0 rfl).box) 0 ?_;refine dr 17 o [8,9,10] ?_;refine dw [0,3,4,15] ?_;refine db 15 hm (fun hm=>?_) (fun hm=>?_)
  ·refine dr 16 o [11] ?_;refine dl o 12 ((z.bring 0 rfl).box) 1 ?_;refine dr 12 o [13,14,15] ?_;refine db 20 hm (fun hm=>?_) (fun hm=>?_)
   ·refine dr 9 o [16,18,19] ?_;refine dw [4,20,21,23,24] ?_;refine dl o 17 ((z.bring 0 rfl).box) 1 ?_;refine dl o 20 ((z.bring 0 rfl).box) 0 ?_;obtain⟨p0,M,hm⟩:=bS hm;refine dx (hE.trans z.ext) o 21 b0 M (fun o0 a0 H L=>?_);obtain⟨d0,j0,f0,k0,Z,g0,i0⟩:=zG L;subst Z;refine dr 5 o [22] ?_;refine dl o 23 (At.ext (hE.trans z.ext) H) 4 ?_;refine dr 0 o [24,25,26,27] ?_;refine dw [4] ?_;refine dd o ?_;refine rt ?_;cases hm;exact⟨_,.cons (.tmp rfl) .nil,rfl,(G.taken 0)⟩
   ·refine dr 0 o [16,17,18,19,20,21,22,23,24,25,26,27] ?_;refine dw [4] ?_;refine dd o ?_;refine rt ?_;cases hm;exact⟨_,.cons (.tmp rfl) .nil,rfl,(G.taken 0)⟩
  ·refine dr 0 o [11,12,13,14,15,16,17,18,19,20,21,22,23,24,25,26,27] ?_;refine dw [4] ?_;refine dd o ?_;refine rt ?_;cases hm;exact⟨_,.cons (.tmp rfl) .nil,rfl,(G.taken 0)⟩
 ·refine dr 0 o [4,5,6,7,8,9,10,11,12,13,14,15,16,17,18,19,20,21,22,23,24,25,26,27] ?_;refine dw [4] ?_;refine dd o ?_;refine rt ?_;cases hm;exact⟨_,.cons (.tmp rfl) .nil,rfl,(G.taken 0)⟩

theorem zdM:Enters Tryz.prog 134:=⟨_,_,Tryz.func134,rfl,by kernel_rfl⟩
def z4s (fuel:Nat) (x0:D.Port) (x1:D.Net):Option (Bool):=((z2y fuel x1 x0).bind fun o=>(if(((o.Agent:Int) == x0.Agent) && (((o.Slot:Int) == x0.Slot) && true))=true then some true else((z5a fuel x1.Agents o).bind fun G=>(if(!G)=true then some true else((z2y fuel x1 o).bind fun z=>some (!(((z.Agent:Int) == x0.Agent) && (((z.Slot:Int) == x0.Slot) && true))))))))

theorem z7C {W w:World}(hE:Ext W w){p0:List Value}{x0:D.Port}{t0:Addr}{q0:List Value}{x1:D.Net}(r0:z2M.ro W p0 x0) (Y:ty30.ro W q0 x1) (X:At W t0 q0){fuel:Nat}{r:Bool}(hm:z4s fuel x0 x1=some r):
  Calls Tryz.prog 134 ⟨[.agg ⟨p0⟩,.pointer (some t0)]⟩ w (Ret fun v w8=>v=.bool r∧St w w8 []):=by
 have e1:=zn r0;subst e1;obtain⟨A2,k3,e5,h4⟩:=z2L Y;subst e5;refine into Tryz.func134 23 _ ?_;unfold z4s at hm;have hS:=St.start w;refine sq<|rg<|nw hS (fun g6 w7 v0 G=>?_);refine rr 1 ?_;refine rn<|sq<|rg<|lN ((G.bring 0 rfl).box) ?_;obtain⟨u0,j0,hm⟩:=bS hm;refine ca zai (z66 (hE.trans G.ext) Y X r0 j0) (fun D0 G0 Z=>?_);obtain⟨rfl,a0⟩:=Z;have d0:=G.join a0;refine nw d0 (fun A0 H0 y0 f0=>?_);have g0:=f0.bring 0 rfl;refine so (A:=[]) g0 0 (fun J0 z=>?_);refine rn<|sq<|dn 0 mixed 17 [([],131071),([],131071),([0,1],131068),([2],131067),([3],131063),([4,3],131047),([3],131063),([5,6,3,3],130967),([7,3],130935),([3,8],130807),([9,7],130559),([10],130047),([11,10,10],127999),([10],130047),([12,13,10],117759),([10,14],113663),([15,12,0,1,2,3,4,5,6,7,8,9,10,11,12,13,14,15],98303)] z.ext (fun o=>?_);have H:=z.step (Ext.draw _);refine dL o 0 ((z.bring 0 rfl).box) ?_;refine dL o 1 ((z.bring 1 rfl).box) ?_;refine dr 13 o [2,3] ?_;refine dw [1,2,3,4,10] ?_;refine db 10 hm (fun hm=>?_) (fun hm=>?_)
 ·refine dr 0 o [4,5,6,7,8,9,10,11,12,13,14,15,16] ?_;refine dw [3] ?_;refine dd o ?_;refine rt ?_;cases hm;exact⟨_,.cons (.tmp rfl) .nil,rfl,(H.taken 0)⟩
 ·refine dr 12 o [4] ?_;refine dl o 5 (At.ext (hE.trans z.ext) X) 0 ?_;refine dL o 6 ((z.bring 0 rfl).box) ?_;obtain⟨B0,k0,hm⟩:=bS hm;refine o1 o 7 (mc o zdL (z9k (hE.trans H.ext) h4 (z2e u0) k0) (fun E0 K0 b0=>?_));obtain⟨rfl,M⟩:=b0;refine⟨M.ext,?_⟩;have L:=H.join M;refine dr 6 o [8,9,10] ?_;refine dw [1,2,3,4,17] ?_;refine db 17 hm (fun hm=>?_) (fun hm=>?_)
  ·refine dr 0 o [11,12,13,14,15,16] ?_;refine dw [3] ?_;refine dd o ?_;refine rt ?_;cases hm;exact⟨_,.cons (.tmp rfl) .nil,rfl,(L.taken 0)⟩
  ·refine dL o 11 ((z.bring 0 rfl).box) ?_;refine dL o 13 ((z.bring 1 rfl).box) ?_;obtain⟨C0,o0,hm⟩:=bS hm;refine o1 o 12 (mc o zai (z66 (hE.trans L.ext) Y X (z2e u0) o0) (fun F0 L0 c0=>?_));obtain⟨rfl,O⟩:=c0;refine⟨O.ext,?_⟩;have i0:=L.join O;refine dr 0 o [14,15,16] ?_;refine dw [3] ?_;refine dd o ?_;refine rt ?_;cases hm;exact⟨_,.cons (.tmp rfl) .nil,rfl,(i0.taken 0)⟩

theorem zeO:Enters Tryz.prog 68:=⟨_,_,Tryz.func68,rfl,by kernel_rfl⟩
def z4L (fuel:Nat) (x0:D.Net):Option (Bool):=((z4c fuel x0.Agents).bind fun o=>(if(!o)=true then some false else((z2J fuel x0).bind fun z=>((zf fuel z (fun y0=>z4s fuel y0 x0)).bind fun G=>some (!G)))))

theorem z8K {W w:World}(hE:Ext W w){g0:List Value}{x0:D.Net}(L:ty30.ro W g0 x0){fuel:Nat}{r:Bool}(hm:z4L fuel x0=some r):
  Calls Tryz.prog 68 ⟨[.agg ⟨g0⟩]⟩ w (Ret fun v w8=>v=.bool r∧St w w8 []):=by
 obtain⟨A1,k2,e4,h3⟩:=z2L L;subst e4;refine into Tryz.func68 11 _ ?_;unfold z4L at hm;have hS:=St.start w;refine sq<|rg<|nw hS (fun g5 w6 e7 G=>?_);refine rr 1 ?_;refine rn<|sq<|sq<|rg<|rr 1 ?_;refine l1 ((G.bring 0 rfl).box) 0 ?_;obtain⟨o0,c0,hm⟩:=bS hm;refine ca zdO (z8o (hE.trans G.ext) h3 c0) (fun r0 v0 M=>?_);obtain⟨rfl,O⟩:=M;have o:=G.join O;refine rr 1 ?_;refine rn<|ci hm (fun hm=>?_) (fun hm=>?_)
 ·refine sq<|rg<|rr 1 ?_;refine rn<|rt ?_;cases hm;exact⟨_,.cons (.tmp rfl) .nil,rfl,(o.taken 0)⟩
 ·refine sp<|sq<|rg ?_;obtain⟨p0,d0,hm⟩:=bS hm;refine ca zbS (z6S (Ext.refl _) (ty30.ext (hE.trans o.ext) L) ((o.bring 0 rfl).box) d0) (fun t0 y0 X=>?_);obtain⟨j0,k0,rfl,Y⟩:=X;have z:=o.join Y;refine rr 1 ?_;obtain⟨q0,f0,hm⟩:=bS hm;refine ca zdN (z43 (Ext.refl _) ((z.bring 0 rfl).own) ⟨zdM,fun e9=>(fun H i0=>z7C (Ext.refl _) H (ty30.ext e9 (ty30.ext (hE.trans z.ext) L)) (At.ext e9 ((z.bring 1 rfl).box)) i0)⟩ f0) (fun u0 A0 Z=>?_);obtain⟨rfl,a0⟩:=Z;have b0:=z.join a0;refine rr 2 ?_;refine rn<|rt ?_;cases hm;exact⟨_,.cons (.tmp rfl) .nil,rfl,(b0.taken 0)⟩

theorem zdq:Enters Tryz.prog 181:=⟨_,_,Tryz.func181,rfl,by kernel_rfl⟩
def z45 (fuel:Nat) (x0:D.Port) (x1:D.Port):Option (Bool):=(if(decide (x0.Agent<x1.Agent))=true then some true else(if(x0.Agent == x1.Agent)=true then some (decide (x0.Slot<x1.Slot)) else some false))

theorem z8e {W w:World}(hE:Ext W w){z:List Value}{x0:D.Port}{G:List Value}{x1:D.Port}(H:z2M.ro W z x0) (L:z2M.ro W G x1){fuel:Nat}{r:Bool}(hm:z45 fuel x0 x1=some r):
  Calls Tryz.prog 181 ⟨[.agg ⟨z⟩,.agg ⟨G⟩]⟩ w (Ret fun v w8=>v=.bool r∧St w w8 []):=by
 have e1:=zn H;subst e1;have e2:=zn L;subst e2;refine into Tryz.func181 24 _ ?_;unfold z45 at hm;have hS:=St.start w;refine sq<|rg<|nw hS (fun g3 w4 e5 M=>?_);refine nw M (fun g7 X O o=>?_);refine rr 1 ?_;refine rn<|sq<|rg<|rr 1 ?_;refine l1 ((o.bring 1 rfl).box) 0 ?_;refine rr 1 ?_;refine l1 ((o.bring 0 rfl).box) 0 ?_;refine rr 2 ?_;refine rb 10 hm (fun hm=>?_) (fun hm=>?_)
 ·refine rr 14 ?_;refine rn<|rt ?_;cases hm;exact⟨_,.cons (.tmp rfl) .nil,rfl,(o.taken 0)⟩
 ·refine rr 1 ?_;refine l1 ((o.bring 1 rfl).box) 0 ?_;refine rr 1 ?_;refine l1 ((o.bring 0 rfl).box) 0 ?_;refine rr 2 ?_;refine rb 16 hm (fun hm=>?_) (fun hm=>?_)
  ·refine rr 1 ?_;refine l1 ((o.bring 1 rfl).box) 1 ?_;refine rr 1 ?_;refine l1 ((o.bring 0 rfl).box) 1 ?_;refine rr 4 ?_;refine rn<|rt ?_;cases hm;exact⟨_,.cons (.tmp rfl) .nil,rfl,(o.taken 0)⟩
  ·refine rr 8 ?_;refine rn<|rt ?_;cases hm;exact⟨_,.cons (.tmp rfl) .nil,rfl,(o.taken 0)⟩

theorem zdQ:Enters Tryz.prog 129:=⟨_,_,Tryz.func129,rfl,by kernel_rfl⟩
def z5u (fuel:Nat) (o:(List D.Wire)):Option (List D.Wire):=some o
def z6w (fuel:Nat) (o:Int × (List D.Wire)) (z:(List D.Wire)):Option (Rd (Int × (List D.Wire)) ((List D.Wire)) ((List D.Wire))):=some (.next (w64 (o.1+1),z))
def z1K (fuel:Nat) (z:Int × (List D.Wire)) (o:(List D.Wire)):Option (Rd (Int × (List D.Wire)) ((List D.Wire)) (Rd (Int × (List D.Wire)) ((List D.Wire)) ((List D.Wire)))):=some (.next (w64 (z.1+1),o))
def z2S (fuel:Nat) (x0:D.Net) (G:Int × (List D.Wire)) (o:Int × (List D.Wire)):Option (Rd (Int × (List D.Wire)) ((List D.Wire)) (Rd (Int × (List D.Wire)) ((List D.Wire)) ((List D.Wire)))):=((idx x0.Agents G.1).bind fun M=>(if(decide (o.1<(M.Ports.length:Int)))=true then((idx x0.Agents G.1).bind fun O=>((idx O.Ports o.1).bind fun X=>((z45 fuel (⟨G.1,o.1⟩:D.Port) X).bind fun L=>(if L=true then((idx x0.Agents G.1).bind fun H=>((idx H.Ports o.1).bind fun z=>(if decide ((o.2.length:Int)+(([(⟨(⟨G.1,o.1⟩:D.Port),(⟨z.Agent,z.Slot⟩:D.Port)⟩:D.Wire)]:(List D.Wire)).length:Int)≤4294967296)=true then z1K fuel o (o.2++([(⟨(⟨G.1,o.1⟩:D.Port),(⟨z.Agent,z.Slot⟩:D.Port)⟩:D.Wire)]:(List D.Wire))) else none))) else z1K fuel o o.2)))) else some (.brk o.2)))
def z2T (fuel:Nat) (x0:D.Net) (z:Int × (List D.Wire)):Option (Rd (Int × (List D.Wire)) ((List D.Wire)) ((List D.Wire))):=(if(decide (z.1<(x0.Agents.length:Int)))=true then((iter (z2S fuel x0 z) fuel (0,z.2)).bind fun o=>aft o (z6w fuel z)) else some (.brk z.2))
def z4z (fuel:Nat) (x0:D.Net):Option ((List D.Wire)):=((iter (z2T fuel x0) fuel (0,([]:(List D.Wire)))).bind fun o=>aft o (z5u fuel))

theorem z8A {W w:World}(hE:Ext W w){i0:Addr}{D1:List Value}{x0:D.Net}(R1:ty30.ro W D1 x0) (M0:At W i0 D1){fuel:Nat}{r:(List D.Wire)}(hm:z4z fuel x0=some r):
  Calls Tryz.prog 129 ⟨[.pointer (some i0)]⟩ w (Ret fun v w8=>∃ A0 k0,v=sl A0 r k0∧St w w8 [ow z7K A0 r k0]):=by
 obtain⟨A1,k2,e4,h3⟩:=z2L R1;subst e4;refine into Tryz.func129 63 _ ?_;unfold z4z at hm;have hS:=St.start w;refine sq<|rg<|rr 1 ?_;refine rn<|sq<|rg<|n0 (U:=zar) hS (fun A5 k6 w7 p2 X0=>?_);refine rr 1 ?_;refine rn<|sq<|sq<|rg<|rr 1 ?_;refine rn ?_;obtain⟨X1,i1,hm⟩:=bS hm;refine ct (fun(P0:(List D.Wire)) F w9=>∃ K0 N0,X1=.inl P0∧St w w9 [ow z7K K0 P0 N0]∧F=[(3,sl K0 P0 N0)]) ?_ ?_
 ·rintro P0 F K2 ⟨K0,N0,k1,Y0,rfl⟩;subst k1;rw [z8] at hm;unfold z5u at hm;refine sq<|rg<|rr 2 ?_;refine rn<|rt ?_;cases hm;exact⟨_,.cons (.tmp rfl) .nil,K0,N0,rfl,Y0⟩
 ·refine bk<|wk [0,3,4] ?_;refine it (fun(X:Int × (List D.Wire)) F w9=>∃ j0 H0,St w w9 [ow z7K j0 X.2 H0]∧F=[(0,.pointer (some i0)),(3,sl j0 X.2 H0),(4,.int .i64 X.1)]) i1 ⟨A5,k6,X0,rfl⟩ ?_;rintro X F L2 _ D2 ⟨j0,H0,f0,rfl⟩ H m1;unfold z2T at H;refine sq<|sq<|rg<|rr 4 ?_;refine l1 (At.ext (hE.trans f0.ext) M0) 0 ?_;refine rr 2 ?_;refine rn<|ci H (fun H=>?_) (fun H=>?_)
  ·refine sp<|sq<|bk<|sq<|rg<|rr 1 ?_;refine rn ?_;obtain⟨Y1,j1,H⟩:=bS H;refine ct (fun(Q0:(List D.Wire)) F w9=>∃ L0 O0,Y1=.inl Q0∧St w w9 [ow z7K L0 Q0 O0]∧F=[(0,.pointer (some i0)),(3,sl L0 Q0 O0),(4,.int .i64 X.1)]) ?_ ?_
   ·rintro Q0 F M2 ⟨L0,O0,n1,a1,rfl⟩;subst n1;rw [z8] at H;unfold z6w at H;refine rg<|rr 3 ?_;refine rn ?_;cases H;exact⟨_,_,rfl,⟨L0,O0,a1,rfl⟩,rfl⟩
   ·refine bk<|wk [0,3,4,5] ?_;refine it (fun(O:Int × (List D.Wire)) F w9=>∃ o0 J0,St w w9 [ow z7K o0 O.2 J0]∧F=[(0,.pointer (some i0)),(3,sl o0 O.2 J0),(4,.int .i64 X.1),(5,.int .i64 O.1)]) j1 ⟨j0,H0,f0,rfl⟩ ?_;rintro O F N2 _ a2 ⟨o0,J0,Y,rfl⟩ o p1;unfold z2S at o;refine sq<|sq<|rg<|rr 4 ?_;refine l1 (At.ext (hE.trans Y.ext) M0) 0 ?_;refine rr 1 ?_;obtain⟨R2,u1,o⟩:=bS o;refine ix (hE.trans Y.ext) h3 u1 (fun E2 O1 e1 s1=>?_);obtain⟨j2,y2,m2,A2,L1,t2,u2⟩:=zG s1;subst L1;refine rr 1 ?_;refine l1 (At.ext (hE.trans Y.ext) e1) 4 ?_;refine rr 2 ?_;refine rn<|ci o (fun o=>?_) (fun o=>?_)
    ·refine sp<|sq<|bk<|sq<|rg<|rr 2 ?_;refine qt (qb) ?_;refine nw Y (fun r2 O2 q2 b1=>?_);have d1:=b1.bring 0 rfl;refine so (A:=[]) d1 0 (fun P2 M=>?_);refine rn<|sq<|dn 0 mixed 13 [([],8191),([],8191),([1],8189),([2],8187),([3],8183),([],8191),([4,5],8143),([6],8127),([7],8063),([],8191),([8,9],7423),([10],7167),([0,11],6142)] M.ext (fun G=>?_);have u0:=M.step (Ext.draw _);refine dr 8 G [1,2,3,5,9] ?_;refine dw [0,3,4,5,6,36,38,42] ?_;refine dL G 0 ((M.bring 0 rfl).box) ?_;refine dl G 4 (At.ext (hE.trans M.ext) M0) 0 ?_;obtain⟨S2,v1,o⟩:=bS o;refine dx (hE.trans M.ext) G 6 h3 v1 (fun F2 P1 f1 t1=>?_);obtain⟨n2,B2,o2,C2,M1,v2,T1⟩:=zG t1;subst M1;refine dr 4 G [7] ?_;refine dl G 8 (At.ext (hE.trans M.ext) f1) 4 ?_;obtain⟨T2,y1,o⟩:=bS o;refine dx (hE.trans M.ext) G 10 T1 y1 (fun G2 Q1 g1 E0=>?_);have N1:=zn E0;subst N1;refine dL G 11 (At.ext (hE.trans M.ext) g1) ?_;obtain⟨H2,B1,o⟩:=bS o;refine o1 G 12 (mc G zdq (z8e (hE.trans u0.ext) (z2e (⟨X.1,O.1⟩:D.Port)) E0 B1) (fun J2 Q2 W0=>?_));obtain⟨rfl,p0⟩:=W0;refine⟨p0.ext,?_⟩;have g0:=u0.join p0;refine dd G ?_;refine ct (fun(b0:(List D.Wire)) F w9=>∃ Z a0,z1K fuel O b0=some a2∧St w w9 [ow z7K Z b0 a0]∧F=[(0,.pointer (some i0)),(3,sl Z b0 a0),(4,.int .i64 X.1),(5,.int .i64 O.1)]) ?_ ?_
     ·rintro b0 F e2 ⟨Z,a0,o,q0,rfl⟩;unfold z1K at o;refine rg<|rr 3 ?_;refine rn ?_;cases o;exact⟨_,_,rfl,⟨Z,a0,q0,rfl⟩,rfl⟩
     ·refine ci o (fun o=>?_) (fun o=>?_)
      ·refine dn 32768 mixed 17 [([],131071),([],131071),([],131071),([2],131067),([3],131063),([4],131055),([],131071),([5,6],130975),([7],130943),([8],130815),([],131071),([9,10],129535),([11],129023),([1,12],126973),([13],122879),([0,14],114686),([15,15,0,1,2,3,4,5,6,7,8,9,10,11,12,13,14,15],98302)] g0.ext (fun z=>?_);have c0:=g0.step (Ext.draw _);refine dr 11 z [0,2,3,4,6,10] ?_;refine dw [0,3,4,5,6,46,50,52,56] ?_;refine dV z 5 rfl (q1 (At.ext hE M0) 0) ?_;obtain⟨i2,F0,o⟩:=bS o;refine dv hE z 7 h3 F0 (fun b2 E1 v0 C0=>?_);obtain⟨G1,U1,H1,V1,T0,S1,V0⟩:=zG C0;subst T0;refine dr 8 z [8] ?_;refine dV z 9 rfl (q1 (At.ext hE v0) 4) ?_;obtain⟨L,G0,o⟩:=bS o;refine dv hE z 11 V0 G0 (fun d2 F1 y0 D0=>?_);have U0:=zn D0;subst U0;refine dV z 12 rfl (qN (At.ext hE y0)) ?_;refine o1 z 1 (mq z rfl (qN ((c0.bring 0 rfl).box)) ?_);refine dp z 13 rfl (fun _=>qb) ?_;refine o1 z 14 (mn (c0.flatEls (U:=zar) (els:=[.int .i64 X.1,.int .i64 O.1,.int .i64 L.Agent,.int .i64 L.Slot]) (ys:=[(⟨(⟨X.1,O.1⟩:D.Port),(⟨L.Agent,L.Slot⟩:D.Port)⟩:D.Wire)]) ⟨[.int .i64 X.1,.int .i64 O.1,.int .i64 L.Agent,.int .i64 L.Slot],_,[],[],rfl,rfl,(zc9 (c:=(⟨(⟨X.1,O.1⟩:D.Port),(⟨L.Agent,L.Slot⟩:D.Port)⟩:D.Wire)) rfl),⟨rfl,rfl⟩⟩) z (fun J1 W1 f2 K1 r0=>?_));have d0:=r0.bring 2 rfl;obtain⟨B0,o⟩:=iS o;refine o1 z 15 (mp (Flat.map (Flat.pair (Flat.map (Flat.pair Flat.int (Flat.pair Flat.int Flat.unit))) (Flat.pair (Flat.map (Flat.pair Flat.int (Flat.pair Flat.int Flat.unit))) Flat.unit))) d0 z ((d0.bring 1 rfl).own) B0 (fun R0 C1 g2 t0=>?_));refine dr 0 z [16] ?_;refine dw [0,3,4,5] ?_;refine dd z ?_;exact⟨(O.2++([(⟨(⟨X.1,O.1⟩:D.Port),(⟨L.Agent,L.Slot⟩:D.Port)⟩:D.Wire)]:(List D.Wire))),_,⟨R0,C1,o,(t0.taken 1),rfl⟩,rfl⟩
      ·refine sp ?_;exact⟨O.2,_,⟨o0,J0,o,((g0.bring 1 rfl).taken 1),rfl⟩,rfl⟩
    ·refine xt ?_;cases o;exact⟨_,_,⟨o0,J0,p1,Y,rfl⟩,rfl⟩
  ·refine xt ?_;cases H;exact⟨_,_,⟨j0,H0,m1,f0,rfl⟩,rfl⟩

theorem zeL:Enters Tryz.prog 74:=⟨_,_,Tryz.func74,rfl,by kernel_rfl⟩
def z3e (fuel:Nat) (x0:D.Port) (x1:D.Port):Option (Bool):=(if(decide (x0.Agent<x1.Agent))=true then some true else(if(x0.Agent == x1.Agent)=true then some (decide (x0.Slot<x1.Slot)) else some false))

theorem z7E {W w:World}(hE:Ext W w){z:List Value}{x0:D.Port}{G:List Value}{x1:D.Port}(H:z2M.ro W z x0) (L:z2M.ro W G x1){fuel:Nat}{r:Bool}(hm:z3e fuel x0 x1=some r):
  Calls Tryz.prog 74 ⟨[.agg ⟨z⟩,.agg ⟨G⟩]⟩ w (Ret fun v w8=>v=.bool r∧St w w8 []):=by
 have e1:=zn H;subst e1;have e2:=zn L;subst e2;refine into Tryz.func74 24 _ ?_;unfold z3e at hm;have hS:=St.start w;refine sq<|rg<|nw hS (fun g3 w4 e5 M=>?_);refine nw M (fun g7 X O o=>?_);refine rr 1 ?_;refine rn<|sq<|rg<|rr 1 ?_;refine l1 ((o.bring 1 rfl).box) 0 ?_;refine rr 1 ?_;refine l1 ((o.bring 0 rfl).box) 0 ?_;refine rr 2 ?_;refine rb 10 hm (fun hm=>?_) (fun hm=>?_)
 ·refine rr 14 ?_;refine rn<|rt ?_;cases hm;exact⟨_,.cons (.tmp rfl) .nil,rfl,(o.taken 0)⟩
 ·refine rr 1 ?_;refine l1 ((o.bring 1 rfl).box) 0 ?_;refine rr 1 ?_;refine l1 ((o.bring 0 rfl).box) 0 ?_;refine rr 2 ?_;refine rb 16 hm (fun hm=>?_) (fun hm=>?_)
  ·refine rr 1 ?_;refine l1 ((o.bring 1 rfl).box) 1 ?_;refine rr 1 ?_;refine l1 ((o.bring 0 rfl).box) 1 ?_;refine rr 4 ?_;refine rn<|rt ?_;cases hm;exact⟨_,.cons (.tmp rfl) .nil,rfl,(o.taken 0)⟩
  ·refine rr 8 ?_;refine rn<|rt ?_;cases hm;exact⟨_,.cons (.tmp rfl) .nil,rfl,(o.taken 0)⟩

end Go.E


