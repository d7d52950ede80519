/- Models of functions and proofs that the code runs as they say (written by program). Conditions: the model gives a value. -/
import Derived.Test.YtijgffjimnbcpaaGreatFA
namespace Go.E
open Go.RowKit Go.Proofs
set_option linter.unusedVariables false
set_option linter.unusedSimpArgs false
set_option maxHeartbeats 2000000
set_option maxRecDepth 100000

theorem zd0:Enters Tryz.prog 103:=⟨_,_,Tryz.func103,rfl,by kernel_rfl⟩
def z5n (fuel:Nat) (d:Unit):Option Bool:=some true
def z1J (fuel:Nat) (d:Int) (z:Bool):Option (Rd (Int) (Unit) (Bool)):=(if z=true then some (.ret false) else some (.next (w64 (d+1))))
def z2R (fuel:Nat) (x0:(List D.Agent)) (d:Int):Option (Rd (Int) (Unit) (Bool)):=(if(decide (d<(x0.length:Int)))=true then((idx x0 d).bind fun G=>((z1K fuel G).bind fun z=>(if(!z)=true then z1J fuel d true else((idx x0 d).bind fun H=>z1J fuel d (!((H.Kind == 1) == (d == 0))))))) else some (.brk ()))
def z33 (fuel:Nat) (x0:(List D.Agent)):Option (Bool):=((zd fuel (x0.length:Int) 1 600).bind fun r1=>(if(!r1)=true then some false else((iter (z2R fuel x0) fuel 0).bind fun o=>aft o (z5n fuel))))

theorem z7h {W w:World}(hE:Ext W w){Z:Option Addr}{a0:Nat}{x0:(List D.Agent)}(t0:ty40.ro W [sl Z x0 a0] x0){fuel:Nat}{r:Bool}(hm:z33 fuel x0=some r):
  Calls Tryz.prog 103 ⟨[sl Z x0 a0]⟩ w (Ret fun v w8=>v=.bool r∧St w w8 []):=by
 refine into Tryz.func103 30 _ ?_;unfold z33 at hm;have hS:=St.start w;refine sq<|rg<|rr 1 ?_;refine rn<|sq<|sq<|rg<|rr 2 ?_;obtain⟨r1,G0,hm⟩:=bS hm;refine ca z2o (zh (hE.trans hS.ext)  G0) (fun v3 w4 E0=>?_);obtain⟨rfl,F0⟩:=E0;have u0:=hS.join F0;refine rr 1 ?_;refine rn<|ci hm (fun hm=>?_) (fun hm=>?_)
 ·refine sq<|rg<|rr 1 ?_;refine rn<|rt ?_;cases hm;exact⟨_,.cons (.tmp rfl) .nil,rfl,u0⟩
 ·refine sp<|sq<|sq<|rg<|rr 1 ?_;refine rn ?_;obtain⟨H0,i0,hm⟩:=bS hm;refine ct (fun(v0:Unit) F w9=>H0=.inl v0∧Ext w4 w9∧St w w9 []∧F=[]) ?_ ?_
  ·rintro v0 F g1 ⟨j0,D0,e0,rfl⟩;subst j0;rw [z6] at hm;unfold z5n at hm;refine sq<|rg<|rr 1 ?_;refine rn<|rt ?_;cases hm;exact⟨_,.cons (.tmp rfl) .nil,rfl,e0⟩
  ·refine bk<|wk [0,3] ?_;refine it (fun(Y:Int) F w9=>Ext w4 w9∧St w w9 []∧F=[(0,sl Z x0 a0),(3,.int .i64 Y)]) i0 ⟨(Ext.refl _),u0,rfl⟩ ?_;rintro Y F K0 _ J0 ⟨L,z,rfl⟩ d O;unfold z2R at d;refine sq<|sq<|rg<|rr 4 ?_;refine rn<|ci d (fun d=>?_) (fun d=>?_)
   ·refine sp<|sq<|bk<|sq<|ct (fun(r0:Bool) F w9=>z1J fuel Y r0=some J0∧Ext K0 w9∧St w w9 []∧F=[(0,sl Z x0 a0),(3,.int .i64 Y),(29,.bool r0)]) ?_ ?_
    ·rintro r0 F i1 ⟨d,b0,M,rfl⟩;unfold z1J at d;refine ci d (fun d=>?_) (fun d=>?_)
     ·refine sq<|rg<|rr 1 ?_;refine rn<|rt ?_;cases d;cases O;have hm:some _=some _:=hm;cases hm;exact⟨_,.cons (.tmp rfl) .nil,rfl,M⟩
     ·refine sp<|rg<|rr 3 ?_;refine rn ?_;cases d;exact⟨_,_,rfl,⟨(L.trans b0),M,rfl⟩,rfl⟩
    ·refine rg<|rr 2 ?_;obtain⟨k1,o0,d⟩:=bS d;refine ix (hE.trans z.ext) t0 o0 (fun a1 B0 f0 X=>?_);obtain⟨N0,V0,O0,W0,y0,R0,S0⟩:=ze X;subst y0;obtain⟨e1,p0,d⟩:=bS d;refine ca zcD (z7A (hE.trans z.ext) X f0 p0) (fun f1 j1 d0=>?_);obtain⟨rfl,H⟩:=d0;have G:=z.join H;refine rr 2 ?_;refine rb 19 d (fun d=>?_) (fun d=>?_)
     ·refine rr 10 ?_;refine rn ?_;exact⟨true,_,⟨d,H.ext,G,rfl⟩,rfl⟩
     ·refine rr 2 ?_;obtain⟨L0,q0,d⟩:=bS d;refine ix (hE.trans G.ext) t0 q0 (fun d1 C0 g0 k0=>?_);obtain⟨P0,X0,Q0,Y0,A0,T0,U0⟩:=ze k0;subst A0;refine rr 1 ?_;refine l1 (At.ext (hE.trans G.ext) g0) 0 ?_;refine rr 5 ?_;refine rn ?_;exact⟨!((L0.Kind == 1) == (Y == 0)),_,⟨d,H.ext,G,rfl⟩,rfl⟩
   ·refine xt ?_;cases d;exact⟨_,_,⟨O,L,z,rfl⟩,rfl⟩

theorem zcZ:Enters Tryz.prog 104:=⟨_,_,Tryz.func104,rfl,by kernel_rfl⟩
def z43 (fuel:Nat) (x0:(List D.Agent)) (x1:D.Port):Option (Bool):=((zd fuel x1.Agent 0 (w64 ((x0.length:Int) - 1))).bind fun d=>(if d=true then((idx x0 x1.Agent).bind fun G=>((zd fuel x1.Slot 0 (w64 ((G.Ports.length:Int) - 1))).bind fun z=>some z)) else some false))

theorem z7W {W w:World}(hE:Ext W w){e0:Option Addr}{i0:Nat}{x0:(List D.Agent)}{f0:List Value}{x1:D.Port}(o0:ty40.ro W [sl e0 x0 i0] x0) (p0:z2N.ro W f0 x1){fuel:Nat}{r:Bool}(hm:z43 fuel x0 x1=some r):
  Calls Tryz.prog 104 ⟨[sl e0 x0 i0,.agg ⟨f0⟩]⟩ w (Ret fun v w8=>v=.bool r∧St w w8 []):=by
 have e1:=zc p0;subst e1;refine into Tryz.func104 24 _ ?_;unfold z43 at hm;have hS:=St.start w;refine sq<|rg<|nw hS (fun g2 w3 e4 G=>?_);refine rr 1 ?_;refine rn<|sq<|dn 0 mixed 20 [([],1048575),([0],1048574),([],1048575),([2],1048571),([3],1048567),([1,4],1048557),([5,5],1048543),([6],1048511),([7,6],1048383),([6],1048511),([6],1048511),([10,6],1047487),([9,11,6],1045951),([12,6],1044415),([13,6],1040319),([14,6],1032127),([15,6],1015743),([8,16,6,6],982719),([6,17],917439),([18,17,0,1,2,3,4,5,6,7,8,9,10,11,12,13,14,15,16,17,18],786431)] G.ext (fun d=>?_);have g0:=G.step (Ext.draw _);refine dr 16 d [0,2,3,4] ?_;refine dl d 1 ((G.bring 0 rfl).box) 0 ?_;obtain⟨B0,a0,hm⟩:=bS hm;refine o1 d 5 (mc d z2o (zh (hE.trans g0.ext)  a0) (fun D0 F0 M=>?_));obtain⟨rfl,H⟩:=M;refine⟨H.ext,?_⟩;have z:=g0.join H;refine dr 13 d [6] ?_;refine dw [0,3,4,11] ?_;refine db 11 hm (fun hm=>?_) (fun hm=>?_)
 ·refine dr 10 d [7,9,10] ?_;refine dl d 8 ((G.bring 0 rfl).box) 1 ?_;refine dl d 11 ((G.bring 0 rfl).box) 0 ?_;obtain⟨H0,b0,hm⟩:=bS hm;refine dx (hE.trans G.ext) d 12 o0 b0 (fun A0 k0 Y Z=>?_);obtain⟨q0,v0,r0,y0,j0,t0,u0⟩:=ze Z;subst j0;refine dr 6 d [13] ?_;refine dw [4,11,13,18] ?_;refine dl d 14 (At.ext (hE.trans G.ext) Y) 4 ?_;refine dr 3 d [15,16] ?_;obtain⟨C0,d0,hm⟩:=bS hm;refine o1 d 17 (mc d z2o (zh (hE.trans z.ext)  d0) (fun E0 G0 O=>?_));obtain⟨rfl,L⟩:=O;refine⟨L.ext,?_⟩;have X:=z.join L;refine dr 0 d [18,19] ?_;refine dw [4] ?_;refine dd d ?_;refine rt ?_;cases hm;exact⟨_,.cons (.tmp rfl) .nil,rfl,(X.taken 0)⟩
 ·refine dr 0 d [7,8,9,10,11,12,13,14,15,16,17,18,19] ?_;refine dw [4] ?_;refine dd d ?_;refine rt ?_;cases hm;exact⟨_,.cons (.tmp rfl) .nil,rfl,(z.taken 0)⟩

theorem zaX:Enters Tryz.prog 56:=⟨_,_,Tryz.func56,rfl,by kernel_rfl⟩
def z6t (fuel:Nat) (d:Unit):Option Bool:=some true
def z6s (fuel:Nat) (d:Int) (z:Unit):Option (Rd (Int) (Unit) (Bool)):=some (.next (w64 (d+1)))
def z2y (fuel:Nat) (d:Int) (z:Bool):Option (Rd (Int) (Unit) (Rd (Int) (Unit) (Bool))):=(if z=true then some (.ret (.ret false)) else some (.next (w64 (d+1))))
def z4D (fuel:Nat) (x0:D.Net) (H:Int) (L:D.Agent) (d:Int):Option (Rd (Int) (Unit) (Rd (Int) (Unit) (Bool))):=(if(decide (d<(L.Ports.length:Int)))=true then((idx L.Ports d).bind fun G=>(if(((G.Agent:Int) == H) && (((G.Slot:Int) == d) && true))=true then z2y fuel d true else((z43 fuel x0.Agents G).bind fun M=>(if(!M)=true then z2y fuel d true else((idx x0.Agents G.Agent).bind fun O=>((idx O.Ports G.Slot).bind fun z=>z2y fuel d (!(((z.Agent:Int) == H) && (((z.Slot:Int) == d) && true))))))))) else some (.brk ()))
def z4E (fuel:Nat) (x0:D.Net) (d:Int):Option (Rd (Int) (Unit) (Bool)):=(if(decide (d<(x0.Agents.length:Int)))=true then((idx x0.Agents d).bind fun z=>((iter (z4D fuel x0 d z) fuel 0).bind fun o=>aft o (z6s fuel d))) else some (.brk ()))
def z4r (fuel:Nat) (x0:D.Net):Option (Bool):=((z33 fuel x0.Agents).bind fun r5=>(if(!r5)=true then some false else((iter (z4E fuel x0) fuel 0).bind fun o=>aft o (z6t fuel))))

theorem z70 {W w:World}(hE:Ext W w){Z:Addr}{Y0:List Value}{x0:D.Net}(p1:ty42.ro W Y0 x0) (b0:At W Z Y0){fuel:Nat}{r:Bool}(hm:z4r fuel x0=some r):
  Calls Tryz.prog 56 ⟨[.pointer (some Z)]⟩ w (Ret fun v w8=>v=.bool r∧St w w8 []):=by
 obtain⟨A1,k2,e4,h3⟩:=zR p1;subst e4;refine into Tryz.func56 77 _ ?_;unfold z4r at hm;have hS:=St.start w;refine sq<|rg<|rr 1 ?_;refine rn<|sq<|sq<|rg<|rr 3 ?_;refine l1 (At.ext (hE.trans hS.ext) b0) 0 ?_;obtain⟨r5,v1,hm⟩:=bS hm;refine ca zd0 (z7h (hE.trans hS.ext) h3 v1) (fun v7 a2 y0=>?_);obtain⟨rfl,A0⟩:=y0;have d0:=hS.join A0;refine rr 1 ?_;refine rn<|ci hm (fun hm=>?_) (fun hm=>?_)
 ·refine sq<|rg<|rr 1 ?_;refine rn<|rt ?_;cases hm;exact⟨_,.cons (.tmp rfl) .nil,rfl,d0⟩
 ·refine sp<|sq<|sq<|rg<|rr 1 ?_;refine rn ?_;obtain⟨B1,L0,hm⟩:=bS hm;refine ct (fun(e1:Unit) F w9=>B1=.inl e1∧St w w9 []∧F=[]) ?_ ?_
  ·rintro e1 F d2 ⟨O0,C0,rfl⟩;subst O0;rw [z6] at hm;unfold z6t at hm;refine sq<|rg<|rr 1 ?_;refine rn<|rt ?_;cases hm;exact⟨_,.cons (.tmp rfl) .nil,rfl,C0⟩
  ·refine bk<|wk [0,3] ?_;refine it (fun(a0:Int) F w9=>St w w9 []∧F=[(0,.pointer (some Z)),(3,.int .i64 a0)]) L0 ⟨d0,rfl⟩ ?_;rintro a0 F e2 _ U1 ⟨L,rfl⟩ G j0;unfold z4E at G;refine sq<|sq<|rg<|rr 4 ?_;refine l1 (At.ext (hE.trans L.ext) b0) 0 ?_;refine rr 2 ?_;refine rn<|ci G (fun G=>?_) (fun G=>?_)
   ·refine sp<|sq<|bk<|sq<|rg<|rr 3 ?_;refine l1 (At.ext (hE.trans L.ext) b0) 0 ?_;refine rr 1 ?_;obtain⟨p2,T0,G⟩:=bS G;refine ix (hE.trans L.ext) h3 T0 (fun d1 k1 i0 Q0=>?_);obtain⟨H1,R1,J1,S1,i1,P1,t1⟩:=ze Q0;subst i1;refine rr 1 ?_;refine rn<|sq<|rg<|rr 1 ?_;refine rn ?_;obtain⟨C1,N0,G⟩:=bS G;refine ct (fun(f1:Unit) F w9=>C1=.inl f1∧St w w9 []∧F=[(0,.pointer (some Z)),(3,.int .i64 a0)]) ?_ ?_
    ·rintro f1 F f2 ⟨P0,D0,rfl⟩;subst P0;rw [z6] at G;unfold z6s at G;refine rg<|rr 3 ?_;refine rn ?_;cases G;exact⟨_,_,rfl,⟨D0,rfl⟩,rfl⟩
    ·refine bk<|wk [0,3,4,5] ?_;refine it (fun(q0:Int) F w9=>St w w9 []∧F=[(0,.pointer (some Z)),(3,.int .i64 a0),(4,.pointer (some d1)),(5,.int .i64 q0)]) N0 ⟨L,rfl⟩ ?_;rintro q0 F g2 _ D1 ⟨X,rfl⟩ d k0;unfold z4D at d;refine sq<|sq<|rg<|rr 4 ?_;refine l1 (At.ext (hE.trans X.ext) i0) 4 ?_;refine rr 2 ?_;refine rn<|ci d (fun d=>?_) (fun d=>?_)
     ·refine sp<|sq<|bk<|sq<|rg<|rr 2 ?_;refine qt (qb) ?_;refine nw X (fun N1 i2 L1 E0=>?_);have F0:=E0.bring 0 rfl;refine so (A:=[]) F0 0 (fun j2 O=>?_);refine rn<|sq<|rg<|rr 3 ?_;refine l1 (At.ext (hE.trans O.ext) i0) 4 ?_;refine rr 1 ?_;obtain⟨G1,U0,d⟩:=bS d;refine ix (hE.trans O.ext) t1 U0 (fun V1 m1 J0 R0=>?_);have j1:=zc R0;subst j1;refine lN (At.ext (hE.trans O.ext) J0) ?_;refine nw O (fun O1 m2 M1 G0=>?_);have H0:=G0.bring 0 rfl;refine so (A:=[]) H0 0 (fun F1 H=>?_);refine rn<|sq<|ct (fun(X0:Bool) F w9=>z2y fuel q0 X0=some D1∧Ext F1 w9∧St w w9 []∧F=[(0,.pointer (some Z)),(3,.int .i64 a0),(4,.pointer (some d1)),(5,.int .i64 q0),(76,.bool X0)]) ?_ ?_
      ·rintro X0 F n2 ⟨d,u1,e0,rfl⟩;unfold z2y at d;refine ci d (fun d=>?_) (fun d=>?_)
       ·refine sq<|rg<|rr 1 ?_;refine rn<|rt ?_;cases d;cases k0;have G:some _=some _:=G;cases G;cases j0;have hm:some _=some _:=hm;cases hm;exact⟨_,.cons (.tmp rfl) .nil,rfl,e0⟩
       ·refine sp<|rg<|rr 3 ?_;refine rn ?_;cases d;exact⟨_,_,rfl,⟨e0,rfl⟩,rfl⟩
      ·refine dn 0 mixed 29 [([],536870911),([],536870911),([0,1],536870908),([2],536870907),([3],536870903),([4,3],536870887),([5,3],536870871),([6,3],536870839),([3],536870903),([7,8,3,3],536870519),([9,3],536870391),([3,10],536869879),([11,9],536868863),([12],536866815),([13,12],536858623),([14,12],536850431),([15,12],536834047),([12],536866815),([17,12],536735743),([16,18,12],536539135),([19,12],536342527),([20,12],535818239),([12],536866815),([22,12],532672511),([21,23,12],526381055),([24,12],520089599),([12],536866815),([25,26,12],436203519),([12,27],402649087)] H.ext (fun z=>?_);have Y:=H.step (Ext.draw _);refine dL z 0 ((H.bring 0 rfl).box) ?_;refine dL z 1 ((H.bring 1 rfl).box) ?_;refine dr 25 z [2,3] ?_;refine dw [0,3,4,5,6,7,51] ?_;refine db 51 d (fun d=>?_) (fun d=>?_)
       ·refine dr 0 z [4,5,6,7,8,9,10,11,12,13,14,15,16,17,18,19,20,21,22,23,24,25,26,27,28] ?_;refine dw [0,3,4,5,76] ?_;refine dd z ?_;exact⟨true,_,⟨d,(Ext.draw _),(Y.taken 0),rfl⟩,rfl⟩
       ·refine dr 22 z [4,5,6] ?_;refine dl z 7 (At.ext (hE.trans H.ext) b0) 0 ?_;refine dL z 8 ((H.bring 0 rfl).box) ?_;obtain⟨X1,V0,d⟩:=bS d;refine o1 z 9 (mc z zcZ (z7W (hE.trans Y.ext) h3 (zD G1) V0) (fun Y1 o2 B0=>?_));obtain⟨rfl,M⟩:=B0;refine⟨M.ext,?_⟩;have f0:=Y.join M;refine dr 16 z [10,11,12] ?_;refine dw [0,3,4,5,6,7,60] ?_;refine db 60 d (fun d=>?_) (fun d=>?_)
        ·refine dr 0 z [13,14,15,16,17,18,19,20,21,22,23,24,25,26,27,28] ?_;refine dw [0,3,4,5,76] ?_;refine dd z ?_;exact⟨true,_,⟨d,((Ext.draw _).trans M.ext),(f0.taken 0),rfl⟩,rfl⟩
        ·refine dr 11 z [13,14,15,17,22] ?_;refine dl z 16 (At.ext (hE.trans H.ext) b0) 0 ?_;refine dl z 18 ((H.bring 0 rfl).box) 0 ?_;obtain⟨q2,W0,d⟩:=bS d;refine dx (hE.trans H.ext) z 19 h3 W0 (fun W1 n1 K0 S0=>?_);obtain⟨K1,T1,g1,y1,t0,Q1,v0⟩:=ze S0;subst t0;refine dr 7 z [20] ?_;refine dw [0,3,4,5,6,60,68,70] ?_;refine dl z 21 (At.ext (hE.trans H.ext) K0) 4 ?_;refine dl z 23 ((H.bring 0 rfl).box) 1 ?_;obtain⟨r0,p0,d⟩:=bS d;refine dx (hE.trans H.ext) z 24 v0 p0 (fun E1 a1 g0 o0=>?_);have u0:=zc o0;subst u0;refine dL z 25 (At.ext (hE.trans H.ext) g0) ?_;refine dL z 26 ((H.bring 1 rfl).box) ?_;refine dr 0 z [27,28] ?_;refine dw [0,3,4,5,76] ?_;refine dd z ?_;exact⟨!(((r0.Agent:Int) == a0) && (((r0.Slot:Int) == q0) && true)),_,⟨d,((Ext.draw _).trans M.ext),(f0.taken 0),rfl⟩,rfl⟩
     ·refine xt ?_;cases d;exact⟨_,_,⟨k0,X,rfl⟩,rfl⟩
   ·refine xt ?_;cases G;exact⟨_,_,⟨j0,L,rfl⟩,rfl⟩

theorem zcV:Enters Tryz.prog 108:=⟨_,_,Tryz.func108,rfl,by kernel_rfl⟩
def z5y (fuel:Nat) (t7:Unit):Option Bool:=some true
def z1Q (fuel:Nat) (s6:Int) (d:Bool):Option (Rd (Int) (Unit) (Bool)):=(if d=true then some (.ret false) else some (.next (w64 (s6+1))))
def z30 (fuel:Nat) (x0:(List D.Agent)) (s6:Int):Option (Rd (Int) (Unit) (Bool)):=(if(decide (s6<(x0.length:Int)))=true then((idx x0 s6).bind fun d=>((zX fuel d).bind fun z=>(if(!z)=true then z1Q fuel s6 true else z1Q fuel s6 (!((d.Kind == 1) == (s6 == 0)))))) else some (.brk ()))
def zY (fuel:Nat) (x0:(List D.Agent)) (t1:Bool):Option Bool:=(if t1=true then some false else((iter (z30 fuel x0) fuel 0).bind fun o=>aft o (z5y fuel)))
def z3d (fuel:Nat) (x0:(List D.Agent)):Option (Bool):=(if(decide ((x0.length:Int)<1))=true then zY fuel x0 true else zY fuel x0 (decide ((x0.length:Int)>600)))

theorem z7o {W w:World}(hE:Ext W w){M:Option Addr}{Y:Nat}{x0:(List D.Agent)}(u0:ty40.ro W [sl M x0 Y] x0){fuel:Nat}{r:Bool}(hm:z3d fuel x0=some r):
  Calls Tryz.prog 108 ⟨[sl M x0 Y]⟩ w (Ret fun v w8=>v=.bool r∧St w w8 []):=by
 refine into Tryz.func108 32 _ ?_;unfold z3d at hm;have hS:=St.start w;refine sq<|rg<|rr 1 ?_;refine rn<|sq<|sq<|ct (fun(t1:Bool) F w9=>zY fuel x0 t1=some r∧Ext w w9∧St w w9 []∧F=[(0,sl M x0 Y),(12,.bool t1)]) ?_ ?_
 ·rintro t1 F w4 ⟨hm,J0,p0,rfl⟩;unfold zY at hm;refine ci hm (fun hm=>?_) (fun hm=>?_)
  ·refine sq<|rg<|rr 1 ?_;refine rn<|rt ?_;cases hm;exact⟨_,.cons (.tmp rfl) .nil,rfl,p0⟩
  ·refine sp<|sq<|sq<|rg<|rr 3 ?_;refine rn ?_;obtain⟨B0,f0,hm⟩:=bS hm;refine ct (fun(t7:Unit) F w9=>B0=.inl t7∧St w w9 []∧F=[]) ?_ ?_
   ·rintro t7 F Q0 ⟨g0,a0,rfl⟩;subst g0;rw [z6] at hm;unfold z5y at hm;refine sq<|rg<|rr 1 ?_;refine rn<|rt ?_;cases hm;exact⟨_,.cons (.tmp rfl) .nil,rfl,a0⟩
   ·refine bk<|wk [13,14,15] ?_;refine it (fun(s6:Int) F w9=>St w w9 []∧F=[(13,sl M x0 Y),(14,.int .i64 (x0.length:Int)),(15,.int .i64 s6)]) f0 ⟨p0,rfl⟩ ?_;rintro s6 F R0 _ C0 ⟨z,rfl⟩ d X;unfold z30 at d;refine sq<|rg<|rr 1 ?_;refine rn<|sq<|ci d (fun d=>?_) (fun d=>?_)
    ·refine sp<|sq<|bk<|sq<|rg<|rr 1 ?_;obtain⟨q0,j0,d⟩:=bS d;refine ix (hE.trans z.ext) u0 j0 (fun N0 t0 e0 i0=>?_);obtain⟨E0,K0,F0,L0,r0,v0,y0⟩:=ze i0;subst r0;refine lN (At.ext (hE.trans z.ext) e0) ?_;refine nw z (fun H0 S0 G0 b0=>?_);refine rr 1 ?_;have d0:=b0.bring 0 rfl;refine so (A:=[]) d0 0 (fun D0 H=>?_);refine rn<|sq<|ct (fun(o0:Bool) F w9=>z1Q fuel s6 o0=some C0∧Ext D0 w9∧St w w9 []∧F=[(13,sl M x0 Y),(14,.int .i64 (x0.length:Int)),(15,.int .i64 s6),(30,.bool o0)]) ?_ ?_
     ·rintro o0 F T0 ⟨d,A0,O,rfl⟩;unfold z1Q at d;refine ci d (fun d=>?_) (fun d=>?_)
      ·refine sq<|rg<|rr 1 ?_;refine rn<|rt ?_;cases d;cases X;have hm:some _=some _:=hm;cases hm;exact⟨_,.cons (.tmp rfl) .nil,rfl,O⟩
      ·refine sp<|rg<|rr 2 ?_;refine rn ?_;cases d;exact⟨_,_,rfl,⟨O,rfl⟩,rfl⟩
     ·refine rg<|lN ((H.bring 0 rfl).box) ?_;obtain⟨O0,k0,d⟩:=bS d;refine ca zcA (z79 (hE.trans H.ext) (z8H q0 v0 y0) k0) (fun P0 U0 Z=>?_);obtain⟨rfl,G⟩:=Z;have L:=H.join G;refine rr 2 ?_;refine rb 23 d (fun d=>?_) (fun d=>?_)
      ·refine rr 7 ?_;refine rn ?_;exact⟨true,_,⟨d,G.ext,(L.taken 0),rfl⟩,rfl⟩
      ·refine rr 1 ?_;refine l1 ((L.bring 0 rfl).box) 0 ?_;refine rr 5 ?_;refine rn ?_;exact⟨!((q0.Kind == 1) == (s6 == 0)),_,⟨d,G.ext,(L.taken 0),rfl⟩,rfl⟩
    ·refine xt ?_;cases d;exact⟨_,_,⟨X,z,rfl⟩,rfl⟩
 ·refine rg<|rr 4 ?_;refine rb 8 hm (fun hm=>?_) (fun hm=>?_)
  ·refine rr 4 ?_;refine rn ?_;exact⟨true,_,⟨hm,(Ext.refl _),hS,rfl⟩,rfl⟩
  ·refine rr 4 ?_;refine rn ?_;exact⟨decide ((x0.length:Int)>600),_,⟨hm,(Ext.refl _),hS,rfl⟩,rfl⟩

theorem z8n:Enters Tryz.prog 110:=⟨_,_,Tryz.func110,rfl,by kernel_rfl⟩
def z4m (fuel:Nat) (t6:(List D.Port)):Option (List D.Port):=some t6
def z5z (fuel:Nat) (s5:(List D.Port) × Int) (d:(List D.Port)):Option (Rd ((List D.Port) × Int) ((List D.Port)) ((List D.Port))):=some (.next (d,w64 (s5.2+1)))
def z1R (fuel:Nat) (s5:(List D.Port) × Int) (z:D.Agent) (d:Int × (List D.Port)):Option (Rd (Int × (List D.Port)) ((List D.Port)) (Rd ((List D.Port) × Int) ((List D.Port)) ((List D.Port)))):=(if(decide (d.1<(z.Ports.length:Int)))=true then(if decide ((d.2.length:Int)+(([(⟨s5.2,d.1⟩:D.Port)]:(List D.Port)).length:Int)≤4294967296)=true then some (.next (w64 (d.1+1),(d.2++([(⟨s5.2,d.1⟩:D.Port)]:(List D.Port))))) else none) else some (.brk d.2))
def z1S (fuel:Nat) (x0:D.Net) (s5:(List D.Port) × Int):Option (Rd ((List D.Port) × Int) ((List D.Port)) ((List D.Port))):=(if(decide (s5.2<(x0.Agents.length:Int)))=true then((idx x0.Agents s5.2).bind fun d=>((iter (z1R fuel s5 d) fuel (0,s5.1)).bind fun o=>aft o (z5z fuel s5))) else some (.brk s5.1))
def z1m (fuel:Nat) (x0:D.Net):Option ((List D.Port)):=((iter (z1S fuel x0) fuel ([],0)).bind fun o=>aft o (z4m fuel))

theorem z4T {W w:World}(hE:Ext W w){K0:Addr}{J0:List Value}{x0:D.Net}(Q0:ty42.ro W J0 x0) (P0:At W K0 J0){fuel:Nat}{r:(List D.Port)}(hm:z1m fuel x0=some r):
  Calls Tryz.prog 110 ⟨[.pointer (some K0)]⟩ w (Ret fun v w8=>∃ A0 k0,v=sl A0 r k0∧St w w8 [ow z3v A0 r k0]):=by
 obtain⟨A1,k2,e4,h3⟩:=zR Q0;subst e4;refine into Tryz.func110 32 _ ?_;unfold z1m at hm;have hS:=St.start w;refine sq<|rg<|rr 1 ?_;refine rn<|sq<|rg<|rr 1 ?_;refine rn<|sq<|sq<|rg<|rr 3 ?_;refine l1 (At.ext (hE.trans hS.ext) P0) 0 ?_;refine rr 2 ?_;refine rn ?_;obtain⟨S0,y0,hm⟩:=bS hm;refine ct (fun(t6:(List D.Port)) F w9=>∃ Z d0,S0=.inl t6∧St w w9 [ow z3v Z t6 d0]∧F=[(3,sl Z t6 d0)]) ?_ ?_
 ·rintro t6 F p1 ⟨Z,d0,C0,i0,rfl⟩;subst C0;rw [z6] at hm;unfold z4m at hm;refine sq<|rg<|rr 2 ?_;refine rn<|rt ?_;cases hm;exact⟨_,.cons (.tmp rfl) .nil,Z,d0,rfl,i0⟩
 ·refine bk ?_;have j0:=hS.nilSl z2N 141;refine wk [3,10,11,12] ?_;refine it (fun(s5:(List D.Port) × Int) F w9=>∃ L Y,St w w9 [ow z3v L s5.1 Y]∧F=[(3,sl L s5.1 Y),(10,sl A1 x0.Agents k2),(11,.int .i64 (x0.Agents.length:Int)),(12,.int .i64 s5.2)]) y0 ⟨none,0,j0,rfl⟩ ?_;rintro s5 F t1 _ k1 ⟨L,Y,G,rfl⟩ d D0;unfold z1S at d;refine sq<|rg<|rr 1 ?_;refine rn<|sq<|ci d (fun d=>?_) (fun d=>?_)
  ·refine sp<|sq<|bk<|sq<|rg<|rr 1 ?_;obtain⟨U0,H0,d⟩:=bS d;refine ix (hE.trans G.ext) h3 H0 (fun n1 O0 u0 G0=>?_);obtain⟨V0,g1,W0,i1,N0,e1,f1⟩:=ze G0;subst N0;refine lN (At.ext (hE.trans G.ext) u0) ?_;refine nw G (fun d1 u1 Y0 o0=>?_);refine rr 1 ?_;have p0:=o0.bring 0 rfl;refine so (A:=[]) p0 0 (fun v1 M=>?_);refine rn<|sq<|rg<|rr 1 ?_;refine l1 ((M.bring 0 rfl).box) 4 ?_;refine rr 2 ?_;refine rn ?_;obtain⟨T0,B0,d⟩:=bS d;refine ct (fun(g0:(List D.Port)) F w9=>∃ b0 f0,T0=.inl g0∧St w w9 [ow z3v b0 g0 f0]∧F=[(3,sl b0 g0 f0),(10,sl A1 x0.Agents k2),(11,.int .i64 (x0.Agents.length:Int)),(12,.int .i64 s5.2)]) ?_ ?_
   ·rintro g0 F y1 ⟨b0,f0,E0,q0,rfl⟩;subst E0;rw [z6] at d;unfold z5z at d;refine rg<|rr 2 ?_;refine rn ?_;cases d;exact⟨_,_,rfl,⟨b0,f0,q0,rfl⟩,rfl⟩
   ·refine bk<|wk [3,4,10,11,12,19,20] ?_;refine it (fun(H:Int × (List D.Port)) F w9=>∃ a0 e0,St w w9 [ow z3v a0 H.2 e0]∧F=[(3,sl a0 H.2 e0),(4,.int .i64 s5.2),(10,sl A1 x0.Agents k2),(11,.int .i64 (x0.Agents.length:Int)),(12,.int .i64 s5.2),(19,.int .i64 (U0.Ports.length:Int)),(20,.int .i64 H.1)]) B0 ⟨L,Y,((M.bring 1 rfl).taken 1),rfl⟩ ?_;rintro H F B1 _ m1 ⟨a0,e0,O,rfl⟩ z F0;unfold z1R at z;refine sq<|rg<|rr 1 ?_;refine rn<|sq<|ci z (fun z=>?_) (fun z=>?_)
    ·refine sp<|sq<|bk<|sq<|rg<|rr 2 ?_;refine rn<|rg<|rr 3 ?_;refine qt (qb) ?_;refine ns (O.flatEls (U:=z2N) (els:=[.int .i64 s5.2,.int .i64 H.1]) (ys:=[(⟨s5.2,H.1⟩:D.Port)]) ⟨[.int .i64 s5.2,.int .i64 H.1],_,[],[],rfl,rfl,(z5U (c:=(⟨s5.2,H.1⟩:D.Port)) rfl),⟨rfl,rfl⟩⟩) (fun X0 j1 C1 a1 r0=>?_);have X:=r0.bring 1 rfl;obtain⟨v0,z⟩:=iS z;refine ap (Flat.map (Flat.pair Flat.int (Flat.pair Flat.int Flat.unit))) X ((X.bring 1 rfl).own) v0 (fun L0 R0 D1 t0=>?_);refine rr 1 ?_;refine rn<|rg<|rr 2 ?_;refine rn ?_;cases z;exact⟨_,_,rfl,⟨L0,R0,(t0.taken 1),rfl⟩,rfl⟩
    ·refine xt ?_;cases z;exact⟨_,_,⟨a0,e0,F0,O,rfl⟩,rfl⟩
  ·refine xt ?_;cases d;exact⟨_,_,⟨L,Y,D0,G,rfl⟩,rfl⟩

theorem zcz:Enters Tryz.prog 167:=⟨_,_,Tryz.func167,rfl,by kernel_rfl⟩
def zr (fuel:Nat) (t2:Unit):Option Int:=some (-1)
def z9 (fuel:Nat) (x0:(List D.Port)) (x1:D.Port→Option Bool) (s1:Int):Option (Rd (Int) (Unit) (Int)):=(if(decide (s1<(x0.length:Int)))=true then((idx x0 s1).bind fun z=>((x1 z).bind fun d=>(if d=true then some (.ret s1) else some (.next (w64 (s1+1)))))) else some (.brk ()))
def zm (fuel:Nat) (x0:(List D.Port)) (x1:D.Port→Option Bool):Option (Int):=((iter (z9 fuel x0 x1) fuel 0).bind fun o=>aft o (zr fuel))

theorem z3x {W w:World}(hE:Ext W w){O:Option Addr}{f0:Nat}{x0:(List D.Port)}{f1_:Nat}{u1_:List Value}{x1:D.Port→Option Bool}(o0:z3v.ro W [sl O x0 f0] x0) (g0:Enters Tryz.prog f1_∧∀ {w9:World},Ext W w9→∀ {cz0:List Value}{z0:D.Port}{y9:Bool},z2N.ro w9 cz0 z0→x1 z0=some y9→Calls Tryz.prog f1_ ⟨[.agg ⟨cz0⟩]++u1_⟩ w9 (Ret fun v w8=>v=.bool y9∧St w9 w8 [])){fuel:Nat}{r:Int}(hm:zm fuel x0 x1=some r):
  Calls Tryz.prog 167 ⟨[sl O x0 f0,.func (.func f1_) #[] ⟨u1_⟩]⟩ w (Ret fun v w8=>v=.int .i64 r∧St w w8 []):=by
 refine into Tryz.func167 19 _ ?_;unfold zm at hm;have hS:=St.start w;refine sq<|rg<|rr 1 ?_;refine rn<|sq<|sq<|rg<|rr 3 ?_;refine rn ?_;obtain⟨p0,a0,hm⟩:=bS hm;refine ct (fun(t2:Unit) F w9=>p0=.inl t2∧Ext w w9∧St w w9 []∧F=[]) ?_ ?_
 ·rintro t2 F w7 ⟨b0,q0,Y,rfl⟩;subst b0;rw [z6] at hm;unfold zr at hm;refine sq<|rg<|rr 1 ?_;refine rn<|rt ?_;cases hm;exact⟨_,.cons (.tmp rfl) .nil,rfl,Y⟩
 ·refine bk<|wk [0,1,7,8] ?_;refine it (fun(s1:Int) F w9=>Ext w w9∧St w w9 []∧F=[(0,sl O x0 f0),(1,.func (.func f1_) #[] ⟨u1_⟩),(7,.int .i64 (x0.length:Int)),(8,.int .i64 s1)]) a0 ⟨(Ext.refl _),hS,rfl⟩ ?_;rintro s1 F y0 _ r0 ⟨i0,z,rfl⟩ d L;unfold z9 at d;refine sq<|rg<|rr 1 ?_;refine rn<|sq<|ci d (fun d=>?_) (fun d=>?_)
  ·refine sp<|sq<|bk<|sq<|rg<|rr 2 ?_;refine rn<|sq<|rg<|rr 3 ?_;obtain⟨B0,d0,d⟩:=bS d;refine ix (hE.trans z.ext) o0 d0 (fun t0 k0 Z M=>?_);have j0:=zc M;subst j0;refine lN (At.ext (hE.trans z.ext) Z) ?_;obtain⟨u0,e0,d⟩:=bS d;refine ca g0.1 (g0.2 (hE.trans z.ext) (z2N.ext (hE.trans z.ext) M) e0) (fun v0 A0 X=>?_);obtain⟨rfl,G⟩:=X;have H:=z.join G;refine rn<|ci d (fun d=>?_) (fun d=>?_)
   ·refine sq<|rg<|rr 2 ?_;refine rn<|rt ?_;cases d;cases L;have hm:some _=some _:=hm;cases hm;exact⟨_,.cons (.tmp rfl) .nil,rfl,H⟩
   ·refine sp<|rg<|rr 2 ?_;refine rn ?_;cases d;exact⟨_,_,rfl,⟨(i0.trans G.ext),H,rfl⟩,rfl⟩
  ·refine xt ?_;cases d;exact⟨_,_,⟨L,i0,z,rfl⟩,rfl⟩

theorem zcU:Enters Tryz.prog 109:=⟨_,_,Tryz.func109,rfl,by kernel_rfl⟩
def za (fuel:Nat) (x0:(List D.Port)) (x1:D.Port→Option Bool):Option (Bool):=((zm fuel x0 x1).bind fun r1=>some (decide (r1≥0)))

theorem z31 {W w:World}(hE:Ext W w){d:Option Addr}{z:Nat}{x0:(List D.Port)}{f1_:Nat}{u1_:List Value}{x1:D.Port→Option Bool}(G:z3v.ro W [sl d x0 z] x0) (H:Enters Tryz.prog f1_∧∀ {w9:World},Ext W w9→∀ {cz0:List Value}{z0:D.Port}{y9:Bool},z2N.ro w9 cz0 z0→x1 z0=some y9→Calls Tryz.prog f1_ ⟨[.agg ⟨cz0⟩]++u1_⟩ w9 (Ret fun v w8=>v=.bool y9∧St w9 w8 [])){fuel:Nat}{r:Bool}(hm:za fuel x0 x1=some r):
  Calls Tryz.prog 109 ⟨[sl d x0 z,.func (.func f1_) #[] ⟨u1_⟩]⟩ w (Ret fun v w8=>v=.bool r∧St w w8 []):=by
 refine into Tryz.func109 9 _ ?_;unfold za at hm;have hS:=St.start w;refine sq<|rg<|rr 1 ?_;refine rn<|sq<|rg<|rr 2 ?_;obtain⟨r1,X,hm⟩:=bS hm;refine ca zcz (z3x (hE.trans hS.ext) G H X) (fun v3 w4 L=>?_);obtain⟨rfl,M⟩:=L;have O:=hS.join M;refine rr 2 ?_;refine rn<|rt ?_;cases hm;exact⟨_,.cons (.tmp rfl) .nil,rfl,O⟩

theorem z7d:Enters Tryz.prog 112:=⟨_,_,Tryz.func112,rfl,by kernel_rfl⟩
def z19 (fuel:Nat) (x0:D.Net) (x1:D.Port):Option (D.Port):=((idx x0.Agents x1.Agent).bind fun z=>((idx z.Ports x1.Slot).bind fun d=>some (⟨d.Agent,d.Slot⟩:D.Port)))

theorem z4k {W w:World}(hE:Ext W w){f0:Addr}{d0:List Value}{x0:D.Net}{e0:List Value}{x1:D.Port}(p0:ty42.ro W d0 x0) (o0:At W f0 d0) (q0:z2N.ro W e0 x1){fuel:Nat}{r:D.Port}(hm:z19 fuel x0 x1=some r):
  Calls Tryz.prog 112 ⟨[.pointer (some f0),.agg ⟨e0⟩]⟩ w (Ret fun v w8=>v=.agg ⟨[.int .i64 r.Agent,.int .i64 r.Slot]⟩∧St w w8 []):=by
 obtain⟨A1,k2,e4,h3⟩:=zR p0;subst e4;have e5:=zc q0;subst e5;refine into Tryz.func112 18 _ ?_;unfold z19 at hm;have hS:=St.start w;refine sq<|rg<|nw hS (fun g6 w7 v0 H=>?_);refine nw H (fun A0 G0 y0 z=>?_);refine rn<|sq<|dn 8192 mixed 14 [([],16383),([0],16382),([1],16381),([2],16379),([],16383),([4],16367),([3,5],16343),([6],16319),([7],16255),([],16383),([9],15871),([8,10],15103),([11],14335),([12,0,1,2,3,4,5,6,7,8,9,10,11,12],12287)] z.ext (fun d=>?_);have L:=z.step (Ext.draw _);refine dr 9 d [0,1,2,4,9] ?_;refine dl d 3 (At.ext (hE.trans z.ext) o0) 0 ?_;refine dl d 5 ((z.bring 1 rfl).box) 0 ?_;obtain⟨J0,a0,hm⟩:=bS hm;refine dx (hE.trans z.ext) d 6 h3 a0 (fun E0 j0 O Y=>?_);obtain⟨t0,C0,u0,D0,g0,B0,r0⟩:=ze Y;subst g0;refine dr 5 d [7] ?_;refine dw [4,12,14] ?_;refine dl d 8 (At.ext (hE.trans z.ext) O) 4 ?_;refine dl d 10 ((z.bring 1 rfl).box) 1 ?_;obtain⟨K0,b0,hm⟩:=bS hm;refine dx (hE.trans z.ext) d 11 r0 b0 (fun F0 k0 X Z=>?_);have i0:=zc Z;subst i0;refine dL d 12 (At.ext (hE.trans z.ext) X) ?_;have M:=L.bring 0 rfl;refine o1 d 13 (ms (A:=[]) M d 0 (fun H0 G=>?_));refine dd d ?_;refine rt ?_;cases hm;exact⟨_,.cons (ra ((G.bring 0 rfl).box)) .nil,rfl,(G.taken 0)⟩

theorem zcS:Enters Tryz.prog 113:=⟨_,_,Tryz.func113,rfl,by kernel_rfl⟩
def z4h (fuel:Nat) (x0:(List D.Agent)) (x1:D.Port):Option (Bool):=(if(decide (x1.Agent≥0))=true then(if(decide (x1.Agent<(x0.length:Int)))=true then(if(decide (x1.Slot≥0))=true then((idx x0 x1.Agent).bind fun d=>some (decide (x1.Slot<(d.Ports.length:Int)))) else some false) else some false) else some false)

theorem z8f {W w:World}(hE:Ext W w){O:Option Addr}{Y:Nat}{x0:(List D.Agent)}{X:List Value}{x1:D.Port}(b0:ty40.ro W [sl O x0 Y] x0) (d0:z2N.ro W X x1){fuel:Nat}{r:Bool}(hm:z4h fuel x0 x1=some r):
  Calls Tryz.prog 113 ⟨[sl O x0 Y,.agg ⟨X⟩]⟩ w (Ret fun v w8=>v=.bool r∧St w w8 []):=by
 have e1:=zc d0;subst e1;refine into Tryz.func113 32 _ ?_;unfold z4h at hm;have hS:=St.start w;refine sq<|rg<|nw hS (fun g2 w3 e4 z=>?_);refine rr 1 ?_;refine rn<|sq<|dn 0 mixed 28 [([],268435455),([0],268435454),([1],268435453),([2],268435451),([3],268435447),([4,3],268435431),([3],268435447),([6,3],268435383),([5,7,3],268435287),([3,8],268435191),([9,3],268434943),([10],268434431),([11,10],268432383),([12,10],268430335),([10,13],268426239),([14,10],268419071),([15],268402687),([16,15],268337151),([15],268402687),([15],268402687),([19,15],267878399),([18,20,15],267091967),([21,15],266305535),([22,15],264208383),([23,15],260014079),([17,24,15],251494399),([15,25],234848255),([26,15,0,1,2,3,4,5,6,7,8,9,10,11,12,13,14,15,16,17,18,19,20,21,22,23,24,25,26],201326591)] z.ext (fun d=>?_);have G:=z.step (Ext.draw _);refine dr 27 d [0] ?_;refine dl d 1 ((z.bring 0 rfl).box) 0 ?_;refine dr 24 d [2,3] ?_;refine db 8 hm (fun hm=>?_) (fun hm=>?_)
 ·refine dr 21 d [4,6,7] ?_;refine dl d 5 ((z.bring 0 rfl).box) 0 ?_;refine dr 17 d [8,9,10] ?_;refine dw [0,3,4,15] ?_;refine db 15 hm (fun hm=>?_) (fun hm=>?_)
  ·refine dr 16 d [11] ?_;refine dl d 12 ((z.bring 0 rfl).box) 1 ?_;refine dr 12 d [13,14,15] ?_;refine db 20 hm (fun hm=>?_) (fun hm=>?_)
   ·refine dr 9 d [16,18,19] ?_;refine dw [4,20,21,23,24] ?_;refine dl d 17 ((z.bring 0 rfl).box) 1 ?_;refine dl d 20 ((z.bring 0 rfl).box) 0 ?_;obtain⟨p0,M,hm⟩:=bS hm;refine dx (hE.trans z.ext) d 21 b0 M (fun o0 a0 H L=>?_);obtain⟨e0,j0,f0,k0,Z,g0,i0⟩:=ze L;subst Z;refine dr 5 d [22] ?_;refine dl d 23 (At.ext (hE.trans z.ext) H) 4 ?_;refine dr 0 d [24,25,26,27] ?_;refine dw [4] ?_;refine dd d ?_;refine rt ?_;cases hm;exact⟨_,.cons (.tmp rfl) .nil,rfl,(G.taken 0)⟩
   ·refine dr 0 d [16,17,18,19,20,21,22,23,24,25,26,27] ?_;refine dw [4] ?_;refine dd d ?_;refine rt ?_;cases hm;exact⟨_,.cons (.tmp rfl) .nil,rfl,(G.taken 0)⟩
  ·refine dr 0 d [11,12,13,14,15,16,17,18,19,20,21,22,23,24,25,26,27] ?_;refine dw [4] ?_;refine dd d ?_;refine rt ?_;cases hm;exact⟨_,.cons (.tmp rfl) .nil,rfl,(G.taken 0)⟩
 ·refine dr 0 d [4,5,6,7,8,9,10,11,12,13,14,15,16,17,18,19,20,21,22,23,24,25,26,27] ?_;refine dw [4] ?_;refine dd d ?_;refine rt ?_;cases hm;exact⟨_,.cons (.tmp rfl) .nil,rfl,(G.taken 0)⟩

theorem zcT:Enters Tryz.prog 111:=⟨_,_,Tryz.func111,rfl,by kernel_rfl⟩
def z3r (fuel:Nat) (x0:D.Port) (x1:D.Net):Option (Bool):=((z19 fuel x1 x0).bind fun d=>(if(((d.Agent:Int) == x0.Agent) && (((d.Slot:Int) == x0.Slot) && true))=true then some true else((z4h fuel x1.Agents d).bind fun G=>(if(!G)=true then some true else((z19 fuel x1 d).bind fun z=>some (!(((z.Agent:Int) == x0.Agent) && (((z.Slot:Int) == x0.Slot) && true))))))))

theorem z6Q {W w:World}(hE:Ext W w){p0:List Value}{x0:D.Port}{t0:Addr}{q0:List Value}{x1:D.Net}(r0:z2N.ro W p0 x0) (Y:ty42.ro W q0 x1) (X:At W t0 q0){fuel:Nat}{r:Bool}(hm:z3r fuel x0 x1=some r):
  Calls Tryz.prog 111 ⟨[.agg ⟨p0⟩,.pointer (some t0)]⟩ w (Ret fun v w8=>v=.bool r∧St w w8 []):=by
 have e1:=zc r0;subst e1;obtain⟨A2,k3,e5,h4⟩:=zR Y;subst e5;refine into Tryz.func111 23 _ ?_;unfold z3r at hm;have hS:=St.start w;refine sq<|rg<|nw hS (fun g6 w7 v0 G=>?_);refine rr 1 ?_;refine rn<|sq<|rg<|lN ((G.bring 0 rfl).box) ?_;obtain⟨u0,j0,hm⟩:=bS hm;refine ca z7d (z4k (hE.trans G.ext) Y X r0 j0) (fun D0 G0 Z=>?_);obtain⟨rfl,a0⟩:=Z;have e0:=G.join a0;refine nw e0 (fun A0 H0 y0 f0=>?_);have g0:=f0.bring 0 rfl;refine so (A:=[]) g0 0 (fun J0 z=>?_);refine rn<|sq<|dn 0 mixed 17 [([],131071),([],131071),([0,1],131068),([2],131067),([3],131063),([4,3],131047),([3],131063),([5,6,3,3],130967),([7,3],130935),([3,8],130807),([9,7],130559),([10],130047),([11,10,10],127999),([10],130047),([12,13,10],117759),([10,14],113663),([15,12,0,1,2,3,4,5,6,7,8,9,10,11,12,13,14,15],98303)] z.ext (fun d=>?_);have H:=z.step (Ext.draw _);refine dL d 0 ((z.bring 0 rfl).box) ?_;refine dL d 1 ((z.bring 1 rfl).box) ?_;refine dr 13 d [2,3] ?_;refine dw [1,2,3,4,10] ?_;refine db 10 hm (fun hm=>?_) (fun hm=>?_)
 ·refine dr 0 d [4,5,6,7,8,9,10,11,12,13,14,15,16] ?_;refine dw [3] ?_;refine dd d ?_;refine rt ?_;cases hm;exact⟨_,.cons (.tmp rfl) .nil,rfl,(H.taken 0)⟩
 ·refine dr 12 d [4] ?_;refine dl d 5 (At.ext (hE.trans z.ext) X) 0 ?_;refine dL d 6 ((z.bring 0 rfl).box) ?_;obtain⟨B0,k0,hm⟩:=bS hm;refine o1 d 7 (mc d zcS (z8f (hE.trans H.ext) h4 (zD u0) k0) (fun E0 K0 b0=>?_));obtain⟨rfl,M⟩:=b0;refine⟨M.ext,?_⟩;have L:=H.join M;refine dr 6 d [8,9,10] ?_;refine dw [1,2,3,4,17] ?_;refine db 17 hm (fun hm=>?_) (fun hm=>?_)
  ·refine dr 0 d [11,12,13,14,15,16] ?_;refine dw [3] ?_;refine dd d ?_;refine rt ?_;cases hm;exact⟨_,.cons (.tmp rfl) .nil,rfl,(L.taken 0)⟩
  ·refine dL d 11 ((z.bring 0 rfl).box) ?_;refine dL d 13 ((z.bring 1 rfl).box) ?_;obtain⟨C0,o0,hm⟩:=bS hm;refine o1 d 12 (mc d z7d (z4k (hE.trans L.ext) Y X (zD u0) o0) (fun F0 L0 d0=>?_));obtain⟨rfl,O⟩:=d0;refine⟨O.ext,?_⟩;have i0:=L.join O;refine dr 0 d [14,15,16] ?_;refine dw [3] ?_;refine dd d ?_;refine rt ?_;cases hm;exact⟨_,.cons (.tmp rfl) .nil,rfl,(i0.taken 0)⟩

theorem zaW:Enters Tryz.prog 61:=⟨_,_,Tryz.func61,rfl,by kernel_rfl⟩
def z2M (fuel:Nat) (x0:D.Net):Option (Bool):=((z3d fuel x0.Agents).bind fun d=>(if(!d)=true then some false else((z1m fuel x0).bind fun z=>((za fuel z (fun y0=>z3r fuel y0 x0)).bind fun G=>some (!G)))))

theorem z6f {W w:World}(hE:Ext W w){g0:List Value}{x0:D.Net}(L:ty42.ro W g0 x0){fuel:Nat}{r:Bool}(hm:z2M fuel x0=some r):
  Calls Tryz.prog 61 ⟨[.agg ⟨g0⟩]⟩ w (Ret fun v w8=>v=.bool r∧St w w8 []):=by
 obtain⟨A1,k2,e4,h3⟩:=zR L;subst e4;refine into Tryz.func61 11 _ ?_;unfold z2M at hm;have hS:=St.start w;refine sq<|rg<|nw hS (fun g5 w6 e7 G=>?_);refine rr 1 ?_;refine rn<|sq<|sq<|rg<|rr 1 ?_;refine l1 ((G.bring 0 rfl).box) 0 ?_;obtain⟨o0,d0,hm⟩:=bS hm;refine ca zcV (z7o (hE.trans G.ext) h3 d0) (fun r0 v0 M=>?_);obtain⟨rfl,O⟩:=M;have d:=G.join O;refine rr 1 ?_;refine rn<|ci hm (fun hm=>?_) (fun hm=>?_)
 ·refine sq<|rg<|rr 1 ?_;refine rn<|rt ?_;cases hm;exact⟨_,.cons (.tmp rfl) .nil,rfl,(d.taken 0)⟩
 ·refine sp<|sq<|rg ?_;obtain⟨p0,e0,hm⟩:=bS hm;refine ca z8n (z4T (Ext.refl _) (ty42.ext (hE.trans d.ext) L) ((d.bring 0 rfl).box) e0) (fun t0 y0 X=>?_);obtain⟨j0,k0,rfl,Y⟩:=X;have z:=d.join Y;refine rr 1 ?_;obtain⟨q0,f0,hm⟩:=bS hm;refine ca zcU (z31 (Ext.refl _) ((z.bring 0 rfl).own) ⟨zcT,fun e9=>(fun H i0=>z6Q (Ext.refl _) H (ty42.ext e9 (ty42.ext (hE.trans z.ext) L)) (At.ext e9 ((z.bring 1 rfl).box)) i0)⟩ f0) (fun u0 A0 Z=>?_);obtain⟨rfl,a0⟩:=Z;have b0:=z.join a0;refine rr 2 ?_;refine rn<|rt ?_;cases hm;exact⟨_,.cons (.tmp rfl) .nil,rfl,(b0.taken 0)⟩

theorem zcr:Enters Tryz.prog 188:=⟨_,_,Tryz.func188,rfl,by kernel_rfl⟩
def z32 (fuel:Nat) (x0:D.Port) (x1:D.Port):Option (Bool):=(if(decide (x0.Agent<x1.Agent))=true then some true else(if(x0.Agent == x1.Agent)=true then some (decide (x0.Slot<x1.Slot)) else some false))

theorem z7g {W w:World}(hE:Ext W w){z:List Value}{x0:D.Port}{G:List Value}{x1:D.Port}(H:z2N.ro W z x0) (L:z2N.ro W G x1){fuel:Nat}{r:Bool}(hm:z32 fuel x0 x1=some r):
  Calls Tryz.prog 188 ⟨[.agg ⟨z⟩,.agg ⟨G⟩]⟩ w (Ret fun v w8=>v=.bool r∧St w w8 []):=by
 have e1:=zc H;subst e1;have e2:=zc L;subst e2;refine into Tryz.func188 24 _ ?_;unfold z32 at hm;have hS:=St.start w;refine sq<|rg<|nw hS (fun g3 w4 e5 M=>?_);refine nw M (fun g7 X O d=>?_);refine rr 1 ?_;refine rn<|sq<|rg<|rr 1 ?_;refine l1 ((d.bring 1 rfl).box) 0 ?_;refine rr 1 ?_;refine l1 ((d.bring 0 rfl).box) 0 ?_;refine rr 2 ?_;refine rb 10 hm (fun hm=>?_) (fun hm=>?_)
 ·refine rr 14 ?_;refine rn<|rt ?_;cases hm;exact⟨_,.cons (.tmp rfl) .nil,rfl,(d.taken 0)⟩
 ·refine rr 1 ?_;refine l1 ((d.bring 1 rfl).box) 0 ?_;refine rr 1 ?_;refine l1 ((d.bring 0 rfl).box) 0 ?_;refine rr 2 ?_;refine rb 16 hm (fun hm=>?_) (fun hm=>?_)
  ·refine rr 1 ?_;refine l1 ((d.bring 1 rfl).box) 1 ?_;refine rr 1 ?_;refine l1 ((d.bring 0 rfl).box) 1 ?_;refine rr 4 ?_;refine rn<|rt ?_;cases hm;exact⟨_,.cons (.tmp rfl) .nil,rfl,(d.taken 0)⟩
  ·refine rr 8 ?_;refine rn<|rt ?_;cases hm;exact⟨_,.cons (.tmp rfl) .nil,rfl,(d.taken 0)⟩

theorem za9:Enters Tryz.prog 161:=⟨_,_,Tryz.func161,rfl,by kernel_rfl⟩
def z4C (fuel:Nat) (d:(List D.Wire)):Option (List D.Wire):=some d
def z5F (fuel:Nat) (d:Int × (List D.Wire)) (z:(List D.Wire)):Option (Rd (Int × (List D.Wire)) ((List D.Wire)) ((List D.Wire))):=some (.next (w64 (d.1+1),z))
def z1g (fuel:Nat) (z:Int × (List D.Wire)) (d:(List D.Wire)):Option (Rd (Int × (List D.Wire)) ((List D.Wire)) (Rd (Int × (List D.Wire)) ((List D.Wire)) ((List D.Wire)))):=some (.next (w64 (z.1+1),d))
def z20 (fuel:Nat) (x0:D.Net) (G:Int × (List D.Wire)) (d:Int × (List D.Wire)):Option (Rd (Int × (List D.Wire)) ((List D.Wire)) (Rd (Int × (List D.Wire)) ((List D.Wire)) ((List D.Wire)))):=((idx x0.Agents G.1).bind fun M=>(if(decide (d.1<(M.Ports.length:Int)))=true then((idx x0.Agents G.1).bind fun O=>((idx O.Ports d.1).bind fun X=>((z32 fuel (⟨G.1,d.1⟩:D.Port) X).bind fun L=>(if L=true then((idx x0.Agents G.1).bind fun H=>((idx H.Ports d.1).bind fun z=>(if decide ((d.2.length:Int)+(([(⟨(⟨G.1,d.1⟩:D.Port),(⟨z.Agent,z.Slot⟩:D.Port)⟩:D.Wire)]:(List D.Wire)).length:Int)≤4294967296)=true then z1g fuel d (d.2++([(⟨(⟨G.1,d.1⟩:D.Port),(⟨z.Agent,z.Slot⟩:D.Port)⟩:D.Wire)]:(List D.Wire))) else none))) else z1g fuel d d.2)))) else some (.brk d.2)))
def z21 (fuel:Nat) (x0:D.Net) (d:Int × (List D.Wire)):Option (Rd (Int × (List D.Wire)) ((List D.Wire)) ((List D.Wire))):=(if(decide (d.1<(x0.Agents.length:Int)))=true then((iter (z20 fuel x0 d) fuel (0,d.2)).bind fun o=>aft o (z5F fuel d)) else some (.brk d.2))
def z2x (fuel:Nat) (x0:D.Net):Option ((List D.Wire)):=((iter (z21 fuel x0) fuel (0,([]:(List D.Wire)))).bind fun o=>aft o (z4C fuel))

theorem z6d {W w:World}(hE:Ext W w){i0:Addr}{F1:List Value}{x0:D.Net}(T1:ty42.ro W F1 x0) (N0:At W i0 F1){fuel:Nat}{r:(List D.Wire)}(hm:z2x fuel x0=some r):
  Calls Tryz.prog 161 ⟨[.pointer (some i0)]⟩ w (Ret fun v w8=>∃ A0 k0,v=sl A0 r k0∧St w w8 [ow z5T A0 r k0]):=by
 obtain⟨A1,k2,e4,h3⟩:=zR T1;subst e4;refine into Tryz.func161 63 _ ?_;unfold z2x at hm;have hS:=St.start w;refine sq<|rg<|rr 1 ?_;refine rn<|sq<|rg<|n0 (U:=z9s) hS (fun A5 k6 w7 t2 X0=>?_);refine rr 1 ?_;refine rn<|sq<|sq<|rg<|rr 1 ?_;refine rn ?_;obtain⟨a2,j1,hm⟩:=bS hm;refine ct (fun(Q0:(List D.Wire)) F w9=>∃ K0 O0,a2=.inl Q0∧St w w9 [ow z5T K0 Q0 O0]∧F=[(3,sl K0 Q0 O0)]) ?_ ?_
 ·rintro Q0 F N2 ⟨K0,O0,m1,Y0,rfl⟩;subst m1;rw [z6] at hm;unfold z4C at hm;refine sq<|rg<|rr 2 ?_;refine rn<|rt ?_;cases hm;exact⟨_,.cons (.tmp rfl) .nil,K0,O0,rfl,Y0⟩
 ·refine bk<|wk [0,3,4] ?_;refine it (fun(X:Int × (List D.Wire)) F w9=>∃ j0 H0,St w w9 [ow z5T j0 X.2 H0]∧F=[(0,.pointer (some i0)),(3,sl j0 X.2 H0),(4,.int .i64 X.1)]) j1 ⟨A5,k6,X0,rfl⟩ ?_;rintro X F O2 _ G2 ⟨j0,H0,f0,rfl⟩ H n1;unfold z21 at H;refine sq<|sq<|rg<|rr 4 ?_;refine l1 (At.ext (hE.trans f0.ext) N0) 0 ?_;refine rr 2 ?_;refine rn<|ci H (fun H=>?_) (fun H=>?_)
  ·refine sp<|sq<|bk<|sq<|rg<|rr 1 ?_;refine rn ?_;obtain⟨d2,k1,H⟩:=bS H;refine ct (fun(R0:(List D.Wire)) F w9=>∃ L0 P0,d2=.inl R0∧St w w9 [ow z5T L0 R0 P0]∧F=[(0,.pointer (some i0)),(3,sl L0 R0 P0),(4,.int .i64 X.1)]) ?_ ?_
   ·rintro R0 F P2 ⟨L0,P0,p1,a1,rfl⟩;subst p1;rw [z6] at H;unfold z5F at H;refine rg<|rr 3 ?_;refine rn ?_;cases H;exact⟨_,_,rfl,⟨L0,P0,a1,rfl⟩,rfl⟩
   ·refine bk<|wk [0,3,4,5] ?_;refine it (fun(O:Int × (List D.Wire)) F w9=>∃ o0 J0,St w w9 [ow z5T o0 O.2 J0]∧F=[(0,.pointer (some i0)),(3,sl o0 O.2 J0),(4,.int .i64 X.1),(5,.int .i64 O.1)]) k1 ⟨j0,H0,f0,rfl⟩ ?_;rintro O F Q2 _ e2 ⟨o0,J0,Y,rfl⟩ d t1;unfold z20 at d;refine sq<|sq<|rg<|rr 4 ?_;refine l1 (At.ext (hE.trans Y.ext) N0) 0 ?_;refine rr 1 ?_;obtain⟨U2,y1,d⟩:=bS d;refine ix (hE.trans Y.ext) h3 y1 (fun H2 Q1 f1 u1=>?_);obtain⟨o2,C2,p2,D2,N1,y2,A2⟩:=ze u1;subst N1;refine rr 1 ?_;refine l1 (At.ext (hE.trans Y.ext) f1) 4 ?_;refine rr 2 ?_;refine rn<|ci d (fun d=>?_) (fun d=>?_)
    ·refine sp<|sq<|bk<|sq<|rg<|rr 2 ?_;refine qt (qb) ?_;refine nw Y (fun v2 R2 u2 d1=>?_);have e1:=d1.bring 0 rfl;refine so (A:=[]) e1 0 (fun S2 M=>?_);refine rn<|sq<|dn 0 mixed 13 [([],8191),([],8191),([1],8189),([2],8187),([3],8183),([],8191),([4,5],8143),([6],8127),([7],8063),([],8191),([8,9],7423),([10],7167),([0,11],6142)] M.ext (fun G=>?_);have u0:=M.step (Ext.draw _);refine dr 8 G [1,2,3,5,9] ?_;refine dw [0,3,4,5,6,36,38,42] ?_;refine dL G 0 ((M.bring 0 rfl).box) ?_;refine dl G 4 (At.ext (hE.trans M.ext) N0) 0 ?_;obtain⟨V2,B1,d⟩:=bS d;refine dx (hE.trans M.ext) G 6 h3 B1 (fun J2 R1 g1 v1=>?_);obtain⟨q2,E2,r2,F2,O1,B2,V1⟩:=ze v1;subst O1;refine dr 4 G [7] ?_;refine dl G 8 (At.ext (hE.trans M.ext) g1) 4 ?_;obtain⟨W2,C1,d⟩:=bS d;refine dx (hE.trans M.ext) G 10 V1 C1 (fun K2 S1 i1 E0=>?_);have P1:=zc E0;subst P1;refine dL G 11 (At.ext (hE.trans M.ext) i1) ?_;obtain⟨L2,D1,d⟩:=bS d;refine o1 G 12 (mc G zcr (z7g (hE.trans u0.ext) (zD (⟨X.1,O.1⟩:D.Port)) E0 D1) (fun M2 T2 W0=>?_));obtain⟨rfl,p0⟩:=W0;refine⟨p0.ext,?_⟩;have g0:=u0.join p0;refine dd G ?_;refine ct (fun(b0:(List D.Wire)) F w9=>∃ Z a0,z1g fuel O b0=some e2∧St w w9 [ow z5T Z b0 a0]∧F=[(0,.pointer (some i0)),(3,sl Z b0 a0),(4,.int .i64 X.1),(5,.int .i64 O.1)]) ?_ ?_
     ·rintro b0 F i2 ⟨Z,a0,d,q0,rfl⟩;unfold z1g at d;refine rg<|rr 3 ?_;refine rn ?_;cases d;exact⟨_,_,rfl,⟨Z,a0,q0,rfl⟩,rfl⟩
     ·refine ci d (fun d=>?_) (fun d=>?_)
      ·refine dn 32768 mixed 17 [([],131071),([],131071),([],131071),([2],131067),([3],131063),([4],131055),([],131071),([5,6],130975),([7],130943),([8],130815),([],131071),([9,10],129535),([11],129023),([1,12],126973),([13],122879),([0,14],114686),([15,15,0,1,2,3,4,5,6,7,8,9,10,11,12,13,14,15],98302)] g0.ext (fun z=>?_);have d0:=g0.step (Ext.draw _);refine dr 11 z [0,2,3,4,6,10] ?_;refine dw [0,3,4,5,6,46,50,52,56] ?_;refine dV z 5 rfl (q1 (At.ext hE N0) 0) ?_;obtain⟨n2,F0,d⟩:=bS d;refine dv hE z 7 h3 F0 (fun f2 G1 v0 C0=>?_);obtain⟨J1,W1,K1,X1,T0,U1,V0⟩:=ze C0;subst T0;refine dr 8 z [8] ?_;refine dV z 9 rfl (q1 (At.ext hE v0) 4) ?_;obtain⟨L,G0,d⟩:=bS d;refine dv hE z 11 V0 G0 (fun g2 H1 y0 D0=>?_);have U0:=zc D0;subst U0;refine dV z 12 rfl (qN (At.ext hE y0)) ?_;refine o1 z 1 (mq z rfl (qN ((d0.bring 0 rfl).box)) ?_);refine dp z 13 rfl (fun _=>qb) ?_;refine o1 z 14 (mn (d0.flatEls (U:=z9s) (els:=[.int .i64 X.1,.int .i64 O.1,.int .i64 L.Agent,.int .i64 L.Slot]) (ys:=[(⟨(⟨X.1,O.1⟩:D.Port),(⟨L.Agent,L.Slot⟩:D.Port)⟩:D.Wire)]) ⟨[.int .i64 X.1,.int .i64 O.1,.int .i64 L.Agent,.int .i64 L.Slot],_,[],[],rfl,rfl,(zbh (c:=(⟨(⟨X.1,O.1⟩:D.Port),(⟨L.Agent,L.Slot⟩:D.Port)⟩:D.Wire)) rfl),⟨rfl,rfl⟩⟩) z (fun L1 Y1 j2 M1 r0=>?_));have e0:=r0.bring 2 rfl;obtain⟨B0,d⟩:=iS d;refine o1 z 15 (mp (Flat.map (Flat.pair (Flat.map (Flat.pair Flat.int (Flat.pair Flat.int Flat.unit))) (Flat.pair (Flat.map (Flat.pair Flat.int (Flat.pair Flat.int Flat.unit))) Flat.unit))) e0 z ((e0.bring 1 rfl).own) B0 (fun S0 E1 m2 t0=>?_));refine dr 0 z [16] ?_;refine dw [0,3,4,5] ?_;refine dd z ?_;exact⟨(O.2++([(⟨(⟨X.1,O.1⟩:D.Port),(⟨L.Agent,L.Slot⟩:D.Port)⟩:D.Wire)]:(List D.Wire))),_,⟨S0,E1,d,(t0.taken 1),rfl⟩,rfl⟩
      ·refine sp ?_;exact⟨O.2,_,⟨o0,J0,d,((g0.bring 1 rfl).taken 1),rfl⟩,rfl⟩
    ·refine xt ?_;cases d;exact⟨_,_,⟨o0,J0,t1,Y,rfl⟩,rfl⟩
  ·refine xt ?_;cases H;exact⟨_,_,⟨j0,H0,n1,f0,rfl⟩,rfl⟩

theorem zab:Enters Tryz.prog 117:=⟨_,_,Tryz.func117,rfl,by kernel_rfl⟩
def z1h (fuel:Nat) (x0:D.Port) (x1:D.Port):Option (Bool):=(if(decide (x0.Agent<x1.Agent))=true then some true else(if(x0.Agent == x1.Agent)=true then some (decide (x0.Slot<x1.Slot)) else some false))

theorem z5A {W w:World}(hE:Ext W w){z:List Value}{x0:D.Port}{G:List Value}{x1:D.Port}(H:z2N.ro W z x0) (L:z2N.ro W G x1){fuel:Nat}{r:Bool}(hm:z1h fuel x0 x1=some r):
  Calls Tryz.prog 117 ⟨[.agg ⟨z⟩,.agg ⟨G⟩]⟩ w (Ret fun v w8=>v=.bool r∧St w w8 []):=by
 have e1:=zc H;subst e1;have e2:=zc L;subst e2;refine into Tryz.func117 24 _ ?_;unfold z1h at hm;have hS:=St.start w;refine sq<|rg<|nw hS (fun g3 w4 e5 M=>?_);refine nw M (fun g7 X O d=>?_);refine rr 1 ?_;refine rn<|sq<|rg<|rr 1 ?_;refine l1 ((d.bring 1 rfl).box) 0 ?_;refine rr 1 ?_;refine l1 ((d.bring 0 rfl).box) 0 ?_;refine rr 2 ?_;refine rb 10 hm (fun hm=>?_) (fun hm=>?_)
 ·refine rr 14 ?_;refine rn<|rt ?_;cases hm;exact⟨_,.cons (.tmp rfl) .nil,rfl,(d.taken 0)⟩
 ·refine rr 1 ?_;refine l1 ((d.bring 1 rfl).box) 0 ?_;refine rr 1 ?_;refine l1 ((d.bring 0 rfl).box) 0 ?_;refine rr 2 ?_;refine rb 16 hm (fun hm=>?_) (fun hm=>?_)
  ·refine rr 1 ?_;refine l1 ((d.bring 1 rfl).box) 1 ?_;refine rr 1 ?_;refine l1 ((d.bring 0 rfl).box) 1 ?_;refine rr 4 ?_;refine rn<|rt ?_;cases hm;exact⟨_,.cons (.tmp rfl) .nil,rfl,(d.taken 0)⟩
  ·refine rr 8 ?_;refine rn<|rt ?_;cases hm;exact⟨_,.cons (.tmp rfl) .nil,rfl,(d.taken 0)⟩

theorem zaU:Enters Tryz.prog 81:=⟨_,_,Tryz.func81,rfl,by kernel_rfl⟩
def zQ (fuel:Nat) (x0:(List Int)):Option ((List Int)):=(if decide ((([]:(List Int)).length:Int)+(x0.length:Int)≤4294967296)=true then some (([]:(List Int))++x0) else none)

theorem z3y {W w:World}(hE:Ext W w){d:Option Addr}{H:Nat}{x0:(List Int)}(z:ty80.ro W [sl d x0 H] x0){fuel:Nat}{r:(List Int)}(hm:zQ fuel x0=some r):
  Calls Tryz.prog 81 ⟨[sl d x0 H]⟩ w (Ret fun v w8=>∃ A0 k0,v=sl A0 r k0∧St w w8 [ow ty80 A0 r k0]):=by
 refine into Tryz.func81 8 _ ?_;unfold zQ at hm;have hS:=St.start w;refine sq<|rg<|rr 1 ?_;refine rn<|sq<|sq<|rg<|rr 1 ?_;refine qt (qNilEq) ?_;refine rn ?_;cases d with
 | none=>
  have e:=ze3 (by decide) z;subst e;refine cd true (fun _=>?_) (fun hc=>by cases hc);refine sq<|rg<|rr 1 ?_;refine rn<|rt ?_;have hr:r=[]:=by simpa using hm.symm
  subst hr;exact⟨_,.cons (.tmp rfl) .nil,none,0,rfl,hS.nilSl tInt 2⟩
 | some p=>
  refine cd false (fun hc=>by cases hc) (fun _=>?_);refine sp<|sq<|rg<|n0 (U:=tInt) hS (fun A1 k1 w1 e1 G=>?_);refine rr 1 ?_
  by_cases hk:decide ((([]:(List Int)).length:Int)+(x0.length:Int)≤4294967296)=true
  case neg=>rw [if_neg hk] at hm;cases hm
  rw [if_pos hk] at hm;cases hm;refine ap Flat.int G (ty80.ext (hE.trans G.ext) z) hk (fun A2 k2 w2 L=>?_);refine rr 1 ?_;refine rn<|rt ?_;exact⟨_,.cons (.tmp rfl) .nil,A2,k2,rfl,L⟩

theorem zcC:Enters Tryz.prog 164:=⟨_,_,Tryz.func164,rfl,by kernel_rfl⟩
def z5G (fuel:Nat) (d:(List D.Pair)):Option (List D.Pair):=some d
def z24 (fuel:Nat) (d:Int × (List D.Pair)) (z:(List D.Pair)):Option (Rd (Int × (List D.Pair)) ((List D.Pair)) ((List D.Pair))):=some (.next (w64 (d.1+1),z))
def z22 (fuel:Nat) (d:Int × (List D.Pair)) (z:(List D.Pair)):Option (Rd (Int × (List D.Pair)) ((List D.Pair)) ((List D.Pair))):=z24 fuel d z
def z23 (fuel:Nat) (d:Int × (List D.Pair)) (z:D.Port) (G:Bool):Option (Rd (Int × (List D.Pair)) ((List D.Pair)) ((List D.Pair))):=(if G=true then(if decide ((d.2.length:Int)+(([(⟨d.1,z.Agent⟩:D.Pair)]:(List D.Pair)).length:Int)≤4294967296)=true then z22 fuel d (d.2++([(⟨d.1,z.Agent⟩:D.Pair)]:(List D.Pair))) else none) else z22 fuel d d.2)
def z25 (fuel:Nat) (x0:D.Net) (d:Int × (List D.Pair)):Option (Rd (Int × (List D.Pair)) ((List D.Pair)) ((List D.Pair))):=(if(decide (d.1<(x0.Agents.length:Int)))=true then((idx x0.Agents d.1).bind fun G=>(if(G.Kind == 0)=true then z24 fuel d d.2 else((idx x0.Agents d.1).bind fun H=>((idx H.Ports 0).bind fun z=>(if(z.Slot == 0)=true then z23 fuel d z (decide (z.Agent>d.1)) else z23 fuel d z false))))) else some (.brk d.2))
def z3A (fuel:Nat) (x0:D.Net):Option ((List D.Pair)):=((iter (z25 fuel x0) fuel (1,([]:(List D.Pair)))).bind fun o=>aft o (z5G fuel))

theorem z7z {W w:World}(hE:Ext W w){Y:Addr}{U0:List Value}{x0:D.Net}(g1:ty42.ro W U0 x0) (p0:At W Y U0){fuel:Nat}{r:(List D.Pair)}(hm:z3A fuel x0=some r):
  Calls Tryz.prog 164 ⟨[.pointer (some Y)]⟩ w (Ret fun v w8=>∃ A0 k0,v=sl A0 r k0∧St w w8 [ow ty31 A0 r k0]):=by
 obtain⟨A1,k2,e4,h3⟩:=zR g1;subst e4;refine into Tryz.func164 52 _ ?_;unfold z3A at hm;have hS:=St.start w;refine sq<|rg<|rr 1 ?_;refine rn<|sq<|rg<|n0 (U:=ty87) hS (fun A5 k6 w7 B1 q0=>?_);refine rr 1 ?_;refine rn<|sq<|sq<|rg<|rr 1 ?_;refine rn ?_;obtain⟨m1,H0,hm⟩:=bS hm;refine ct (fun(j0:(List D.Pair)) F w9=>∃ b0 f0,m1=.inl j0∧St w w9 [ow ty31 b0 j0 f0]∧F=[(3,sl b0 j0 f0)]) ?_ ?_
 ·rintro j0 F Q1 ⟨b0,f0,J0,r0,rfl⟩;subst J0;rw [z6] at hm;unfold z5G at hm;refine sq<|rg<|rr 2 ?_;refine rn<|rt ?_;cases hm;exact⟨_,.cons (.tmp rfl) .nil,b0,f0,rfl,r0⟩
 ·refine bk<|wk [0,3,4] ?_;refine it (fun(G:Int × (List D.Pair)) F w9=>∃ M O,St w w9 [ow ty31 M G.2 O]∧F=[(0,.pointer (some Y)),(3,sl M G.2 O),(4,.int .i64 G.1)]) H0 ⟨A5,k6,q0,rfl⟩ ?_;rintro G F R1 _ S0 ⟨M,O,z,rfl⟩ d K0;unfold z25 at d;refine sq<|sq<|rg<|rr 4 ?_;refine l1 (At.ext (hE.trans z.ext) p0) 0 ?_;refine rr 2 ?_;refine rn<|ci d (fun d=>?_) (fun d=>?_)
  ·refine sp<|sq<|ct (fun(o0:(List D.Pair)) F w9=>∃ d0 g0,z24 fuel G o0=some S0∧St w w9 [ow ty31 d0 o0 g0]∧F=[(0,.pointer (some Y)),(3,sl d0 o0 g0),(4,.int .i64 G.1)]) ?_ ?_
   ·rintro o0 F S1 ⟨d0,g0,d,t0,rfl⟩;unfold z24 at d;refine rg<|rr 3 ?_;refine rn ?_;cases d;exact⟨_,_,rfl,⟨d0,g0,t0,rfl⟩,rfl⟩
   ·refine bk<|sq<|sq<|rg<|rr 3 ?_;refine l1 (At.ext (hE.trans z.ext) p0) 0 ?_;refine rr 1 ?_;obtain⟨Y1,P0,d⟩:=bS d;refine ix (hE.trans z.ext) h3 P0 (fun N1 d1 D0 L0=>?_);obtain⟨p1,H1,t1,J1,X0,E1,F1⟩:=ze L0;subst X0;refine rr 1 ?_;refine l1 (At.ext (hE.trans z.ext) D0) 0 ?_;refine rr 1 ?_;refine rn<|ci d (fun d=>?_) (fun d=>?_)
    ·refine xt ?_;exact⟨G.2,_,⟨M,O,d,z,rfl⟩,rfl⟩
    ·refine sp<|sq<|rg<|rr 3 ?_;refine l1 (At.ext (hE.trans z.ext) p0) 0 ?_;refine rr 1 ?_;obtain⟨a2,Q0,d⟩:=bS d;refine ix (hE.trans z.ext) h3 Q0 (fun O1 e1 E0 N0=>?_);obtain⟨u1,K1,v1,L1,Y0,G1,i1⟩:=ze N0;subst Y0;refine rr 1 ?_;refine l1 (At.ext (hE.trans z.ext) E0) 4 ?_;obtain⟨L,R0,d⟩:=bS d;refine ix (hE.trans z.ext) i1 R0 (fun P1 f1 F0 O0=>?_);have a1:=zc O0;subst a1;refine lN (At.ext (hE.trans z.ext) F0) ?_;refine nw z (fun V0 T1 C1 u0=>?_);have v0:=u0.bring 0 rfl;refine so (A:=[]) v0 0 (fun n1 H=>?_);refine rn<|sq<|ct (fun(T0:Bool) F w9=>z23 fuel G L T0=some S0∧Ext n1 w9∧St w w9 [Box V0 [.int .i64 L.Agent,.int .i64 L.Slot] 141,ow ty31 M G.2 O]∧F=[(0,.pointer (some Y)),(3,sl M G.2 O),(4,.int .i64 G.1),(5,.pointer (some ⟨V0,0,none⟩)),(43,.bool T0)]) ?_ ?_
     ·rintro T0 F U1 ⟨d,j1,X,rfl⟩;unfold z23 at d;refine ct (fun(a0:(List D.Pair)) F w9=>∃ e0 i0,z22 fuel G a0=some S0∧St w w9 [ow ty31 e0 a0 i0]∧F=[(0,.pointer (some Y)),(3,sl e0 a0 i0),(4,.int .i64 G.1)]) ?_ ?_
      ·rintro a0 F V1 ⟨e0,i0,d,y0,rfl⟩;unfold z22 at d;exact⟨a0,_,⟨e0,i0,d,y0,rfl⟩,rfl⟩
      ·refine ci d (fun d=>?_) (fun d=>?_)
       ·refine rg<|rr 3 ?_;refine l1 ((X.bring 0 rfl).box) 0 ?_;refine qt (qb) ?_;refine ns (X.flatEls (U:=ty87) (els:=[.int .i64 G.1,.int .i64 L.Agent]) (ys:=[(⟨G.1,L.Agent⟩:D.Pair)]) ⟨[.int .i64 G.1,.int .i64 L.Agent],_,[],[],rfl,rfl,(zp (c:=(⟨G.1,L.Agent⟩:D.Pair)) rfl),⟨rfl,rfl⟩⟩) (fun y1 M1 W1 D1 B0=>?_);have Z:=B0.bring 2 rfl;obtain⟨G0,d⟩:=iS d;refine ap (Flat.map (Flat.pair Flat.int (Flat.pair Flat.int Flat.unit))) Z ((Z.bring 1 rfl).own) G0 (fun W0 k1 X1 C0=>?_);refine rr 1 ?_;refine rn ?_;exact⟨(G.2++([(⟨G.1,L.Agent⟩:D.Pair)]:(List D.Pair))),_,⟨W0,k1,d,(C0.taken 1),rfl⟩,rfl⟩
       ·refine sp ?_;exact⟨G.2,_,⟨M,O,d,((X.bring 1 rfl).taken 1),rfl⟩,rfl⟩
     ·refine rg<|rr 1 ?_;refine l1 ((H.bring 0 rfl).box) 1 ?_;refine rr 2 ?_;refine rb 38 d (fun d=>?_) (fun d=>?_)
      ·refine rr 1 ?_;refine l1 ((H.bring 0 rfl).box) 0 ?_;refine rr 3 ?_;refine rn ?_;exact⟨decide (L.Agent>G.1),_,⟨d,(Ext.refl _),H,rfl⟩,rfl⟩
      ·refine rr 5 ?_;refine rn ?_;exact⟨false,_,⟨d,(Ext.refl _),H,rfl⟩,rfl⟩
  ·refine xt ?_;cases d;exact⟨_,_,⟨M,O,K0,z,rfl⟩,rfl⟩

theorem zcP:Enters Tryz.prog 119:=⟨_,_,Tryz.func119,rfl,by kernel_rfl⟩
def z4n (fuel:Nat) (t6:(List D.Pair)):Option (List D.Pair):=some t6
def z1T (fuel:Nat) (s5:(List D.Pair) × Int) (d:(List D.Pair)):Option (Rd ((List D.Pair) × Int) ((List D.Pair)) ((List D.Pair))):=some (.next (d,w64 (s5.2+1)))
def z11 (fuel:Nat) (s5:(List D.Pair) × Int) (d:D.Port) (z:Bool):Option (Rd ((List D.Pair) × Int) ((List D.Pair)) ((List D.Pair))):=(if z=true then(if decide ((s5.1.length:Int)+(([(⟨s5.2,d.Agent⟩:D.Pair)]:(List D.Pair)).length:Int)≤4294967296)=true then z1T fuel s5 (s5.1++([(⟨s5.2,d.Agent⟩:D.Pair)]:(List D.Pair))) else none) else z1T fuel s5 s5.1)
def z1U (fuel:Nat) (x0:D.Net) (s5:(List D.Pair) × Int):Option (Rd ((List D.Pair) × Int) ((List D.Pair)) ((List D.Pair))):=(if(decide (s5.2<(x0.Agents.length:Int)))=true then((idx x0.Agents s5.2).bind fun z=>((idx z.Ports 0).bind fun d=>(if(d.Slot == 0)=true then(if(decide (d.Agent>s5.2))=true then z11 fuel s5 d (z.Kind != 1) else z11 fuel s5 d false) else z11 fuel s5 d false))) else some (.brk s5.1))
def z3e (fuel:Nat) (x0:D.Net):Option ((List D.Pair)):=((iter (z1U fuel x0) fuel ([],0)).bind fun o=>aft o (z4n fuel))

theorem z7q {W w:World}(hE:Ext W w){O0:Addr}{K0:List Value}{x0:D.Net}(V0:ty42.ro W K0 x0) (U0:At W O0 K0){fuel:Nat}{r:(List D.Pair)}(hm:z3e fuel x0=some r):
  Calls Tryz.prog 119 ⟨[.pointer (some O0)]⟩ w (Ret fun v w8=>∃ A0 k0,v=sl A0 r k0∧St w w8 [ow ty31 A0 r k0]):=by
 obtain⟨A1,k2,e4,h3⟩:=zR V0;subst e4;refine into Tryz.func119 44 _ ?_;unfold z3e at hm;have hS:=St.start w;refine sq<|rg<|rr 1 ?_;refine rn<|sq<|rg<|rr 1 ?_;refine rn<|sq<|sq<|rg<|rr 3 ?_;refine l1 (At.ext (hE.trans hS.ext) U0) 0 ?_;refine rr 2 ?_;refine rn ?_;obtain⟨a1,B0,hm⟩:=bS hm;refine ct (fun(t6:(List D.Pair)) F w9=>∃ Z b0,a1=.inl t6∧St w w9 [ow ty31 Z t6 b0]∧F=[(3,sl Z t6 b0)]) ?_ ?_
 ·rintro t6 F C1 ⟨Z,b0,C0,f0,rfl⟩;subst C0;rw [z6] at hm;unfold z4n at hm;refine sq<|rg<|rr 2 ?_;refine rn<|rt ?_;cases hm;exact⟨_,.cons (.tmp rfl) .nil,Z,b0,rfl,f0⟩
 ·refine bk ?_;have g0:=hS.nilSl ty87 87;refine wk [3,10,11,12] ?_;refine it (fun(s5:(List D.Pair) × Int) F w9=>∃ M X,St w w9 [ow ty31 M s5.1 X]∧F=[(3,sl M s5.1 X),(10,sl A1 x0.Agents k2),(11,.int .i64 (x0.Agents.length:Int)),(12,.int .i64 s5.2)]) B0 ⟨none,0,g0,rfl⟩ ?_;rintro s5 F D1 _ N0 ⟨M,X,G,rfl⟩ d D0;unfold z1U at d;refine sq<|rg<|rr 1 ?_;refine rn<|sq<|ci d (fun d=>?_) (fun d=>?_)
  ·refine sp<|sq<|bk<|sq<|rg<|rr 1 ?_;obtain⟨e1,G0,d⟩:=bS d;refine ix (hE.trans G.ext) h3 G0 (fun y1 S0 u0 E0=>?_);obtain⟨f1,t1,g1,u1,Q0,p1,W0⟩:=ze E0;subst Q0;refine lN (At.ext (hE.trans G.ext) u0) ?_;refine nw G (fun n1 E1 j1 i0=>?_);refine rr 1 ?_;have j0:=i0.bring 0 rfl;refine so (A:=[]) j0 0 (fun F1 H=>?_);refine rn<|sq<|rg<|rr 1 ?_;refine l1 ((H.bring 0 rfl).box) 4 ?_;obtain⟨L,H0,d⟩:=bS d;refine ix (hE.trans H.ext) W0 H0 (fun B1 T0 v0 F0=>?_);have R0:=zc F0;subst R0;refine lN (At.ext (hE.trans H.ext) v0) ?_;refine nw H (fun L0 G1 k1 o0=>?_);have p0:=o0.bring 0 rfl;refine so (A:=[]) p0 0 (fun d1 z=>?_);refine rn<|sq<|ct (fun(J0:Bool) F w9=>z11 fuel s5 L J0=some N0∧Ext d1 w9∧St w w9 [Box L0 [.int .i64 L.Agent,.int .i64 L.Slot] 141,ow ty31 M s5.1 X]∧F=[(3,sl M s5.1 X),(4,.int .i64 s5.2),(6,.pointer (some ⟨L0,0,none⟩)),(10,sl A1 x0.Agents k2),(11,.int .i64 (x0.Agents.length:Int)),(12,.int .i64 s5.2),(34,.bool J0)]) ?_ ?_
   ·rintro J0 F H1 ⟨d,X0,O,rfl⟩;unfold z11 at d;refine ct (fun(e0:(List D.Pair)) F w9=>∃ a0 d0,z1T fuel s5 e0=some N0∧St w w9 [ow ty31 a0 e0 d0]∧F=[(3,sl a0 e0 d0),(10,sl A1 x0.Agents k2),(11,.int .i64 (x0.Agents.length:Int)),(12,.int .i64 s5.2)]) ?_ ?_
    ·rintro e0 F J1 ⟨a0,d0,d,q0,rfl⟩;unfold z1T at d;refine rg<|rr 2 ?_;refine rn ?_;cases d;exact⟨_,_,rfl,⟨a0,d0,q0,rfl⟩,rfl⟩
    ·refine ci d (fun d=>?_) (fun d=>?_)
     ·refine rg<|rr 3 ?_;refine l1 ((O.bring 0 rfl).box) 0 ?_;refine qt (qb) ?_;refine ns (O.flatEls (U:=ty87) (els:=[.int .i64 s5.2,.int .i64 L.Agent]) (ys:=[(⟨s5.2,L.Agent⟩:D.Pair)]) ⟨[.int .i64 s5.2,.int .i64 L.Agent],_,[],[],rfl,rfl,(zp (c:=(⟨s5.2,L.Agent⟩:D.Pair)) rfl),⟨rfl,rfl⟩⟩) (fun i1 v1 K1 m1 r0=>?_);have Y:=r0.bring 2 rfl;obtain⟨y0,d⟩:=iS d;refine ap (Flat.map (Flat.pair Flat.int (Flat.pair Flat.int Flat.unit))) Y ((Y.bring 1 rfl).own) y0 (fun P0 Y0 L1 t0=>?_);refine rr 1 ?_;refine rn ?_;exact⟨(s5.1++([(⟨s5.2,L.Agent⟩:D.Pair)]:(List D.Pair))),_,⟨P0,Y0,d,(t0.taken 1),rfl⟩,rfl⟩
     ·refine sp ?_;exact⟨s5.1,_,⟨M,X,d,((O.bring 1 rfl).taken 1),rfl⟩,rfl⟩
   ·refine rg<|rr 1 ?_;refine l1 ((z.bring 0 rfl).box) 1 ?_;refine rr 2 ?_;refine rb 24 d (fun d=>?_) (fun d=>?_)
    ·refine rr 1 ?_;refine l1 ((z.bring 0 rfl).box) 0 ?_;refine rr 4 ?_;refine rb 30 d (fun d=>?_) (fun d=>?_)
     ·refine rr 1 ?_;refine l1 ((z.bring 1 rfl).box) 0 ?_;refine rr 2 ?_;refine rn ?_;exact⟨(e1.Kind != 1),_,⟨d,(Ext.refl _),(z.bring 1 rfl).drop,rfl⟩,rfl⟩
     ·refine rr 4 ?_;refine rn ?_;exact⟨false,_,⟨d,(Ext.refl _),(z.bring 1 rfl).drop,rfl⟩,rfl⟩
    ·refine rr 10 ?_;refine rn ?_;exact⟨false,_,⟨d,(Ext.refl _),(z.bring 1 rfl).drop,rfl⟩,rfl⟩
  ·refine xt ?_;cases d;exact⟨_,_,⟨M,X,D0,G,rfl⟩,rfl⟩

end Go.E


