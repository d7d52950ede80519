/- Models of functions and proofs that the code runs as they say (written by program). Conditions: the model gives a value. -/
import Derived.Test.YtngggnjnenfgbaaDoorFA
namespace Go.E
open Go.RowKit Go.Proofs
set_option linter.unusedVariables false
set_option linter.unusedSimpArgs false
set_option maxHeartbeats 2000000
set_option maxRecDepth 100000

theorem zaW:Enters Tryd.prog 16:=⟨_,_,Tryd.func16,rfl,by kernel_rfl⟩
def z4n (fuel:Nat) (b:Unit):Option Bool:=some true
def z1U (fuel:Nat) (b:Int) (d:Bool):Option (Rd (Int) (Unit) (Bool)):=(if d=true then some (.ret false) else some (.next (w64 (b+1))))
def z2K (fuel:Nat) (x0:(List D.Agent)) (b:Int):Option (Rd (Int) (Unit) (Bool)):=(if(decide (b<(x0.length:Int)))=true then((idx x0 b).bind fun k=>((z1V fuel k).bind fun d=>(if(!d)=true then z1U fuel b true else((idx x0 b).bind fun o=>z1U fuel b (!((o.Kind == 1) == (b == 0))))))) else some (.brk ()))
def z2P (fuel:Nat) (x0:(List D.Agent)):Option (Bool):=((zD fuel (x0.length:Int) 1 600).bind fun r1=>(if(!r1)=true then some false else((iter (z2K fuel x0) fuel 0).bind fun o=>aft o (z4n fuel))))

theorem z5E {W:Base}{w:World}(hE:Ext W w){a0:Option Addr}{b0:Nat}{x0:(List D.Agent)}(t0:ty28.ro W [sl a0 x0 b0] x0){fuel:Nat}{r:Bool}(hm:z2P fuel x0=some r):
  Calls Tryd.prog 16 ⟨[sl a0 x0 b0]⟩ w (Ret fun v w8=>v=.bool r∧St w w8 []):=by
 refine into Tryd.func16 30 _ ?_;unfold z2P at hm;have hS:=St.start w;refine sq<|rg<|rr 1 ?_;refine rn<|sq<|sq<|rg<|rr 2 ?_;obtain⟨r1,G0,hm⟩:=bS hm;refine ca z32 (zS (hE.trans hS.ext)  G0) (fun v3 w4 E0=>?_);obtain⟨rfl,F0⟩:=E0;have u0:=hS.join F0;refine rr 1 ?_;refine rn<|ci hm (fun hm=>?_) (fun hm=>?_)
 ·refine sq<|rg<|rr 1 ?_;refine rn<|rt ?_;cases hm;exact⟨_,.cons (.tmp rfl) .nil,rfl,u0⟩
 ·refine sp<|sq<|sq<|rg<|rr 1 ?_;refine rn ?_;obtain⟨H0,i0,hm⟩:=bS hm;refine ct (fun(v0:Unit) F w9=>H0=.inl v0∧Ext w4 w9∧St w w9 []∧F=[]) ?_ ?_
  ·rintro v0 F f1 ⟨j0,D0,e0,rfl⟩;subst j0;rw [zR] at hm;unfold z4n at hm;refine sq<|rg<|rr 1 ?_;refine rn<|rt ?_;cases hm;exact⟨_,.cons (.tmp rfl) .nil,rfl,e0⟩
  ·refine bk<|wk [0,3] ?_;refine it (fun(Y:Int) F w9=>Ext w4 w9∧St w w9 []∧F=[(0,sl a0 x0 b0),(3,.int .i64 Y)]) i0 ⟨(Ext.refl _),u0,rfl⟩ ?_;rintro Y F K0 _ J0 ⟨y,d,rfl⟩ b H;unfold z2K at b;refine sq<|sq<|rg<|rr 4 ?_;refine rn<|ci b (fun b=>?_) (fun b=>?_)
   ·refine sp<|sq<|bk<|sq<|ct (fun(r0:Bool) F w9=>z1U fuel Y r0=some J0∧Ext K0 w9∧St w w9 []∧F=[(0,sl a0 x0 b0),(3,.int .i64 Y),(29,.bool r0)]) ?_ ?_
    ·rintro r0 F g1 ⟨b,c0,G,rfl⟩;unfold z1U at b;refine ci b (fun b=>?_) (fun b=>?_)
     ·refine sq<|rg<|rr 1 ?_;refine rn<|rt ?_;cases b;cases H;have hm:some _=some _:=hm;cases hm;exact⟨_,.cons (.tmp rfl) .nil,rfl,G⟩
     ·refine sp<|rg<|rr 3 ?_;refine rn ?_;cases b;exact⟨_,_,rfl,⟨(y.trans c0),G,rfl⟩,rfl⟩
    ·refine rg<|rr 2 ?_;obtain⟨j1,o0,b⟩:=bS b;refine ix (hE.trans d.ext) t0 o0 (fun b1 B0 f0 O=>?_);obtain⟨N0,V0,O0,X0,y0,R0,S0⟩:=zy O;subst y0;obtain⟨d1,p0,b⟩:=bS b;refine ca zaP (z5Y (hE.trans d.ext) O f0 p0) (fun e1 i1 d0=>?_);obtain⟨rfl,o⟩:=d0;have k:=d.join o;refine rr 2 ?_;refine rb 19 b (fun b=>?_) (fun b=>?_)
     ·refine rr 10 ?_;refine rn ?_;exact⟨true,_,⟨b,o.ext,k,rfl⟩,rfl⟩
     ·refine rr 2 ?_;obtain⟨M0,q0,b⟩:=bS b;refine ix (hE.trans k.ext) t0 q0 (fun c1 C0 g0 k0=>?_);obtain⟨P0,Y0,Q0,a1,A0,T0,U0⟩:=zy k0;subst A0;refine rr 1 ?_;refine l1 (At.ext (hE.trans k.ext) g0) 0 ?_;refine rr 5 ?_;refine rn ?_;exact⟨!((M0.Kind == 1) == (Y == 0)),_,⟨b,o.ext,k,rfl⟩,rfl⟩
   ·refine xt ?_;cases b;exact⟨_,_,⟨H,y,d,rfl⟩,rfl⟩

theorem zaV:Enters Tryd.prog 17:=⟨_,_,Tryd.func17,rfl,by kernel_rfl⟩
def z3w (fuel:Nat) (x0:(List D.Agent)) (x1:D.Port):Option (Bool):=((zD fuel x1.Agent 0 (w64 ((x0.length:Int) - 1))).bind fun b=>(if b=true then((idx x0 x1.Agent).bind fun k=>((zD fuel x1.Slot 0 (w64 ((k.Ports.length:Int) - 1))).bind fun d=>some d)) else some false))

theorem z6m {W:Base}{w:World}(hE:Ext W w){e0:Option Addr}{i0:Nat}{x0:(List D.Agent)}{f0:List Value}{x1:D.Port}(o0:ty28.ro W [sl e0 x0 i0] x0) (p0:ty64.ro W f0 x1){fuel:Nat}{r:Bool}(hm:z3w fuel x0 x1=some r):
  Calls Tryd.prog 17 ⟨[sl e0 x0 i0,.agg ⟨f0⟩]⟩ w (Ret fun v w8=>v=.bool r∧St w w8 []):=by
 have e1:=zT p0;subst e1;refine into Tryd.func17 24 _ ?_;unfold z3w at hm;have hS:=St.start w;refine sq<|rg<|nw hS (fun g2 w3 e4 k=>?_);refine rr 1 ?_;refine rn<|sq<|dn 0 mixed 20 [([],1048575),([0],1048574),([],1048575),([2],1048571),([3],1048567),([1,4],1048557),([5,5],1048543),([6],1048511),([7,6],1048383),([6],1048511),([6],1048511),([10,6],1047487),([9,11,6],1045951),([12,6],1044415),([13,6],1040319),([14,6],1032127),([15,6],1015743),([8,16,6,6],982719),([6,17],917439),([18,17,0,1,2,3,4,5,6,7,8,9,10,11,12,13,14,15,16,17,18],786431)] k.ext (fun b=>?_);have g0:=k.step (Ext.draw _);refine dr 16 b [0,2,3,4] ?_;refine dl b 1 ((k.bring 0 rfl).box) 0 ?_;obtain⟨B0,b0,hm⟩:=bS hm;refine o1 b 5 (mc b z32 (zS (hE.trans g0.ext)  b0) (fun D0 F0 G=>?_));obtain⟨rfl,o⟩:=G;refine⟨o.ext,?_⟩;have d:=g0.join o;refine dr 13 b [6] ?_;refine dw [0,3,4,11] ?_;refine db 11 hm (fun hm=>?_) (fun hm=>?_)
 ·refine dr 10 b [7,9,10] ?_;refine dl b 8 ((k.bring 0 rfl).box) 1 ?_;refine dl b 11 ((k.bring 0 rfl).box) 0 ?_;obtain⟨H0,c0,hm⟩:=bS hm;refine dx (hE.trans k.ext) b 12 o0 c0 (fun A0 k0 Y a0=>?_);obtain⟨q0,v0,r0,y0,j0,t0,u0⟩:=zy a0;subst j0;refine dr 6 b [13] ?_;refine dw [4,11,13,18] ?_;refine dl b 14 (At.ext (hE.trans k.ext) Y) 4 ?_;refine dr 3 b [15,16] ?_;obtain⟨C0,d0,hm⟩:=bS hm;refine o1 b 17 (mc b z32 (zS (hE.trans d.ext)  d0) (fun E0 G0 H=>?_));obtain⟨rfl,y⟩:=H;refine⟨y.ext,?_⟩;have O:=d.join y;refine dr 0 b [18,19] ?_;refine dw [4] ?_;refine dd b ?_;refine rt ?_;cases hm;exact⟨_,.cons (.tmp rfl) .nil,rfl,(O.taken 0)⟩
 ·refine dr 0 b [7,8,9,10,11,12,13,14,15,16,17,18,19] ?_;refine dw [4] ?_;refine dd b ?_;refine rt ?_;cases hm;exact⟨_,.cons (.tmp rfl) .nil,rfl,(d.taken 0)⟩

theorem zb2:Enters Tryd.prog 10:=⟨_,_,Tryd.func10,rfl,by kernel_rfl⟩
def z56 (fuel:Nat) (b:Unit):Option Bool:=some true
def z55 (fuel:Nat) (b:Int) (d:Unit):Option (Rd (Int) (Unit) (Bool)):=some (.next (w64 (b+1)))
def z2v (fuel:Nat) (b:Int) (d:Bool):Option (Rd (Int) (Unit) (Rd (Int) (Unit) (Bool))):=(if d=true then some (.ret (.ret false)) else some (.next (w64 (b+1))))
def z3T (fuel:Nat) (x0:D.Net) (o:Int) (y:D.Agent) (b:Int):Option (Rd (Int) (Unit) (Rd (Int) (Unit) (Bool))):=(if(decide (b<(y.Ports.length:Int)))=true then((idx y.Ports b).bind fun k=>(if(((k.Agent:Int) == o) && (((k.Slot:Int) == b) && true))=true then z2v fuel b true else((z3w fuel x0.Agents k).bind fun G=>(if(!G)=true then z2v fuel b true else((idx x0.Agents k.Agent).bind fun H=>((idx H.Ports k.Slot).bind fun d=>z2v fuel b (!(((d.Agent:Int) == o) && (((d.Slot:Int) == b) && true))))))))) else some (.brk ()))
def z3U (fuel:Nat) (x0:D.Net) (b:Int):Option (Rd (Int) (Unit) (Bool)):=(if(decide (b<(x0.Agents.length:Int)))=true then((idx x0.Agents b).bind fun d=>((iter (z3T fuel x0 b d) fuel 0).bind fun o=>aft o (z55 fuel b))) else some (.brk ()))
def z4a (fuel:Nat) (x0:D.Net):Option (Bool):=((z2P fuel x0.Agents).bind fun r5=>(if(!r5)=true then some false else((iter (z3U fuel x0) fuel 0).bind fun o=>aft o (z56 fuel))))

theorem z79 {W:Base}{w:World}(hE:Ext W w){a0:Addr}{a1:List Value}{x0:D.Net}(n1:ty30.ro W a1 x0) (c0:At W a0 a1){fuel:Nat}{r:Bool}(hm:z4a fuel x0=some r):
  Calls Tryd.prog 10 ⟨[.pointer (some a0)]⟩ w (Ret fun v w8=>v=.bool r∧St w w8 []):=by
 obtain⟨A1,k2,e4,h3⟩:=z1s n1;subst e4;refine into Tryd.func10 77 _ ?_;unfold z4a at hm;have hS:=St.start w;refine sq<|rg<|rr 1 ?_;refine rn<|sq<|sq<|rg<|rr 3 ?_;refine l1 (At.ext (hE.trans hS.ext) c0) 0 ?_;obtain⟨r5,u1,hm⟩:=bS hm;refine ca zaW (z5E (hE.trans hS.ext) h3 u1) (fun v7 Y1 y0=>?_);obtain⟨rfl,A0⟩:=y0;have d0:=hS.join A0;refine rr 1 ?_;refine rn<|ci hm (fun hm=>?_) (fun hm=>?_)
 ·refine sq<|rg<|rr 1 ?_;refine rn<|rt ?_;cases hm;exact⟨_,.cons (.tmp rfl) .nil,rfl,d0⟩
 ·refine sp<|sq<|sq<|rg<|rr 1 ?_;refine rn ?_;obtain⟨y1,M0,hm⟩:=bS hm;refine ct (fun(d1:Unit) F w9=>y1=.inl d1∧St w w9 []∧F=[]) ?_ ?_
  ·rintro d1 F a2 ⟨O0,C0,rfl⟩;subst O0;rw [zR] at hm;unfold z56 at hm;refine sq<|rg<|rr 1 ?_;refine rn<|rt ?_;cases hm;exact⟨_,.cons (.tmp rfl) .nil,rfl,C0⟩
  ·refine bk<|wk [0,3] ?_;refine it (fun(b0:Int) F w9=>St w w9 []∧F=[(0,.pointer (some a0)),(3,.int .i64 b0)]) M0 ⟨d0,rfl⟩ ?_;rintro b0 F b2 _ T1 ⟨y,rfl⟩ k j0;unfold z3U at k;refine sq<|sq<|rg<|rr 4 ?_;refine l1 (At.ext (hE.trans y.ext) c0) 0 ?_;refine rr 2 ?_;refine rn<|ci k (fun k=>?_) (fun k=>?_)
   ·refine sp<|sq<|bk<|sq<|rg<|rr 3 ?_;refine l1 (At.ext (hE.trans y.ext) c0) 0 ?_;refine rr 1 ?_;obtain⟨m2,T0,k⟩:=bS k;refine ix (hE.trans y.ext) h3 T0 (fun c1 j1 i0 Q0=>?_);obtain⟨G1,Q1,H1,R1,g1,O1,p1⟩:=zy Q0;subst g1;refine rr 1 ?_;refine rn<|sq<|rg<|rr 1 ?_;refine rn ?_;obtain⟨B1,N0,k⟩:=bS k;refine ct (fun(e1:Unit) F w9=>B1=.inl e1∧St w w9 []∧F=[(0,.pointer (some a0)),(3,.int .i64 b0)]) ?_ ?_
    ·rintro e1 F c2 ⟨P0,D0,rfl⟩;subst P0;rw [zR] at k;unfold z55 at k;refine rg<|rr 3 ?_;refine rn ?_;cases k;exact⟨_,_,rfl,⟨D0,rfl⟩,rfl⟩
    ·refine bk<|wk [0,3,4,5] ?_;refine it (fun(q0:Int) F w9=>St w w9 []∧F=[(0,.pointer (some a0)),(3,.int .i64 b0),(4,.pointer (some c1)),(5,.int .i64 q0)]) N0 ⟨y,rfl⟩ ?_;rintro q0 F d2 _ C1 ⟨O,rfl⟩ b k0;unfold z3T at b;refine sq<|sq<|rg<|rr 4 ?_;refine l1 (At.ext (hE.trans O.ext) i0) 4 ?_;refine rr 2 ?_;refine rn<|ci b (fun b=>?_) (fun b=>?_)
     ·refine sp<|sq<|bk<|sq<|rg<|rr 2 ?_;refine qt (qb) ?_;refine nw O (fun M1 e2 K1 E0=>?_);have F0:=E0.bring 0 rfl;refine so (A:=[]) F0 0 (fun f2 H=>?_);refine rn<|sq<|rg<|rr 3 ?_;refine l1 (At.ext (hE.trans H.ext) i0) 4 ?_;refine rr 1 ?_;obtain⟨F1,U0,b⟩:=bS b;refine ix (hE.trans H.ext) p1 U0 (fun U1 k1 J0 R0=>?_);have i1:=zT R0;subst i1;refine lN (At.ext (hE.trans H.ext) J0) ?_;refine nw H (fun N1 g2 L1 G0=>?_);have H0:=G0.bring 0 rfl;refine so (A:=[]) H0 0 (fun E1 o=>?_);refine rn<|sq<|ct (fun(Y0:Bool) F w9=>z2v fuel q0 Y0=some C1∧Ext E1 w9∧St w w9 []∧F=[(0,.pointer (some a0)),(3,.int .i64 b0),(4,.pointer (some c1)),(5,.int .i64 q0),(76,.bool Y0)]) ?_ ?_
      ·rintro Y0 F i2 ⟨b,t1,e0,rfl⟩;unfold z2v at b;refine ci b (fun b=>?_) (fun b=>?_)
       ·refine sq<|rg<|rr 1 ?_;refine rn<|rt ?_;cases b;cases k0;have k:some _=some _:=k;cases k;cases j0;have hm:some _=some _:=hm;cases hm;exact⟨_,.cons (.tmp rfl) .nil,rfl,e0⟩
       ·refine sp<|rg<|rr 3 ?_;refine rn ?_;cases b;exact⟨_,_,rfl,⟨e0,rfl⟩,rfl⟩
      ·refine dn 0 mixed 29 [([],536870911),([],536870911),([0,1],536870908),([2],536870907),([3],536870903),([4,3],536870887),([5,3],536870871),([6,3],536870839),([3],536870903),([7,8,3,3],536870519),([9,3],536870391),([3,10],536869879),([11,9],536868863),([12],536866815),([13,12],536858623),([14,12],536850431),([15,12],536834047),([12],536866815),([17,12],536735743),([16,18,12],536539135),([19,12],536342527),([20,12],535818239),([12],536866815),([22,12],532672511),([21,23,12],526381055),([24,12],520089599),([12],536866815),([25,26,12],436203519),([12,27],402649087)] o.ext (fun d=>?_);have Y:=o.step (Ext.draw _);refine dL d 0 ((o.bring 0 rfl).box) ?_;refine dL d 1 ((o.bring 1 rfl).box) ?_;refine dr 25 d [2,3] ?_;refine dw [0,3,4,5,6,7,51] ?_;refine db 51 b (fun b=>?_) (fun b=>?_)
       ·refine dr 0 d [4,5,6,7,8,9,10,11,12,13,14,15,16,17,18,19,20,21,22,23,24,25,26,27,28] ?_;refine dw [0,3,4,5,76] ?_;refine dd d ?_;exact⟨true,_,⟨b,(Ext.draw _),(Y.taken 0),rfl⟩,rfl⟩
       ·refine dr 22 d [4,5,6] ?_;refine dl d 7 (At.ext (hE.trans o.ext) c0) 0 ?_;refine dL d 8 ((o.bring 0 rfl).box) ?_;obtain⟨W1,V0,b⟩:=bS b;refine o1 d 9 (mc d zaV (z6m (hE.trans Y.ext) h3 (z1r F1) V0) (fun X1 j2 B0=>?_));obtain⟨rfl,G⟩:=B0;refine⟨G.ext,?_⟩;have f0:=Y.join G;refine dr 16 d [10,11,12] ?_;refine dw [0,3,4,5,6,7,60] ?_;refine db 60 b (fun b=>?_) (fun b=>?_)
        ·refine dr 0 d [13,14,15,16,17,18,19,20,21,22,23,24,25,26,27,28] ?_;refine dw [0,3,4,5,76] ?_;refine dd d ?_;exact⟨true,_,⟨b,((Ext.draw _).trans G.ext),(f0.taken 0),rfl⟩,rfl⟩
        ·refine dr 11 d [13,14,15,17,22] ?_;refine dl d 16 (At.ext (hE.trans o.ext) c0) 0 ?_;refine dl d 18 ((o.bring 0 rfl).box) 0 ?_;obtain⟨n2,X0,b⟩:=bS b;refine dx (hE.trans o.ext) d 19 h3 X0 (fun V1 m1 K0 S0=>?_);obtain⟨J1,S1,f1,v1,t0,P1,v0⟩:=zy S0;subst t0;refine dr 7 d [20] ?_;refine dw [0,3,4,5,6,60,68,70] ?_;refine dl d 21 (At.ext (hE.trans o.ext) K0) 4 ?_;refine dl d 23 ((o.bring 0 rfl).box) 1 ?_;obtain⟨r0,p0,b⟩:=bS b;refine dx (hE.trans o.ext) d 24 v0 p0 (fun D1 b1 g0 o0=>?_);have u0:=zT o0;subst u0;refine dL d 25 (At.ext (hE.trans o.ext) g0) ?_;refine dL d 26 ((o.bring 1 rfl).box) ?_;refine dr 0 d [27,28] ?_;refine dw [0,3,4,5,76] ?_;refine dd d ?_;exact⟨!(((r0.Agent:Int) == b0) && (((r0.Slot:Int) == q0) && true)),_,⟨b,((Ext.draw _).trans G.ext),(f0.taken 0),rfl⟩,rfl⟩
     ·refine xt ?_;cases b;exact⟨_,_,⟨k0,O,rfl⟩,rfl⟩
   ·refine xt ?_;cases k;exact⟨_,_,⟨j0,y,rfl⟩,rfl⟩

theorem z4Y:Enters Tryd.prog 22:=⟨_,_,Tryd.func22,rfl,by kernel_rfl⟩
def zN (fuel:Nat) (x0:D.Net) (x1:D.Port):Option (D.Port):=((idx x0.Agents x1.Agent).bind fun d=>((idx d.Ports x1.Slot).bind fun b=>some (⟨b.Agent,b.Slot⟩:D.Port)))

theorem z1x {W:Base}{w:World}(hE:Ext W w){f0:Addr}{d0:List Value}{x0:D.Net}{e0:List Value}{x1:D.Port}(p0:ty30.ro W d0 x0) (o0:At W f0 d0) (q0:ty64.ro W e0 x1){fuel:Nat}{r:D.Port}(hm:zN fuel x0 x1=some r):
  Calls Tryd.prog 22 ⟨[.pointer (some f0),.agg ⟨e0⟩]⟩ w (Ret fun v w8=>v=.agg ⟨[.int .i64 r.Agent,.int .i64 r.Slot]⟩∧St w w8 []):=by
 obtain⟨A1,k2,e4,h3⟩:=z1s p0;subst e4;have e5:=zT q0;subst e5;refine into Tryd.func22 18 _ ?_;unfold zN at hm;have hS:=St.start w;refine sq<|rg<|nw hS (fun g6 w7 v0 o=>?_);refine nw o (fun A0 G0 y0 d=>?_);refine rn<|sq<|dn 8192 mixed 14 [([],16383),([0],16382),([1],16381),([2],16379),([],16383),([4],16367),([3,5],16343),([6],16319),([7],16255),([],16383),([9],15871),([8,10],15103),([11],14335),([12,0,1,2,3,4,5,6,7,8,9,10,11,12],12287)] d.ext (fun b=>?_);have y:=d.step (Ext.draw _);refine dr 9 b [0,1,2,4,9] ?_;refine dl b 3 (At.ext (hE.trans d.ext) o0) 0 ?_;refine dl b 5 ((d.bring 1 rfl).box) 0 ?_;obtain⟨J0,b0,hm⟩:=bS hm;refine dx (hE.trans d.ext) b 6 h3 b0 (fun E0 j0 H Y=>?_);obtain⟨t0,C0,u0,D0,g0,B0,r0⟩:=zy Y;subst g0;refine dr 5 b [7] ?_;refine dw [4,12,14] ?_;refine dl b 8 (At.ext (hE.trans d.ext) H) 4 ?_;refine dl b 10 ((d.bring 1 rfl).box) 1 ?_;obtain⟨K0,c0,hm⟩:=bS hm;refine dx (hE.trans d.ext) b 11 r0 c0 (fun F0 k0 O a0=>?_);have i0:=zT a0;subst i0;refine dL b 12 (At.ext (hE.trans d.ext) O) ?_;have G:=y.bring 0 rfl;refine o1 b 13 (ms (A:=[]) G b 0 (fun H0 k=>?_));refine dd b ?_;refine rt ?_;cases hm;exact⟨_,.cons (ra ((k.bring 0 rfl).box)) .nil,rfl,(k.taken 0)⟩

theorem zaH:Enters Tryd.prog 40:=⟨_,_,Tryd.func40,rfl,by kernel_rfl⟩
def z4o (fuel:Nat) (t7:Unit):Option Bool:=some true
def z1W (fuel:Nat) (s6:Int) (b:Bool):Option (Rd (Int) (Unit) (Bool)):=(if b=true then some (.ret false) else some (.next (w64 (s6+1))))
def z2M (fuel:Nat) (x0:(List D.Agent)) (s6:Int):Option (Rd (Int) (Unit) (Bool)):=(if(decide (s6<(x0.length:Int)))=true then((idx x0 s6).bind fun b=>((z1n fuel b).bind fun d=>(if(!d)=true then z1W fuel s6 true else z1W fuel s6 (!((b.Kind == 1) == (s6 == 0)))))) else some (.brk ()))
def z1p (fuel:Nat) (x0:(List D.Agent)) (t1:Bool):Option Bool:=(if t1=true then some false else((iter (z2M fuel x0) fuel 0).bind fun o=>aft o (z4o fuel)))
def z2S (fuel:Nat) (x0:(List D.Agent)):Option (Bool):=(if(decide ((x0.length:Int)<1))=true then z1p fuel x0 true else z1p fuel x0 (decide ((x0.length:Int)>600)))

theorem z5O {W:Base}{w:World}(hE:Ext W w){G:Option Addr}{Y:Nat}{x0:(List D.Agent)}(u0:ty28.ro W [sl G x0 Y] x0){fuel:Nat}{r:Bool}(hm:z2S fuel x0=some r):
  Calls Tryd.prog 40 ⟨[sl G x0 Y]⟩ w (Ret fun v w8=>v=.bool r∧St w w8 []):=by
 refine into Tryd.func40 32 _ ?_;unfold z2S at hm;have hS:=St.start w;refine sq<|rg<|rr 1 ?_;refine rn<|sq<|sq<|ct (fun(t1:Bool) F w9=>z1p fuel x0 t1=some r∧Ext w w9∧St w w9 []∧F=[(0,sl G x0 Y),(12,.bool t1)]) ?_ ?_
 ·rintro t1 F w4 ⟨hm,J0,p0,rfl⟩;unfold z1p at hm;refine ci hm (fun hm=>?_) (fun hm=>?_)
  ·refine sq<|rg<|rr 1 ?_;refine rn<|rt ?_;cases hm;exact⟨_,.cons (.tmp rfl) .nil,rfl,p0⟩
  ·refine sp<|sq<|sq<|rg<|rr 3 ?_;refine rn ?_;obtain⟨B0,f0,hm⟩:=bS hm;refine ct (fun(t7:Unit) F w9=>B0=.inl t7∧St w w9 []∧F=[]) ?_ ?_
   ·rintro t7 F Q0 ⟨g0,b0,rfl⟩;subst g0;rw [zR] at hm;unfold z4o at hm;refine sq<|rg<|rr 1 ?_;refine rn<|rt ?_;cases hm;exact⟨_,.cons (.tmp rfl) .nil,rfl,b0⟩
   ·refine bk<|wk [13,14,15] ?_;refine it (fun(s6:Int) F w9=>St w w9 []∧F=[(13,sl G x0 Y),(14,.int .i64 (x0.length:Int)),(15,.int .i64 s6)]) f0 ⟨p0,rfl⟩ ?_;rintro s6 F R0 _ C0 ⟨d,rfl⟩ b O;unfold z2M at b;refine sq<|rg<|rr 1 ?_;refine rn<|sq<|ci b (fun b=>?_) (fun b=>?_)
    ·refine sp<|sq<|bk<|sq<|rg<|rr 1 ?_;obtain⟨q0,j0,b⟩:=bS b;refine ix (hE.trans d.ext) u0 j0 (fun N0 t0 e0 i0=>?_);obtain⟨E0,K0,F0,M0,r0,v0,y0⟩:=zy i0;subst r0;refine lN (At.ext (hE.trans d.ext) e0) ?_;refine nw d (fun H0 S0 G0 c0=>?_);refine rr 1 ?_;have d0:=c0.bring 0 rfl;refine so (A:=[]) d0 0 (fun D0 o=>?_);refine rn<|sq<|ct (fun(o0:Bool) F w9=>z1W fuel s6 o0=some C0∧Ext D0 w9∧St w w9 []∧F=[(13,sl G x0 Y),(14,.int .i64 (x0.length:Int)),(15,.int .i64 s6),(30,.bool o0)]) ?_ ?_
     ·rintro o0 F T0 ⟨b,A0,H,rfl⟩;unfold z1W at b;refine ci b (fun b=>?_) (fun b=>?_)
      ·refine sq<|rg<|rr 1 ?_;refine rn<|rt ?_;cases b;cases O;have hm:some _=some _:=hm;cases hm;exact⟨_,.cons (.tmp rfl) .nil,rfl,H⟩
      ·refine sp<|rg<|rr 2 ?_;refine rn ?_;cases b;exact⟨_,_,rfl,⟨H,rfl⟩,rfl⟩
     ·refine rg<|lN ((o.bring 0 rfl).box) ?_;obtain⟨O0,k0,b⟩:=bS b;refine ca zaq (z5w (hE.trans o.ext) (z9a q0 v0 y0) k0) (fun P0 U0 a0=>?_);obtain⟨rfl,k⟩:=a0;have y:=o.join k;refine rr 2 ?_;refine rb 23 b (fun b=>?_) (fun b=>?_)
      ·refine rr 7 ?_;refine rn ?_;exact⟨true,_,⟨b,k.ext,(y.taken 0),rfl⟩,rfl⟩
      ·refine rr 1 ?_;refine l1 ((y.bring 0 rfl).box) 0 ?_;refine rr 5 ?_;refine rn ?_;exact⟨!((q0.Kind == 1) == (s6 == 0)),_,⟨b,k.ext,(y.taken 0),rfl⟩,rfl⟩
    ·refine xt ?_;cases b;exact⟨_,_,⟨O,d,rfl⟩,rfl⟩
 ·refine rg<|rr 4 ?_;refine rb 8 hm (fun hm=>?_) (fun hm=>?_)
  ·refine rr 4 ?_;refine rn ?_;exact⟨true,_,⟨hm,(Ext.refl _),hS,rfl⟩,rfl⟩
  ·refine rr 4 ?_;refine rn ?_;exact⟨decide ((x0.length:Int)>600),_,⟨hm,(Ext.refl _),hS,rfl⟩,rfl⟩

theorem zaF:Enters Tryd.prog 42:=⟨_,_,Tryd.func42,rfl,by kernel_rfl⟩
def z3M (fuel:Nat) (t6:(List D.Port)):Option (List D.Port):=some t6
def z4p (fuel:Nat) (s5:(List D.Port) × Int) (b:(List D.Port)):Option (Rd ((List D.Port) × Int) ((List D.Port)) ((List D.Port))):=some (.next (b,w64 (s5.2+1)))
def z1X (fuel:Nat) (s5:(List D.Port) × Int) (d:D.Agent) (b:Int × (List D.Port)):Option (Rd (Int × (List D.Port)) ((List D.Port)) (Rd ((List D.Port) × Int) ((List D.Port)) ((List D.Port)))):=(if(decide (b.1<(d.Ports.length:Int)))=true then(if decide ((b.2.length:Int)+(([(⟨s5.2,b.1⟩:D.Port)]:(List D.Port)).length:Int)≤4294967296)=true then some (.next (w64 (b.1+1),(b.2++([(⟨s5.2,b.1⟩:D.Port)]:(List D.Port))))) else none) else some (.brk b.2))
def z1Y (fuel:Nat) (x0:D.Net) (s5:(List D.Port) × Int):Option (Rd ((List D.Port) × Int) ((List D.Port)) ((List D.Port))):=(if(decide (s5.2<(x0.Agents.length:Int)))=true then((idx x0.Agents s5.2).bind fun b=>((iter (z1X fuel s5 b) fuel (0,s5.1)).bind fun o=>aft o (z4p fuel s5))) else some (.brk s5.1))
def z2T (fuel:Nat) (x0:D.Net):Option ((List D.Port)):=((iter (z1Y fuel x0) fuel ([],0)).bind fun o=>aft o (z3M fuel))

theorem z5P {W:Base}{w:World}(hE:Ext W w){K0:Addr}{J0:List Value}{x0:D.Net}(Q0:ty30.ro W J0 x0) (P0:At W K0 J0){fuel:Nat}{r:(List D.Port)}(hm:z2T fuel x0=some r):
  Calls Tryd.prog 42 ⟨[.pointer (some K0)]⟩ w (Ret fun v w8=>∃ A0 k0,v=sl A0 r k0∧St w w8 [ow ty60 A0 r k0]):=by
 obtain⟨A1,k2,e4,h3⟩:=z1s Q0;subst e4;refine into Tryd.func42 32 _ ?_;unfold z2T at hm;have hS:=St.start w;refine sq<|rg<|rr 1 ?_;refine rn<|sq<|rg<|rr 1 ?_;refine rn<|sq<|sq<|rg<|rr 3 ?_;refine l1 (At.ext (hE.trans hS.ext) P0) 0 ?_;refine rr 2 ?_;refine rn ?_;obtain⟨S0,y0,hm⟩:=bS hm;refine ct (fun(t6:(List D.Port)) F w9=>∃ a0 d0,S0=.inl t6∧St w w9 [ow ty60 a0 t6 d0]∧F=[(3,sl a0 t6 d0)]) ?_ ?_
 ·rintro t6 F n1 ⟨a0,d0,C0,i0,rfl⟩;subst C0;rw [zR] at hm;unfold z3M at hm;refine sq<|rg<|rr 2 ?_;refine rn<|rt ?_;cases hm;exact⟨_,.cons (.tmp rfl) .nil,a0,d0,rfl,i0⟩
 ·refine bk ?_;have j0:=hS.nilSl ty64 64;refine wk [3,10,11,12] ?_;refine it (fun(s5:(List D.Port) × Int) F w9=>∃ y Y,St w w9 [ow ty60 y s5.1 Y]∧F=[(3,sl y s5.1 Y),(10,sl A1 x0.Agents k2),(11,.int .i64 (x0.Agents.length:Int)),(12,.int .i64 s5.2)]) y0 ⟨none,0,j0,rfl⟩ ?_;rintro s5 F p1 _ j1 ⟨y,Y,k,rfl⟩ b D0;unfold z1Y at b;refine sq<|rg<|rr 1 ?_;refine rn<|sq<|ci b (fun b=>?_) (fun b=>?_)
  ·refine sp<|sq<|bk<|sq<|rg<|rr 1 ?_;obtain⟨U0,H0,b⟩:=bS b;refine ix (hE.trans k.ext) h3 H0 (fun m1 O0 u0 G0=>?_);obtain⟨V0,f1,X0,g1,N0,d1,e1⟩:=zy G0;subst N0;refine lN (At.ext (hE.trans k.ext) u0) ?_;refine nw k (fun c1 t1 a1 o0=>?_);refine rr 1 ?_;have p0:=o0.bring 0 rfl;refine so (A:=[]) p0 0 (fun u1 G=>?_);refine rn<|sq<|rg<|rr 1 ?_;refine l1 ((G.bring 0 rfl).box) 4 ?_;refine rr 2 ?_;refine rn ?_;obtain⟨T0,B0,b⟩:=bS b;refine ct (fun(g0:(List D.Port)) F w9=>∃ c0 f0,T0=.inl g0∧St w w9 [ow ty60 c0 g0 f0]∧F=[(3,sl c0 g0 f0),(10,sl A1 x0.Agents k2),(11,.int .i64 (x0.Agents.length:Int)),(12,.int .i64 s5.2)]) ?_ ?_
   ·rintro g0 F v1 ⟨c0,f0,E0,q0,rfl⟩;subst E0;rw [zR] at b;unfold z4p at b;refine rg<|rr 2 ?_;refine rn ?_;cases b;exact⟨_,_,rfl,⟨c0,f0,q0,rfl⟩,rfl⟩
   ·refine bk<|wk [3,4,10,11,12,19,20] ?_;refine it (fun(o:Int × (List D.Port)) F w9=>∃ b0 e0,St w w9 [ow ty60 b0 o.2 e0]∧F=[(3,sl b0 o.2 e0),(4,.int .i64 s5.2),(10,sl A1 x0.Agents k2),(11,.int .i64 (x0.Agents.length:Int)),(12,.int .i64 s5.2),(19,.int .i64 (U0.Ports.length:Int)),(20,.int .i64 o.1)]) B0 ⟨y,Y,((G.bring 1 rfl).taken 1),rfl⟩ ?_;rintro o F y1 _ k1 ⟨b0,e0,H,rfl⟩ d F0;unfold z1X at d;refine sq<|rg<|rr 1 ?_;refine rn<|sq<|ci d (fun d=>?_) (fun d=>?_)
    ·refine sp<|sq<|bk<|sq<|rg<|rr 2 ?_;refine rn<|rg<|rr 3 ?_;refine qt (qb) ?_;refine ns (H.flatEls (U:=ty64) (els:=[.int .i64 s5.2,.int .i64 o.1]) (ys:=[(⟨s5.2,o.1⟩:D.Port)]) ⟨[.int .i64 s5.2,.int .i64 o.1],_,[],[],rfl,rfl,(z6g (c:=(⟨s5.2,o.1⟩:D.Port)) rfl),⟨rfl,rfl⟩⟩) (fun Y0 i1 B1 b1 r0=>?_);have O:=r0.bring 1 rfl;obtain⟨v0,d⟩:=iS d;refine ap (Flat.map (Flat.pair Flat.int (Flat.pair Flat.int Flat.unit))) O ((O.bring 1 rfl).own) v0 (fun M0 R0 C1 t0=>?_);refine rr 1 ?_;refine rn<|rg<|rr 2 ?_;refine rn ?_;cases d;exact⟨_,_,rfl,⟨M0,R0,(t0.taken 1),rfl⟩,rfl⟩
    ·refine xt ?_;cases d;exact⟨_,_,⟨b0,e0,F0,H,rfl⟩,rfl⟩
  ·refine xt ?_;cases b;exact⟨_,_,⟨y,Y,D0,k,rfl⟩,rfl⟩

theorem zap:Enters Tryd.prog 61:=⟨_,_,Tryd.func61,rfl,by kernel_rfl⟩
def zP (fuel:Nat) (t2:Unit):Option Int:=some (-1)
def zg (fuel:Nat) (x0:(List D.Port)) (x1:D.Port→Option Bool) (s1:Int):Option (Rd (Int) (Unit) (Int)):=(if(decide (s1<(x0.length:Int)))=true then((idx x0 s1).bind fun d=>((x1 d).bind fun b=>(if b=true then some (.ret s1) else some (.next (w64 (s1+1)))))) else some (.brk ()))
def zx (fuel:Nat) (x0:(List D.Port)) (x1:D.Port→Option Bool):Option (Int):=((iter (zg fuel x0 x1) fuel 0).bind fun o=>aft o (zP fuel))

theorem z33 {W:Base}{w:World}(hE:Ext W w){H:Option Addr}{f0:Nat}{x0:(List D.Port)}{f1_:Nat}{u1_:List Value}{x1:D.Port→Option Bool}(o0:ty60.ro W [sl H x0 f0] x0) (g0:Enters Tryd.prog f1_∧∀ {w9:World},Ext W w9→∀ {cz0:List Value}{z0:D.Port}{y9:Bool},ty64.ro w9 cz0 z0→x1 z0=some y9→Calls Tryd.prog f1_ ⟨[.agg ⟨cz0⟩]++u1_⟩ w9 (Ret fun v w8=>v=.bool y9∧St w9 w8 [])){fuel:Nat}{r:Int}(hm:zx fuel x0 x1=some r):
  Calls Tryd.prog 61 ⟨[sl H x0 f0,.func (.func f1_) #[] ⟨u1_⟩]⟩ w (Ret fun v w8=>v=.int .i64 r∧St w w8 []):=by
 refine into Tryd.func61 19 _ ?_;unfold zx at hm;have hS:=St.start w;refine sq<|rg<|rr 1 ?_;refine rn<|sq<|sq<|rg<|rr 3 ?_;refine rn ?_;obtain⟨p0,b0,hm⟩:=bS hm;refine ct (fun(t2:Unit) F w9=>p0=.inl t2∧Ext w w9∧St w w9 []∧F=[]) ?_ ?_
 ·rintro t2 F w7 ⟨c0,q0,Y,rfl⟩;subst c0;rw [zR] at hm;unfold zP at hm;refine sq<|rg<|rr 1 ?_;refine rn<|rt ?_;cases hm;exact⟨_,.cons (.tmp rfl) .nil,rfl,Y⟩
 ·refine bk<|wk [0,1,7,8] ?_;refine it (fun(s1:Int) F w9=>Ext w w9∧St w w9 []∧F=[(0,sl H x0 f0),(1,.func (.func f1_) #[] ⟨u1_⟩),(7,.int .i64 (x0.length:Int)),(8,.int .i64 s1)]) b0 ⟨(Ext.refl _),hS,rfl⟩ ?_;rintro s1 F y0 _ r0 ⟨i0,d,rfl⟩ b y;unfold zg at b;refine sq<|rg<|rr 1 ?_;refine rn<|sq<|ci b (fun b=>?_) (fun b=>?_)
  ·refine sp<|sq<|bk<|sq<|rg<|rr 2 ?_;refine rn<|sq<|rg<|rr 3 ?_;obtain⟨B0,d0,b⟩:=bS b;refine ix (hE.trans d.ext) o0 d0 (fun t0 k0 a0 G=>?_);have j0:=zT G;subst j0;refine lN (At.ext (hE.trans d.ext) a0) ?_;obtain⟨u0,e0,b⟩:=bS b;refine ca g0.1 (g0.2 (hE.trans d.ext) (ty64.ext (hE.trans d.ext) G) e0) (fun v0 A0 O=>?_);obtain⟨rfl,k⟩:=O;have o:=d.join k;refine rn<|ci b (fun b=>?_) (fun b=>?_)
   ·refine sq<|rg<|rr 2 ?_;refine rn<|rt ?_;cases b;cases y;have hm:some _=some _:=hm;cases hm;exact⟨_,.cons (.tmp rfl) .nil,rfl,o⟩
   ·refine sp<|rg<|rr 2 ?_;refine rn ?_;cases b;exact⟨_,_,rfl,⟨(i0.trans k.ext),o,rfl⟩,rfl⟩
  ·refine xt ?_;cases b;exact⟨_,_,⟨y,i0,d,rfl⟩,rfl⟩

theorem zaG:Enters Tryd.prog 41:=⟨_,_,Tryd.func41,rfl,by kernel_rfl⟩
def zh (fuel:Nat) (x0:(List D.Port)) (x1:D.Port→Option Bool):Option (Bool):=((zx fuel x0 x1).bind fun r1=>some (decide (r1≥0)))

theorem z2O {W:Base}{w:World}(hE:Ext W w){b:Option Addr}{d:Nat}{x0:(List D.Port)}{f1_:Nat}{u1_:List Value}{x1:D.Port→Option Bool}(k:ty60.ro W [sl b x0 d] x0) (o:Enters Tryd.prog f1_∧∀ {w9:World},Ext W w9→∀ {cz0:List Value}{z0:D.Port}{y9:Bool},ty64.ro w9 cz0 z0→x1 z0=some y9→Calls Tryd.prog f1_ ⟨[.agg ⟨cz0⟩]++u1_⟩ w9 (Ret fun v w8=>v=.bool y9∧St w9 w8 [])){fuel:Nat}{r:Bool}(hm:zh fuel x0 x1=some r):
  Calls Tryd.prog 41 ⟨[sl b x0 d,.func (.func f1_) #[] ⟨u1_⟩]⟩ w (Ret fun v w8=>v=.bool r∧St w w8 []):=by
 refine into Tryd.func41 9 _ ?_;unfold zh at hm;have hS:=St.start w;refine sq<|rg<|rr 1 ?_;refine rn<|sq<|rg<|rr 2 ?_;obtain⟨r1,O,hm⟩:=bS hm;refine ca zap (z33 (hE.trans hS.ext) k o O) (fun v3 w4 y=>?_);obtain⟨rfl,G⟩:=y;have H:=hS.join G;refine rr 2 ?_;refine rn<|rt ?_;cases hm;exact⟨_,.cons (.tmp rfl) .nil,rfl,H⟩

theorem zaD:Enters Tryd.prog 44:=⟨_,_,Tryd.func44,rfl,by kernel_rfl⟩
def z3F (fuel:Nat) (x0:(List D.Agent)) (x1:D.Port):Option (Bool):=(if(decide (x1.Agent≥0))=true then(if(decide (x1.Agent<(x0.length:Int)))=true then(if(decide (x1.Slot≥0))=true then((idx x0 x1.Agent).bind fun b=>some (decide (x1.Slot<(b.Ports.length:Int)))) else some false) else some false) else some false)

theorem z6F {W:Base}{w:World}(hE:Ext W w){H:Option Addr}{Y:Nat}{x0:(List D.Agent)}{O:List Value}{x1:D.Port}(c0:ty28.ro W [sl H x0 Y] x0) (d0:ty64.ro W O x1){fuel:Nat}{r:Bool}(hm:z3F fuel x0 x1=some r):
  Calls Tryd.prog 44 ⟨[sl H x0 Y,.agg ⟨O⟩]⟩ w (Ret fun v w8=>v=.bool r∧St w w8 []):=by
 have e1:=zT d0;subst e1;refine into Tryd.func44 32 _ ?_;unfold z3F at hm;have hS:=St.start w;refine sq<|rg<|nw hS (fun g2 w3 e4 d=>?_);refine rr 1 ?_;refine rn<|sq<|dn 0 mixed 28 [([],268435455),([0],268435454),([1],268435453),([2],268435451),([3],268435447),([4,3],268435431),([3],268435447),([6,3],268435383),([5,7,3],268435287),([3,8],268435191),([9,3],268434943),([10],268434431),([11,10],268432383),([12,10],268430335),([10,13],268426239),([14,10],268419071),([15],268402687),([16,15],268337151),([15],268402687),([15],268402687),([19,15],267878399),([18,20,15],267091967),([21,15],266305535),([22,15],264208383),([23,15],260014079),([17,24,15],251494399),([15,25],234848255),([26,15,0,1,2,3,4,5,6,7,8,9,10,11,12,13,14,15,16,17,18,19,20,21,22,23,24,25,26],201326591)] d.ext (fun b=>?_);have k:=d.step (Ext.draw _);refine dr 27 b [0] ?_;refine dl b 1 ((d.bring 0 rfl).box) 0 ?_;refine dr 24 b [2,3] ?_;refine db 8 hm (fun hm=>?_) (fun hm=>?_)
 ·refine dr 21 b [4,6,7] ?_;refine dl b 5 ((d.bring 0 rfl).box) 0 ?_;refine dr 17 b [8,9,10] ?_;refine dw [0,3,4,15] ?_;refine db 15 hm (fun hm=>?_) (fun hm=>?_)
  ·refine dr 16 b [11] ?_;refine dl b 12 ((d.bring 0 rfl).box) 1 ?_;refine dr 12 b [13,14,15] ?_;refine db 20 hm (fun hm=>?_) (fun hm=>?_)
   ·refine dr 9 b [16,18,19] ?_;refine dw [4,20,21,23,24] ?_;refine dl b 17 ((d.bring 0 rfl).box) 1 ?_;refine dl b 20 ((d.bring 0 rfl).box) 0 ?_;obtain⟨p0,G,hm⟩:=bS hm;refine dx (hE.trans d.ext) b 21 c0 G (fun o0 b0 o y=>?_);obtain⟨e0,j0,f0,k0,a0,g0,i0⟩:=zy y;subst a0;refine dr 5 b [22] ?_;refine dl b 23 (At.ext (hE.trans d.ext) o) 4 ?_;refine dr 0 b [24,25,26,27] ?_;refine dw [4] ?_;refine dd b ?_;refine rt ?_;cases hm;exact⟨_,.cons (.tmp rfl) .nil,rfl,(k.taken 0)⟩
   ·refine dr 0 b [16,17,18,19,20,21,22,23,24,25,26,27] ?_;refine dw [4] ?_;refine dd b ?_;refine rt ?_;cases hm;exact⟨_,.cons (.tmp rfl) .nil,rfl,(k.taken 0)⟩
  ·refine dr 0 b [11,12,13,14,15,16,17,18,19,20,21,22,23,24,25,26,27] ?_;refine dw [4] ?_;refine dd b ?_;refine rt ?_;cases hm;exact⟨_,.cons (.tmp rfl) .nil,rfl,(k.taken 0)⟩
 ·refine dr 0 b [4,5,6,7,8,9,10,11,12,13,14,15,16,17,18,19,20,21,22,23,24,25,26,27] ?_;refine dw [4] ?_;refine dd b ?_;refine rt ?_;cases hm;exact⟨_,.cons (.tmp rfl) .nil,rfl,(k.taken 0)⟩

theorem zaE:Enters Tryd.prog 43:=⟨_,_,Tryd.func43,rfl,by kernel_rfl⟩
def z31 (fuel:Nat) (x0:D.Port) (x1:D.Net):Option (Bool):=((zN fuel x1 x0).bind fun b=>(if(((b.Agent:Int) == x0.Agent) && (((b.Slot:Int) == x0.Slot) && true))=true then some true else((z3F fuel x1.Agents b).bind fun k=>(if(!k)=true then some true else((zN fuel x1 b).bind fun d=>some (!(((d.Agent:Int) == x0.Agent) && (((d.Slot:Int) == x0.Slot) && true))))))))

theorem z5k {W:Base}{w:World}(hE:Ext W w){p0:List Value}{x0:D.Port}{t0:Addr}{q0:List Value}{x1:D.Net}(r0:ty64.ro W p0 x0) (Y:ty30.ro W q0 x1) (O:At W t0 q0){fuel:Nat}{r:Bool}(hm:z31 fuel x0 x1=some r):
  Calls Tryd.prog 43 ⟨[.agg ⟨p0⟩,.pointer (some t0)]⟩ w (Ret fun v w8=>v=.bool r∧St w w8 []):=by
 have e1:=zT r0;subst e1;obtain⟨A2,k3,e5,h4⟩:=z1s Y;subst e5;refine into Tryd.func43 23 _ ?_;unfold z31 at hm;have hS:=St.start w;refine sq<|rg<|nw hS (fun g6 w7 v0 k=>?_);refine rr 1 ?_;refine rn<|sq<|rg<|lN ((k.bring 0 rfl).box) ?_;obtain⟨u0,j0,hm⟩:=bS hm;refine ca z4Y (z1x (hE.trans k.ext) Y O r0 j0) (fun D0 G0 a0=>?_);obtain⟨rfl,b0⟩:=a0;have e0:=k.join b0;refine nw e0 (fun A0 H0 y0 f0=>?_);have g0:=f0.bring 0 rfl;refine so (A:=[]) g0 0 (fun J0 d=>?_);refine rn<|sq<|dn 0 mixed 17 [([],131071),([],131071),([0,1],131068),([2],131067),([3],131063),([4,3],131047),([3],131063),([5,6,3,3],130967),([7,3],130935),([3,8],130807),([9,7],130559),([10],130047),([11,10,10],127999),([10],130047),([12,13,10],117759),([10,14],113663),([15,12,0,1,2,3,4,5,6,7,8,9,10,11,12,13,14,15],98303)] d.ext (fun b=>?_);have o:=d.step (Ext.draw _);refine dL b 0 ((d.bring 0 rfl).box) ?_;refine dL b 1 ((d.bring 1 rfl).box) ?_;refine dr 13 b [2,3] ?_;refine dw [1,2,3,4,10] ?_;refine db 10 hm (fun hm=>?_) (fun hm=>?_)
 ·refine dr 0 b [4,5,6,7,8,9,10,11,12,13,14,15,16] ?_;refine dw [3] ?_;refine dd b ?_;refine rt ?_;cases hm;exact⟨_,.cons (.tmp rfl) .nil,rfl,(o.taken 0)⟩
 ·refine dr 12 b [4] ?_;refine dl b 5 (At.ext (hE.trans d.ext) O) 0 ?_;refine dL b 6 ((d.bring 0 rfl).box) ?_;obtain⟨B0,k0,hm⟩:=bS hm;refine o1 b 7 (mc b zaD (z6F (hE.trans o.ext) h4 (z1r u0) k0) (fun E0 K0 c0=>?_));obtain⟨rfl,G⟩:=c0;refine⟨G.ext,?_⟩;have y:=o.join G;refine dr 6 b [8,9,10] ?_;refine dw [1,2,3,4,17] ?_;refine db 17 hm (fun hm=>?_) (fun hm=>?_)
  ·refine dr 0 b [11,12,13,14,15,16] ?_;refine dw [3] ?_;refine dd b ?_;refine rt ?_;cases hm;exact⟨_,.cons (.tmp rfl) .nil,rfl,(y.taken 0)⟩
  ·refine dL b 11 ((d.bring 0 rfl).box) ?_;refine dL b 13 ((d.bring 1 rfl).box) ?_;obtain⟨C0,o0,hm⟩:=bS hm;refine o1 b 12 (mc b z4Y (z1x (hE.trans y.ext) Y O (z1r u0) o0) (fun F0 M0 d0=>?_));obtain⟨rfl,H⟩:=d0;refine⟨H.ext,?_⟩;have i0:=y.join H;refine dr 0 b [14,15,16] ?_;refine dw [3] ?_;refine dd b ?_;refine rt ?_;cases hm;exact⟨_,.cons (.tmp rfl) .nil,rfl,(i0.taken 0)⟩

theorem zaT:Enters Tryd.prog 20:=⟨_,_,Tryd.func20,rfl,by kernel_rfl⟩
def z3i (fuel:Nat) (x0:D.Net):Option (Bool):=((z2S fuel x0.Agents).bind fun b=>(if(!b)=true then some false else((z2T fuel x0).bind fun d=>((zh fuel d (fun y0=>z31 fuel y0 x0)).bind fun k=>some (!k)))))

theorem z63 {W:Base}{w:World}(hE:Ext W w){g0:List Value}{x0:D.Net}(y:ty30.ro W g0 x0){fuel:Nat}{r:Bool}(hm:z3i fuel x0=some r):
  Calls Tryd.prog 20 ⟨[.agg ⟨g0⟩]⟩ w (Ret fun v w8=>v=.bool r∧St w w8 []):=by
 obtain⟨A1,k2,e4,h3⟩:=z1s y;subst e4;refine into Tryd.func20 11 _ ?_;unfold z3i at hm;have hS:=St.start w;refine sq<|rg<|nw hS (fun g5 w6 e7 k=>?_);refine rr 1 ?_;refine rn<|sq<|sq<|rg<|rr 1 ?_;refine l1 ((k.bring 0 rfl).box) 0 ?_;obtain⟨o0,d0,hm⟩:=bS hm;refine ca zaH (z5O (hE.trans k.ext) h3 d0) (fun r0 v0 G=>?_);obtain⟨rfl,H⟩:=G;have b:=k.join H;refine rr 1 ?_;refine rn<|ci hm (fun hm=>?_) (fun hm=>?_)
 ·refine sq<|rg<|rr 1 ?_;refine rn<|rt ?_;cases hm;exact⟨_,.cons (.tmp rfl) .nil,rfl,(b.taken 0)⟩
 ·refine sp<|sq<|rg ?_;obtain⟨p0,e0,hm⟩:=bS hm;refine ca zaF (z5P (Ext.refl _) (ty30.ext (hE.trans b.ext) y) ((b.bring 0 rfl).box) e0) (fun t0 y0 O=>?_);obtain⟨j0,k0,rfl,Y⟩:=O;have d:=b.join Y;refine rr 1 ?_;obtain⟨q0,f0,hm⟩:=bS hm;refine ca zaG (z2O (Ext.refl _) ((d.bring 0 rfl).own) ⟨zaE,fun e9=>(fun o i0=>z5k (Ext.refl _) o (ty30.ext e9 (ty30.ext (hE.trans d.ext) y)) (At.ext e9 ((d.bring 1 rfl).box)) i0)⟩ f0) (fun u0 A0 a0=>?_);obtain⟨rfl,b0⟩:=a0;have c0:=d.join b0;refine rr 2 ?_;refine rn<|rt ?_;cases hm;exact⟨_,.cons (.tmp rfl) .nil,rfl,(c0.taken 0)⟩

end Go.E


