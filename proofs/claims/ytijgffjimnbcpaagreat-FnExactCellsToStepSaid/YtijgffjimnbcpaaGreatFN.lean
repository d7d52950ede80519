/- Models of functions and proofs that the code runs as they say (written by program). Conditions: the model gives a value. -/
import Derived.Test.YtijgffjimnbcpaaGreatFA
namespace Go.E
open Go.RowKit Go.Proofs
set_option linter.unusedVariables false
set_option linter.unusedSimpArgs false
set_option maxHeartbeats 2000000
set_option maxRecDepth 100000

theorem zfe:Enters Tryz.prog 103:=⟨_,_,Tryz.func103,rfl,by kernel_rfl⟩
def z6B (fuel:Nat) (d:Unit):Option Bool:=some true
def z2E (fuel:Nat) (d:Int) (h:Bool):Option (Rd (Int) (Unit) (Bool)):=(if h=true then some (.ret false) else some (.next (w64 (d+1))))
def z3X (fuel:Nat) (x0:(List D.Agent)) (d:Int):Option (Rd (Int) (Unit) (Bool)):=(if(decide (d<(x0.length:Int)))=true then((idx x0 d).bind fun o=>((z1M fuel o).bind fun h=>(if(!h)=true then z2E fuel d true else((idx x0 d).bind fun u=>z2E fuel d (!((u.Kind == 1) == (d == 0))))))) else some (.brk ()))
def z49 (fuel:Nat) (x0:(List D.Agent)):Option (Bool):=((z5 fuel (x0.length:Int) 1 600).bind fun r1=>(if(!r1)=true then some false else((iter (z3X fuel x0) fuel 0).bind fun o=>aft o (z6B fuel))))

theorem z8L {W w:World}(hE:Ext W w){M:Option Addr}{O:Nat}{x0:(List D.Agent)}(j0:ty40.ro W [sl M x0 O] x0){fuel:Nat}{r:Bool}(hm:z49 fuel x0=some r):
  Calls Tryz.prog 103 ⟨[sl M x0 O]⟩ w (Ret fun v w8=>v=.bool r∧St w w8 []):=by
 refine into Tryz.func103 30 _ ?_;unfold z49 at hm;have hS:=St.start w;refine sq<|rg<|rr 1 ?_;refine rn<|sq<|sq<|rg<|rr 2 ?_;obtain⟨r1,A0,hm⟩:=bS hm;refine ca z1y (z7 (hE.trans hS.ext)  A0) (fun v3 w4 v0=>?_);obtain⟨rfl,y0⟩:=v0;have k0:=hS.join y0;refine rr 1 ?_;refine rn<|ci hm (fun hm=>?_) (fun hm=>?_)
 ·refine sq<|rg<|rr 1 ?_;refine rn<|rt ?_;cases hm;exact⟨_,.cons (.tmp rfl) .nil,rfl,k0⟩
 ·refine sp<|sq<|sq<|rg<|rr 1 ?_;refine rn ?_;obtain⟨B0,a0,hm⟩:=bS hm;refine ct (fun(o0:Unit) F w9=>B0=.inl o0∧Ext w4 w9∧St w w9 []∧F=[]) ?_ ?_
  ·rintro o0 F X0 ⟨b0,u0,X,rfl⟩;subst b0;rw [zi] at hm;unfold z6B at hm;refine sq<|rg<|rr 1 ?_;refine rn<|rt ?_;cases hm;exact⟨_,.cons (.tmp rfl) .nil,rfl,X⟩
  ·refine bk<|wk [0,3] ?_;refine it (fun(L:Int) F w9=>Ext w4 w9∧St w w9 []∧F=[(0,sl M x0 O),(3,.int .i64 L)]) a0 ⟨(Ext.refl _),k0,rfl⟩ ?_;rintro L F D0 _ C0 ⟨y,h,rfl⟩ d G;unfold z3X at d;refine sq<|sq<|rg<|rr 4 ?_;refine rn<|ci d (fun d=>?_) (fun d=>?_)
   ·refine sp<|sq<|bk<|sq<|ct (fun(i0:Bool) F w9=>z2E fuel L i0=some C0∧Ext D0 w9∧St w w9 []∧F=[(0,sl M x0 O),(3,.int .i64 L),(29,.bool i0)]) ?_ ?_
    ·rintro i0 F Y0 ⟨d,S,z,rfl⟩;unfold z2E at d;refine ci d (fun d=>?_) (fun d=>?_)
     ·refine sq<|rg<|rr 1 ?_;refine rn<|rt ?_;cases d;cases G;have hm:some _=some _:=hm;cases hm;exact⟨_,.cons (.tmp rfl) .nil,rfl,z⟩
     ·refine sp<|rg<|rr 3 ?_;refine rn ?_;cases d;exact⟨_,_,rfl,⟨(y.trans S),z,rfl⟩,rfl⟩
    ·refine rg<|rr 2 ?_;obtain⟨b1,e0,d⟩:=bS d;refine ix (hE.trans h.ext) j0 e0 (fun S0 r0 Y H=>?_);obtain⟨F0,O0,G0,P0,p0,K0,L0⟩:=z6 H;subst p0;obtain⟨U0,f0,d⟩:=bS d;refine ca zbX (z7q (hE.trans h.ext) H Y f0) (fun V0 a1 V=>?_);obtain⟨rfl,u⟩:=V;have o:=h.join u;refine rr 2 ?_;refine rb 19 d (fun d=>?_) (fun d=>?_)
     ·refine rr 10 ?_;refine rn ?_;exact⟨true,_,⟨d,u.ext,o,rfl⟩,rfl⟩
     ·refine rr 2 ?_;obtain⟨E0,g0,d⟩:=bS d;refine ix (hE.trans o.ext) j0 g0 (fun T0 t0 Z d0=>?_);obtain⟨H0,Q0,J0,R0,q0,M0,N0⟩:=z6 d0;subst q0;refine rr 1 ?_;refine l1 (At.ext (hE.trans o.ext) Z) 0 ?_;refine rr 5 ?_;refine rn ?_;exact⟨!((E0.Kind == 1) == (L == 0)),_,⟨d,u.ext,o,rfl⟩,rfl⟩
   ·refine xt ?_;cases d;exact⟨_,_,⟨G,y,h,rfl⟩,rfl⟩

theorem zfd:Enters Tryz.prog 104:=⟨_,_,Tryz.func104,rfl,by kernel_rfl⟩
def z5e (fuel:Nat) (x0:(List D.Agent)) (x1:D.Port):Option (Bool):=((z5 fuel x1.Agent 0 (w64 ((x0.length:Int) - 1))).bind fun d=>(if d=true then((idx x0 x1.Agent).bind fun o=>((z5 fuel x1.Slot 0 (w64 ((o.Ports.length:Int) - 1))).bind fun h=>some h)) else some false))

theorem z9w {W w:World}(hE:Ext W w){X:Option Addr}{a0:Nat}{x0:(List D.Agent)}{Y:List Value}{x1:D.Port}(e0:ty40.ro W [sl X x0 a0] x0) (f0:z4s.ro W Y x1){fuel:Nat}{r:Bool}(hm:z5e fuel x0 x1=some r):
  Calls Tryz.prog 104 ⟨[sl X x0 a0,.agg ⟨Y⟩]⟩ w (Ret fun v w8=>v=.bool r∧St w w8 []):=by
 have e1:=zY f0;subst e1;refine into Tryz.func104 24 _ ?_;unfold z5e at hm;have hS:=St.start w;refine sq<|rg<|nw hS (fun g2 w3 e4 o=>?_);refine rr 1 ?_;refine rn<|sq<|dn 0 mixed 20 [([],1048575),([0],1048574),([],1048575),([2],1048571),([3],1048567),([1,4],1048557),([5,5],1048543),([6],1048511),([7,6],1048383),([6],1048511),([6],1048511),([10,6],1047487),([9,11,6],1045951),([12,6],1044415),([13,6],1040319),([14,6],1032127),([15,6],1015743),([8,16,6,6],982719),([6,17],917439),([18,17,0,1,2,3,4,5,6,7,8,9,10,11,12,13,14,15,16,17,18],786431)] o.ext (fun d=>?_);have Z:=o.step (Ext.draw _);refine dr 16 d [0,2,3,4] ?_;refine dl d 1 ((o.bring 0 rfl).box) 0 ?_;obtain⟨r0,O,hm⟩:=bS hm;refine o1 d 5 (mc d z1y (z7 (hE.trans Z.ext)  O) (fun u0 y0 z=>?_));obtain⟨rfl,u⟩:=z;refine⟨u.ext,?_⟩;have h:=Z.join u;refine dr 13 d [6] ?_;refine dw [0,3,4,11] ?_;refine db 11 hm (fun hm=>?_) (fun hm=>?_)
 ·refine dr 10 d [7,9,10] ?_;refine dl d 8 ((o.bring 0 rfl).box) 1 ?_;refine dl d 11 ((o.bring 0 rfl).box) 0 ?_;obtain⟨B0,S,hm⟩:=bS hm;refine dx (hE.trans o.ext) d 12 e0 S (fun q0 d0 L M=>?_);obtain⟨g0,o0,i0,p0,b0,j0,k0⟩:=z6 M;subst b0;refine dr 6 d [13] ?_;refine dw [4,11,13,18] ?_;refine dl d 14 (At.ext (hE.trans o.ext) L) 4 ?_;refine dr 3 d [15,16] ?_;obtain⟨t0,V,hm⟩:=bS hm;refine o1 d 17 (mc d z1y (z7 (hE.trans h.ext)  V) (fun v0 A0 G=>?_));obtain⟨rfl,y⟩:=G;refine⟨y.ext,?_⟩;have H:=h.join y;refine dr 0 d [18,19] ?_;refine dw [4] ?_;refine dd d ?_;refine rt ?_;cases hm;exact⟨_,.cons (.tmp rfl) .nil,rfl,(H.taken 0)⟩
 ·refine dr 0 d [7,8,9,10,11,12,13,14,15,16,17,18,19] ?_;refine dw [4] ?_;refine dd d ?_;refine rt ?_;cases hm;exact⟨_,.cons (.tmp rfl) .nil,rfl,(h.taken 0)⟩

theorem zg5:Enters Tryz.prog 56:=⟨_,_,Tryz.func56,rfl,by kernel_rfl⟩
def z7J (fuel:Nat) (d:Unit):Option Bool:=some true
def z7H (fuel:Nat) (d:Int) (h:Unit):Option (Rd (Int) (Unit) (Bool)):=some (.next (w64 (d+1)))
def z3x (fuel:Nat) (d:Int) (h:Bool):Option (Rd (Int) (Unit) (Rd (Int) (Unit) (Bool))):=(if h=true then some (.ret (.ret false)) else some (.next (w64 (d+1))))
def z5S (fuel:Nat) (x0:D.Net) (u:Int) (y:D.Agent) (d:Int):Option (Rd (Int) (Unit) (Rd (Int) (Unit) (Bool))):=(if(decide (d<(y.Ports.length:Int)))=true then((idx y.Ports d).bind fun o=>(if(((o.Agent:Int) == u) && (((o.Slot:Int) == d) && true))=true then z3x fuel d true else((z5e fuel x0.Agents o).bind fun z=>(if(!z)=true then z3x fuel d true else((idx x0.Agents o.Agent).bind fun G=>((idx G.Ports o.Slot).bind fun h=>z3x fuel d (!(((h.Agent:Int) == u) && (((h.Slot:Int) == d) && true))))))))) else some (.brk ()))
def z5T (fuel:Nat) (x0:D.Net) (d:Int):Option (Rd (Int) (Unit) (Bool)):=(if(decide (d<(x0.Agents.length:Int)))=true then((idx x0.Agents d).bind fun h=>((iter (z5S fuel x0 d h) fuel 0).bind fun o=>aft o (z7H fuel d))) else some (.brk ()))
def z6k (fuel:Nat) (x0:D.Net):Option (Bool):=((z49 fuel x0.Agents).bind fun r5=>(if(!r5)=true then some false else((iter (z5T fuel x0) fuel 0).bind fun o=>aft o (z7J fuel))))

theorem zay {W w:World}(hE:Ext W w){M:Addr}{R0:List Value}{x0:D.Net}(f1:ty42.ro W R0 x0) (S:At W M R0){fuel:Nat}{r:Bool}(hm:z6k fuel x0=some r):
  Calls Tryz.prog 56 ⟨[.pointer (some M)]⟩ w (Ret fun v w8=>v=.bool r∧St w w8 []):=by
 obtain⟨A1,k2,e4,h3⟩:=z15 f1;subst e4;refine into Tryz.func56 77 _ ?_;unfold z6k at hm;have hS:=St.start w;refine sq<|rg<|rr 1 ?_;refine rn<|sq<|sq<|rg<|rr 3 ?_;refine l1 (At.ext (hE.trans hS.ext) S) 0 ?_;obtain⟨r5,j1,hm⟩:=bS hm;refine ca zfe (z8L (hE.trans hS.ext) h3 j1) (fun v7 S1 p0=>?_);obtain⟨rfl,q0⟩:=p0;have V:=hS.join q0;refine rr 1 ?_;refine rn<|ci hm (fun hm=>?_) (fun hm=>?_)
 ·refine sq<|rg<|rr 1 ?_;refine rn<|rt ?_;cases hm;exact⟨_,.cons (.tmp rfl) .nil,rfl,V⟩
 ·refine sp<|sq<|sq<|rg<|rr 1 ?_;refine rn ?_;obtain⟨n1,E0,hm⟩:=bS hm;refine ct (fun(U0:Unit) F w9=>n1=.inl U0∧St w w9 []∧F=[]) ?_ ?_
  ·rintro U0 F T1 ⟨G0,t0,rfl⟩;subst G0;rw [zi] at hm;unfold z7J at hm;refine sq<|rg<|rr 1 ?_;refine rn<|rt ?_;cases hm;exact⟨_,.cons (.tmp rfl) .nil,rfl,t0⟩
  ·refine bk<|wk [0,3] ?_;refine it (fun(O:Int) F w9=>St w w9 []∧F=[(0,.pointer (some M)),(3,.int .i64 O)]) E0 ⟨V,rfl⟩ ?_;rintro O F U1 _ N1 ⟨y,rfl⟩ o b0;unfold z5T at o;refine sq<|sq<|rg<|rr 4 ?_;refine l1 (At.ext (hE.trans y.ext) S) 0 ?_;refine rr 2 ?_;refine rn<|ci o (fun o=>?_) (fun o=>?_)
   ·refine sp<|sq<|bk<|sq<|rg<|rr 3 ?_;refine l1 (At.ext (hE.trans y.ext) S) 0 ?_;refine rr 1 ?_;obtain⟨e2,M0,o⟩:=bS o;refine ix (hE.trans y.ext) h3 M0 (fun T0 b1 a0 J0=>?_);obtain⟨y1,K1,B1,L1,Y0,H1,g1⟩:=z6 J0;subst Y0;refine rr 1 ?_;refine rn<|sq<|rg<|rr 1 ?_;refine rn ?_;obtain⟨p1,F0,o⟩:=bS o;refine ct (fun(V0:Unit) F w9=>p1=.inl V0∧St w w9 []∧F=[(0,.pointer (some M)),(3,.int .i64 O)]) ?_ ?_
    ·rintro V0 F V1 ⟨H0,u0,rfl⟩;subst H0;rw [zi] at o;unfold z7H at o;refine rg<|rr 3 ?_;refine rn ?_;cases o;exact⟨_,_,rfl,⟨u0,rfl⟩,rfl⟩
    ·refine bk<|wk [0,3,4,5] ?_;refine it (fun(g0:Int) F w9=>St w w9 []∧F=[(0,.pointer (some M)),(3,.int .i64 O),(4,.pointer (some T0)),(5,.int .i64 g0)]) F0 ⟨y,rfl⟩ ?_;rintro g0 F W1 _ s1 ⟨H,rfl⟩ d d0;unfold z5S at d;refine sq<|sq<|rg<|rr 4 ?_;refine l1 (At.ext (hE.trans H.ext) a0) 4 ?_;refine rr 2 ?_;refine rn<|ci d (fun d=>?_) (fun d=>?_)
     ·refine sp<|sq<|bk<|sq<|rg<|rr 2 ?_;refine qt (qb) ?_;refine nw H (fun F1 X1 D1 v0=>?_);have y0:=v0.bring 0 rfl;refine so (A:=[]) y0 0 (fun Y1 G=>?_);refine rn<|sq<|rg<|rr 3 ?_;refine l1 (At.ext (hE.trans G.ext) a0) 4 ?_;refine rr 1 ?_;obtain⟨v1,N0,d⟩:=bS d;refine ix (hE.trans G.ext) g1 N0 (fun O1 d1 C0 K0=>?_);have a1:=zY K0;subst a1;refine lN (At.ext (hE.trans G.ext) C0) ?_;refine nw G (fun G1 a2 E1 A0=>?_);have B0:=A0.bring 0 rfl;refine so (A:=[]) B0 0 (fun u1 u=>?_);refine rn<|sq<|ct (fun(Q0:Bool) F w9=>z3x fuel g0 Q0=some s1∧Ext u1 w9∧St w w9 []∧F=[(0,.pointer (some M)),(3,.int .i64 O),(4,.pointer (some T0)),(5,.int .i64 g0),(76,.bool Q0)]) ?_ ?_
      ·rintro Q0 F b2 ⟨d,i1,X,rfl⟩;unfold z3x at d;refine ci d (fun d=>?_) (fun d=>?_)
       ·refine sq<|rg<|rr 1 ?_;refine rn<|rt ?_;cases d;cases d0;have o:some _=some _:=o;cases o;cases b0;have hm:some _=some _:=hm;cases hm;exact⟨_,.cons (.tmp rfl) .nil,rfl,X⟩
       ·refine sp<|rg<|rr 3 ?_;refine rn ?_;cases d;exact⟨_,_,rfl,⟨X,rfl⟩,rfl⟩
      ·refine dn 0 mixed 29 [([],536870911),([],536870911),([0,1],536870908),([2],536870907),([3],536870903),([4,3],536870887),([5,3],536870871),([6,3],536870839),([3],536870903),([7,8,3,3],536870519),([9,3],536870391),([3,10],536869879),([11,9],536868863),([12],536866815),([13,12],536858623),([14,12],536850431),([15,12],536834047),([12],536866815),([17,12],536735743),([16,18,12],536539135),([19,12],536342527),([20,12],535818239),([12],536866815),([22,12],532672511),([21,23,12],526381055),([24,12],520089599),([12],536866815),([25,26,12],436203519),([12,27],402649087)] u.ext (fun h=>?_);have L:=u.step (Ext.draw _);refine dL h 0 ((u.bring 0 rfl).box) ?_;refine dL h 1 ((u.bring 1 rfl).box) ?_;refine dr 25 h [2,3] ?_;refine dw [0,3,4,5,6,7,51] ?_;refine db 51 d (fun d=>?_) (fun d=>?_)
       ·refine dr 0 h [4,5,6,7,8,9,10,11,12,13,14,15,16,17,18,19,20,21,22,23,24,25,26,27,28] ?_;refine dw [0,3,4,5,76] ?_;refine dd h ?_;exact⟨true,_,⟨d,(Ext.draw _),(L.taken 0),rfl⟩,rfl⟩
       ·refine dr 22 h [4,5,6] ?_;refine dl h 7 (At.ext (hE.trans u.ext) S) 0 ?_;refine dL h 8 ((u.bring 0 rfl).box) ?_;obtain⟨Q1,O0,d⟩:=bS d;refine o1 h 9 (mc h zfd (z9w (hE.trans L.ext) h3 (z69 v1) O0) (fun R1 d2 r0=>?_));obtain⟨rfl,z⟩:=r0;refine⟨z.ext,?_⟩;have Y:=L.join z;refine dr 16 h [10,11,12] ?_;refine dw [0,3,4,5,6,7,60] ?_;refine db 60 d (fun d=>?_) (fun d=>?_)
        ·refine dr 0 h [13,14,15,16,17,18,19,20,21,22,23,24,25,26,27,28] ?_;refine dw [0,3,4,5,76] ?_;refine dd h ?_;exact⟨true,_,⟨d,((Ext.draw _).trans z.ext),(Y.taken 0),rfl⟩,rfl⟩
        ·refine dr 11 h [13,14,15,17,22] ?_;refine dl h 16 (At.ext (hE.trans u.ext) S) 0 ?_;refine dl h 18 ((u.bring 0 rfl).box) 0 ?_;obtain⟨f2,P0,d⟩:=bS d;refine dx (hE.trans u.ext) h 19 h3 P0 (fun P1 e1 D0 L0=>?_);obtain⟨C1,M1,X0,m1,j0,J1,o0⟩:=z6 L0;subst j0;refine dr 7 h [20] ?_;refine dw [0,3,4,5,6,60,68,70] ?_;refine dl h 21 (At.ext (hE.trans u.ext) D0) 4 ?_;refine dl h 23 ((u.bring 0 rfl).box) 1 ?_;obtain⟨i0,f0,d⟩:=bS d;refine dx (hE.trans u.ext) h 24 o0 f0 (fun t1 S0 Z e0=>?_);have k0:=zY e0;subst k0;refine dL h 25 (At.ext (hE.trans u.ext) Z) ?_;refine dL h 26 ((u.bring 1 rfl).box) ?_;refine dr 0 h [27,28] ?_;refine dw [0,3,4,5,76] ?_;refine dd h ?_;exact⟨!(((i0.Agent:Int) == O) && (((i0.Slot:Int) == g0) && true)),_,⟨d,((Ext.draw _).trans z.ext),(Y.taken 0),rfl⟩,rfl⟩
     ·refine xt ?_;cases d;exact⟨_,_,⟨d0,H,rfl⟩,rfl⟩
   ·refine xt ?_;cases o;exact⟨_,_,⟨b0,y,rfl⟩,rfl⟩

theorem zfa:Enters Tryz.prog 108:=⟨_,_,Tryz.func108,rfl,by kernel_rfl⟩
def z6C (fuel:Nat) (t7:Unit):Option Bool:=some true
def z2J (fuel:Nat) (s6:Int) (d:Bool):Option (Rd (Int) (Unit) (Bool)):=(if d=true then some (.ret false) else some (.next (w64 (s6+1))))
def z40 (fuel:Nat) (x0:(List D.Agent)) (s6:Int):Option (Rd (Int) (Unit) (Bool)):=(if(decide (s6<(x0.length:Int)))=true then((idx x0 s6).bind fun d=>((z1k fuel d).bind fun h=>(if(!h)=true then z2J fuel s6 true else z2J fuel s6 (!((d.Kind == 1) == (s6 == 0)))))) else some (.brk ()))
def z1J (fuel:Nat) (x0:(List D.Agent)) (t1:Bool):Option Bool:=(if t1=true then some false else((iter (z40 fuel x0) fuel 0).bind fun o=>aft o (z6C fuel)))
def z4d (fuel:Nat) (x0:(List D.Agent)):Option (Bool):=(if(decide ((x0.length:Int)<1))=true then z1J fuel x0 true else z1J fuel x0 (decide ((x0.length:Int)>600)))

theorem z8T {W w:World}(hE:Ext W w){z:Option Addr}{L:Nat}{x0:(List D.Agent)}(k0:ty40.ro W [sl z x0 L] x0){fuel:Nat}{r:Bool}(hm:z4d fuel x0=some r):
  Calls Tryz.prog 108 ⟨[sl z x0 L]⟩ w (Ret fun v w8=>v=.bool r∧St w w8 []):=by
 refine into Tryz.func108 32 _ ?_;unfold z4d at hm;have hS:=St.start w;refine sq<|rg<|rr 1 ?_;refine rn<|sq<|sq<|ct (fun(t1:Bool) F w9=>z1J fuel x0 t1=some r∧Ext w w9∧St w w9 []∧F=[(0,sl z x0 L),(12,.bool t1)]) ?_ ?_
 ·rintro t1 F w4 ⟨hm,C0,f0,rfl⟩;unfold z1J at hm;refine ci hm (fun hm=>?_) (fun hm=>?_)
  ·refine sq<|rg<|rr 1 ?_;refine rn<|rt ?_;cases hm;exact⟨_,.cons (.tmp rfl) .nil,rfl,f0⟩
  ·refine sp<|sq<|sq<|rg<|rr 3 ?_;refine rn ?_;obtain⟨r0,Y,hm⟩:=bS hm;refine ct (fun(t7:Unit) F w9=>r0=.inl t7∧St w w9 []∧F=[]) ?_ ?_
   ·rintro t7 F J0 ⟨Z,O,rfl⟩;subst Z;rw [zi] at hm;unfold z6C at hm;refine sq<|rg<|rr 1 ?_;refine rn<|rt ?_;cases hm;exact⟨_,.cons (.tmp rfl) .nil,rfl,O⟩
   ·refine bk<|wk [13,14,15] ?_;refine it (fun(s6:Int) F w9=>St w w9 []∧F=[(13,sl z x0 L),(14,.int .i64 (x0.length:Int)),(15,.int .i64 s6)]) Y ⟨f0,rfl⟩ ?_;rintro s6 F K0 _ t0 ⟨h,rfl⟩ d H;unfold z40 at d;refine sq<|rg<|rr 1 ?_;refine rn<|sq<|ci d (fun d=>?_) (fun d=>?_)
    ·refine sp<|sq<|bk<|sq<|rg<|rr 1 ?_;obtain⟨g0,b0,d⟩:=bS d;refine ix (hE.trans h.ext) k0 b0 (fun F0 j0 X a0=>?_);obtain⟨v0,D0,y0,E0,i0,o0,p0⟩:=z6 a0;subst i0;refine lN (At.ext (hE.trans h.ext) X) ?_;refine nw h (fun B0 L0 A0 S=>?_);refine rr 1 ?_;have V:=S.bring 0 rfl;refine so (A:=[]) V 0 (fun u0 u=>?_);refine rn<|sq<|ct (fun(e0:Bool) F w9=>z2J fuel s6 e0=some t0∧Ext u0 w9∧St w w9 []∧F=[(13,sl z x0 L),(14,.int .i64 (x0.length:Int)),(15,.int .i64 s6),(30,.bool e0)]) ?_ ?_
     ·rintro e0 F M0 ⟨d,q0,G,rfl⟩;unfold z2J at d;refine ci d (fun d=>?_) (fun d=>?_)
      ·refine sq<|rg<|rr 1 ?_;refine rn<|rt ?_;cases d;cases H;have hm:some _=some _:=hm;cases hm;exact⟨_,.cons (.tmp rfl) .nil,rfl,G⟩
      ·refine sp<|rg<|rr 2 ?_;refine rn ?_;cases d;exact⟨_,_,rfl,⟨G,rfl⟩,rfl⟩
     ·refine rg<|lN ((u.bring 0 rfl).box) ?_;obtain⟨G0,d0,d⟩:=bS d;refine ca zbV (z6W (hE.trans u.ext) (z6x g0 o0 p0) d0) (fun H0 N0 M=>?_);obtain⟨rfl,o⟩:=M;have y:=u.join o;refine rr 2 ?_;refine rb 23 d (fun d=>?_) (fun d=>?_)
      ·refine rr 7 ?_;refine rn ?_;exact⟨true,_,⟨d,o.ext,(y.taken 0),rfl⟩,rfl⟩
      ·refine rr 1 ?_;refine l1 ((y.bring 0 rfl).box) 0 ?_;refine rr 5 ?_;refine rn ?_;exact⟨!((g0.Kind == 1) == (s6 == 0)),_,⟨d,o.ext,(y.taken 0),rfl⟩,rfl⟩
    ·refine xt ?_;cases d;exact⟨_,_,⟨H,h,rfl⟩,rfl⟩
 ·refine rg<|rr 4 ?_;refine rb 8 hm (fun hm=>?_) (fun hm=>?_)
  ·refine rr 4 ?_;refine rn ?_;exact⟨true,_,⟨hm,(Ext.refl _),hS,rfl⟩,rfl⟩
  ·refine rr 4 ?_;refine rn ?_;exact⟨decide ((x0.length:Int)>600),_,⟨hm,(Ext.refl _),hS,rfl⟩,rfl⟩

theorem zc3:Enters Tryz.prog 110:=⟨_,_,Tryz.func110,rfl,by kernel_rfl⟩
def z5G (fuel:Nat) (t6:(List D.Port)):Option (List D.Port):=some t6
def z6D (fuel:Nat) (s5:(List D.Port) × Int) (d:(List D.Port)):Option (Rd ((List D.Port) × Int) ((List D.Port)) ((List D.Port))):=some (.next (d,w64 (s5.2+1)))
def z2K (fuel:Nat) (s5:(List D.Port) × Int) (h:D.Agent) (d:Int × (List D.Port)):Option (Rd (Int × (List D.Port)) ((List D.Port)) (Rd ((List D.Port) × Int) ((List D.Port)) ((List D.Port)))):=(if(decide (d.1<(h.Ports.length:Int)))=true then(if decide ((d.2.length:Int)+(([(⟨s5.2,d.1⟩:D.Port)]:(List D.Port)).length:Int)≤4294967296)=true then some (.next (w64 (d.1+1),(d.2++([(⟨s5.2,d.1⟩:D.Port)]:(List D.Port))))) else none) else some (.brk d.2))
def z2L (fuel:Nat) (x0:D.Net) (s5:(List D.Port) × Int):Option (Rd ((List D.Port) × Int) ((List D.Port)) ((List D.Port))):=(if(decide (s5.2<(x0.Agents.length:Int)))=true then((idx x0.Agents s5.2).bind fun d=>((iter (z2K fuel s5 d) fuel (0,s5.1)).bind fun o=>aft o (z6D fuel s5))) else some (.brk s5.1))
def z2S (fuel:Nat) (x0:D.Net):Option ((List D.Port)):=((iter (z2L fuel x0) fuel ([],0)).bind fun o=>aft o (z5G fuel))

theorem z7f {W w:World}(hE:Ext W w){D0:Addr}{C0:List Value}{x0:D.Net}(J0:ty42.ro W C0 x0) (H0:At W D0 C0){fuel:Nat}{r:(List D.Port)}(hm:z2S fuel x0=some r):
  Calls Tryz.prog 110 ⟨[.pointer (some D0)]⟩ w (Ret fun v w8=>∃ A0 k0,v=sl A0 r k0∧St w w8 [ow z2R A0 r k0]):=by
 obtain⟨A1,k2,e4,h3⟩:=z15 J0;subst e4;refine into Tryz.func110 32 _ ?_;unfold z2S at hm;have hS:=St.start w;refine sq<|rg<|rr 1 ?_;refine rn<|sq<|rg<|rr 1 ?_;refine rn<|sq<|sq<|rg<|rr 3 ?_;refine l1 (At.ext (hE.trans hS.ext) H0) 0 ?_;refine rr 2 ?_;refine rn ?_;obtain⟨L0,p0,hm⟩:=bS hm;refine ct (fun(t6:(List D.Port)) F w9=>∃ M V,L0=.inl t6∧St w w9 [ow z2R M t6 V]∧F=[(3,sl M t6 V)]) ?_ ?_
 ·rintro t6 F f1 ⟨M,V,r0,a0,rfl⟩;subst r0;rw [zi] at hm;unfold z5G at hm;refine sq<|rg<|rr 2 ?_;refine rn<|rt ?_;cases hm;exact⟨_,.cons (.tmp rfl) .nil,M,V,rfl,a0⟩
 ·refine bk ?_;have b0:=hS.nilSl z4s 141;refine wk [3,10,11,12] ?_;refine it (fun(s5:(List D.Port) × Int) F w9=>∃ y L,St w w9 [ow z2R y s5.1 L]∧F=[(3,sl y s5.1 L),(10,sl A1 x0.Agents k2),(11,.int .i64 (x0.Agents.length:Int)),(12,.int .i64 s5.2)]) p0 ⟨none,0,b0,rfl⟩ ?_;rintro s5 F g1 _ b1 ⟨y,L,o,rfl⟩ d t0;unfold z2L at d;refine sq<|rg<|rr 1 ?_;refine rn<|sq<|ci d (fun d=>?_) (fun d=>?_)
  ·refine sp<|sq<|bk<|sq<|rg<|rr 1 ?_;obtain⟨N0,B0,d⟩:=bS d;refine ix (hE.trans o.ext) h3 B0 (fun e1 G0 j0 y0=>?_);obtain⟨O0,X0,P0,Y0,F0,U0,V0⟩:=z6 y0;subst F0;refine lN (At.ext (hE.trans o.ext) j0) ?_;refine nw o (fun T0 i1 R0 d0=>?_);refine rr 1 ?_;have e0:=d0.bring 0 rfl;refine so (A:=[]) e0 0 (fun j1 z=>?_);refine rn<|sq<|rg<|rr 1 ?_;refine l1 ((z.bring 0 rfl).box) 4 ?_;refine rr 2 ?_;refine rn ?_;obtain⟨M0,q0,d⟩:=bS d;refine ct (fun(Z:(List D.Port)) F w9=>∃ S Y,M0=.inl Z∧St w w9 [ow z2R S Z Y]∧F=[(3,sl S Z Y),(10,sl A1 x0.Agents k2),(11,.int .i64 (x0.Agents.length:Int)),(12,.int .i64 s5.2)]) ?_ ?_
   ·rintro Z F m1 ⟨S,Y,u0,f0,rfl⟩;subst u0;rw [zi] at d;unfold z6D at d;refine rg<|rr 2 ?_;refine rn ?_;cases d;exact⟨_,_,rfl,⟨S,Y,f0,rfl⟩,rfl⟩
   ·refine bk<|wk [3,4,10,11,12,19,20] ?_;refine it (fun(u:Int × (List D.Port)) F w9=>∃ O X,St w w9 [ow z2R O u.2 X]∧F=[(3,sl O u.2 X),(4,.int .i64 s5.2),(10,sl A1 x0.Agents k2),(11,.int .i64 (x0.Agents.length:Int)),(12,.int .i64 s5.2),(19,.int .i64 (N0.Ports.length:Int)),(20,.int .i64 u.1)]) q0 ⟨y,L,((z.bring 1 rfl).taken 1),rfl⟩ ?_;rintro u F n1 _ d1 ⟨O,X,G,rfl⟩ h v0;unfold z2K at h;refine sq<|rg<|rr 1 ?_;refine rn<|sq<|ci h (fun h=>?_) (fun h=>?_)
    ·refine sp<|sq<|bk<|sq<|rg<|rr 2 ?_;refine rn<|rg<|rr 3 ?_;refine qt (qb) ?_;refine ns (G.flatEls (U:=z4s) (els:=[.int .i64 s5.2,.int .i64 u.1]) (ys:=[(⟨s5.2,u.1⟩:D.Port)]) ⟨[.int .i64 s5.2,.int .i64 u.1],_,[],[],rfl,rfl,(z4f (c:=(⟨s5.2,u.1⟩:D.Port)) rfl),⟨rfl,rfl⟩⟩) (fun Q0 a1 p1 S0 g0=>?_);have H:=g0.bring 1 rfl;obtain⟨o0,h⟩:=iS h;refine ap (Flat.map (Flat.pair Flat.int (Flat.pair Flat.int Flat.unit))) H ((H.bring 1 rfl).own) o0 (fun E0 K0 s1 i0=>?_);refine rr 1 ?_;refine rn<|rg<|rr 2 ?_;refine rn ?_;cases h;exact⟨_,_,rfl,⟨E0,K0,(i0.taken 1),rfl⟩,rfl⟩
    ·refine xt ?_;cases h;exact⟨_,_,⟨O,X,v0,G,rfl⟩,rfl⟩
  ·refine xt ?_;cases d;exact⟨_,_,⟨y,L,t0,o,rfl⟩,rfl⟩

theorem zez:Enters Tryz.prog 167:=⟨_,_,Tryz.func167,rfl,by kernel_rfl⟩
def z10 (fuel:Nat) (t2:Unit):Option Int:=some (-1)
def za (fuel:Nat) (x0:(List D.Port)) (x1:D.Port→Option Bool) (s1:Int):Option (Rd (Int) (Unit) (Int)):=(if(decide (s1<(x0.length:Int)))=true then((idx x0 s1).bind fun h=>((x1 h).bind fun d=>(if d=true then some (.ret s1) else some (.next (w64 (s1+1)))))) else some (.brk ()))
def zG (fuel:Nat) (x0:(List D.Port)) (x1:D.Port→Option Bool):Option (Int):=((iter (za fuel x0 x1) fuel 0).bind fun o=>aft o (z10 fuel))

theorem z4v {W w:World}(hE:Ext W w){G:Option Addr}{Y:Nat}{x0:(List D.Port)}{f1_:Nat}{u1_:List Value}{x1:D.Port→Option Bool}(e0:z2R.ro W [sl G x0 Y] x0) (Z:Enters Tryz.prog f1_∧∀ {w9:World},Ext W w9→∀ {cz0:List Value}{z0:D.Port}{y9:Bool},z4s.ro w9 cz0 z0→x1 z0=some y9→Calls Tryz.prog f1_ ⟨[.agg ⟨cz0⟩]++u1_⟩ w9 (Ret fun v w8=>v=.bool y9∧St w9 w8 [])){fuel:Nat}{r:Int}(hm:zG fuel x0 x1=some r):
  Calls Tryz.prog 167 ⟨[sl G x0 Y,.func (.func f1_) #[] ⟨u1_⟩]⟩ w (Ret fun v w8=>v=.int .i64 r∧St w w8 []):=by
 refine into Tryz.func167 19 _ ?_;unfold zG at hm;have hS:=St.start w;refine sq<|rg<|rr 1 ?_;refine rn<|sq<|sq<|rg<|rr 3 ?_;refine rn ?_;obtain⟨f0,O,hm⟩:=bS hm;refine ct (fun(t2:Unit) F w9=>f0=.inl t2∧Ext w w9∧St w w9 []∧F=[]) ?_ ?_
 ·rintro t2 F w7 ⟨S,g0,L,rfl⟩;subst S;rw [zi] at hm;unfold z10 at hm;refine sq<|rg<|rr 1 ?_;refine rn<|rt ?_;cases hm;exact⟨_,.cons (.tmp rfl) .nil,rfl,L⟩
 ·refine bk<|wk [0,1,7,8] ?_;refine it (fun(s1:Int) F w9=>Ext w w9∧St w w9 []∧F=[(0,sl G x0 Y),(1,.func (.func f1_) #[] ⟨u1_⟩),(7,.int .i64 (x0.length:Int)),(8,.int .i64 s1)]) O ⟨(Ext.refl _),hS,rfl⟩ ?_;rintro s1 F p0 _ i0 ⟨a0,h,rfl⟩ d y;unfold za at d;refine sq<|rg<|rr 1 ?_;refine rn<|sq<|ci d (fun d=>?_) (fun d=>?_)
  ·refine sp<|sq<|bk<|sq<|rg<|rr 2 ?_;refine rn<|sq<|rg<|rr 3 ?_;obtain⟨r0,V,d⟩:=bS d;refine ix (hE.trans h.ext) e0 V (fun j0 d0 M z=>?_);have b0:=zY z;subst b0;refine lN (At.ext (hE.trans h.ext) M) ?_;obtain⟨k0,X,d⟩:=bS d;refine ca Z.1 (Z.2 (hE.trans h.ext) (z4s.ext (hE.trans h.ext) z) X) (fun o0 q0 H=>?_);obtain⟨rfl,o⟩:=H;have u:=h.join o;refine rn<|ci d (fun d=>?_) (fun d=>?_)
   ·refine sq<|rg<|rr 2 ?_;refine rn<|rt ?_;cases d;cases y;have hm:some _=some _:=hm;cases hm;exact⟨_,.cons (.tmp rfl) .nil,rfl,u⟩
   ·refine sp<|rg<|rr 2 ?_;refine rn ?_;cases d;exact⟨_,_,rfl,⟨(a0.trans o.ext),u,rfl⟩,rfl⟩
  ·refine xt ?_;cases d;exact⟨_,_,⟨y,a0,h,rfl⟩,rfl⟩

theorem zf9:Enters Tryz.prog 109:=⟨_,_,Tryz.func109,rfl,by kernel_rfl⟩
def ze (fuel:Nat) (x0:(List D.Port)) (x1:D.Port→Option Bool):Option (Bool):=((zG fuel x0 x1).bind fun r1=>some (decide (r1≥0)))

theorem z45 {W w:World}(hE:Ext W w){d:Option Addr}{h:Nat}{x0:(List D.Port)}{f1_:Nat}{u1_:List Value}{x1:D.Port→Option Bool}(o:z2R.ro W [sl d x0 h] x0) (u:Enters Tryz.prog f1_∧∀ {w9:World},Ext W w9→∀ {cz0:List Value}{z0:D.Port}{y9:Bool},z4s.ro w9 cz0 z0→x1 z0=some y9→Calls Tryz.prog f1_ ⟨[.agg ⟨cz0⟩]++u1_⟩ w9 (Ret fun v w8=>v=.bool y9∧St w9 w8 [])){fuel:Nat}{r:Bool}(hm:ze fuel x0 x1=some r):
  Calls Tryz.prog 109 ⟨[sl d x0 h,.func (.func f1_) #[] ⟨u1_⟩]⟩ w (Ret fun v w8=>v=.bool r∧St w w8 []):=by
 refine into Tryz.func109 9 _ ?_;unfold ze at hm;have hS:=St.start w;refine sq<|rg<|rr 1 ?_;refine rn<|sq<|rg<|rr 2 ?_;obtain⟨r1,H,hm⟩:=bS hm;refine ca zez (z4v (hE.trans hS.ext) o u H) (fun v3 w4 y=>?_);obtain⟨rfl,z⟩:=y;have G:=hS.join z;refine rr 2 ?_;refine rn<|rt ?_;cases hm;exact⟨_,.cons (.tmp rfl) .nil,rfl,G⟩

theorem z9X:Enters Tryz.prog 112:=⟨_,_,Tryz.func112,rfl,by kernel_rfl⟩
def z2M (fuel:Nat) (x0:D.Net) (x1:D.Port):Option (D.Port):=((idx x0.Agents x1.Agent).bind fun h=>((idx h.Ports x1.Slot).bind fun d=>some (⟨d.Agent,d.Slot⟩:D.Port)))

theorem z6q {W w:World}(hE:Ext W w){Y:Addr}{V:List Value}{x0:D.Net}{X:List Value}{x1:D.Port}(f0:ty42.ro W V x0) (e0:At W Y V) (g0:z4s.ro W X x1){fuel:Nat}{r:D.Port}(hm:z2M fuel x0 x1=some r):
  Calls Tryz.prog 112 ⟨[.pointer (some Y),.agg ⟨X⟩]⟩ w (Ret fun v w8=>v=.agg ⟨[.int .i64 r.Agent,.int .i64 r.Slot]⟩∧St w w8 []):=by
 obtain⟨A1,k2,e4,h3⟩:=z15 f0;subst e4;have e5:=zY g0;subst e5;refine into Tryz.func112 18 _ ?_;unfold z2M at hm;have hS:=St.start w;refine sq<|rg<|nw hS (fun g6 w7 o0 u=>?_);refine nw u (fun q0 A0 p0 h=>?_);refine rn<|sq<|dn 8192 mixed 14 [([],16383),([0],16382),([1],16381),([2],16379),([],16383),([4],16367),([3,5],16343),([6],16319),([7],16255),([],16383),([9],15871),([8,10],15103),([11],14335),([12,0,1,2,3,4,5,6,7,8,9,10,11,12],12287)] h.ext (fun d=>?_);have y:=h.step (Ext.draw _);refine dr 9 d [0,1,2,4,9] ?_;refine dl d 3 (At.ext (hE.trans h.ext) e0) 0 ?_;refine dl d 5 ((h.bring 1 rfl).box) 0 ?_;obtain⟨C0,O,hm⟩:=bS hm;refine dx (hE.trans h.ext) d 6 h3 O (fun v0 b0 G L=>?_);obtain⟨j0,t0,k0,u0,Z,r0,i0⟩:=z6 L;subst Z;refine dr 5 d [7] ?_;refine dw [4,12,14] ?_;refine dl d 8 (At.ext (hE.trans h.ext) G) 4 ?_;refine dl d 10 ((h.bring 1 rfl).box) 1 ?_;obtain⟨D0,S,hm⟩:=bS hm;refine dx (hE.trans h.ext) d 11 i0 S (fun y0 d0 H M=>?_);have a0:=zY M;subst a0;refine dL d 12 (At.ext (hE.trans h.ext) H) ?_;have z:=y.bring 0 rfl;refine o1 d 13 (ms (A:=[]) z d 0 (fun B0 o=>?_));refine dd d ?_;refine rt ?_;cases hm;exact⟨_,.cons (ra ((o.bring 0 rfl).box)) .nil,rfl,(o.taken 0)⟩

theorem zf7:Enters Tryz.prog 113:=⟨_,_,Tryz.func113,rfl,by kernel_rfl⟩
def z5w (fuel:Nat) (x0:(List D.Agent)) (x1:D.Port):Option (Bool):=(if(decide (x1.Agent≥0))=true then(if(decide (x1.Agent<(x0.length:Int)))=true then(if(decide (x1.Slot≥0))=true then((idx x0 x1.Agent).bind fun d=>some (decide (x1.Slot<(d.Ports.length:Int)))) else some false) else some false) else some false)

theorem z9P {W w:World}(hE:Ext W w){G:Option Addr}{L:Nat}{x0:(List D.Agent)}{H:List Value}{x1:D.Port}(S:ty40.ro W [sl G x0 L] x0) (V:z4s.ro W H x1){fuel:Nat}{r:Bool}(hm:z5w fuel x0 x1=some r):
  Calls Tryz.prog 113 ⟨[sl G x0 L,.agg ⟨H⟩]⟩ w (Ret fun v w8=>v=.bool r∧St w w8 []):=by
 have e1:=zY V;subst e1;refine into Tryz.func113 32 _ ?_;unfold z5w at hm;have hS:=St.start w;refine sq<|rg<|nw hS (fun g2 w3 e4 h=>?_);refine rr 1 ?_;refine rn<|sq<|dn 0 mixed 28 [([],268435455),([0],268435454),([1],268435453),([2],268435451),([3],268435447),([4,3],268435431),([3],268435447),([6,3],268435383),([5,7,3],268435287),([3,8],268435191),([9,3],268434943),([10],268434431),([11,10],268432383),([12,10],268430335),([10,13],268426239),([14,10],268419071),([15],268402687),([16,15],268337151),([15],268402687),([15],268402687),([19,15],267878399),([18,20,15],267091967),([21,15],266305535),([22,15],264208383),([23,15],260014079),([17,24,15],251494399),([15,25],234848255),([26,15,0,1,2,3,4,5,6,7,8,9,10,11,12,13,14,15,16,17,18,19,20,21,22,23,24,25,26],201326591)] h.ext (fun d=>?_);have o:=h.step (Ext.draw _);refine dr 27 d [0] ?_;refine dl d 1 ((h.bring 0 rfl).box) 0 ?_;refine dr 24 d [2,3] ?_;refine db 8 hm (fun hm=>?_) (fun hm=>?_)
 ·refine dr 21 d [4,6,7] ?_;refine dl d 5 ((h.bring 0 rfl).box) 0 ?_;refine dr 17 d [8,9,10] ?_;refine dw [0,3,4,15] ?_;refine db 15 hm (fun hm=>?_) (fun hm=>?_)
  ·refine dr 16 d [11] ?_;refine dl d 12 ((h.bring 0 rfl).box) 1 ?_;refine dr 12 d [13,14,15] ?_;refine db 20 hm (fun hm=>?_) (fun hm=>?_)
   ·refine dr 9 d [16,18,19] ?_;refine dw [4,20,21,23,24] ?_;refine dl d 17 ((h.bring 0 rfl).box) 1 ?_;refine dl d 20 ((h.bring 0 rfl).box) 0 ?_;obtain⟨f0,z,hm⟩:=bS hm;refine dx (hE.trans h.ext) d 21 S z (fun e0 O u y=>?_);obtain⟨X,b0,Y,d0,M,Z,a0⟩:=z6 y;subst M;refine dr 5 d [22] ?_;refine dl d 23 (At.ext (hE.trans h.ext) u) 4 ?_;refine dr 0 d [24,25,26,27] ?_;refine dw [4] ?_;refine dd d ?_;refine rt ?_;cases hm;exact⟨_,.cons (.tmp rfl) .nil,rfl,(o.taken 0)⟩
   ·refine dr 0 d [16,17,18,19,20,21,22,23,24,25,26,27] ?_;refine dw [4] ?_;refine dd d ?_;refine rt ?_;cases hm;exact⟨_,.cons (.tmp rfl) .nil,rfl,(o.taken 0)⟩
  ·refine dr 0 d [11,12,13,14,15,16,17,18,19,20,21,22,23,24,25,26,27] ?_;refine dw [4] ?_;refine dd d ?_;refine rt ?_;cases hm;exact⟨_,.cons (.tmp rfl) .nil,rfl,(o.taken 0)⟩
 ·refine dr 0 d [4,5,6,7,8,9,10,11,12,13,14,15,16,17,18,19,20,21,22,23,24,25,26,27] ?_;refine dw [4] ?_;refine dd d ?_;refine rt ?_;cases hm;exact⟨_,.cons (.tmp rfl) .nil,rfl,(o.taken 0)⟩

theorem zf8:Enters Tryz.prog 111:=⟨_,_,Tryz.func111,rfl,by kernel_rfl⟩
def z4r (fuel:Nat) (x0:D.Port) (x1:D.Net):Option (Bool):=((z2M fuel x1 x0).bind fun d=>(if(((d.Agent:Int) == x0.Agent) && (((d.Slot:Int) == x0.Slot) && true))=true then some true else((z5w fuel x1.Agents d).bind fun o=>(if(!o)=true then some true else((z2M fuel x1 d).bind fun h=>some (!(((h.Agent:Int) == x0.Agent) && (((h.Slot:Int) == x0.Slot) && true))))))))

theorem z84 {W w:World}(hE:Ext W w){f0:List Value}{x0:D.Port}{j0:Addr}{g0:List Value}{x1:D.Net}(i0:z4s.ro W f0 x0) (L:ty42.ro W g0 x1) (H:At W j0 g0){fuel:Nat}{r:Bool}(hm:z4r fuel x0 x1=some r):
  Calls Tryz.prog 111 ⟨[.agg ⟨f0⟩,.pointer (some j0)]⟩ w (Ret fun v w8=>v=.bool r∧St w w8 []):=by
 have e1:=zY i0;subst e1;obtain⟨A2,k3,e5,h4⟩:=z15 L;subst e5;refine into Tryz.func111 23 _ ?_;unfold z4r at hm;have hS:=St.start w;refine sq<|rg<|nw hS (fun g6 w7 o0 o=>?_);refine rr 1 ?_;refine rn<|sq<|rg<|lN ((o.bring 0 rfl).box) ?_;obtain⟨k0,b0,hm⟩:=bS hm;refine ca z9X (z6q (hE.trans o.ext) L H i0 b0) (fun u0 A0 M=>?_);obtain⟨rfl,O⟩:=M;have X:=o.join O;refine nw X (fun q0 B0 p0 Y=>?_);have Z:=Y.bring 0 rfl;refine so (A:=[]) Z 0 (fun C0 h=>?_);refine rn<|sq<|dn 0 mixed 17 [([],131071),([],131071),([0,1],131068),([2],131067),([3],131063),([4,3],131047),([3],131063),([5,6,3,3],130967),([7,3],130935),([3,8],130807),([9,7],130559),([10],130047),([11,10,10],127999),([10],130047),([12,13,10],117759),([10,14],113663),([15,12,0,1,2,3,4,5,6,7,8,9,10,11,12,13,14,15],98303)] h.ext (fun d=>?_);have u:=h.step (Ext.draw _);refine dL d 0 ((h.bring 0 rfl).box) ?_;refine dL d 1 ((h.bring 1 rfl).box) ?_;refine dr 13 d [2,3] ?_;refine dw [1,2,3,4,10] ?_;refine db 10 hm (fun hm=>?_) (fun hm=>?_)
 ·refine dr 0 d [4,5,6,7,8,9,10,11,12,13,14,15,16] ?_;refine dw [3] ?_;refine dd d ?_;refine rt ?_;cases hm;exact⟨_,.cons (.tmp rfl) .nil,rfl,(u.taken 0)⟩
 ·refine dr 12 d [4] ?_;refine dl d 5 (At.ext (hE.trans h.ext) H) 0 ?_;refine dL d 6 ((h.bring 0 rfl).box) ?_;obtain⟨r0,d0,hm⟩:=bS hm;refine o1 d 7 (mc d zf7 (z9P (hE.trans u.ext) h4 (z69 k0) d0) (fun v0 D0 S=>?_));obtain⟨rfl,z⟩:=S;refine⟨z.ext,?_⟩;have y:=u.join z;refine dr 6 d [8,9,10] ?_;refine dw [1,2,3,4,17] ?_;refine db 17 hm (fun hm=>?_) (fun hm=>?_)
  ·refine dr 0 d [11,12,13,14,15,16] ?_;refine dw [3] ?_;refine dd d ?_;refine rt ?_;cases hm;exact⟨_,.cons (.tmp rfl) .nil,rfl,(y.taken 0)⟩
  ·refine dL d 11 ((h.bring 0 rfl).box) ?_;refine dL d 13 ((h.bring 1 rfl).box) ?_;obtain⟨t0,e0,hm⟩:=bS hm;refine o1 d 12 (mc d z9X (z6q (hE.trans y.ext) L H (z69 k0) e0) (fun y0 E0 V=>?_));obtain⟨rfl,G⟩:=V;refine⟨G.ext,?_⟩;have a0:=y.join G;refine dr 0 d [14,15,16] ?_;refine dw [3] ?_;refine dd d ?_;refine rt ?_;cases hm;exact⟨_,.cons (.tmp rfl) .nil,rfl,(a0.taken 0)⟩

theorem zg3:Enters Tryz.prog 61:=⟨_,_,Tryz.func61,rfl,by kernel_rfl⟩
def z4K (fuel:Nat) (x0:D.Net):Option (Bool):=((z4d fuel x0.Agents).bind fun d=>(if(!d)=true then some false else((z2S fuel x0).bind fun h=>((ze fuel h (fun y0=>z4r fuel y0 x0)).bind fun o=>some (!o)))))

theorem z9c {W w:World}(hE:Ext W w){Z:List Value}{x0:D.Net}(y:ty42.ro W Z x0){fuel:Nat}{r:Bool}(hm:z4K fuel x0=some r):
  Calls Tryz.prog 61 ⟨[.agg ⟨Z⟩]⟩ w (Ret fun v w8=>v=.bool r∧St w w8 []):=by
 obtain⟨A1,k2,e4,h3⟩:=z15 y;subst e4;refine into Tryz.func61 11 _ ?_;unfold z4K at hm;have hS:=St.start w;refine sq<|rg<|nw hS (fun g5 w6 e7 o=>?_);refine rr 1 ?_;refine rn<|sq<|sq<|rg<|rr 1 ?_;refine l1 ((o.bring 0 rfl).box) 0 ?_;obtain⟨e0,V,hm⟩:=bS hm;refine ca zfa (z8T (hE.trans o.ext) h3 V) (fun i0 o0 z=>?_);obtain⟨rfl,G⟩:=z;have d:=o.join G;refine rr 1 ?_;refine rn<|ci hm (fun hm=>?_) (fun hm=>?_)
 ·refine sq<|rg<|rr 1 ?_;refine rn<|rt ?_;cases hm;exact⟨_,.cons (.tmp rfl) .nil,rfl,(d.taken 0)⟩
 ·refine sp<|sq<|rg ?_;obtain⟨f0,X,hm⟩:=bS hm;refine ca zc3 (z7f (Ext.refl _) (ty42.ext (hE.trans d.ext) y) ((d.bring 0 rfl).box) X) (fun j0 p0 H=>?_);obtain⟨b0,d0,rfl,L⟩:=H;have h:=d.join L;refine rr 1 ?_;obtain⟨g0,Y,hm⟩:=bS hm;refine ca zf9 (z45 (Ext.refl _) ((h.bring 0 rfl).own) ⟨zf8,fun e9=>(fun u a0=>z84 (Ext.refl _) u (ty42.ext e9 (ty42.ext (hE.trans h.ext) y)) (At.ext e9 ((h.bring 1 rfl).box)) a0)⟩ Y) (fun k0 q0 M=>?_);obtain⟨rfl,O⟩:=M;have S:=h.join O;refine rr 2 ?_;refine rn<|rt ?_;cases hm;exact⟨_,.cons (.tmp rfl) .nil,rfl,(S.taken 0)⟩

theorem zem:Enters Tryz.prog 188:=⟨_,_,Tryz.func188,rfl,by kernel_rfl⟩
def z48 (fuel:Nat) (x0:D.Port) (x1:D.Port):Option (Bool):=(if(decide (x0.Agent<x1.Agent))=true then some true else(if(x0.Agent == x1.Agent)=true then some (decide (x0.Slot<x1.Slot)) else some false))

theorem z8K {W w:World}(hE:Ext W w){h:List Value}{x0:D.Port}{o:List Value}{x1:D.Port}(u:z4s.ro W h x0) (y:z4s.ro W o x1){fuel:Nat}{r:Bool}(hm:z48 fuel x0 x1=some r):
  Calls Tryz.prog 188 ⟨[.agg ⟨h⟩,.agg ⟨o⟩]⟩ w (Ret fun v w8=>v=.bool r∧St w w8 []):=by
 have e1:=zY u;subst e1;have e2:=zY y;subst e2;refine into Tryz.func188 24 _ ?_;unfold z48 at hm;have hS:=St.start w;refine sq<|rg<|nw hS (fun g3 w4 e5 z=>?_);refine nw z (fun g7 H G d=>?_);refine rr 1 ?_;refine rn<|sq<|rg<|rr 1 ?_;refine l1 ((d.bring 1 rfl).box) 0 ?_;refine rr 1 ?_;refine l1 ((d.bring 0 rfl).box) 0 ?_;refine rr 2 ?_;refine rb 10 hm (fun hm=>?_) (fun hm=>?_)
 ·refine rr 14 ?_;refine rn<|rt ?_;cases hm;exact⟨_,.cons (.tmp rfl) .nil,rfl,(d.taken 0)⟩
 ·refine rr 1 ?_;refine l1 ((d.bring 1 rfl).box) 0 ?_;refine rr 1 ?_;refine l1 ((d.bring 0 rfl).box) 0 ?_;refine rr 2 ?_;refine rb 16 hm (fun hm=>?_) (fun hm=>?_)
  ·refine rr 1 ?_;refine l1 ((d.bring 1 rfl).box) 1 ?_;refine rr 1 ?_;refine l1 ((d.bring 0 rfl).box) 1 ?_;refine rr 4 ?_;refine rn<|rt ?_;cases hm;exact⟨_,.cons (.tmp rfl) .nil,rfl,(d.taken 0)⟩
  ·refine rr 8 ?_;refine rn<|rt ?_;cases hm;exact⟨_,.cons (.tmp rfl) .nil,rfl,(d.taken 0)⟩

theorem zeB:Enters Tryz.prog 161:=⟨_,_,Tryz.func161,rfl,by kernel_rfl⟩
def z5R (fuel:Nat) (d:(List D.Wire)):Option (List D.Wire):=some d
def z6O (fuel:Nat) (d:Int × (List D.Wire)) (h:(List D.Wire)):Option (Rd (Int × (List D.Wire)) ((List D.Wire)) ((List D.Wire))):=some (.next (w64 (d.1+1),h))
def z1V (fuel:Nat) (h:Int × (List D.Wire)) (d:(List D.Wire)):Option (Rd (Int × (List D.Wire)) ((List D.Wire)) (Rd (Int × (List D.Wire)) ((List D.Wire)) ((List D.Wire)))):=some (.next (w64 (h.1+1),d))
def z30 (fuel:Nat) (x0:D.Net) (o:Int × (List D.Wire)) (d:Int × (List D.Wire)):Option (Rd (Int × (List D.Wire)) ((List D.Wire)) (Rd (Int × (List D.Wire)) ((List D.Wire)) ((List D.Wire)))):=((idx x0.Agents o.1).bind fun z=>(if(decide (d.1<(z.Ports.length:Int)))=true then((idx x0.Agents o.1).bind fun G=>((idx G.Ports d.1).bind fun H=>((z48 fuel (⟨o.1,d.1⟩:D.Port) H).bind fun y=>(if y=true then((idx x0.Agents o.1).bind fun u=>((idx u.Ports d.1).bind fun h=>(if decide ((d.2.length:Int)+(([(⟨(⟨o.1,d.1⟩:D.Port),(⟨h.Agent,h.Slot⟩:D.Port)⟩:D.Wire)]:(List D.Wire)).length:Int)≤4294967296)=true then z1V fuel d (d.2++([(⟨(⟨o.1,d.1⟩:D.Port),(⟨h.Agent,h.Slot⟩:D.Port)⟩:D.Wire)]:(List D.Wire))) else none))) else z1V fuel d d.2)))) else some (.brk d.2)))
def z31 (fuel:Nat) (x0:D.Net) (d:Int × (List D.Wire)):Option (Rd (Int × (List D.Wire)) ((List D.Wire)) ((List D.Wire))):=(if(decide (d.1<(x0.Agents.length:Int)))=true then((iter (z30 fuel x0 d) fuel (0,d.2)).bind fun o=>aft o (z6O fuel d)) else some (.brk d.2))
def z4C (fuel:Nat) (x0:D.Net):Option ((List D.Wire)):=((iter (z31 fuel x0) fuel (0,([]:(List D.Wire)))).bind fun o=>aft o (z5R fuel))

theorem z99 {W w:World}(hE:Ext W w){a0:Addr}{u1:List Value}{x0:D.Net}(M1:ty42.ro W u1 x0) (F0:At W a0 u1){fuel:Nat}{r:(List D.Wire)}(hm:z4C fuel x0=some r):
  Calls Tryz.prog 161 ⟨[.pointer (some a0)]⟩ w (Ret fun v w8=>∃ A0 k0,v=sl A0 r k0∧St w w8 [ow z80 A0 r k0]):=by
 obtain⟨A1,k2,e4,h3⟩:=z15 M1;subst e4;refine into Tryz.func161 63 _ ?_;unfold z4C at hm;have hS:=St.start w;refine sq<|rg<|rr 1 ?_;refine rn<|sq<|rg<|n0 (U:=z9Z) hS (fun A5 k6 w7 i2 Q0=>?_);refine rr 1 ?_;refine rn<|sq<|sq<|rg<|rr 1 ?_;refine rn ?_;obtain⟨S1,a1,hm⟩:=bS hm;refine ct (fun(J0:(List D.Wire)) F w9=>∃ D0 G0,S1=.inl J0∧St w w9 [ow z80 D0 J0 G0]∧F=[(3,sl D0 J0 G0)]) ?_ ?_
 ·rintro J0 F D2 ⟨D0,G0,d1,R0,rfl⟩;subst d1;rw [zi] at hm;unfold z5R at hm;refine sq<|rg<|rr 2 ?_;refine rn<|rt ?_;cases hm;exact⟨_,.cons (.tmp rfl) .nil,D0,G0,rfl,R0⟩
 ·refine bk<|wk [0,3,4] ?_;refine it (fun(H:Int × (List D.Wire)) F w9=>∃ b0 B0,St w w9 [ow z80 b0 H.2 B0]∧F=[(0,.pointer (some a0)),(3,sl b0 H.2 B0),(4,.int .i64 H.1)]) a1 ⟨A5,k6,Q0,rfl⟩ ?_;rintro H F E2 _ u2 ⟨b0,B0,Y,rfl⟩ u e1;unfold z31 at u;refine sq<|sq<|rg<|rr 4 ?_;refine l1 (At.ext (hE.trans Y.ext) F0) 0 ?_;refine rr 2 ?_;refine rn<|ci u (fun u=>?_) (fun u=>?_)
  ·refine sp<|sq<|bk<|sq<|rg<|rr 1 ?_;refine rn ?_;obtain⟨T1,b1,u⟩:=bS u;refine ct (fun(K0:(List D.Wire)) F w9=>∃ E0 H0,T1=.inl K0∧St w w9 [ow z80 E0 K0 H0]∧F=[(0,.pointer (some a0)),(3,sl E0 K0 H0),(4,.int .i64 H.1)]) ?_ ?_
   ·rintro K0 F F2 ⟨E0,H0,f1,S0,rfl⟩;subst f1;rw [zi] at u;unfold z6O at u;refine rg<|rr 3 ?_;refine rn ?_;cases u;exact⟨_,_,rfl,⟨E0,H0,S0,rfl⟩,rfl⟩
   ·refine bk<|wk [0,3,4,5] ?_;refine it (fun(G:Int × (List D.Wire)) F w9=>∃ d0 C0,St w w9 [ow z80 d0 G.2 C0]∧F=[(0,.pointer (some a0)),(3,sl d0 G.2 C0),(4,.int .i64 H.1),(5,.int .i64 G.1)]) b1 ⟨b0,B0,Y,rfl⟩ ?_;rintro G F G2 _ U1 ⟨d0,C0,L,rfl⟩ d g1;unfold z30 at d;refine sq<|sq<|rg<|rr 4 ?_;refine l1 (At.ext (hE.trans L.ext) F0) 0 ?_;refine rr 1 ?_;obtain⟨L2,m1,d⟩:=bS d;refine ix (hE.trans L.ext) h3 m1 (fun v2 J1 V0 i1=>?_);obtain⟨d2,q2,e2,r2,F1,n2,o2⟩:=z6 i1;subst F1;refine rr 1 ?_;refine l1 (At.ext (hE.trans L.ext) V0) 4 ?_;refine rr 2 ?_;refine rn<|ci d (fun d=>?_) (fun d=>?_)
    ·refine sp<|sq<|bk<|sq<|rg<|rr 2 ?_;refine qt (qb) ?_;refine nw L (fun m2 H2 j2 T0=>?_);have U0:=T0.bring 0 rfl;refine so (A:=[]) U0 0 (fun J2 z=>?_);refine rn<|sq<|dn 0 mixed 13 [([],8191),([],8191),([1],8189),([2],8187),([3],8183),([],8191),([4,5],8143),([6],8127),([7],8063),([],8191),([8,9],7423),([10],7167),([0,11],6142)] z.ext (fun o=>?_);have j0:=z.step (Ext.draw _);refine dr 8 o [1,2,3,5,9] ?_;refine dw [0,3,4,5,6,36,38,42] ?_;refine dL o 0 ((z.bring 0 rfl).box) ?_;refine dl o 4 (At.ext (hE.trans z.ext) F0) 0 ?_;obtain⟨M2,n1,d⟩:=bS d;refine dx (hE.trans z.ext) o 6 h3 n1 (fun y2 K1 X0 j1=>?_);obtain⟨f2,s2,g2,t2,G1,p2,O1⟩:=z6 j1;subst G1;refine dr 4 o [7] ?_;refine dl o 8 (At.ext (hE.trans z.ext) X0) 4 ?_;obtain⟨N2,p1,d⟩:=bS d;refine dx (hE.trans z.ext) o 10 O1 p1 (fun A2 L1 Y0 u0=>?_);have H1:=zY u0;subst H1;refine dL o 11 (At.ext (hE.trans z.ext) Y0) ?_;obtain⟨B2,s1,d⟩:=bS d;refine o1 o 12 (mc o zem (z8K (hE.trans j0.ext) (z69 (⟨H.1,G.1⟩:D.Port)) u0 s1) (fun C2 K2 P0=>?_));obtain⟨rfl,e0⟩:=P0;refine⟨e0.ext,?_⟩;have Z:=j0.join e0;refine dd o ?_;refine ct (fun(S:(List D.Wire)) F w9=>∃ M O,z1V fuel G S=some U1∧St w w9 [ow z80 M S O]∧F=[(0,.pointer (some a0)),(3,sl M S O),(4,.int .i64 H.1),(5,.int .i64 G.1)]) ?_ ?_
     ·rintro S F X1 ⟨M,O,d,f0,rfl⟩;unfold z1V at d;refine rg<|rr 3 ?_;refine rn ?_;cases d;exact⟨_,_,rfl,⟨M,O,f0,rfl⟩,rfl⟩
     ·refine ci d (fun d=>?_) (fun d=>?_)
      ·refine dn 32768 mixed 17 [([],131071),([],131071),([],131071),([2],131067),([3],131063),([4],131055),([],131071),([5,6],130975),([7],130943),([8],130815),([],131071),([9,10],129535),([11],129023),([1,12],126973),([13],122879),([0,14],114686),([15,15,0,1,2,3,4,5,6,7,8,9,10,11,12,13,14,15],98302)] Z.ext (fun h=>?_);have V:=Z.step (Ext.draw _);refine dr 11 h [0,2,3,4,6,10] ?_;refine dw [0,3,4,5,6,46,50,52,56] ?_;refine dV h 5 rfl (q1 (At.ext hE F0) 0) ?_;obtain⟨b2,v0,d⟩:=bS d;refine dv hE h 7 h3 v0 (fun V1 v1 o0 r0=>?_);obtain⟨B1,P1,C1,Q1,M0,N1,O0⟩:=z6 r0;subst M0;refine dr 8 h [8] ?_;refine dV h 9 rfl (q1 (At.ext hE o0) 4) ?_;obtain⟨y,y0,d⟩:=bS d;refine dv hE h 11 O0 y0 (fun W1 y1 p0 t0=>?_);have N0:=zY t0;subst N0;refine dV h 12 rfl (qN (At.ext hE p0)) ?_;refine o1 h 1 (mq h rfl (qN ((V.bring 0 rfl).box)) ?_);refine dp h 13 rfl (fun _=>qb) ?_;refine o1 h 14 (mn (V.flatEls (U:=z9Z) (els:=[.int .i64 H.1,.int .i64 G.1,.int .i64 y.Agent,.int .i64 y.Slot]) (ys:=[(⟨(⟨H.1,G.1⟩:D.Port),(⟨y.Agent,y.Slot⟩:D.Port)⟩:D.Wire)]) ⟨[.int .i64 H.1,.int .i64 G.1,.int .i64 y.Agent,.int .i64 y.Slot],_,[],[],rfl,rfl,(za7 (c:=(⟨(⟨H.1,G.1⟩:D.Port),(⟨y.Agent,y.Slot⟩:D.Port)⟩:D.Wire)) rfl),⟨rfl,rfl⟩⟩) h (fun D1 R1 Y1 E1 g0=>?_));have X:=g0.bring 2 rfl;obtain⟨q0,d⟩:=iS d;refine o1 h 15 (mp (Flat.map (Flat.pair (Flat.map (Flat.pair Flat.int (Flat.pair Flat.int Flat.unit))) (Flat.pair (Flat.map (Flat.pair Flat.int (Flat.pair Flat.int Flat.unit))) Flat.unit))) X h ((X.bring 1 rfl).own) q0 (fun L0 t1 a2 i0=>?_));refine dr 0 h [16] ?_;refine dw [0,3,4,5] ?_;refine dd h ?_;exact⟨(G.2++([(⟨(⟨H.1,G.1⟩:D.Port),(⟨y.Agent,y.Slot⟩:D.Port)⟩:D.Wire)]:(List D.Wire))),_,⟨L0,t1,d,(i0.taken 1),rfl⟩,rfl⟩
      ·refine sp ?_;exact⟨G.2,_,⟨d0,C0,d,((Z.bring 1 rfl).taken 1),rfl⟩,rfl⟩
    ·refine xt ?_;cases d;exact⟨_,_,⟨d0,C0,g1,L,rfl⟩,rfl⟩
  ·refine xt ?_;cases u;exact⟨_,_,⟨b0,B0,e1,Y,rfl⟩,rfl⟩

theorem zf6:Enters Tryz.prog 117:=⟨_,_,Tryz.func117,rfl,by kernel_rfl⟩
def z3f (fuel:Nat) (x0:D.Port) (x1:D.Port):Option (Bool):=(if(decide (x0.Agent<x1.Agent))=true then some true else(if(x0.Agent == x1.Agent)=true then some (decide (x0.Slot<x1.Slot)) else some false))

theorem z86 {W w:World}(hE:Ext W w){h:List Value}{x0:D.Port}{o:List Value}{x1:D.Port}(u:z4s.ro W h x0) (y:z4s.ro W o x1){fuel:Nat}{r:Bool}(hm:z3f fuel x0 x1=some r):
  Calls Tryz.prog 117 ⟨[.agg ⟨h⟩,.agg ⟨o⟩]⟩ w (Ret fun v w8=>v=.bool r∧St w w8 []):=by
 have e1:=zY u;subst e1;have e2:=zY y;subst e2;refine into Tryz.func117 24 _ ?_;unfold z3f at hm;have hS:=St.start w;refine sq<|rg<|nw hS (fun g3 w4 e5 z=>?_);refine nw z (fun g7 H G d=>?_);refine rr 1 ?_;refine rn<|sq<|rg<|rr 1 ?_;refine l1 ((d.bring 1 rfl).box) 0 ?_;refine rr 1 ?_;refine l1 ((d.bring 0 rfl).box) 0 ?_;refine rr 2 ?_;refine rb 10 hm (fun hm=>?_) (fun hm=>?_)
 ·refine rr 14 ?_;refine rn<|rt ?_;cases hm;exact⟨_,.cons (.tmp rfl) .nil,rfl,(d.taken 0)⟩
 ·refine rr 1 ?_;refine l1 ((d.bring 1 rfl).box) 0 ?_;refine rr 1 ?_;refine l1 ((d.bring 0 rfl).box) 0 ?_;refine rr 2 ?_;refine rb 16 hm (fun hm=>?_) (fun hm=>?_)
  ·refine rr 1 ?_;refine l1 ((d.bring 1 rfl).box) 1 ?_;refine rr 1 ?_;refine l1 ((d.bring 0 rfl).box) 1 ?_;refine rr 4 ?_;refine rn<|rt ?_;cases hm;exact⟨_,.cons (.tmp rfl) .nil,rfl,(d.taken 0)⟩
  ·refine rr 8 ?_;refine rn<|rt ?_;cases hm;exact⟨_,.cons (.tmp rfl) .nil,rfl,(d.taken 0)⟩

theorem zcQ:Enters Tryz.prog 81:=⟨_,_,Tryz.func81,rfl,by kernel_rfl⟩
def zR (fuel:Nat) (x0:(List Int)):Option ((List Int)):=(if decide ((([]:(List Int)).length:Int)+(x0.length:Int)≤4294967296)=true then some (([]:(List Int))++x0) else none)

theorem z4y {W w:World}(hE:Ext W w){d:Option Addr}{u:Nat}{x0:(List Int)}(h:ty80.ro W [sl d x0 u] x0){fuel:Nat}{r:(List Int)}(hm:zR fuel x0=some r):
  Calls Tryz.prog 81 ⟨[sl d x0 u]⟩ w (Ret fun v w8=>∃ A0 k0,v=sl A0 r k0∧St w w8 [ow ty80 A0 r k0]):=by
 refine into Tryz.func81 8 _ ?_;unfold zR at hm;have hS:=St.start w;refine sq<|rg<|rr 1 ?_;refine rn<|sq<|sq<|rg<|rr 1 ?_;refine qt (qNilEq) ?_;refine rn ?_;cases d with
 | none=>
  have e:=zaz (by decide) h;subst e;refine cd true (fun _=>?_) (fun hc=>by cases hc);refine sq<|rg<|rr 1 ?_;refine rn<|rt ?_;have hr:r=[]:=by simpa using hm.symm
  subst hr;exact⟨_,.cons (.tmp rfl) .nil,none,0,rfl,hS.nilSl tInt 2⟩
 | some p=>
  refine cd false (fun hc=>by cases hc) (fun _=>?_);refine sp<|sq<|rg<|n0 (U:=tInt) hS (fun A1 k1 w1 e1 o=>?_);refine rr 1 ?_
  by_cases hk:decide ((([]:(List Int)).length:Int)+(x0.length:Int)≤4294967296)=true
  case neg=>rw [if_neg hk] at hm;cases hm
  rw [if_pos hk] at hm;cases hm;refine ap Flat.int o (ty80.ext (hE.trans o.ext) h) hk (fun A2 k2 w2 y=>?_);refine rr 1 ?_;refine rn<|rt ?_;exact⟨_,.cons (.tmp rfl) .nil,A2,k2,rfl,y⟩

theorem ze4:Enters Tryz.prog 217:=⟨_,_,Tryz.func217,rfl,by kernel_rfl⟩
def zW (fuel:Nat) (x0:(List D.Port)):Option ((List D.Port)):=(if decide ((([]:(List D.Port)).length:Int)+(x0.length:Int)≤4294967296)=true then some (([]:(List D.Port))++x0) else none)

theorem z5F {W w:World}(hE:Ext W w){d:Option Addr}{u:Nat}{x0:(List D.Port)}(h:z2R.ro W [sl d x0 u] x0){fuel:Nat}{r:(List D.Port)}(hm:zW fuel x0=some r):
  Calls Tryz.prog 217 ⟨[sl d x0 u]⟩ w (Ret fun v w8=>∃ A0 k0,v=sl A0 r k0∧St w w8 [ow z2R A0 r k0]):=by
 refine into Tryz.func217 8 _ ?_;unfold zW at hm;have hS:=St.start w;refine sq<|rg<|rr 1 ?_;refine rn<|sq<|sq<|rg<|rr 1 ?_;refine qt (qNilEq) ?_;refine rn ?_;cases d with
 | none=>
  have e:=zaz (by decide) h;subst e;refine cd true (fun _=>?_) (fun hc=>by cases hc);refine sq<|rg<|rr 1 ?_;refine rn<|rt ?_;have hr:r=[]:=by simpa using hm.symm
  subst hr;exact⟨_,.cons (.tmp rfl) .nil,none,0,rfl,hS.nilSl z4s 141⟩
 | some p=>
  refine cd false (fun hc=>by cases hc) (fun _=>?_);refine sp<|sq<|rg<|n0 (U:=z4s) hS (fun A1 k1 w1 e1 o=>?_);refine rr 1 ?_
  by_cases hk:decide ((([]:(List D.Port)).length:Int)+(x0.length:Int)≤4294967296)=true
  case neg=>rw [if_neg hk] at hm;cases hm
  rw [if_pos hk] at hm;cases hm;refine ap (Flat.map (Flat.pair Flat.int (Flat.pair Flat.int Flat.unit))) o (z2R.ext (hE.trans o.ext) h) hk (fun A2 k2 w2 y=>?_);refine rr 1 ?_;refine rn<|rt ?_;exact⟨_,.cons (.tmp rfl) .nil,A2,k2,rfl,y⟩

theorem ze7:Enters Tryz.prog 214:=⟨_,_,Tryz.func214,rfl,by kernel_rfl⟩
def z4c (fuel:Nat) (x0:D.Agent):Option (D.Agent):=((zR fuel x0.Data).bind fun d=>((zW fuel x0.Ports).bind fun h=>some (⟨x0.Kind,x0.Level,x0.Value,d,h⟩:D.Agent)))

theorem z8S {W w:World}(hE:Ext W w){d0:List Value}{x0:D.Agent}(g0:z6i.ro W d0 x0){fuel:Nat}{r:D.Agent}(hm:z4c fuel x0=some r):
  Calls Tryz.prog 214 ⟨[.agg ⟨d0⟩]⟩ w (Ret fun v w8=>∃ A0 k0 A1 k1,v=.agg ⟨[.int .i64 r.Kind,.int .i64 r.Level,.int .i64 r.Value,sl A0 r.Data k0,sl A1 r.Ports k1]⟩∧St w w8 [ow ty80 A0 r.Data k0,ow z2R A1 r.Ports k1]):=by
 obtain⟨A1,k2,A4,k5,e7,h3,h6⟩:=z6 g0;subst e7;refine into Tryz.func214 12 _ ?_;unfold z4c at hm;have hS:=St.start w;refine sq<|rg<|nw hS (fun q0 B0 o0 O=>?_);refine nw O (fun r0 C0 p0 h=>?_);refine rn<|sq<|dn 640 mixed 10 [([],1023),([0],1022),([1],1021),([],1023),([3],1015),([4,2],1007),([0,1,2,3,4],1023),([6,2,5,0,1,2,3,4],955),([0,1,2,3,4,5,6,7],1023),([8,5,7,0,1,2,3,4,5,6,7],735)] h.ext (fun d=>?_);have y:=h.step (Ext.draw _);refine dr 8 d [0,3] ?_;refine dl d 1 ((h.bring 1 rfl).box) 3 ?_;refine dl d 4 ((h.bring 1 rfl).box) 4 ?_;obtain⟨t0,a0,hm⟩:=bS hm;refine o1 d 2 (mc d zcQ (z4y (hE.trans y.ext) h3 a0) (fun v0 D0 L=>?_));obtain⟨e0,i0,rfl,o⟩:=L;refine⟨o.ext,?_⟩;have z:=y.join o;refine dr 4 d [6] ?_;obtain⟨u0,b0,hm⟩:=bS hm;refine o1 d 5 (mc d ze4 (z5F (hE.trans z.ext) h6 b0) (fun y0 E0 M=>?_));obtain⟨f0,j0,rfl,u⟩:=M;refine⟨u.ext,?_⟩;have S:=z.join u;have V:=S.bring 3 rfl;refine o1 d 7 (ms (A:=[]) V d 3 (fun F0 X=>?_));refine dr 1 d [8] ?_;refine dw [1,2,8,10] ?_;have Y:=X.bring 0 rfl;refine o1 d 9 (ms (A:=[]) Y d 4 (fun G0 G=>?_));refine dd d ?_;refine sq<|rg<|lN ((G.bring 0 rfl).box) ?_;have Z:=G.bring 3 rfl;refine so (A:=[]) Z 0 (fun H0 H=>?_);refine rn<|rt ?_;cases hm;exact⟨_,.cons (ra ((H.bring 0 rfl).box)) .nil,e0,i0,f0,j0,rfl,(((H.bring 2 rfl).bring 3 rfl).taken 2)⟩

theorem zec:Enters Tryz.prog 204:=⟨_,_,Tryz.func204,rfl,by kernel_rfl⟩
def z6f (fuel:Nat) (d:(List D.Agent)):Option D.Net:=some (⟨d⟩:D.Net)
def z52 (fuel:Nat) (x0:D.Net) (d:Int × (List D.Agent)):Option (Rd (Int × (List D.Agent)) ((List D.Agent)) (D.Net)):=(if(decide (d.1<(x0.Agents.length:Int)))=true then((idx x0.Agents d.1).bind fun o=>((z4c fuel o).bind fun h=>(if decide ((d.2.length:Int)+(([h]:(List D.Agent)).length:Int)≤4294967296)=true then some (.next (w64 (d.1+1),(d.2++([h]:(List D.Agent))))) else none))) else some (.brk d.2))
def z5x (fuel:Nat) (x0:D.Net):Option (D.Net):=(if decide (0≤(x0.Agents.length:Int)∧(x0.Agents.length:Int)≤4294967296)=true then((iter (z52 fuel x0) fuel (0,([]:(List D.Agent)))).bind fun o=>aft o (z6f fuel)) else none)

theorem z9Q {W w:World}(hE:Ext W w){S0:List Value}{x0:D.Net}(b1:ty42.ro W S0 x0){fuel:Nat}{r:D.Net}(hm:z5x fuel x0=some r):
  Calls Tryz.prog 204 ⟨[.agg ⟨S0⟩]⟩ w (Ret fun v w8=>∃ A0 k0,v=.agg ⟨[sl A0 r.Agents k0]⟩∧St w w8 [ow ty40 A0 r.Agents k0]):=by
 obtain⟨A1,k2,e4,h3⟩:=z15 b1;subst e4;refine into Tryz.func204 27 _ ?_;unfold z5x at hm;have hS:=St.start w;refine sq<|rg<|nw hS (fun g5 w6 e7 j0=>?_);refine nw j0 (fun a0 N1 y1 O=>?_);refine rn<|sq<|rg<|rr 1 ?_;refine l1 ((O.bring 1 rfl).box) 0 ?_;refine rr 1 ?_;obtain⟨K0,hm⟩:=iS hm;have hz21:=of_decide_eq_true K0;refine rMakeCap (U:=z6i) O hz21 (fun T0 f1 O1 B1 o0=>?_);refine qt (qb) ?_;refine nw o0 (fun b0 P1 C1 p0=>?_);have q0:=p0.bring 0 rfl;refine so (A:=[]) q0 0 (fun Q1 S=>?_);refine rn<|sq<|sq<|rg<|rr 1 ?_;refine l1 ((S.bring 3 rfl).box) 0 ?_;refine rr 2 ?_;refine rn ?_;obtain⟨m1,M0,hm⟩:=bS hm;refine ct (fun(g0:(List D.Agent)) F w9=>∃ Z e0,m1=.inl g0∧St w w9 [Box b0 [sl Z g0 e0] 42,ow ty40 Z g0 e0,Box a0 [.slice none 0 0] 42]∧F=[(2,.pointer (some ⟨a0,0,none⟩)),(3,.pointer (some ⟨b0,0,none⟩))]) ?_ ?_
 ·rintro g0 F R1 ⟨Z,e0,N0,V,rfl⟩;subst N0;rw [zi] at hm;unfold z6f at hm;refine sq<|rg<|lN ((V.bring 0 rfl).box) ?_;have r0:=V.bring 2 rfl;refine so (A:=[]) r0 0 (fun S1 X=>?_);refine rn<|rt ?_;cases hm;exact⟨_,.cons (ra ((X.bring 0 rfl).box)) .nil,Z,e0,rfl,((X.bring 2 rfl).taken 1)⟩
 ·refine bk<|wk [2,3,12,13,14] ?_;refine it (fun(f0:Int × (List D.Agent)) F w9=>∃ Y d0,St w w9 [Box b0 [sl Y f0.2 d0] 42,ow ty40 Y f0.2 d0,Box a0 [.slice none 0 0] 42]∧F=[(2,.pointer (some ⟨a0,0,none⟩)),(3,.pointer (some ⟨b0,0,none⟩)),(12,sl A1 x0.Agents k2),(13,.int .i64 (x0.Agents.length:Int)),(14,.int .i64 f0.1)]) M0 ⟨T0,f1,(S.taken 3),rfl⟩ ?_;rintro f0 F T1 _ K1 ⟨Y,d0,o,rfl⟩ h O0;unfold z52 at h;refine sq<|rg<|rr 1 ?_;refine rn<|sq<|ci h (fun h=>?_) (fun h=>?_)
  ·refine sp<|sq<|bk<|sq<|rg ?_;obtain⟨s1,Q0,h⟩:=bS h;refine ix (hE.trans o.ext) h3 Q0 (fun L1 a1 J0 P0=>?_);obtain⟨t1,G1,u1,H1,Y0,d1,e1⟩:=z6 P0;subst Y0;refine lN (At.ext (hE.trans o.ext) J0) ?_;refine nw o (fun F1 U1 D1 t0=>?_);have u0:=t0.bring 0 rfl;refine so (A:=[]) u0 0 (fun V1 u=>?_);refine rn<|dn 160 mixed 8 [([],255),([0],254),([],255),([2],251),([3],247),([1,4,3],237),([0,1,2,3,4,5],255),([6,5,5,0,1,2,3,4,5],159)] u.ext (fun d=>?_);have y:=u.step (Ext.draw _);refine dr 7 d [0] ?_;refine dl d 1 ((u.bring 1 rfl).box) 0 ?_;refine o1 d 2 (mq d rfl (qN ((y.bring 0 rfl).box)) ?_);obtain⟨z,R0,h⟩:=bS h;refine o1 d 3 (mc d ze7 (z8S (hE.trans y.ext) (z6x s1 d1 e1) R0) (fun M1 W1 i0=>?_));obtain⟨U0,g1,V0,i1,rfl,G⟩:=i0;refine⟨G.ext,?_⟩;have v0:=y.join G;have y0:=St.noEl z6i v0;have B0:=y0.bring 2 rfl;have C0:=B0.bring 2 rfl;have D0:=z6A (c:=z) (B:=_) C0;have E0:=St.consEl D0;refine o1 d 4 (mn (U:=z6i) (els:=[.int .i64 z.Kind,.int .i64 z.Level,.int .i64 z.Value,.slice U0 z.Data.length g1,.slice V0 z.Ports.length i1]) (ys:=[z]) E0 d (fun v1 J1 X1 E1 F0=>?_));have G0:=F0.bring 3 rfl;have H0:=G0.bring 1 rfl;obtain⟨L0,h⟩:=iS h;refine o1 d 5 (mo H0 d L0 (fun X0 j1 n1 H=>?_));refine dr 1 d [6] ?_;refine dw [2,3,12,13,14,23,24] ?_;have L:=H.bring 2 rfl;refine o1 d 7 (ms (A:=[]) L d 0 (fun p1 M=>?_));refine dd d ?_;refine rg<|rr 2 ?_;refine rn ?_;cases h;exact⟨_,_,rfl,⟨X0,j1,(M.bring 2 rfl).drop,rfl⟩,rfl⟩
  ·refine xt ?_;cases h;exact⟨_,_,⟨Y,d0,O0,o,rfl⟩,rfl⟩

end Go.E


