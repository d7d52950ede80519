/- Models of functions and proofs that the code runs as they say (written by program). Conditions: the model gives a value. -/
import Derived.Test.YtfndicpnccabkaaGreatQB
import Derived.Test.YtfndicpnccabkaaGreatFE
set_option linter.unusedVariables false
set_option linter.unusedSimpArgs false
namespace Go.E
open Go.RowKit Go.Proofs
set_option maxHeartbeats 2000000
set_option maxRecDepth 100000

theorem ztx:EN 206:=en Tryz.func206
def zck (fu:Nat)(t2:Unit):Option Int:=some 0
def z2M (fu:Nat)(x0:L9)(s1:Int):Option (Rd (Int) (Unit) (Int)):=(if(decide (s1<(x0.length:Int)))=true then((idx x0 s1).bind fun o=>(if(o != 0)=true then some (.ret o) else some (.next (w64 (s1+1))))) else some (.brk ()))
def zbi (fu:Nat)(x0:L9):Option (Int):=((iter (z2M fu x0) fu 0).bind fun o=>aft o (zck fu))

theorem zmD {W:Base}{w:World}(hE:Ext W w){H:Option Addr}{c0:Nat}{x0:L9}(g0:zrX.ro W [sl H x0 c0] x0){fu:Nat}{r:Int}(hm:zbi fu x0=some r):
  CL 206 ⟨[sl H x0 c0]⟩ w (RI w r):=by
 refine into Tryz.func206 18 _ ?_;unfold zbi at hm;have hS:=St.start w;refine sg<|rm 1 ?_;refine sg<|rm 1 ?_;refine sq<|sg<|rm 3 ?_;obtain⟨i0,Y,hm⟩:=bS hm;refine ct (fun(t2:Unit) F w9=>i0=.inl t2∧Ext w w9∧St w w9 []∧F=[(3,iv 0)]) ?_ ?_
 ·rintro t2 F w7 ⟨Z,j0,O,rfl⟩;subst Z;rw[z8] at hm;unfold zck at hm;refine sg<|rm 2 ?_;refine rt ?_;cases hm;exact⟨_,tR rfl,rfl,O⟩
 ·refine bk<|wk [3,6,7,8] ?_;refine it (fun(s1:Int) F w9=>Ext w w9∧St w w9 []∧F=[(3,iv 0),(6,sl H x0 c0),(7,iv (x0.length:Int)),(8,iv s1)]) Y ⟨(Ext.refl _),hS,rfl⟩ ?_;rintro s1 F p0 _ k0 ⟨e0,q,rfl⟩ o G;unfold z2M at o;refine sg<|rm 1 ?_;refine sq<|ci o (fun o=>?_) (fun o=>?_)
  ·refine sp<|sq<|bk<|sq<|rg ?_;obtain⟨q0,b0,o⟩:=bS o;refine ix (hE.trans q.ext) g0 b0 (fun o0 f0 X a0=>?_);cases a0;refine l1 (ax hE q X) 0 ?_;refine rm 1 ?_;refine sg<|rm 3 ?_;refine ci o (fun o=>?_) (fun o=>?_)
   ·refine sg<|rm 2 ?_;refine rt ?_;cases o;cases G;have hm:some _=some _:=hm;cases hm;exact⟨_,tR rfl,rfl,q⟩
   ·refine sp<|rg<|rm 2 ?_;cases o;exact⟨_,_,rfl,⟨e0,q,rfl⟩,rfl⟩
  ·refine xt ?_;cases o;exact⟨_,_,⟨G,e0,q,rfl⟩,rfl⟩

theorem zty:EN 205:=en Tryz.func205
def z1A (fu:Nat)(x0:QB)(x1:QB):Option (Int):=((z16 fu x0.code x1.code).bind fun o=>((z3k fu x0.Qa1 x1.Qa1).bind fun q=>((zbi fu ([o,q]:L9)).bind fun G=>some G)))

theorem zbu {W:Base}{w:World}(hE:Ext W w){q0:List Value}{x0:QB}{r0:List Value}{x1:QB}(u0:zfi.ro W q0 x0)(y0:zfi.ro W r0 x1){fu:Nat}{r:Int}(hm:z1A fu x0 x1=some r):
  CL 205 ⟨[.agg ⟨q0⟩,.agg ⟨r0⟩]⟩ w (RI w r):=by
 obtain⟨A1,k2,A4,k5,e7,h3,h6⟩:=zke u0;subst e7;obtain⟨A0,K0,B0,L0,t0,J0,v0⟩:=zke y0;subst t0;refine into Tryz.func205 17 _ ?_;unfold z1A at hm;have hS:=St.start w;refine sg<|nw hS (fun G0 R0 D0 e0=>?_);refine nw e0 (fun H0 S0 E0 q=>?_);refine rm 1 ?_;refine sq<|dn 0 mixed 13 [([],8191),([0],8190),([],8191),([2],8187),([1,3],8181),([],8191),([5],8159),([],8191),([7],8063),([6,8,4],7871),([4,9],7663),([10,9],7167),([11,11,0,1,2,3,4,5,6,7,8,9,10,11],6143)] q.ext (fun o=>?_);have X:=q.step (Ext.draw _);refine dr 9 o [0,2,5,7] ?_;refine dl o 1 ((q.b 1 rfl).box) 1 ?_;refine dl o 3 ((q.b 0 rfl).box) 1 ?_;refine dl o 6 ((q.b 1 rfl).box) 2 ?_;refine dl o 8 ((q.b 0 rfl).box) 2 ?_;obtain⟨o0,i0,hm⟩:=bS hm;refine o1 o 4 (mc o znZ (z7C (hE.trans X.ext) h6 v0 i0) (fun O0 T0 a0=>?_));obtain⟨rfl,G⟩:=a0;refine⟨G.ext,?_⟩;have Y:=X.join G;obtain⟨p0,j0,hm⟩:=bS hm;refine o1 o 9 (mc o znY (zbM (hE.trans Y.ext)  j0) (fun P0 U0 b0=>?_));obtain⟨rfl,H⟩:=b0;refine⟨H.ext,?_⟩;have f0:=Y.join H;refine o1 o 10 (mn (f0.flatEls (U:=z2z) (els:=[iv o0,iv p0]) (ys:=[o0,p0]) ⟨[iv o0],_,[],[],rfl,rfl,⟨rfl,rfl⟩,⟨[iv p0],_,[],[],rfl,rfl,⟨rfl,rfl⟩,⟨rfl,rfl⟩⟩⟩) o (fun C0 M0 V0 F0 Z=>?_));obtain⟨N0,k0,hm⟩:=bS hm;refine o1 o 11 (mc o ztx (zmD (Ext.refl _) ((Z.b 0 rfl).own) k0) (fun Q0 X0 c0=>?_));obtain⟨rfl,O⟩:=c0;refine⟨O.ext,?_⟩;have g0:=Z.join O;refine dr 0 o [12] ?_;refine dw [4] ?_;refine dd o ?_;refine rt ?_;cases hm;exact⟨_,tR rfl,rfl,(g0.t 0)⟩

end Go.E



