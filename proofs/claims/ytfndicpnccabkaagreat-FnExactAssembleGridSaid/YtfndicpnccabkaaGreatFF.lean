/- Models of functions and proofs that the code runs as they say (written by program). Conditions: the model gives a value. -/
import Derived.Test.YtfndicpnccabkaaGreatQB
import Derived.Test.YtfndicpnccabkaaGreatFE
namespace Go.E
open Go.RowKit Go.Proofs
set_option linter.unusedVariables false
set_option linter.unusedSimpArgs false
set_option maxHeartbeats 2000000
set_option maxRecDepth 100000

theorem zky:Enters Tryz.prog 206:=⟨_,_,Tryz.func206,rfl,by kernel_rfl⟩
def z8S (fuel:Nat) (t2:Unit):Option Int:=some 0
def z20 (fuel:Nat) (x0:(List Int)) (s1:Int):Option (Rd (Int) (Unit) (Int)):=(if(decide (s1<(x0.length:Int)))=true then((idx x0 s1).bind fun o=>(if(o != 0)=true then some (.ret o) else some (.next (w64 (s1+1))))) else some (.brk ()))
def z8h (fuel:Nat) (x0:(List Int)):Option (Int):=((iter (z20 fuel x0) fuel 0).bind fun o=>aft o (z8S fuel))

theorem zfc {W:Base}{w:World}(hE:Ext W w){H:Option Addr}{c0:Nat}{x0:(List Int)}(g0:zjg.ro W [sl H x0 c0] x0){fuel:Nat}{r:Int}(hm:z8h fuel x0=some r):
  Calls Tryz.prog 206 ⟨[sl H x0 c0]⟩ w (Ret fun v w8=>v=.int .i64 r∧St w w8 []):=by
 refine into Tryz.func206 18 _ ?_;unfold z8h at hm;have hS:=St.start w;refine sq<|rg<|rr 1 ?_;refine rn<|sq<|rg<|rr 1 ?_;refine rn<|sq<|sq<|rg<|rr 3 ?_;refine rn ?_;obtain⟨i0,Y,hm⟩:=bS hm;refine ct (fun(t2:Unit) F w9=>i0=.inl t2∧Ext w w9∧St w w9 []∧F=[(3,.int .i64 0)]) ?_ ?_
 ·rintro t2 F w7 ⟨Z,j0,O,rfl⟩;subst Z;rw [z6] at hm;unfold z8S at hm;refine sq<|rg<|rr 2 ?_;refine rn<|rt ?_;cases hm;exact⟨_,.cons (.tmp rfl) .nil,rfl,O⟩
 ·refine bk<|wk [3,6,7,8] ?_;refine it (fun(s1:Int) F w9=>Ext w w9∧St w w9 []∧F=[(3,.int .i64 0),(6,sl H x0 c0),(7,.int .i64 (x0.length:Int)),(8,.int .i64 s1)]) Y ⟨(Ext.refl _),hS,rfl⟩ ?_;rintro s1 F p0 _ k0 ⟨e0,q,rfl⟩ o G;unfold z20 at o;refine sq<|rg<|rr 1 ?_;refine rn<|sq<|ci o (fun o=>?_) (fun o=>?_)
  ·refine sp<|sq<|bk<|sq<|rg ?_;obtain⟨q0,b0,o⟩:=bS o;refine ix (hE.trans q.ext) g0 b0 (fun o0 f0 X a0=>?_);cases a0;refine l1 (At.ext (hE.trans q.ext) X) 0 ?_;refine rr 1 ?_;refine rn<|sq<|rg<|rr 3 ?_;refine rn<|ci o (fun o=>?_) (fun o=>?_)
   ·refine sq<|rg<|rr 2 ?_;refine rn<|rt ?_;cases o;cases G;have hm:some _=some _:=hm;cases hm;exact⟨_,.cons (.tmp rfl) .nil,rfl,q⟩
   ·refine sp<|rg<|rr 2 ?_;refine rn ?_;cases o;exact⟨_,_,rfl,⟨e0,q,rfl⟩,rfl⟩
  ·refine xt ?_;cases o;exact⟨_,_,⟨G,e0,q,rfl⟩,rfl⟩

theorem zkz:Enters Tryz.prog 205:=⟨_,_,Tryz.func205,rfl,by kernel_rfl⟩
def z15 (fuel:Nat) (x0:D.traversal) (x1:D.traversal):Option (Int):=((zK fuel x0.code x1.code).bind fun o=>((z2s fuel x0.least x1.least).bind fun q=>((z8h fuel ([o,q]:(List Int))).bind fun G=>some G)))

theorem z8n {W:Base}{w:World}(hE:Ext W w){q0:List Value}{x0:D.traversal}{r0:List Value}{x1:D.traversal}(u0:zaP.ro W q0 x0) (y0:zaP.ro W r0 x1){fuel:Nat}{r:Int}(hm:z15 fuel x0 x1=some r):
  Calls Tryz.prog 205 ⟨[.agg ⟨q0⟩,.agg ⟨r0⟩]⟩ w (Ret fun v w8=>v=.int .i64 r∧St w w8 []):=by
 obtain⟨A1,k2,A4,k5,e7,h3,h6⟩:=ze4 u0;subst e7;obtain⟨A0,K0,B0,L0,t0,J0,v0⟩:=ze4 y0;subst t0;refine into Tryz.func205 17 _ ?_;unfold z15 at hm;have hS:=St.start w;refine sq<|rg<|nw hS (fun G0 R0 D0 e0=>?_);refine nw e0 (fun H0 S0 E0 q=>?_);refine rr 1 ?_;refine rn<|sq<|dn 0 mixed 13 [([],8191),([0],8190),([],8191),([2],8187),([1,3],8181),([],8191),([5],8159),([],8191),([7],8063),([6,8,4],7871),([4,9],7663),([10,9],7167),([11,11,0,1,2,3,4,5,6,7,8,9,10,11],6143)] q.ext (fun o=>?_);have X:=q.step (Ext.draw _);refine dr 9 o [0,2,5,7] ?_;refine dl o 1 ((q.bring 1 rfl).box) 1 ?_;refine dl o 3 ((q.bring 0 rfl).box) 1 ?_;refine dl o 6 ((q.bring 1 rfl).box) 2 ?_;refine dl o 8 ((q.bring 0 rfl).box) 2 ?_;obtain⟨o0,i0,hm⟩:=bS hm;refine o1 o 4 (mc o zgj (z5y (hE.trans X.ext) h6 v0 i0) (fun O0 T0 a0=>?_));obtain⟨rfl,G⟩:=a0;refine⟨G.ext,?_⟩;have Y:=X.join G;obtain⟨p0,j0,hm⟩:=bS hm;refine o1 o 9 (mc o zgi (z8x (hE.trans Y.ext)  j0) (fun P0 U0 b0=>?_));obtain⟨rfl,H⟩:=b0;refine⟨H.ext,?_⟩;have f0:=Y.join H;refine o1 o 10 (mn (f0.flatEls (U:=tInt) (els:=[.int .i64 o0,.int .i64 p0]) (ys:=[o0,p0]) ⟨[.int .i64 o0],_,[],[],rfl,rfl,⟨rfl,rfl⟩,⟨[.int .i64 p0],_,[],[],rfl,rfl,⟨rfl,rfl⟩,⟨rfl,rfl⟩⟩⟩) o (fun C0 M0 V0 F0 Z=>?_));obtain⟨N0,k0,hm⟩:=bS hm;refine o1 o 11 (mc o zky (zfc (Ext.refl _) ((Z.bring 0 rfl).own) k0) (fun Q0 X0 c0=>?_));obtain⟨rfl,O⟩:=c0;refine⟨O.ext,?_⟩;have g0:=Z.join O;refine dr 0 o [12] ?_;refine dw [4] ?_;refine dd o ?_;refine rt ?_;cases hm;exact⟨_,.cons (.tmp rfl) .nil,rfl,(g0.taken 0)⟩

end Go.E


