/- Models of functions and proofs that the code runs as they say (written by program). Conditions: the model gives a value. -/
import Derived.Test.YteommboffflkbaaGreatFGe
import Derived.Test.YteommboffflkbaaGreatShort
import Derived.Test.YteommboffflkbaaGreatFA
import Derived.Test.YteommboffflkbaaGreatFG
import Derived.Test.YteommboffflkbaaGreatFGb
import Derived.Test.YteommboffflkbaaGreatFGc
import Derived.Test.YteommboffflkbaaGreatFGd
namespace Go.E
open Go.RowKit Go.Proofs
set_option linter.unusedVariables false
set_option linter.unusedSimpArgs false
set_option maxHeartbeats 2000000
set_option maxRecDepth 100000

theorem zmi:Enters Tryz.prog 198:=⟨_,_,Tryz.func198,rfl,by kernel_rfl⟩
def z89 (fuel:Nat) (x0:Bool):Option (Int):=(if x0=true then some 1 else some 0)

theorem zeE {W w:World}(hE:Ext W w){x0:Bool}  {fuel:Nat}{r:Int}(hm:z89 fuel x0=some r):
  Calls Tryz.prog 198 ⟨[.bool x0]⟩ w (Ret fun v w8=>v=.int .i64 r∧St w w8 []):=by
 refine into Tryz.func198 4 _ ?_;unfold z89 at hm;have hS:=St.start w;refine sq<|rg<|rr 1 ?_;refine rn<|sq<|sq<|rg<|rr 1 ?_;refine rn<|ci hm (fun hm=>?_) (fun hm=>?_)
 ·refine sq<|rg<|rr 1 ?_;refine rn<|rt ?_;cases hm;exact⟨_,.cons (.tmp rfl) .nil,rfl,hS⟩
 ·refine sp<|sq<|rg<|rr 1 ?_;refine rn<|rt ?_;cases hm;exact⟨_,.cons (.tmp rfl) .nil,rfl,hS⟩

theorem zhP:Enters Tryz.prog 145:=⟨_,_,Tryz.func145,rfl,by kernel_rfl⟩
def z9Z (fuel:Nat) (t2:Int):Option Int:=some t2
def z3F (fuel:Nat) (x0:(List D.Qi)) (s1:Int × Int):Option (Rd (Int × Int) (Int) (Int)):=(if(decide (s1.2<(x0.length:Int)))=true then((idx x0 s1.2).bind fun h=>((z89 fuel (h.Qj == 4)).bind fun d=>some (.next (w64 (s1.1+d),w64 (s1.2+1))))) else some (.brk s1.1))
def z4d (fuel:Nat) (x0:(List D.Qi)):Option (Int):=((iter (z3F fuel x0) fuel (0,0)).bind fun o=>aft o (z9Z fuel))

theorem zaL {W w:World}(hE:Ext W w){q:Option Addr}{b0:Nat}{x0:(List D.Qi)}(g0:z62.ro W [sl q x0 b0] x0){fuel:Nat}{r:Int}(hm:z4d fuel x0=some r):
  Calls Tryz.prog 145 ⟨[sl q x0 b0]⟩ w (Ret fun v w8=>v=.int .i64 r∧St w w8 []):=by
 refine into Tryz.func145 21 _ ?_;unfold z4d at hm;have hS:=St.start w;refine sq<|rg<|rr 1 ?_;refine rn<|sq<|rg<|rr 1 ?_;refine rn<|sq<|sq<|rg<|rr 1 ?_;refine rn ?_;obtain⟨i0,O,hm⟩:=bS hm;refine ct (fun(t2:Int) F w9=>i0=.inl t2∧Ext w w9∧St w w9 []∧F=[(3,.int .i64 t2)]) ?_ ?_
 ·rintro t2 F w7 ⟨S,q0,G,rfl⟩;subst S;rw [z8] at hm;unfold z9Z at hm;refine sq<|rg<|rr 2 ?_;refine rn<|rt ?_;cases hm;exact⟨_,.cons (.tmp rfl) .nil,rfl,G⟩
 ·refine bk<|wk [0,3,4] ?_;refine it (fun(s1:Int × Int) F w9=>Ext w w9∧St w w9 []∧F=[(0,sl q x0 b0),(3,.int .i64 s1.1),(4,.int .i64 s1.2)]) O ⟨(Ext.refl _),hS,rfl⟩ ?_;rintro s1 F B0 _ u0 ⟨d0,h,rfl⟩ d X;unfold z3F at d;refine sq<|sq<|rg<|rr 4 ?_;refine rn<|ci d (fun d=>?_) (fun d=>?_)
  ·refine sp<|sq<|bk<|rg<|rr 3 ?_;obtain⟨D0,Z,d⟩:=bS d;refine ix (hE.trans h.ext) g0 Z (fun v0 f0 M Y=>?_);obtain⟨j0,r0,k0,t0,e0,o0,p0⟩:=zv Y;subst e0;refine rr 1 ?_;refine l1 (At.ext (hE.trans h.ext) M) 0 ?_;refine rr 1 ?_;obtain⟨y0,a0,d⟩:=bS d;refine ca zmi (zeE (hE.trans h.ext)  a0) (fun A0 C0 y=>?_);obtain⟨rfl,o⟩:=y;have H:=h.join o;refine rr 2 ?_;refine rn<|rg<|rr 3 ?_;refine rn ?_;cases d;exact⟨_,_,rfl,⟨(d0.trans o.ext),H,rfl⟩,rfl⟩
  ·refine xt ?_;cases d;exact⟨_,_,⟨X,d0,h,rfl⟩,rfl⟩

theorem zos:Enters Tryz.prog 81:=⟨_,_,Tryz.func81,rfl,by kernel_rfl⟩
def z9Y (fuel:Nat) (d:Int):Option Int:=some d
def z3E (fuel:Nat) (x0:D.Qa) (d:Int × Int):Option (Rd (Int × Int) (Int) (Int)):=(if(decide (d.2<(x0.Qf.length:Int)))=true then((idx x0.Qf d.2).bind fun o=>((idx x0.Qf d.2).bind fun q=>((z4d fuel q).bind fun h=>some (.next (w64 (d.1+(w64 ((o.length:Int) - h))),w64 (d.2+1)))))) else some (.brk d.1))
def z63 (fuel:Nat) (x0:D.Qa):Option (Int):=((iter (z3E fuel x0) fuel (0,0)).bind fun o=>aft o (z9Y fuel))

theorem zcR {W w:World}(hE:Ext W w){j0:Addr}{p0:List Value}{x0:D.Qa}(y0:ty40.ro W p0 x0) (M:At W j0 p0){fuel:Nat}{r:Int}(hm:z63 fuel x0=some r):
  Calls Tryz.prog 81 ⟨[.pointer (some j0)]⟩ w (Ret fun v w8=>v=.int .i64 r∧St w w8 []):=by
 obtain⟨A1,k2,A4,k5,A7,K0,C0,L0,D0,M0,q0,h3,h6,G0,H0,J0⟩:=z2E y0;subst q0;refine into Tryz.func81 34 _ ?_;unfold z63 at hm;have hS:=St.start w;refine sq<|rg<|rr 1 ?_;refine rn<|sq<|rg<|rr 1 ?_;refine rn<|sq<|sq<|rg<|rr 1 ?_;refine rn ?_;obtain⟨B0,a0,hm⟩:=bS hm;refine ct (fun(o0:Int) F w9=>B0=.inl o0∧Ext w w9∧St w w9 []∧F=[(3,.int .i64 o0)]) ?_ ?_
 ·rintro o0 F U0 ⟨b0,A0,S,rfl⟩;subst b0;rw [z8] at hm;unfold z9Y at hm;refine sq<|rg<|rr 2 ?_;refine rn<|rt ?_;cases hm;exact⟨_,.cons (.tmp rfl) .nil,rfl,S⟩
 ·refine bk<|wk [0,3,4] ?_;refine it (fun(k0:Int × Int) F w9=>Ext w w9∧St w w9 []∧F=[(0,.pointer (some j0)),(3,.int .i64 k0.1),(4,.int .i64 k0.2)]) a0 ⟨(Ext.refl _),hS,rfl⟩ ?_;rintro k0 F V0 _ P0 ⟨y,o,rfl⟩ d d0;unfold z3E at d;refine sq<|sq<|rg<|rr 4 ?_;refine l1 (At.ext (hE.trans o.ext) M) 4 ?_;refine rr 2 ?_;refine rn<|ci d (fun d=>?_) (fun d=>?_)
  ·refine sp<|sq<|bk<|dn 0 mixed 20 [([],1048575),([],1048575),([1],1048573),([2],1048571),([3],1048567),([],1048575),([4,5],1048527),([6],1048511),([7],1048447),([],1048575),([9],1048063),([10],1047551),([11],1046527),([],1048575),([12,13],1036287),([14],1032191),([15],1015807),([8,16],982783),([0,17],917502),([18,16,0,1,2,3,4,5,6,7,8,9,10,11,12,13,14,15,16,17,18],786430)] o.ext (fun h=>?_);have G:=o.step (Ext.draw _);refine dr 11 h [0,1,2,3,5,9,10,11,13] ?_;refine dw [0,3,4,14,17,19,25,27] ?_;refine dl h 4 (At.ext (hE.trans o.ext) M) 4 ?_;obtain⟨Y0,f0,d⟩:=bS d;refine dx (hE.trans o.ext) h 6 h6 f0 (fun Q0 u0 Y e0=>?_);obtain⟨E0,N0,r0⟩:=z1i e0;subst r0;refine dl h 7 (At.ext (hE.trans o.ext) Y) 0 ?_;refine dr 7 h [8] ?_;refine dl h 12 (At.ext (hE.trans o.ext) M) 4 ?_;obtain⟨a1,g0,d⟩:=bS d;refine dx (hE.trans o.ext) h 14 h6 g0 (fun R0 v0 Z H=>?_);obtain⟨F0,O0,t0⟩:=z1i H;subst t0;refine dl h 15 (At.ext (hE.trans o.ext) Z) 0 ?_;obtain⟨S0,i0,d⟩:=bS d;refine o1 h 16 (mc h zhP (zaL (hE.trans G.ext) H i0) (fun T0 X0 O=>?_));obtain⟨rfl,q⟩:=O;refine⟨q.ext,?_⟩;have X:=G.join q;refine dr 0 h [17,18,19] ?_;refine dw [0,3,4] ?_;refine dd h ?_;refine rg<|rr 3 ?_;refine rn ?_;cases d;exact⟨_,_,rfl,⟨((y.trans (Ext.draw _)).trans q.ext),X,rfl⟩,rfl⟩
  ·refine xt ?_;cases d;exact⟨_,_,⟨d0,y,o,rfl⟩,rfl⟩

theorem zmL:Enters Tryz.prog 156:=⟨_,_,Tryz.func156,rfl,by kernel_rfl⟩
def z9N (fuel:Nat) (x0:Bool):Option (Int):=(if x0=true then some 1 else some 0)

theorem zgz {W w:World}(hE:Ext W w){x0:Bool}  {fuel:Nat}{r:Int}(hm:z9N fuel x0=some r):
  Calls Tryz.prog 156 ⟨[.bool x0]⟩ w (Ret fun v w8=>v=.int .i64 r∧St w w8 []):=by
 refine into Tryz.func156 4 _ ?_;unfold z9N at hm;have hS:=St.start w;refine sq<|rg<|rr 1 ?_;refine rn<|sq<|sq<|rg<|rr 1 ?_;refine rn<|ci hm (fun hm=>?_) (fun hm=>?_)
 ·refine sq<|rg<|rr 1 ?_;refine rn<|rt ?_;cases hm;exact⟨_,.cons (.tmp rfl) .nil,rfl,hS⟩
 ·refine sp<|sq<|rg<|rr 1 ?_;refine rn<|rt ?_;cases hm;exact⟨_,.cons (.tmp rfl) .nil,rfl,hS⟩

theorem zhO:Enters Tryz.prog 146:=⟨_,_,Tryz.func146,rfl,by kernel_rfl⟩
def zbg (fuel:Nat) (t2:Int):Option Int:=some t2
def z6t (fuel:Nat) (x0:(List D.Qi)) (s1:Int × Int):Option (Rd (Int × Int) (Int) (Int)):=(if(decide (s1.2<(x0.length:Int)))=true then((idx x0 s1.2).bind fun h=>((z9N fuel (h.Qj == 4)).bind fun d=>some (.next (w64 (s1.1+d),w64 (s1.2+1))))) else some (.brk s1.1))
def z7c (fuel:Nat) (x0:(List D.Qi)):Option (Int):=((iter (z6t fuel x0) fuel (0,0)).bind fun o=>aft o (zbg fuel))

theorem zc5 {W w:World}(hE:Ext W w){q:Option Addr}{d0:Nat}{x0:(List D.Qi)}(g0:z62.ro W [sl q x0 d0] x0){fuel:Nat}{r:Int}(hm:z7c fuel x0=some r):
  Calls Tryz.prog 146 ⟨[sl q x0 d0]⟩ w (Ret fun v w8=>v=.int .i64 r∧St w w8 []):=by
 refine into Tryz.func146 20 _ ?_;unfold z7c at hm;have hS:=St.start w;refine sq<|rg<|rr 1 ?_;refine rn<|sq<|rg<|rr 1 ?_;refine rn<|sq<|sq<|rg<|rr 3 ?_;refine rn ?_;obtain⟨o5,j0,hm⟩:=bS hm;refine ct (fun(t2:Int) F w9=>o5=.inl t2∧St w w9 []∧F=[(3,.int .i64 t2)]) ?_ ?_
 ·rintro t2 F w4 ⟨X,i0,rfl⟩;subst X;rw [z8] at hm;unfold zbg at hm;refine sq<|rg<|rr 2 ?_;refine rn<|rt ?_;cases hm;exact⟨_,.cons (.tmp rfl) .nil,rfl,i0⟩
 ·refine bk<|wk [3,6,7,8] ?_;refine it (fun(s1:Int × Int) F w9=>St w w9 []∧F=[(3,.int .i64 s1.1),(6,sl q x0 d0),(7,.int .i64 (x0.length:Int)),(8,.int .i64 s1.2)]) j0 ⟨hS,rfl⟩ ?_;rintro s1 F D0 _ y0 ⟨h,rfl⟩ d Y;unfold z6t at d;refine sq<|rg<|rr 1 ?_;refine rn<|sq<|ci d (fun d=>?_) (fun d=>?_)
  ·refine sp<|sq<|bk<|sq<|rg ?_;obtain⟨H0,a0,d⟩:=bS d;refine ix (hE.trans h.ext) g0 a0 (fun A0 f0 S Z=>?_);obtain⟨k0,u0,o0,v0,e0,r0,t0⟩:=zv Z;subst e0;refine lN (At.ext (hE.trans h.ext) S) ?_;refine nw h (fun q0 E0 p0 H=>?_);have M:=H.bring 0 rfl;refine so (A:=[]) M 0 (fun F0 o=>?_);refine rn<|rg<|rr 2 ?_;refine l1 ((o.bring 0 rfl).box) 0 ?_;refine rr 1 ?_;obtain⟨B0,b0,d⟩:=bS d;refine ca zmL (zgz (hE.trans o.ext)  b0) (fun C0 G0 y=>?_);obtain⟨rfl,G⟩:=y;have O:=o.join G;refine rr 2 ?_;refine rn<|rg<|rr 2 ?_;refine rn ?_;cases d;exact⟨_,_,rfl,⟨(O.taken 0),rfl⟩,rfl⟩
  ·refine xt ?_;cases d;exact⟨_,_,⟨Y,h,rfl⟩,rfl⟩

theorem zor:Enters Tryz.prog 82:=⟨_,_,Tryz.func82,rfl,by kernel_rfl⟩
def z7N (fuel:Nat) (d:Int):Option Int:=some d
def z1y (fuel:Nat) (x0:D.Qa) (d:Int × Int):Option (Rd (Int × Int) (Int) (Int)):=(if(decide (d.2<(x0.Qf.length:Int)))=true then((idx x0.Qf d.2).bind fun h=>((z7c fuel h).bind fun o=>some (.next (w64 (d.1+(w64 ((h.length:Int) - o))),w64 (d.2+1))))) else some (.brk d.1))
def z2d (fuel:Nat) (x0:D.Qa):Option (Int):=((iter (z1y fuel x0) fuel (0,0)).bind fun o=>aft o (z7N fuel))

theorem zb1 {W w:World}(hE:Ext W w){f0:Addr}{e0:List Value}{x0:D.Qa}(o0:ty40.ro W e0 x0) (k0:At W f0 e0){fuel:Nat}{r:Int}(hm:z2d fuel x0=some r):
  Calls Tryz.prog 82 ⟨[.pointer (some f0)]⟩ w (Ret fun v w8=>v=.int .i64 r∧St w w8 []):=by
 obtain⟨A1,k2,A4,k5,A7,B0,r0,C0,t0,D0,g0,h3,h6,v0,y0,A0⟩:=z2E o0;subst g0;refine into Tryz.func82 24 _ ?_;unfold z2d at hm;have hS:=St.start w;refine sq<|rg<|rr 1 ?_;refine rn<|sq<|rg<|rr 1 ?_;refine rn<|sq<|sq<|rg<|rr 3 ?_;refine l1 (At.ext (hE.trans hS.ext) k0) 4 ?_;refine rr 2 ?_;refine rn ?_;obtain⟨q0,S,hm⟩:=bS hm;refine ct (fun(d0:Int) F w9=>q0=.inl d0∧Ext w w9∧St w w9 []∧F=[(3,.int .i64 d0)]) ?_ ?_
 ·rintro d0 F K0 ⟨X,p0,H,rfl⟩;subst X;rw [z8] at hm;unfold z7N at hm;refine sq<|rg<|rr 2 ?_;refine rn<|rt ?_;cases hm;exact⟨_,.cons (.tmp rfl) .nil,rfl,H⟩
 ·refine bk<|wk [3,9,10,11] ?_;refine it (fun(b0:Int × Int) F w9=>Ext w w9∧St w w9 []∧F=[(3,.int .i64 b0.1),(9,sl A4 x0.Qf k5),(10,.int .i64 (x0.Qf.length:Int)),(11,.int .i64 b0.2)]) S ⟨(Ext.refl _),hS,rfl⟩ ?_;rintro b0 F L0 _ F0 ⟨o,h,rfl⟩ d Y;unfold z1y at d;refine sq<|rg<|rr 1 ?_;refine rn<|sq<|ci d (fun d=>?_) (fun d=>?_)
  ·refine sp<|sq<|bk<|sq<|rg ?_;obtain⟨N0,Z,d⟩:=bS d;refine ix (hE.trans h.ext) h6 Z (fun G0 j0 O y=>?_);obtain⟨u0,E0,i0⟩:=z1i y;subst i0;refine l1 (At.ext (hE.trans h.ext) O) 0 ?_;refine rr 1 ?_;refine rn<|rg<|rr 4 ?_;obtain⟨H0,a0,d⟩:=bS d;refine ca zhO (zc5 (hE.trans h.ext) y a0) (fun J0 M0 G=>?_);obtain⟨rfl,q⟩:=G;have M:=h.join q;refine rr 3 ?_;refine rn<|rg<|rr 2 ?_;refine rn ?_;cases d;exact⟨_,_,rfl,⟨(o.trans q.ext),M,rfl⟩,rfl⟩
  ·refine xt ?_;cases d;exact⟨_,_,⟨Y,o,h,rfl⟩,rfl⟩

end Go.E


namespace Go.E
open Go.RowKit Go.Proofs
set_option linter.unusedVariables false
set_option linter.unusedSimpArgs false
set_option maxHeartbeats 2000000
set_option maxRecDepth 100000

theorem zon:Enters Tryz.prog 87:=⟨_,_,Tryz.func87,rfl,by kernel_rfl⟩
def z8e (fuel:Nat) (x0:(List Bool)) (x1:Int):Option (Int):=(if(decide ((w64 (x1 - (x0.length:Int)))<0))=true then some (-1) else some (w64 (x1 - (x0.length:Int))))

theorem laws_szBoolS_ok {W w:World}(hE:Ext W w){d:Option Addr}{h:Nat}{x0:(List Bool)}{x1:Int}(o:ty56.ro W [sl d x0 h] x0){fuel:Nat}{r:Int}(hm:z8e fuel x0 x1=some r):
  Calls Tryz.prog 87 ⟨[sl d x0 h,.int .i64 x1]⟩ w (Ret fun v w8=>v=.int .i64 r∧St w w8 []):=by
 refine into Tryz.func87 12 _ ?_;unfold z8e at hm;have hS:=St.start w;refine sq<|rg<|rr 1 ?_;refine rn<|sq<|rg<|rr 5 ?_;refine rn<|sq<|sq<|rg<|rr 2 ?_;refine rn<|ci hm (fun hm=>?_) (fun hm=>?_)
 ·refine sq<|rg<|rr 1 ?_;refine rn<|rt ?_;cases hm;exact⟨_,.cons (.tmp rfl) .nil,rfl,hS⟩
 ·refine sp<|sq<|rg<|rr 2 ?_;refine rn<|rt ?_;cases hm;exact⟨_,.cons (.tmp rfl) .nil,rfl,hS⟩

theorem zoN:Enters Tryz.prog 35:=⟨_,_,Tryz.func35,rfl,by kernel_rfl⟩
def z6j (fuel:Nat) (x0:D.Qq) (x1:Int):Option (Int):=((z70 fuel x0.Qa x1).bind fun d=>(if(decide (d<0))=true then some (-1) else((z8e fuel x0.Qs d).bind fun h=>(if(decide (h<0))=true then some (-1) else some h))))

theorem laws_szDetector_ok {W w:World}(hE:Ext W w){S:List Value}{x0:D.Qq}{x1:Int}(Y:ty58.ro W S x0){fuel:Nat}{r:Int}(hm:z6j fuel x0 x1=some r):
  Calls Tryz.prog 35 ⟨[.agg ⟨S⟩,.int .i64 x1]⟩ w (Ret fun v w8=>v=.int .i64 r∧St w w8 []):=by
 obtain⟨A1,k2,A4,k5,A7,k0,e0,o0,f0,p0,g0,q0,X,h3,h6,Z,a0,b0,d0⟩:=zeh Y;subst X;refine into Tryz.func35 18 _ ?_;unfold z6j at hm;have hS:=St.start w;refine sq<|rg<|nw hS (fun j0 y0 i0 h=>?_);refine rr 1 ?_;refine rn<|sq<|rg<|rr 1 ?_;refine lN (At.sub ((h.bring 0 rfl).box) 0 8) ?_;refine rr 1 ?_;obtain⟨r0,M,hm⟩:=bS hm;refine ca zoS (laws_szCluster_ok (hE.trans h.ext) (zgT x0.Qa h3 h6 Z a0 b0) M) (fun u0 A0 q=>?_);obtain⟨rfl,y⟩:=q;have d:=h.join y;refine rr 1 ?_;refine rn<|sq<|sq<|rg<|rr 2 ?_;refine rn<|ci hm (fun hm=>?_) (fun hm=>?_)
 ·refine sq<|rg<|rr 1 ?_;refine rn<|rt ?_;cases hm;exact⟨_,.cons (.tmp rfl) .nil,rfl,(d.taken 0)⟩
 ·refine sp<|sq<|rg<|rr 1 ?_;refine l1 ((d.bring 0 rfl).box) 11 ?_;refine rr 1 ?_;obtain⟨t0,O,hm⟩:=bS hm;refine ca zon (laws_szBoolS_ok (hE.trans d.ext) d0 O) (fun v0 B0 G=>?_);obtain⟨rfl,H⟩:=G;have o:=d.join H;refine rr 1 ?_;refine rn<|sq<|sq<|rg<|rr 2 ?_;refine rn<|ci hm (fun hm=>?_) (fun hm=>?_)
  ·refine sq<|rg<|rr 1 ?_;refine rn<|rt ?_;cases hm;exact⟨_,.cons (.tmp rfl) .nil,rfl,(o.taken 0)⟩
  ·refine sp<|sq<|rg<|rr 2 ?_;refine rn<|rt ?_;cases hm;exact⟨_,.cons (.tmp rfl) .nil,rfl,(o.taken 0)⟩

theorem zok:Enters Tryz.prog 89:=⟨_,_,Tryz.func89,rfl,by kernel_rfl⟩
def zbe (fuel:Nat) (d:(List Bool)):Option (List Bool):=some d
def z7X (fuel:Nat) (x0:(List Bool)) (d:Int × (List Bool)):Option (Rd (Int × (List Bool)) ((List Bool)) ((List Bool))):=(if(decide (d.1<(x0.length:Int)))=true then((idx x0 d.1).bind fun h=>(if decide (0≤d.1∧d.1.toNat<d.2.length)=true then some (.next (w64 (d.1+1),(d.2.set d.1.toNat h))) else none)) else some (.brk d.2))
def z8c (fuel:Nat) (x0:(List Bool)):Option ((List Bool)):=(if decide (0≤(x0.length:Int)∧(x0.length:Int)≤4294967296)=true then((iter (z7X fuel x0) fuel (0,(List.replicate (x0.length:Int).toNat false))).bind fun o=>aft o (zbe fuel)) else none)

theorem laws_toBoolS_ok {W w:World}(hE:Ext W w){G:Option Addr}{f0:Nat}{x0:(List Bool)}(p0:ty56.ro W [sl G x0 f0] x0){fuel:Nat}{r:(List Bool)}(hm:z8c fuel x0=some r):
  Calls Tryz.prog 89 ⟨[sl G x0 f0]⟩ w (Ret fun v w8=>∃ A0 k0,v=sl A0 r k0∧St w w8 [ow ty56 A0 r k0]):=by
 refine into Tryz.func89 22 _ ?_;unfold z8c at hm;have hS:=St.start w;refine sq<|rg<|rr 1 ?_;refine rn<|sq<|rg<|rr 2 ?_;obtain⟨r0,hm⟩:=iS hm;have hz7:=of_decide_eq_true r0;refine mS (U:=tBool) false hS hz7 (fun _=>⟨rfl,rfl⟩) (fun A2 k3 w4 e5 q0=>?_);refine rr 1 ?_;refine rn<|sq<|sq<|rg<|rr 1 ?_;refine rn ?_;obtain⟨t0,Z,hm⟩:=bS hm;refine ct (fun(i0:(List Bool)) F w9=>t0=.inl i0∧St w w9 [Own ty56 [sl A2 (List.replicate (x0.length:Int).toNat false) k3] i0]∧F=[(3,sl A2 (List.replicate (x0.length:Int).toNat false) k3)]) ?_ ?_
 ·rintro i0 F y0 ⟨a0,q,rfl⟩;subst a0;rw [z8] at hm;unfold zbe at hm;refine sq<|rg<|rr 2 ?_;refine rn<|rt ?_;cases hm;have hn18:=(q.bring 0 rfl).lenEq;have H:=(q.bring 0 rfl).reLen hn18;exact⟨_,.cons (.tmp rfl) .nil,A2,k3,(by first | (simp only [sl,hn18];done) | (simp only [sl,hn18];rfl)),H⟩
 ·refine bk<|wk [0,3,4] ?_;refine it (fun(g0:Int × (List Bool)) F w9=>St w w9 [Own ty56 [sl A2 (List.replicate (x0.length:Int).toNat false) k3] g0.2]∧F=[(0,sl G x0 f0),(3,sl A2 (List.replicate (x0.length:Int).toNat false) k3),(4,.int .i64 g0.1)]) Z ⟨q0,rfl⟩ ?_;rintro g0 F B0 _ u0 ⟨h,rfl⟩ d b0;unfold z7X at d;refine sq<|sq<|rg<|rr 4 ?_;refine rn<|ci d (fun d=>?_) (fun d=>?_)
  ·refine sp<|sq<|bk<|rg<|rr 4 ?_;obtain⟨j0,e0,d⟩:=bS d;refine ix (hE.trans h.ext) p0 e0 (fun v0 o0 X d0=>?_);cases d0;refine l1 (At.ext (hE.trans h.ext) X) 0 ?_;have y:=h.bring 0 rfl;obtain⟨Y,d⟩:=iS d;have o:=of_decide_eq_true Y;refine io y o.1 o.2 (fun q34 hq35=>?_);have M:=y.flat (T:=tBool) (cs:=[.bool j0]) (x:=j0) ⟨rfl,rfl⟩;have O:=M.bring 1 rfl;refine se O o.2 hq35 (fun C0 S=>?_);refine rn<|rg<|rr 3 ?_;refine rn ?_;cases d;exact⟨_,_,rfl,⟨S,rfl⟩,rfl⟩
  ·refine xt ?_;cases d;exact⟨_,_,⟨b0,h,rfl⟩,rfl⟩

theorem zed:Enters Tryz.prog 37:=⟨_,_,Tryz.func37,rfl,by kernel_rfl⟩
def z27 (fuel:Nat) (x0:D.Qq):Option (D.Qq):=((z6X fuel x0.Qa).bind fun d=>((z8c fuel x0.Qs).bind fun h=>some (⟨(⟨(⟨d.Qe.Qg,(⟨d.Qe.Qo.Qb,d.Qe.Qo.Qj,d.Qe.Qo.Qk⟩:D.Qc)⟩:D.Qe),d.Qf,d.Qt,d.QK,d.QZ⟩:D.Qa),x0.QB,x0.QL,x0.Qa1,h,x0.QG,x0.Qx⟩:D.Qq)))

theorem laws_toDetector_ok {W w:World}(hE:Ext W w){v0:List Value}{x0:D.Qq}(H0:ty58.ro W v0 x0){fuel:Nat}{r:D.Qq}(hm:z27 fuel x0=some r):
  Calls Tryz.prog 37 ⟨[.agg ⟨v0⟩]⟩ w (Ret fun v w8=>∃ A0 k0 A1 k1 A2 k2 A3 k3 A4 k4 A5 k5,v=.agg ⟨[sl A0 r.Qa.Qe.Qg k0,.int .i64 r.Qa.Qe.Qo.Qb,.int .i64 r.Qa.Qe.Qo.Qj,.int .i64 r.Qa.Qe.Qo.Qk,sl A1 r.Qa.Qf k1,sl A2 r.Qa.Qt k2,sl A3 r.Qa.QK k3,sl A4 r.Qa.QZ k4,.int .i64 r.QB,.int .i64 r.QL,.bool r.Qa1,sl A5 r.Qs k5,.int .i64 r.QG,.bool r.Qx]⟩∧St w w8 [ow ty34 A0 r.Qa.Qe.Qg k0,ow ty38 A1 r.Qa.Qf k1,ow ty28 A2 r.Qa.Qt k2,ow ty29 A3 r.Qa.QK k3,ow ty29 A4 r.Qa.QZ k4,ow ty56 A5 r.Qs k5]):=by
 obtain⟨A1,k2,A4,k5,A7,f1,T0,g1,U0,i1,V0,j1,G0,h3,h6,J0,K0,L0,M0⟩:=zeh H0;subst G0;refine into Tryz.func37 28 _ ?_;unfold z27 at hm;have hS:=St.start w;refine sq<|rg<|nw hS (fun b1 t1 X0 a0=>?_);refine nw a0 (fun d1 u1 Y0 b0=>?_);refine rn<|sq<|rg<|nw b0 (fun e1 v1 a1 d=>?_);refine rn<|sq<|rg<|rr 1 ?_;refine lN (At.sub ((d.bring 2 rfl).box) 0 8) ?_;obtain⟨m1,t0,hm⟩:=bS hm;refine ca zoR (laws_toCluster_ok (hE.trans d.ext) (zgT x0.Qa h3 h6 J0 K0 L0) t0) (fun p1 y1 S=>?_);obtain⟨y0,N0,B0,O0,C0,P0,D0,Q0,E0,R0,rfl,X⟩:=S;have d0:=d.join X;refine rr 1 ?_;have e0:=d0.bring 5 rfl;refine so (A:=[]) e0 0 (fun B1 o=>?_);refine rn<|sq<|rg<|rr 1 ?_;refine l1 ((o.bring 7 rfl).box) 8 ?_;refine rr 1 ?_;have f0:=o.bring 0 rfl;refine so (A:=[]) f0 8 (fun C1 q=>?_);refine rn<|sq<|rg<|rr 1 ?_;refine l1 ((q.bring 7 rfl).box) 9 ?_;refine rr 1 ?_;have g0:=q.bring 0 rfl;refine so (A:=[]) g0 9 (fun D1 y=>?_);refine rn<|sq<|rg<|rr 1 ?_;refine l1 ((y.bring 7 rfl).box) 10 ?_;refine rr 1 ?_;have i0:=y.bring 0 rfl;refine so (A:=[]) i0 10 (fun E1 h=>?_);refine rn<|sq<|rg<|rr 1 ?_;refine l1 ((h.bring 7 rfl).box) 11 ?_;obtain⟨n1,u0,hm⟩:=bS hm;refine ca zok (laws_toBoolS_ok (hE.trans h.ext) M0 u0) (fun s1 F1 Y=>?_);obtain⟨F0,S0,rfl,Z⟩:=Y;have j0:=h.join Z;refine rr 1 ?_;have o0:=j0.bring 1 rfl;refine so (A:=[]) o0 11 (fun G1 G=>?_);refine rn<|sq<|rg<|rr 1 ?_;refine l1 ((G.bring 8 rfl).box) 12 ?_;refine rr 1 ?_;have p0:=G.bring 0 rfl;refine so (A:=[]) p0 12 (fun H1 H=>?_);refine rn<|sq<|rg<|rr 1 ?_;refine l1 ((H.bring 8 rfl).box) 13 ?_;refine rr 1 ?_;have q0:=H.bring 0 rfl;refine so (A:=[]) q0 13 (fun J1 M=>?_);refine rn<|sq<|rg<|lN ((M.bring 0 rfl).box) ?_;have r0:=M.bring 7 rfl;refine so (A:=[]) r0 0 (fun K1 O=>?_);refine rn<|rt ?_;cases hm;exact⟨_,.cons (ra ((O.bring 0 rfl).box)) .nil,y0,N0,B0,O0,C0,P0,D0,Q0,E0,R0,F0,S0,rfl,(((((((O.bring 2 rfl).bring 7 rfl).bring 7 rfl).bring 7 rfl).bring 7 rfl).bring 7 rfl).taken 6)⟩

theorem zhM:Enters Tryz.prog 157:=⟨_,_,Tryz.func157,rfl,by kernel_rfl⟩
def z7b (fuel:Nat) (x0:D.Qa) (x1:Int):Option (Int):=((idx x0.QK x1).bind fun d=>((idx x0.QZ x1).bind fun h=>some (w64 (d - h))))

theorem zbM {W w:World}(hE:Ext W w){X:Addr}{O:List Value}{x0:D.Qa}{x1:Int}(b0:ty40.ro W O x0) (S:At W X O){fuel:Nat}{r:Int}(hm:z7b fuel x0 x1=some r):
  Calls Tryz.prog 157 ⟨[.pointer (some X),.int .i64 x1]⟩ w (Ret fun v w8=>v=.int .i64 r∧St w w8 []):=by
 obtain⟨A1,k2,A4,k5,A7,j0,f0,k0,g0,o0,Y,h3,h6,i0,d0,e0⟩:=z2E b0;subst Y;refine into Tryz.func157 20 _ ?_;unfold z7b at hm;have hS:=St.start w;refine sq<|rg<|rr 1 ?_;refine rn<|sq<|dn 0 mixed 16 [([],65535),([0],65534),([1],65533),([2],65531),([],65535),([3,4],65511),([5],65503),([],65535),([7],65407),([8],65279),([9],65023),([],65535),([10,11],62463),([12],61439),([6,13],57279),([14,0,1,2,3,4,5,6,7,8,9,10,11,12,13,14],49151)] hS.ext (fun d=>?_);have h:=hS.step (Ext.draw _);refine dr 8 d [0,1,2,4,7,8,9,11] ?_;refine dw [4,7,9,14,16] ?_;refine dl d 3 (At.ext (hE.trans hS.ext) S) 6 ?_;obtain⟨r0,H,hm⟩:=bS hm;refine dx (hE.trans hS.ext) d 5 d0 H (fun p0 Z o y=>?_);cases y;refine dl d 6 (At.ext (hE.trans hS.ext) o) 0 ?_;refine dl d 10 (At.ext (hE.trans hS.ext) S) 7 ?_;obtain⟨t0,M,hm⟩:=bS hm;refine dx (hE.trans hS.ext) d 12 e0 M (fun q0 a0 q G=>?_);cases G;refine dl d 13 (At.ext (hE.trans hS.ext) q) 0 ?_;refine dr 0 d [14,15] ?_;refine dw [4] ?_;refine dd d ?_;refine rt ?_;cases hm;exact⟨_,.cons (.tmp rfl) .nil,rfl,h⟩

theorem zni:Enters Tryz.prog 104:=⟨_,_,Tryz.func104,rfl,by kernel_rfl⟩
def z8v (fuel:Nat) (x0:D.Qa) (h:Int) (o:Unit):Option Bool:=((z63 fuel x0).bind fun d=>some (h == d))
def z4j (fuel:Nat) (x0:D.Qa) (d:Int):Option (Rd (Int) (Unit) (Bool)):=(if(decide (d<(x0.Qf.length:Int)))=true then((idx x0.Qf d).bind fun o=>((z4d fuel o).bind fun h=>(if(decide (h>0))=true then some (.ret false) else some (.next (w64 (d+1)))))) else some (.brk ()))
def z8w (fuel:Nat) (x0:D.Qa) (d:Int):Option Bool:=((iter (z4j fuel x0) fuel 0).bind fun o=>aft o (z8v fuel x0 d))
def z2P (fuel:Nat) (x0:D.Qa) (d:Int × Int):Option (Rd (Int × Int) (Int) (Bool)):=(if(decide (d.2<(x0.QK.length:Int)))=true then((z7b fuel x0 d.2).bind fun h=>some (.next (w64 (d.1+h),w64 (d.2+1)))) else some (.brk d.1))
def z6P (fuel:Nat) (x0:D.Qa):Option (Bool):=((iter (z2P fuel x0) fuel (0,0)).bind fun o=>aft o (z8w fuel x0))

theorem zdo {W w:World}(hE:Ext W w){y:Addr}{E0:List Value}{x0:D.Qa}(d0:ty40.ro W E0 x0) (G:At W y E0){fuel:Nat}{r:Bool}(hm:z6P fuel x0=some r):
  Calls Tryz.prog 104 ⟨[.pointer (some y)]⟩ w (Ret fun v w8=>v=.bool r∧St w w8 []):=by
 obtain⟨A1,k2,A4,k5,A7,X0,Q0,Y0,R0,a1,J0,h3,h6,T0,U0,V0⟩:=z2E d0;subst J0;refine into Tryz.func104 42 _ ?_;unfold z6P at hm;have hS:=St.start w;refine sq<|rg<|rr 1 ?_;refine rn<|sq<|rg<|rr 1 ?_;refine rn<|sq<|sq<|rg<|rr 1 ?_;refine rn ?_;obtain⟨O0,q0,hm⟩:=bS hm;refine ct (fun(b0:Int) F w9=>O0=.inl b0∧Ext w w9∧St w w9 []∧F=[(0,.pointer (some y)),(3,.int .i64 b0)]) ?_ ?_
 ·rintro b0 F H0 ⟨t0,M0,j0,rfl⟩;subst t0;rw [z8] at hm;unfold z8w at hm;refine sq<|sq<|rg<|rr 1 ?_;refine rn ?_;obtain⟨P0,r0,hm⟩:=bS hm;refine ct (fun(G0:Unit) F w9=>P0=.inl G0∧Ext H0 w9∧St w w9 []∧F=[(0,.pointer (some y)),(3,.int .i64 b0)]) ?_ ?_
  ·rintro G0 F s1 ⟨u0,N0,X,rfl⟩;subst u0;rw [z8] at hm;unfold z8v at hm;refine sq<|rg<|rr 2 ?_;obtain⟨g1,y0,hm⟩:=bS hm;refine ca zos (zcR (hE.trans X.ext) d0 G y0) (fun m1 t1 e0=>?_);obtain⟨rfl,f0⟩:=e0;have k0:=X.join f0;refine rr 2 ?_;refine rn<|rt ?_;cases hm;exact⟨_,.cons (.tmp rfl) .nil,rfl,k0⟩
  ·refine bk<|wk [0,3,5] ?_;refine it (fun(F0:Int) F w9=>Ext H0 w9∧St w w9 []∧F=[(0,.pointer (some y)),(3,.int .i64 b0),(5,.int .i64 F0)]) r0 ⟨(Ext.refl _),j0,rfl⟩ ?_;rintro F0 F u1 _ d1 ⟨M,o,rfl⟩ d Z;unfold z4j at d;refine sq<|sq<|rg<|rr 4 ?_;refine l1 (At.ext (hE.trans o.ext) G) 4 ?_;refine rr 2 ?_;refine rn<|ci d (fun d=>?_) (fun d=>?_)
   ·refine sp<|sq<|bk<|sq<|rg<|rr 3 ?_;refine l1 (At.ext (hE.trans o.ext) G) 4 ?_;refine rr 1 ?_;obtain⟨C1,A0,d⟩:=bS d;refine ix (hE.trans o.ext) h6 A0 (fun f1 L0 p0 a0=>?_);obtain⟨S0,b1,K0⟩:=z1i a0;subst K0;refine l1 (At.ext (hE.trans o.ext) p0) 0 ?_;obtain⟨i1,B0,d⟩:=bS d;refine ca zhP (zaL (hE.trans o.ext) a0 B0) (fun n1 v1 g0=>?_);obtain⟨rfl,O⟩:=g0;have Y:=o.join O;refine rr 1 ?_;refine rn<|ci d (fun d=>?_) (fun d=>?_)
    ·refine sq<|rg<|rr 1 ?_;refine rn<|rt ?_;cases d;cases Z;have hm:some _=some _:=hm;cases hm;exact⟨_,.cons (.tmp rfl) .nil,rfl,Y⟩
    ·refine sp<|rg<|rr 3 ?_;refine rn ?_;cases d;exact⟨_,_,rfl,⟨(M.trans O.ext),Y,rfl⟩,rfl⟩
   ·refine xt ?_;cases d;exact⟨_,_,⟨Z,M,o,rfl⟩,rfl⟩
 ·refine bk<|wk [0,3,4] ?_;refine it (fun(D0:Int × Int) F w9=>Ext w w9∧St w w9 []∧F=[(0,.pointer (some y)),(3,.int .i64 D0.1),(4,.int .i64 D0.2)]) q0 ⟨(Ext.refl _),hS,rfl⟩ ?_;rintro D0 F y1 _ e1 ⟨H,q,rfl⟩ h v0;unfold z2P at h;refine sq<|sq<|rg<|rr 4 ?_;refine l1 (At.ext (hE.trans q.ext) G) 6 ?_;refine rr 2 ?_;refine rn<|ci h (fun h=>?_) (fun h=>?_)
  ·refine sp<|sq<|bk<|rg<|rr 3 ?_;obtain⟨j1,C0,h⟩:=bS h;refine ca zhM (zbM (hE.trans q.ext) d0 G C0) (fun p1 B1 i0=>?_);obtain⟨rfl,S⟩:=i0;have o0:=q.join S;refine rr 2 ?_;refine rn<|rg<|rr 3 ?_;refine rn ?_;cases h;exact⟨_,_,rfl,⟨(H.trans S.ext),o0,rfl⟩,rfl⟩
  ·refine xt ?_;cases h;exact⟨_,_,⟨v0,H,q,rfl⟩,rfl⟩

theorem zom:Enters Tryz.prog 88:=⟨_,_,Tryz.func88,rfl,by kernel_rfl⟩
def z7v (fuel:Nat) (x0:D.Qq) (q:Bool):Option Bool:=(if q=true then some false else((zw fuel x0.QB 0 (w64 ((x0.Qa.QK.length:Int) - 1))).bind fun d=>(if d=true then((zw fuel x0.QL (-4000000000) 4000000000).bind fun h=>(if h=true then(if((x0.Qs.length:Int) == (x0.Qa.QK.length:Int))=true then((zw fuel x0.QG 0 1000000000).bind fun o=>some o) else some false) else some false)) else some false)))
def z9C (fuel:Nat) (x0:D.Qq):Option (Bool):=((z9E fuel (⟨(⟨x0.Qa.Qe.Qg,(⟨x0.Qa.Qe.Qo.Qb,x0.Qa.Qe.Qo.Qj,x0.Qa.Qe.Qo.Qk⟩:D.Qc)⟩:D.Qe),x0.Qa.Qf,x0.Qa.Qt,x0.Qa.QK,x0.Qa.QZ⟩:D.Qa)).bind fun d=>(if(!d)=true then z7v fuel x0 true else((z6P fuel (⟨(⟨x0.Qa.Qe.Qg,(⟨x0.Qa.Qe.Qo.Qb,x0.Qa.Qe.Qo.Qj,x0.Qa.Qe.Qo.Qk⟩:D.Qc)⟩:D.Qe),x0.Qa.Qf,x0.Qa.Qt,x0.Qa.QK,x0.Qa.QZ⟩:D.Qa)).bind fun h=>z7v fuel x0 (!h))))

theorem zgk {W w:World}(hE:Ext W w){o0:Addr}{q0:List Value}{x0:D.Qq}(y0:ty62.ro W q0 x0) (q:At W o0 q0){fuel:Nat}{r:Bool}(hm:z9C fuel x0=some r):
  Calls Tryz.prog 88 ⟨[.pointer (some o0)]⟩ w (Ret fun v w8=>v=.bool r∧St w w8 []):=by
 obtain⟨A1,k2,A4,k5,A7,G0,C0,H0,D0,J0,E0,K0,v0,h3,h6,r0,t0,u0,F0⟩:=z6N y0;subst v0;refine into Tryz.func88 52 _ ?_;unfold z9C at hm;have hS:=St.start w;refine sq<|rg<|rr 1 ?_;refine rn<|sq<|sq<|ct (fun(p0:Bool) F w9=>z7v fuel x0 p0=some r∧Ext w w9∧St w w9 []∧F=[(0,.pointer (some o0)),(15,.bool p0)]) ?_ ?_
 ·rintro p0 F U0 ⟨hm,A0,h,rfl⟩;unfold z7v at hm;refine ci hm (fun hm=>?_) (fun hm=>?_)
  ·refine sq<|rg<|rr 1 ?_;refine rn<|rt ?_;cases hm;exact⟨_,.cons (.tmp rfl) .nil,rfl,h⟩
  ·refine sp<|sq<|rg<|rr 4 ?_;refine l1 (At.ext (hE.trans h.ext) q) 6 ?_;refine rr 2 ?_;refine rn<|sq<|rg<|rr 3 ?_;refine l1 (At.ext (hE.trans h.ext) q) 8 ?_;refine rr 2 ?_;obtain⟨L0,f0,hm⟩:=bS hm;refine ca z2e (zJ (hE.trans h.ext)  f0) (fun P0 V0 M=>?_);obtain⟨rfl,O⟩:=M;have o:=h.join O;refine rr 1 ?_;refine rb 29 hm (fun hm=>?_) (fun hm=>?_)
   ·refine rr 3 ?_;refine l1 (At.ext (hE.trans o.ext) q) 9 ?_;obtain⟨M0,g0,hm⟩:=bS hm;refine ca z2e (zJ (hE.trans o.ext)  g0) (fun Q0 X0 S=>?_);obtain⟨rfl,X⟩:=S;have d:=o.join X;refine rr 2 ?_;refine rb 36 hm (fun hm=>?_) (fun hm=>?_)
    ·refine rr 3 ?_;refine l1 (At.ext (hE.trans d.ext) q) 11 ?_;refine rr 5 ?_;refine rb 45 hm (fun hm=>?_) (fun hm=>?_)
     ·refine rr 3 ?_;refine l1 (At.ext (hE.trans d.ext) q) 12 ?_;obtain⟨N0,i0,hm⟩:=bS hm;refine ca z2e (zJ (hE.trans d.ext)  i0) (fun R0 Y0 Y=>?_);obtain⟨rfl,Z⟩:=Y;have d0:=d.join Z;refine rr 2 ?_;refine rn<|rt ?_;cases hm;exact⟨_,.cons (.tmp rfl) .nil,rfl,d0⟩
     ·refine rr 7 ?_;refine rn<|rt ?_;cases hm;exact⟨_,.cons (.tmp rfl) .nil,rfl,d⟩
    ·refine rr 16 ?_;refine rn<|rt ?_;cases hm;exact⟨_,.cons (.tmp rfl) .nil,rfl,d⟩
   ·refine rr 23 ?_;refine rn<|rt ?_;cases hm;exact⟨_,.cons (.tmp rfl) .nil,rfl,o⟩
 ·refine rg<|rr 3 ?_;obtain⟨O0,j0,hm⟩:=bS hm;refine ca zoF (zgm (hE.trans hS.ext) (z5Z (⟨(⟨x0.Qa.Qe.Qg,(⟨x0.Qa.Qe.Qo.Qb,x0.Qa.Qe.Qo.Qj,x0.Qa.Qe.Qo.Qk⟩:D.Qc)⟩:D.Qe),x0.Qa.Qf,x0.Qa.Qt,x0.Qa.QK,x0.Qa.QZ⟩:D.Qa) h3 h6 r0 t0 u0) (At.sub q 0 8) j0) (fun S0 a1 a0=>?_);obtain⟨rfl,y⟩:=a0;have G:=hS.join y;refine rr 2 ?_;refine rb 9 hm (fun hm=>?_) (fun hm=>?_)
  ·refine rr 6 ?_;refine rn ?_;exact⟨true,_,⟨hm,y.ext,G,rfl⟩,rfl⟩
  ·refine rr 3 ?_;obtain⟨B0,k0,hm⟩:=bS hm;refine ca zni (zdo (hE.trans G.ext) (z5Z (⟨(⟨x0.Qa.Qe.Qg,(⟨x0.Qa.Qe.Qo.Qb,x0.Qa.Qe.Qo.Qj,x0.Qa.Qe.Qo.Qk⟩:D.Qc)⟩:D.Qe),x0.Qa.Qf,x0.Qa.Qt,x0.Qa.QK,x0.Qa.QZ⟩:D.Qa) h3 h6 r0 t0 u0) (At.sub q 0 8) k0) (fun T0 b1 b0=>?_);obtain⟨rfl,H⟩:=b0;have e0:=G.join H;refine rr 2 ?_;refine rn ?_;exact⟨!B0,_,⟨hm,(y.ext.trans H.ext),e0,rfl⟩,rfl⟩

theorem zkN:Enters Tryz.prog 241:=⟨_,_,Tryz.func241,rfl,by kernel_rfl⟩
def zW (fuel:Nat) (t2:Unit):Option Int:=some (-1)
def zf (fuel:Nat) (x0:(List (List D.Qi))) (x1:(List D.Qi)→Option Bool) (s1:Int):Option (Rd (Int) (Unit) (Int)):=(if(decide (s1<(x0.length:Int)))=true then((idx x0 s1).bind fun h=>((x1 h).bind fun d=>(if d=true then some (.ret s1) else some (.next (w64 (s1+1)))))) else some (.brk ()))
def zA (fuel:Nat) (x0:(List (List D.Qi))) (x1:(List D.Qi)→Option Bool):Option (Int):=((iter (zf fuel x0 x1) fuel 0).bind fun o=>aft o (zW fuel))

theorem z55 {W w:World}(hE:Ext W w){H:Option Addr}{b0:Nat}{x0:(List (List D.Qi))}{f1_:Nat}{u1_:List Value}{x1:(List D.Qi)→Option Bool}(i0:ty38.ro W [sl H x0 b0] x0) (d0:Enters Tryz.prog f1_∧∀ {w9:World},Ext W w9→∀ {Az0:Option Addr}{kz0:Nat}{z0:(List D.Qi)}{y9:Bool},z62.ro w9 [sl Az0 z0 kz0] z0→x1 z0=some y9→Calls Tryz.prog f1_ ⟨[sl Az0 z0 kz0]++u1_⟩ w9 (Ret fun v w8=>v=.bool y9∧St w9 w8 [])){fuel:Nat}{r:Int}(hm:zA fuel x0 x1=some r):
  Calls Tryz.prog 241 ⟨[sl H x0 b0,.func (.func f1_) #[] ⟨u1_⟩]⟩ w (Ret fun v w8=>v=.int .i64 r∧St w w8 []):=by
 refine into Tryz.func241 19 _ ?_;unfold zA at hm;have hS:=St.start w;refine sq<|rg<|rr 1 ?_;refine rn<|sq<|sq<|rg<|rr 3 ?_;refine rn ?_;obtain⟨j0,X,hm⟩:=bS hm;refine ct (fun(t2:Unit) F w9=>j0=.inl t2∧Ext w w9∧St w w9 []∧F=[]) ?_ ?_
 ·rintro t2 F w7 ⟨Y,o0,O,rfl⟩;subst Y;rw [z8] at hm;unfold zW at hm;refine sq<|rg<|rr 1 ?_;refine rn<|rt ?_;cases hm;exact⟨_,.cons (.tmp rfl) .nil,rfl,O⟩
 ·refine bk<|wk [0,1,7,8] ?_;refine it (fun(s1:Int) F w9=>Ext w w9∧St w w9 []∧F=[(0,sl H x0 b0),(1,.func (.func f1_) #[] ⟨u1_⟩),(7,.int .i64 (x0.length:Int)),(8,.int .i64 s1)]) X ⟨(Ext.refl _),hS,rfl⟩ ?_;rintro s1 F v0 _ q0 ⟨e0,h,rfl⟩ d y;unfold zf at d;refine sq<|rg<|rr 1 ?_;refine rn<|sq<|ci d (fun d=>?_) (fun d=>?_)
  ·refine sp<|sq<|bk<|sq<|rg<|rr 2 ?_;refine rn<|sq<|rg<|rr 3 ?_;obtain⟨A0,Z,d⟩:=bS d;refine ix (hE.trans h.ext) i0 Z (fun r0 g0 S G=>?_);obtain⟨k0,p0,f0⟩:=z1i G;subst f0;refine l1 (At.ext (hE.trans h.ext) S) 0 ?_;obtain⟨t0,a0,d⟩:=bS d;refine ca d0.1 (d0.2 (hE.trans h.ext) (z62.ext (hE.trans h.ext) G) a0) (fun u0 y0 M=>?_);obtain⟨rfl,o⟩:=M;have q:=h.join o;refine rn<|ci d (fun d=>?_) (fun d=>?_)
   ·refine sq<|rg<|rr 2 ?_;refine rn<|rt ?_;cases d;cases y;have hm:some _=some _:=hm;cases hm;exact⟨_,.cons (.tmp rfl) .nil,rfl,q⟩
   ·refine sp<|rg<|rr 2 ?_;refine rn ?_;cases d;exact⟨_,_,rfl,⟨(e0.trans o.ext),q,rfl⟩,rfl⟩
  ·refine xt ?_;cases d;exact⟨_,_,⟨y,e0,h,rfl⟩,rfl⟩

theorem zme:Enters Tryz.prog 203:=⟨_,_,Tryz.func203,rfl,by kernel_rfl⟩
def zg (fuel:Nat) (x0:(List (List D.Qi))) (x1:(List D.Qi)→Option Bool):Option (Bool):=((zA fuel x0 x1).bind fun r1=>some (decide (r1≥0)))

theorem z4i {W w:World}(hE:Ext W w){d:Option Addr}{h:Nat}{x0:(List (List D.Qi))}{f1_:Nat}{u1_:List Value}{x1:(List D.Qi)→Option Bool}(o:ty38.ro W [sl d x0 h] x0) (q:Enters Tryz.prog f1_∧∀ {w9:World},Ext W w9→∀ {Az0:Option Addr}{kz0:Nat}{z0:(List D.Qi)}{y9:Bool},z62.ro w9 [sl Az0 z0 kz0] z0→x1 z0=some y9→Calls Tryz.prog f1_ ⟨[sl Az0 z0 kz0]++u1_⟩ w9 (Ret fun v w8=>v=.bool y9∧St w9 w8 [])){fuel:Nat}{r:Bool}(hm:zg fuel x0 x1=some r):
  Calls Tryz.prog 203 ⟨[sl d x0 h,.func (.func f1_) #[] ⟨u1_⟩]⟩ w (Ret fun v w8=>v=.bool r∧St w w8 []):=by
 refine into Tryz.func203 9 _ ?_;unfold zg at hm;have hS:=St.start w;refine sq<|rg<|rr 1 ?_;refine rn<|sq<|rg<|rr 2 ?_;obtain⟨r1,M,hm⟩:=bS hm;refine ca zkN (z55 (hE.trans hS.ext) o q M) (fun v3 w4 y=>?_);obtain⟨rfl,G⟩:=y;have H:=hS.join G;refine rr 2 ?_;refine rn<|rt ?_;cases hm;exact⟨_,.cons (.tmp rfl) .nil,rfl,H⟩

theorem zmd:Enters Tryz.prog 204:=⟨_,_,Tryz.func204,rfl,by kernel_rfl⟩
def z2f (fuel:Nat) (x0:(List D.Qi)):Option (Bool):=((z7c fuel x0).bind fun r1=>some (decide (r1>0)))

theorem z9V {W w:World}(hE:Ext W w){d:Option Addr}{h:Nat}{x0:(List D.Qi)}(o:z62.ro W [sl d x0 h] x0){fuel:Nat}{r:Bool}(hm:z2f fuel x0=some r):
  Calls Tryz.prog 204 ⟨[sl d x0 h]⟩ w (Ret fun v w8=>v=.bool r∧St w w8 []):=by
 refine into Tryz.func204 6 _ ?_;unfold z2f at hm;have hS:=St.start w;refine sq<|rg<|rr 1 ?_;refine rn<|sq<|rg<|rr 1 ?_;obtain⟨r1,H,hm⟩:=bS hm;refine ca zhO (zc5 (hE.trans hS.ext) o H) (fun v3 w4 q=>?_);obtain⟨rfl,y⟩:=q;have G:=hS.join y;refine rr 2 ?_;refine rn<|rt ?_;cases hm;exact⟨_,.cons (.tmp rfl) .nil,rfl,G⟩

theorem zmM:Enters Tryz.prog 150:=⟨_,_,Tryz.func150,rfl,by kernel_rfl⟩
def z31 (fuel:Nat) (x0:D.Qa):Option (Bool):=((zg fuel x0.Qf (fun y0=>z2f fuel y0)).bind fun d=>some d)

theorem zaJ {W w:World}(hE:Ext W w){H:Addr}{G:List Value}{x0:D.Qa}(S:ty40.ro W G x0) (O:At W H G){fuel:Nat}{r:Bool}(hm:z31 fuel x0=some r):
  Calls Tryz.prog 150 ⟨[.pointer (some H)]⟩ w (Ret fun v w8=>v=.bool r∧St w w8 []):=by
 obtain⟨A1,k2,A4,k5,A7,e0,Y,f0,Z,g0,M,h3,h6,a0,b0,d0⟩:=z2E S;subst M;refine into Tryz.func150 8 _ ?_;unfold z31 at hm;have hS:=St.start w;refine sq<|rg<|rr 1 ?_;refine rn<|sq<|rg<|rr 3 ?_;refine l1 (At.ext (hE.trans hS.ext) O) 4 ?_;obtain⟨i0,y,hm⟩:=bS hm;refine ca zme (z4i (hE.trans hS.ext) h6 ⟨zmd,fun e9=>(fun d X=>z9V (Ext.refl _) d X)⟩ y) (fun j0 k0 h=>?_);obtain⟨rfl,o⟩:=h;have q:=hS.join o;refine rr 1 ?_;refine rn<|rt ?_;cases hm;exact⟨_,.cons (.tmp rfl) .nil,rfl,q⟩

theorem zhN:Enters Tryz.prog 151:=⟨_,_,Tryz.func151,rfl,by kernel_rfl⟩
def zd2 (fuel:Nat) (t2:Int):Option Int:=some t2
def z97 (fuel:Nat) (x0:(List Int)) (s1:Int × Int):Option (Rd (Int × Int) (Int) (Int)):=(if(decide (s1.2<(x0.length:Int)))=true then((idx x0 s1.2).bind fun d=>some (.next (w64 (s1.1+d),w64 (s1.2+1)))) else some (.brk s1.1))
def zah (fuel:Nat) (x0:(List Int)):Option (Int):=((iter (z97 fuel x0) fuel (0,0)).bind fun o=>aft o (zd2 fuel))

theorem zeU {W w:World}(hE:Ext W w){o:Option Addr}{X:Nat}{x0:(List Int)}(a0:ty29.ro W [sl o x0 X] x0){fuel:Nat}{r:Int}(hm:zah fuel x0=some r):
  Calls Tryz.prog 151 ⟨[sl o x0 X]⟩ w (Ret fun v w8=>v=.int .i64 r∧St w w8 []):=by
 refine into Tryz.func151 17 _ ?_;unfold zah at hm;have hS:=St.start w;refine sq<|rg<|rr 1 ?_;refine rn<|sq<|rg<|rr 1 ?_;refine rn<|sq<|sq<|rg<|rr 3 ?_;refine rn ?_;obtain⟨b0,G,hm⟩:=bS hm;refine ct (fun(t2:Int) F w9=>b0=.inl t2∧Ext w w9∧St w w9 []∧F=[(3,.int .i64 t2)]) ?_ ?_
 ·rintro t2 F w7 ⟨H,d0,q,rfl⟩;subst H;rw [z8] at hm;unfold zd2 at hm;refine sq<|rg<|rr 2 ?_;refine rn<|rt ?_;cases hm;exact⟨_,.cons (.tmp rfl) .nil,rfl,q⟩
 ·refine bk<|wk [3,6,7,8] ?_;refine it (fun(s1:Int × Int) F w9=>Ext w w9∧St w w9 []∧F=[(3,.int .i64 s1.1),(6,sl o x0 X),(7,.int .i64 (x0.length:Int)),(8,.int .i64 s1.2)]) G ⟨(Ext.refl _),hS,rfl⟩ ?_;rintro s1 F g0 _ e0 ⟨Y,h,rfl⟩ d M;unfold z97 at d;refine sq<|rg<|rr 1 ?_;refine rn<|sq<|ci d (fun d=>?_) (fun d=>?_)
  ·refine sp<|sq<|bk<|sq<|rg ?_;obtain⟨i0,S,d⟩:=bS d;refine ix (hE.trans h.ext) a0 S (fun f0 Z y O=>?_);cases O;refine l1 (At.ext (hE.trans h.ext) y) 0 ?_;refine rr 1 ?_;refine rn<|rg<|rr 4 ?_;refine rn<|rg<|rr 2 ?_;refine rn ?_;cases d;exact⟨_,_,rfl,⟨Y,h,rfl⟩,rfl⟩
  ·refine xt ?_;cases d;exact⟨_,_,⟨M,Y,h,rfl⟩,rfl⟩

theorem zoj:Enters Tryz.prog 90:=⟨_,_,Tryz.func90,rfl,by kernel_rfl⟩
def z2x (fuel:Nat) (x0:D.Qa):Option (Bool):=((z31 fuel x0).bind fun d=>(if(!d)=true then((zah fuel x0.QK).bind fun h=>((zah fuel x0.QZ).bind fun o=>((z2d fuel x0).bind fun q=>some ((w64 (h - o)) == q)))) else some false))

theorem zbj {W w:World}(hE:Ext W w){k0:Addr}{j0:List Value}{x0:D.Qa}(X:ty40.ro W j0 x0) (S:At W k0 j0){fuel:Nat}{r:Bool}(hm:z2x fuel x0=some r):
  Calls Tryz.prog 90 ⟨[.pointer (some k0)]⟩ w (Ret fun v w8=>v=.bool r∧St w w8 []):=by
 obtain⟨A1,k2,A4,k5,A7,v0,r0,y0,t0,A0,o0,h3,h6,u0,p0,q0⟩:=z2E X;subst o0;refine into Tryz.func90 22 _ ?_;unfold z2x at hm;have hS:=St.start w;refine sq<|rg<|rr 1 ?_;refine rn<|sq<|dn 0 mixed 20 [([],1048575),([0],1048574),([1],1048573),([2,1],1048571),([3],1048567),([4,3],1048551),([5,3],1048535),([6,3],1048503),([7,3,3],1048439),([3],1048567),([9,3],1048055),([10,3],1047543),([11,3],1046519),([12,8,3],1044471),([8,13,3],1040119),([3],1048567),([15,13,3],1015799),([14,16,3],966647),([3,17],917495),([18,16,0,1,2,3,4,5,6,7,8,9,10,11,12,13,14,15,16,17,18],786431)] hS.ext (fun d=>?_);have H:=hS.step (Ext.draw _);refine dr 19 d [0] ?_;obtain⟨B0,e0,hm⟩:=bS hm;refine o1 d 1 (mc d zmM (zaJ (hE.trans H.ext) X S e0) (fun F0 K0 Y=>?_));obtain⟨rfl,o⟩:=Y;refine⟨o.ext,?_⟩;have h:=H.join o;refine dr 16 d [2,3] ?_;refine db 6 hm (fun hm=>?_) (fun hm=>?_)
 ·refine dr 9 d [4,5,6,9,10,11,15] ?_;refine dw [2,6,9,14,18] ?_;refine dl d 7 (At.ext (hE.trans hS.ext) S) 6 ?_;refine dl d 12 (At.ext (hE.trans hS.ext) S) 7 ?_;obtain⟨C0,f0,hm⟩:=bS hm;refine o1 d 8 (mc d zhN (zeU (hE.trans h.ext) p0 f0) (fun G0 L0 Z=>?_));obtain⟨rfl,q⟩:=Z;refine⟨q.ext,?_⟩;have M:=h.join q;obtain⟨D0,g0,hm⟩:=bS hm;refine o1 d 13 (mc d zhN (zeU (hE.trans M.ext) q0 g0) (fun H0 M0 a0=>?_));obtain⟨rfl,y⟩:=a0;refine⟨y.ext,?_⟩;have O:=M.join y;refine dr 4 d [14] ?_;refine dw [2,6,17,18] ?_;obtain⟨E0,i0,hm⟩:=bS hm;refine o1 d 16 (mc d zor (zb1 (hE.trans O.ext) X S i0) (fun J0 N0 b0=>?_));obtain⟨rfl,G⟩:=b0;refine⟨G.ext,?_⟩;have d0:=O.join G;refine dr 0 d [17,18,19] ?_;refine dw [2] ?_;refine dd d ?_;refine rt ?_;cases hm;exact⟨_,.cons (.tmp rfl) .nil,rfl,d0⟩
 ·refine dr 0 d [4,5,6,7,8,9,10,11,12,13,14,15,16,17,18,19] ?_;refine dw [2] ?_;refine dd d ?_;refine rt ?_;cases hm;exact⟨_,.cons (.tmp rfl) .nil,rfl,h⟩

theorem ziT:Enters Tryz.prog 91:=⟨_,_,Tryz.func91,rfl,by kernel_rfl⟩
def z24 (fuel:Nat) (x0:Int):Option (Bool):=(if(decide (x0≥(-4000000000)))=true then some (decide (x0≤4000000000)) else some false)

theorem zab {W w:World}(hE:Ext W w){x0:Int}  {fuel:Nat}{r:Bool}(hm:z24 fuel x0=some r):
  Calls Tryz.prog 91 ⟨[.int .i64 x0]⟩ w (Ret fun v w8=>v=.bool r∧St w w8 []):=by
 refine into Tryz.func91 9 _ ?_;unfold z24 at hm;have hS:=St.start w;refine sq<|rg<|rr 1 ?_;refine rn<|sq<|rg<|rr 3 ?_;refine rb 5 hm (fun hm=>?_) (fun hm=>?_)
 ·refine rr 4 ?_;refine rn<|rt ?_;cases hm;exact⟨_,.cons (.tmp rfl) .nil,rfl,hS⟩
 ·refine rr 4 ?_;refine rn<|rt ?_;cases hm;exact⟨_,.cons (.tmp rfl) .nil,rfl,hS⟩

theorem zoM:Enters Tryz.prog 38:=⟨_,_,Tryz.func38,rfl,by kernel_rfl⟩
def z2v (fuel:Nat) (x0:D.Qq) (y:Bool):Option Bool:=(if y=true then some false else((z16 fuel (⟨(⟨x0.Qa.Qe.Qg,(⟨x0.Qa.Qe.Qo.Qb,x0.Qa.Qe.Qo.Qj,x0.Qa.Qe.Qo.Qk⟩:D.Qc)⟩:D.Qe),x0.Qa.Qf,x0.Qa.Qt,x0.Qa.QK,x0.Qa.QZ⟩:D.Qa)).bind fun d=>((z48 fuel (w64 (d - 1)) ([x0.QB]:(List Int))).bind fun h=>(if h=true then((z24 fuel x0.QL).bind fun o=>(if o=true then(if((x0.Qs.length:Int) == d)=true then((z48 fuel 1000000000 ([x0.QG]:(List Int))).bind fun q=>some q) else some false) else some false)) else some false))))
def z40 (fuel:Nat) (x0:D.Qq):Option (Bool):=((z4K fuel x0.Qa).bind fun d=>(if(!d)=true then z2v fuel x0 true else((z2x fuel (⟨(⟨x0.Qa.Qe.Qg,(⟨x0.Qa.Qe.Qo.Qb,x0.Qa.Qe.Qo.Qj,x0.Qa.Qe.Qo.Qk⟩:D.Qc)⟩:D.Qe),x0.Qa.Qf,x0.Qa.Qt,x0.Qa.QK,x0.Qa.QZ⟩:D.Qa)).bind fun h=>z2v fuel x0 (!h))))

theorem zc6 {W w:World}(hE:Ext W w){C0:List Value}{x0:D.Qq}(J0:ty62.ro W C0 x0){fuel:Nat}{r:Bool}(hm:z40 fuel x0=some r):
  Calls Tryz.prog 38 ⟨[.agg ⟨C0⟩]⟩ w (Ret fun v w8=>v=.bool r∧St w w8 []):=by
 obtain⟨A1,k2,A4,k5,A7,L0,E0,M0,F0,N0,G0,O0,H0,h3,h6,X,Y,Z,X0⟩:=z6N J0;subst H0;refine into Tryz.func38 39 _ ?_;unfold z40 at hm;have hS:=St.start w;refine sq<|rg<|nw hS (fun D0 Q0 T0 G=>?_);refine rr 1 ?_;refine rn<|sq<|sq<|ct (fun(B0:Bool) F w9=>z2v fuel x0 B0=some r∧Ext Q0 w9∧St w w9 [Box D0 [sl A1 x0.Qa.Qe.Qg k2,.int .i64 x0.Qa.Qe.Qo.Qb,.int .i64 x0.Qa.Qe.Qo.Qj,.int .i64 x0.Qa.Qe.Qo.Qk,sl A4 x0.Qa.Qf k5,sl A7 x0.Qa.Qt L0,sl E0 x0.Qa.QK M0,sl F0 x0.Qa.QZ N0,.int .i64 x0.QB,.int .i64 x0.QL,.bool x0.Qa1,sl G0 x0.Qs O0,.int .i64 x0.QG,.bool x0.Qx] 62]∧F=[(1,.pointer (some ⟨D0,0,none⟩)),(12,.bool B0)]) ?_ ?_
 ·rintro B0 F t1 ⟨hm,K0,d,rfl⟩;unfold z2v at hm;refine ci hm (fun hm=>?_) (fun hm=>?_)
  ·refine sq<|rg<|rr 1 ?_;refine rn<|rt ?_;cases hm;exact⟨_,.cons (.tmp rfl) .nil,rfl,(d.taken 0)⟩
  ·refine sp<|sq<|rg<|rr 1 ?_;obtain⟨b1,r0,hm⟩:=bS hm;refine ca zgG (z6v (Ext.refl _) (z5Z (⟨(⟨x0.Qa.Qe.Qg,(⟨x0.Qa.Qe.Qo.Qb,x0.Qa.Qe.Qo.Qj,x0.Qa.Qe.Qo.Qk⟩:D.Qc)⟩:D.Qe),x0.Qa.Qf,x0.Qa.Qt,x0.Qa.QK,x0.Qa.QZ⟩:D.Qa) (ty34.ext (hE.trans d.ext) h3) (ty38.ext (hE.trans d.ext) h6) (ty28.ext (hE.trans d.ext) X) (ty29.ext (hE.trans d.ext) Y) (ty29.ext (hE.trans d.ext) Z)) (At.sub ((d.bring 0 rfl).box) 0 8) r0) (fun i1 u1 a0=>?_);obtain⟨rfl,b0⟩:=a0;have M:=d.join b0;refine rr 1 ?_;refine rn<|sq<|rg<|rr 3 ?_;refine l1 ((M.bring 0 rfl).box) 8 ?_;refine ns (M.flatEls (U:=tInt) (els:=[.int .i64 x0.QB]) (ys:=[x0.QB]) ⟨[.int .i64 x0.QB],_,[],[],rfl,rfl,⟨rfl,rfl⟩,⟨rfl,rfl⟩⟩) (fun R0 Y0 v1 U0 O=>?_);obtain⟨d1,t0,hm⟩:=bS hm;refine ca zdb (z8p (Ext.refl _) ((O.bring 0 rfl).own) t0) (fun j1 y1 d0=>?_);obtain⟨rfl,e0⟩:=d0;have q:=O.join e0;refine rr 1 ?_;refine rb 21 hm (fun hm=>?_) (fun hm=>?_)
   ·refine rr 1 ?_;refine l1 ((q.bring 1 rfl).box) 9 ?_;obtain⟨e1,u0,hm⟩:=bS hm;refine ca ziT (zab (hE.trans q.ext)  u0) (fun m1 B1 f0=>?_);obtain⟨rfl,g0⟩:=f0;have o:=q.join g0;refine rr 2 ?_;refine rb 26 hm (fun hm=>?_) (fun hm=>?_)
    ·refine rr 1 ?_;refine l1 ((o.bring 1 rfl).box) 11 ?_;refine rr 5 ?_;refine rb 33 hm (fun hm=>?_) (fun hm=>?_)
     ·refine rr 1 ?_;refine l1 ((o.bring 1 rfl).box) 12 ?_;refine ns (o.flatEls (U:=tInt) (els:=[.int .i64 x0.QG]) (ys:=[x0.QG]) ⟨[.int .i64 x0.QG],_,[],[],rfl,rfl,⟨rfl,rfl⟩,⟨rfl,rfl⟩⟩) (fun S0 a1 C1 V0 S=>?_);obtain⟨f1,v0,hm⟩:=bS hm;refine ca zdb (z8p (Ext.refl _) ((S.bring 0 rfl).own) v0) (fun n1 D1 i0=>?_);obtain⟨rfl,j0⟩:=i0;have p0:=S.join j0;refine rr 2 ?_;refine rn<|rt ?_;cases hm;exact⟨_,.cons (.tmp rfl) .nil,rfl,(p0.taken 0)⟩
     ·refine rr 6 ?_;refine rn<|rt ?_;cases hm;exact⟨_,.cons (.tmp rfl) .nil,rfl,(o.taken 0)⟩
    ·refine rr 13 ?_;refine rn<|rt ?_;cases hm;exact⟨_,.cons (.tmp rfl) .nil,rfl,(o.taken 0)⟩
   ·refine rr 18 ?_;refine rn<|rt ?_;cases hm;exact⟨_,.cons (.tmp rfl) .nil,rfl,(q.taken 0)⟩
 ·refine rg<|rr 1 ?_;refine lN (At.sub ((G.bring 0 rfl).box) 0 8) ?_;obtain⟨g1,y0,hm⟩:=bS hm;refine ca zoQ (zcw (hE.trans G.ext) (z5Z x0.Qa h3 h6 X Y Z) y0) (fun p1 E1 k0=>?_);obtain⟨rfl,y⟩:=k0;have h:=G.join y;refine rr 2 ?_;refine rb 8 hm (fun hm=>?_) (fun hm=>?_)
  ·refine rr 4 ?_;refine rn ?_;exact⟨true,_,⟨hm,y.ext,h,rfl⟩,rfl⟩
  ·refine rr 1 ?_;obtain⟨P0,A0,hm⟩:=bS hm;refine ca zoj (zbj (Ext.refl _) (z5Z (⟨(⟨x0.Qa.Qe.Qg,(⟨x0.Qa.Qe.Qo.Qb,x0.Qa.Qe.Qo.Qj,x0.Qa.Qe.Qo.Qk⟩:D.Qc)⟩:D.Qe),x0.Qa.Qf,x0.Qa.Qt,x0.Qa.QK,x0.Qa.QZ⟩:D.Qa) (ty34.ext (hE.trans h.ext) h3) (ty38.ext (hE.trans h.ext) h6) (ty28.ext (hE.trans h.ext) X) (ty29.ext (hE.trans h.ext) Y) (ty29.ext (hE.trans h.ext) Z)) (At.sub ((h.bring 0 rfl).box) 0 8) A0) (fun s1 F1 o0=>?_);obtain⟨rfl,H⟩:=o0;have q0:=h.join H;refine rr 2 ?_;refine rn ?_;exact⟨!P0,_,⟨hm,(y.ext.trans H.ext),q0,rfl⟩,rfl⟩

theorem zoi:Enters Tryz.prog 92:=⟨_,_,Tryz.func92,rfl,by kernel_rfl⟩
def zbf (fuel:Nat) (t2:Unit):Option Bool:=some true
def z7Y (fuel:Nat) (x0:(List Bool)) (x1:(List Bool)) (s1:Int):Option (Rd (Int) (Unit) (Bool)):=(if(decide (s1<(x0.length:Int)))=true then((idx x0 s1).bind fun d=>((idx x1 s1).bind fun h=>(if(!(d == h))=true then some (.ret false) else some (.next (w64 (s1+1)))))) else some (.brk ()))
def z8i (fuel:Nat) (x0:(List Bool)) (x1:(List Bool)):Option (Bool):=(if((x0.length:Int) != (x1.length:Int))=true then some false else((iter (z7Y fuel x0 x1) fuel 0).bind fun o=>aft o (zbf fuel)))

theorem laws_eqBoolS_ok {W w:World}(hE:Ext W w){G:Option Addr}{e0:Nat}{x0:(List Bool)}{H:Option Addr}{f0:Nat}{x1:(List Bool)}(k0:ty56.ro W [sl G x0 e0] x0) (o0:ty56.ro W [sl H x1 f0] x1){fuel:Nat}{r:Bool}(hm:z8i fuel x0 x1=some r):
  Calls Tryz.prog 92 ⟨[sl G x0 e0,sl H x1 f0]⟩ w (Ret fun v w8=>v=.bool r∧St w w8 []):=by
 refine into Tryz.func92 26 _ ?_;unfold z8i at hm;have hS:=St.start w;refine sq<|rg<|rr 1 ?_;refine rn<|sq<|sq<|rg<|rr 5 ?_;refine rn<|ci hm (fun hm=>?_) (fun hm=>?_)
 ·refine sq<|rg<|rr 1 ?_;refine rn<|rt ?_;cases hm;exact⟨_,.cons (.tmp rfl) .nil,rfl,hS⟩
 ·refine sp<|sq<|sq<|rg<|rr 1 ?_;refine rn ?_;obtain⟨p0,X,hm⟩:=bS hm;refine ct (fun(t2:Unit) F w9=>p0=.inl t2∧Ext w w9∧St w w9 []∧F=[]) ?_ ?_
  ·rintro t2 F w7 ⟨Y,q0,M,rfl⟩;subst Y;rw [z8] at hm;unfold zbf at hm;refine sq<|rg<|rr 1 ?_;refine rn<|rt ?_;cases hm;exact⟨_,.cons (.tmp rfl) .nil,rfl,M⟩
  ·refine bk<|wk [0,1,5] ?_;refine it (fun(s1:Int) F w9=>Ext w w9∧St w w9 []∧F=[(0,sl G x0 e0),(1,sl H x1 f0),(5,.int .i64 s1)]) X ⟨(Ext.refl _),hS,rfl⟩ ?_;rintro s1 F v0 _ r0 ⟨g0,h,rfl⟩ d y;unfold z7Y at d;refine sq<|sq<|rg<|rr 4 ?_;refine rn<|ci d (fun d=>?_) (fun d=>?_)
   ·refine sp<|sq<|bk<|sq<|dn 0 mixed 9 [([],511),([],511),([0,1],508),([2],507),([],511),([],511),([4,5],463),([6],447),([3,7],375)] h.ext (fun o=>?_);have q:=h.step (Ext.draw _);refine dr 5 o [0,1,4,5] ?_;obtain⟨y0,b0,d⟩:=bS d;refine dx (hE.trans h.ext) o 2 k0 b0 (fun t0 i0 O Z=>?_);cases Z;refine dl o 3 (At.ext (hE.trans h.ext) O) 0 ?_;obtain⟨A0,d0,d⟩:=bS d;refine dx (hE.trans h.ext) o 6 o0 d0 (fun u0 j0 S a0=>?_);cases a0;refine dl o 7 (At.ext (hE.trans h.ext) S) 0 ?_;refine dr 0 o [8] ?_;refine dw [0,1,5,25] ?_;refine dd o ?_;refine ci d (fun d=>?_) (fun d=>?_)
    ·refine sq<|rg<|rr 1 ?_;refine rn<|rt ?_;cases d;cases y;have hm:some _=some _:=hm;cases hm;exact⟨_,.cons (.tmp rfl) .nil,rfl,q⟩
    ·refine sp<|rg<|rr 3 ?_;refine rn ?_;cases d;exact⟨_,_,rfl,⟨(g0.trans (Ext.draw _)),q,rfl⟩,rfl⟩
   ·refine xt ?_;cases d;exact⟨_,_,⟨y,g0,h,rfl⟩,rfl⟩

theorem zec:Enters Tryz.prog 39:=⟨_,_,Tryz.func39,rfl,by kernel_rfl⟩
def z29 (fuel:Nat) (x0:D.Qq) (x1:D.Qq):Option (Bool):=((z75 fuel x0.Qa x1.Qa).bind fun d=>(if(!d)=true then some false else(if(x0.QB != x1.QB)=true then some false else(if(x0.QL != x1.QL)=true then some false else(if(!(x0.Qa1 == x1.Qa1))=true then some false else((z8i fuel x0.Qs x1.Qs).bind fun h=>(if(!h)=true then some false else(if(x0.QG != x1.QG)=true then some false else(if(!(x0.Qx == x1.Qx))=true then some false else some true)))))))))

theorem laws_eqDetector_ok {W w:World}(hE:Ext W w){X:List Value}{x0:D.Qq}{Y:List Value}{x1:D.Qq}(b0:ty62.ro W X x0) (g0:ty62.ro W Y x1){fuel:Nat}{r:Bool}(hm:z29 fuel x0 x1=some r):
  Calls Tryz.prog 39 ⟨[.agg ⟨X⟩,.agg ⟨Y⟩]⟩ w (Ret fun v w8=>v=.bool r∧St w w8 []):=by
 obtain⟨A1,k2,A4,k5,A7,K0,t0,L0,u0,M0,v0,N0,Z,h3,h6,d0,e0,f0,i0⟩:=z6N b0;subst Z;obtain⟨y0,O0,A0,P0,B0,Q0,C0,R0,D0,S0,E0,T0,a0,j0,k0,o0,p0,q0,r0⟩:=z6N g0;subst a0;refine into Tryz.func39 42 _ ?_;unfold z29 at hm;have hS:=St.start w;refine sq<|rg<|nw hS (fun H0 a1 F0 M=>?_);refine nw M (fun J0 b1 G0 o=>?_);refine rr 1 ?_;refine rn<|sq<|sq<|rg<|rr 1 ?_;refine lN (At.sub ((o.bring 1 rfl).box) 0 8) ?_;refine rr 1 ?_;refine lN (At.sub ((o.bring 0 rfl).box) 0 8) ?_;obtain⟨U0,O,hm⟩:=bS hm;refine ca zoP (laws_eqCluster_ok (hE.trans o.ext) (z5Z x0.Qa h3 h6 d0 e0 f0) (z5Z x1.Qa j0 k0 o0 p0 q0) O) (fun X0 d1 q=>?_);obtain⟨rfl,y⟩:=q;have d:=o.join y;refine rr 1 ?_;refine rn<|ci hm (fun hm=>?_) (fun hm=>?_)
 ·refine sq<|rg<|rr 1 ?_;refine rn<|rt ?_;cases hm;exact⟨_,.cons (.tmp rfl) .nil,rfl,(d.taken 0)⟩
 ·refine sp<|sq<|sq<|rg<|rr 1 ?_;refine l1 ((d.bring 1 rfl).box) 8 ?_;refine rr 1 ?_;refine l1 ((d.bring 0 rfl).box) 8 ?_;refine rr 1 ?_;refine rn<|ci hm (fun hm=>?_) (fun hm=>?_)
  ·refine sq<|rg<|rr 1 ?_;refine rn<|rt ?_;cases hm;exact⟨_,.cons (.tmp rfl) .nil,rfl,(d.taken 0)⟩
  ·refine sp<|sq<|sq<|rg<|rr 1 ?_;refine l1 ((d.bring 1 rfl).box) 9 ?_;refine rr 1 ?_;refine l1 ((d.bring 0 rfl).box) 9 ?_;refine rr 1 ?_;refine rn<|ci hm (fun hm=>?_) (fun hm=>?_)
   ·refine sq<|rg<|rr 1 ?_;refine rn<|rt ?_;cases hm;exact⟨_,.cons (.tmp rfl) .nil,rfl,(d.taken 0)⟩
   ·refine sp<|sq<|sq<|rg<|rr 1 ?_;refine l1 ((d.bring 1 rfl).box) 10 ?_;refine rr 1 ?_;refine l1 ((d.bring 0 rfl).box) 10 ?_;refine rr 1 ?_;refine rn<|ci hm (fun hm=>?_) (fun hm=>?_)
    ·refine sq<|rg<|rr 1 ?_;refine rn<|rt ?_;cases hm;exact⟨_,.cons (.tmp rfl) .nil,rfl,(d.taken 0)⟩
    ·refine sp<|sq<|sq<|rg<|rr 1 ?_;refine l1 ((d.bring 1 rfl).box) 11 ?_;refine rr 1 ?_;refine l1 ((d.bring 0 rfl).box) 11 ?_;obtain⟨V0,S,hm⟩:=bS hm;refine ca zoi (laws_eqBoolS_ok (hE.trans d.ext) i0 r0 S) (fun Y0 e1 G=>?_);obtain⟨rfl,H⟩:=G;have h:=d.join H;refine rr 1 ?_;refine rn<|ci hm (fun hm=>?_) (fun hm=>?_)
     ·refine sq<|rg<|rr 1 ?_;refine rn<|rt ?_;cases hm;exact⟨_,.cons (.tmp rfl) .nil,rfl,(h.taken 0)⟩
     ·refine sp<|sq<|sq<|rg<|rr 1 ?_;refine l1 ((h.bring 1 rfl).box) 12 ?_;refine rr 1 ?_;refine l1 ((h.bring 0 rfl).box) 12 ?_;refine rr 1 ?_;refine rn<|ci hm (fun hm=>?_) (fun hm=>?_)
      ·refine sq<|rg<|rr 1 ?_;refine rn<|rt ?_;cases hm;exact⟨_,.cons (.tmp rfl) .nil,rfl,(h.taken 0)⟩
      ·refine sp<|sq<|sq<|rg<|rr 1 ?_;refine l1 ((h.bring 1 rfl).box) 13 ?_;refine rr 1 ?_;refine l1 ((h.bring 0 rfl).box) 13 ?_;refine rr 1 ?_;refine rn<|ci hm (fun hm=>?_) (fun hm=>?_)
       ·refine sq<|rg<|rr 1 ?_;refine rn<|rt ?_;cases hm;exact⟨_,.cons (.tmp rfl) .nil,rfl,(h.taken 0)⟩
       ·refine sp<|sq<|rg<|rr 1 ?_;refine rn<|rt ?_;cases hm;exact⟨_,.cons (.tmp rfl) .nil,rfl,(h.taken 0)⟩

end Go.E


namespace Go.E
open Go.RowKit Go.Proofs
set_option linter.unusedSimpArgs false
set_option linter.unusedVariables false

theorem zag {fuel:Nat}{x:(List Int)}(hf:18446744073709551616≤fuel) (hs:x.length≤1048576):z3d fuel x x=some true:=by
 have hl:=hs
 unfold z3d
 rw [if_neg (by simp)]
 refine z7e (n:=x.length) (t:=()) (by unfold maxLen;omega) hf rfl ?_ ?_
 ·intro i hi
  obtain⟨y,hy⟩:=z42 hi
  have hsy:0≤1048576:=Nat.zero_le _
  simp [z7r,z9 hy,hi,z2j]
 ·simp [z7r]

theorem zaf {fuel:Nat}{x:(List Int)}{l:Int}(hf:18446744073709551616≤fuel) (hw:WfL I64 x) (h0:0≤l) (h1:l≤1048576):SzOk (x.length) l (z38 fuel x l):=by
 unfold z38
 generalize hz:w64 (l - (x.length:Int))=z
 exact SzOk.sub2 h0 h1 hw.1 (m:=0) rfl hz fun g0 g1=>SzOk.same g0

theorem zae {fuel:Nat}{x:(List Int)}(hf:18446744073709551616≤fuel) (hs:x.length≤1048576):z37 fuel x=some x:=by
 have hl:=hs
 unfold z37
 refine z78 hl hf (fun _=>rfl) ?_ ?_
 ·intro i y out hy d
  have hi:=(List.getElem?_eq_some_iff.1 hy).1
  have hsy:0≤1048576:=Nat.zero_le _
  simp only [z7m,z9 hy,Option.bind_some,lt_t (show(i:Int)<x.length by omega),if_true]
  rw [if_pos (by simp;omega)]
  simp
 ·intro out
  simp [z7m]

theorem z5C {fuel:Nat}{x:D.Qc}(hf:18446744073709551616≤fuel) (hs:0≤1048576):z1q fuel x=some x:=by
 skip
 unfold z1q
 rfl

theorem z5M {fuel:Nat}{x:D.Qc}(hf:18446744073709551616≤fuel) (hs:0≤1048576):z1r fuel x x=some true:=by
 skip
 simp [z1r,z2j]

theorem zft {fuel:Nat}{x:(List (List Int))}{l:Int}(hf:18446744073709551616≤fuel) (hw:WfL (WfL I64) x) (h0:0≤l) (h1:l≤1048576):SzOk (szL (fun x=>x.length) x) l (z6Z fuel x l):=by
 unfold z6Z
 generalize hz:w64 (l - (x.length:Int))=z
 refine SzOk.sub2 h0 h1 hw.1 (m:=sumL (fun x=>x.length) x) rfl hz fun g0 g1=>?_
 refine SzOk.loop hw.1 hf g0 (by omega) (fun _=>rfl) ?_ ?_
 ·intro i y l hy h0 h1
  have hi:=(List.getElem?_eq_some_iff.1 hy).1
  have hwy:=hw.2 y (List.mem_of_getElem? hy)
  obtain⟨r,h2,h3⟩:=zaf hf hwy h0 h1
  simp only [z6D,z9 hy,Option.bind_some,lt_t (show(i:Int)<x.length by omega),if_true,h2]
  by_cases hlt:r<0
  ·exact .inl (by simp only [lt_t hlt,if_true])
  ·exact .inr ⟨r,by simp only [lt_f hlt,if_false],h3.resolve_left hlt⟩
 ·intro l
  simp [z6D]

theorem zfq {fuel:Nat}{x:(List (List Int))}(hf:18446744073709551616≤fuel) (hs:szL (fun x=>x.length) x≤1048576):z6W fuel x=some x:=by
 have hl:=z3B hs
 unfold z6W
 refine z78 hl hf (fun _=>rfl) ?_ ?_
 ·intro i y out hy d
  have hi:=(List.getElem?_eq_some_iff.1 hy).1
  have hsy:y.length≤1048576:=z3A hs (List.mem_of_getElem? hy)
  simp only [z6B,z9 hy,Option.bind_some,lt_t (show(i:Int)<x.length by omega),if_true,zae hf hsy]
  rw [if_pos (by simp;omega)]
  simp
 ·intro out
  simp [z6B]

theorem zfE {fuel:Nat}{x:(List (List Int))}(hf:18446744073709551616≤fuel) (hs:szL (fun x=>x.length) x≤1048576):z74 fuel x x=some true:=by
 have hl:=z3B hs
 unfold z74
 rw [if_neg (by simp)]
 refine z7e (n:=x.length) (t:=()) (by unfold maxLen;omega) hf rfl ?_ ?_
 ·intro i hi
  obtain⟨y,hy⟩:=z42 hi
  have hsy:y.length≤1048576:=z3A hs (List.mem_of_getElem? hy)
  simp [z6G,z9 hy,hi,z2j,zag hf hsy]
 ·simp [z6G]

theorem zey {fuel:Nat}{x:(List D.Qc)}{l:Int}(hf:18446744073709551616≤fuel) (hw:WfL D.Qc.wf x) (h0:0≤l) (h1:l≤1048576):SzOk (x.length) l (z6k fuel x l):=by
 unfold z6k
 generalize hz:w64 (l - (x.length:Int))=z
 exact SzOk.sub2 h0 h1 hw.1 (m:=0) rfl hz fun g0 g1=>SzOk.same g0

theorem zer {fuel:Nat}{x:D.Qp}(hf:18446744073709551616≤fuel) (hs:0≤1048576):z6f fuel x=some x:=by
 skip
 unfold z6f
 simp only [z5C hf (show 0≤1048576 by exact Nat.zero_le _),Option.bind_some]

theorem zdk {fuel:Nat}{x:D.Qn}(hf:18446744073709551616≤fuel) (hs:0≤1048576):z4y fuel x=some x:=by
 skip
 unfold z4y
 simp only [z5C hf (show 0≤1048576 by exact Nat.zero_le _),z5C hf (show 0≤1048576 by exact Nat.zero_le _),Option.bind_some]

theorem zeu {fuel:Nat}{x:(List D.Qc)}(hf:18446744073709551616≤fuel) (hs:x.length≤1048576):z6h fuel x=some x:=by
 have hl:=hs
 unfold z6h
 refine z78 hl hf (fun _=>rfl) ?_ ?_
 ·intro i y out hy d
  have hi:=(List.getElem?_eq_some_iff.1 hy).1
  have hsy:0≤1048576:=Nat.zero_le _
  simp only [z5O,z9 hy,Option.bind_some,lt_t (show(i:Int)<x.length by omega),if_true,z5C hf hsy]
  rw [if_pos (by simp;omega)]
  simp
 ·intro out
  simp [z5O]

theorem zeZ {fuel:Nat}{x:D.Qp}(hf:18446744073709551616≤fuel) (hs:0≤1048576):z6o fuel x x=some true:=by
 skip
 simp [z6o,z2j,z5M hf (show 0≤1048576 by exact Nat.zero_le _)]

theorem zdF {fuel:Nat}{x:D.Qn}(hf:18446744073709551616≤fuel) (hs:0≤1048576):z4E fuel x x=some true:=by
 skip
 simp [z4E,z2j,z5M hf (show 0≤1048576 by exact Nat.zero_le _),z5M hf (show 0≤1048576 by exact Nat.zero_le _)]

theorem zf1 {fuel:Nat}{x:(List D.Qc)}(hf:18446744073709551616≤fuel) (hs:x.length≤1048576):z6q fuel x x=some true:=by
 have hl:=hs
 unfold z6q
 rw [if_neg (by simp)]
 refine z7e (n:=x.length) (t:=()) (by unfold maxLen;omega) hf rfl ?_ ?_
 ·intro i hi
  obtain⟨y,hy⟩:=z42 hi
  have hsy:0≤1048576:=Nat.zero_le _
  simp [z5T,z9 hy,hi,z2j,z5M hf hsy]
 ·simp [z5T]

theorem zdO {fuel:Nat}{x:(List D.Qp)}{l:Int}(hf:18446744073709551616≤fuel) (hw:WfL D.Qp.wf x) (h0:0≤l) (h1:l≤1048576):SzOk (x.length) l (z5o fuel x l):=by
 unfold z5o
 generalize hz:w64 (l - (x.length:Int))=z
 exact SzOk.sub2 h0 h1 hw.1 (m:=0) rfl hz fun g0 g1=>SzOk.same g0

theorem zcP {fuel:Nat}{x:(List D.Qn)}{l:Int}(hf:18446744073709551616≤fuel) (hw:WfL D.Qn.wf x) (h0:0≤l) (h1:l≤1048576):SzOk (x.length) l (z3L fuel x l):=by
 unfold z3L
 generalize hz:w64 (l - (x.length:Int))=z
 exact SzOk.sub2 h0 h1 hw.1 (m:=0) rfl hz fun g0 g1=>SzOk.same g0

theorem zbD {fuel:Nat}{x:D.Qd}{l:Int}(hf:18446744073709551616≤fuel) (hw:D.Qd.wf x) (h0:0≤l) (h1:l≤1048576):SzOk (D.Qd.sz x) l (z3v fuel x l):=by
 obtain⟨w0,w1,w2,w3,w4,_⟩:=hw
 unfold z3v D.Qd.sz
 refine SzOk.bind (zaf hf w3 h0 (by omega)) rfl fun r1 g1a g1b=>?_
 refine SzOk.bind (zey hf w4 g1a (by omega)) rfl fun r2 g2a g2b=>?_
 exact SzOk.same g2a

theorem zdN {fuel:Nat}{x:(List D.Qp)}(hf:18446744073709551616≤fuel) (hs:x.length≤1048576):z5n fuel x=some x:=by
 have hl:=hs
 unfold z5n
 refine z78 hl hf (fun _=>rfl) ?_ ?_
 ·intro i y out hy d
  have hi:=(List.getElem?_eq_some_iff.1 hy).1
  have hsy:0≤1048576:=Nat.zero_le _
  simp only [z5m,z9 hy,Option.bind_some,lt_t (show(i:Int)<x.length by omega),if_true,zer hf hsy]
  rw [if_pos (by simp;omega)]
  simp
 ·intro out
  simp [z5m]

theorem zcO {fuel:Nat}{x:(List D.Qn)}(hf:18446744073709551616≤fuel) (hs:x.length≤1048576):z3K fuel x=some x:=by
 have hl:=hs
 unfold z3K
 refine z78 hl hf (fun _=>rfl) ?_ ?_
 ·intro i y out hy d
  have hi:=(List.getElem?_eq_some_iff.1 hy).1
  have hsy:0≤1048576:=Nat.zero_le _
  simp only [z44,z9 hy,Option.bind_some,lt_t (show(i:Int)<x.length by omega),if_true,zdk hf hsy]
  rw [if_pos (by simp;omega)]
  simp
 ·intro out
  simp [z44]

theorem zbC {fuel:Nat}{x:D.Qd}(hf:18446744073709551616≤fuel) (hs:D.Qd.sz x≤1048576):z3u fuel x=some x:=by
 unfold D.Qd.sz at hs
 unfold z3u
 simp only [zae hf (show x.Data.length≤1048576 by omega),zeu hf (show x.QY.length≤1048576 by omega),Option.bind_some]

theorem ze1 {fuel:Nat}{x:(List D.Qp)}(hf:18446744073709551616≤fuel) (hs:x.length≤1048576):z5w fuel x x=some true:=by
 have hl:=hs
 unfold z5w
 rw [if_neg (by simp)]
 refine z7e (n:=x.length) (t:=()) (by unfold maxLen;omega) hf rfl ?_ ?_
 ·intro i hi
  obtain⟨y,hy⟩:=z42 hi
  have hsy:0≤1048576:=Nat.zero_le _
  simp [z5v,z9 hy,hi,z2j,zeZ hf hsy]
 ·simp [z5v]

theorem zda {fuel:Nat}{x:(List D.Qn)}(hf:18446744073709551616≤fuel) (hs:x.length≤1048576):z3Q fuel x x=some true:=by
 have hl:=hs
 unfold z3Q
 rw [if_neg (by simp)]
 refine z7e (n:=x.length) (t:=()) (by unfold maxLen;omega) hf rfl ?_ ?_
 ·intro i hi
  obtain⟨y,hy⟩:=z42 hi
  have hsy:0≤1048576:=Nat.zero_le _
  simp [z46,z9 hy,hi,z2j,zdF hf hsy]
 ·simp [z46]

theorem zbH {fuel:Nat}{x:D.Qd}(hf:18446744073709551616≤fuel) (hs:D.Qd.sz x≤1048576):z3x fuel x x=some true:=by
 unfold D.Qd.sz at hs
 simp [z3x,z2j,zag hf (show x.Data.length≤1048576 by omega),zf1 hf (show x.QY.length≤1048576 by omega)]

theorem zgj {fuel:Nat}{x:D.Qi}{l:Int}(hf:18446744073709551616≤fuel) (hw:D.Qi.wf x) (h0:0≤l) (h1:l≤1048576):SzOk (D.Qi.sz x) l (z7D fuel x l):=by
 obtain⟨w0,w1,w2,w3,_⟩:=hw
 unfold z7D D.Qi.sz
 refine SzOk.bind (zbD hf w1 h0 (by omega)) rfl fun r1 g1a g1b=>?_
 exact SzOk.same g1a

theorem zgh {fuel:Nat}{x:D.Qi}(hf:18446744073709551616≤fuel) (hs:D.Qi.sz x≤1048576):z7B fuel x=some x:=by
 unfold D.Qi.sz at hs
 unfold z7B
 simp only [zbC hf (show D.Qd.sz x.Qz≤1048576 by omega),z5C hf (show 0≤1048576 by exact Nat.zero_le _),z5C hf (show 0≤1048576 by exact Nat.zero_le _),Option.bind_some]

theorem zgE {fuel:Nat}{x:D.Qi}(hf:18446744073709551616≤fuel) (hs:D.Qi.sz x≤1048576):z7F fuel x x=some true:=by
 unfold D.Qi.sz at hs
 simp [z7F,z2j,zbH hf (show D.Qd.sz x.Qz≤1048576 by omega),z5M hf (show 0≤1048576 by exact Nat.zero_le _),z5M hf (show 0≤1048576 by exact Nat.zero_le _)]

theorem zdn {fuel:Nat}{x:(List D.Qd)}{l:Int}(hf:18446744073709551616≤fuel) (hw:WfL D.Qd.wf x) (h0:0≤l) (h1:l≤1048576):SzOk (szL D.Qd.sz x) l (z4A fuel x l):=by
 unfold z4A
 generalize hz:w64 (l - (x.length:Int))=z
 refine SzOk.sub2 h0 h1 hw.1 (m:=sumL D.Qd.sz x) rfl hz fun g0 g1=>?_
 refine SzOk.loop hw.1 hf g0 (by omega) (fun _=>rfl) ?_ ?_
 ·intro i y l hy h0 h1
  have hi:=(List.getElem?_eq_some_iff.1 hy).1
  have hwy:=hw.2 y (List.mem_of_getElem? hy)
  obtain⟨r,h2,h3⟩:=zbD hf hwy h0 h1
  simp only [z4M,z9 hy,Option.bind_some,lt_t (show(i:Int)<x.length by omega),if_true,h2]
  by_cases hlt:r<0
  ·exact .inl (by simp only [lt_t hlt,if_true])
  ·exact .inr ⟨r,by simp only [lt_f hlt,if_false],h3.resolve_left hlt⟩
 ·intro l
  simp [z4M]

theorem zdm {fuel:Nat}{x:(List D.Qd)}(hf:18446744073709551616≤fuel) (hs:szL D.Qd.sz x≤1048576):z4z fuel x=some x:=by
 have hl:=z3B hs
 unfold z4z
 refine z78 hl hf (fun _=>rfl) ?_ ?_
 ·intro i y out hy d
  have hi:=(List.getElem?_eq_some_iff.1 hy).1
  have hsy:D.Qd.sz y≤1048576:=z3A hs (List.mem_of_getElem? hy)
  simp only [z4L,z9 hy,Option.bind_some,lt_t (show(i:Int)<x.length by omega),if_true,zbC hf hsy]
  rw [if_pos (by simp;omega)]
  simp
 ·intro out
  simp [z4L]

theorem zdG {fuel:Nat}{x:(List D.Qd)}(hf:18446744073709551616≤fuel) (hs:szL D.Qd.sz x≤1048576):z4F fuel x x=some true:=by
 have hl:=z3B hs
 unfold z4F
 rw [if_neg (by simp)]
 refine z7e (n:=x.length) (t:=()) (by unfold maxLen;omega) hf rfl ?_ ?_
 ·intro i hi
  obtain⟨y,hy⟩:=z42 hi
  have hsy:D.Qd.sz y≤1048576:=z3A hs (List.mem_of_getElem? hy)
  simp [z4P,z9 hy,hi,z2j,zbH hf hsy]
 ·simp [z4P]

theorem zfs {fuel:Nat}{x:(List D.Qi)}{l:Int}(hf:18446744073709551616≤fuel) (hw:WfL D.Qi.wf x) (h0:0≤l) (h1:l≤1048576):SzOk (szL D.Qi.sz x) l (z6Y fuel x l):=by
 unfold z6Y
 generalize hz:w64 (l - (x.length:Int))=z
 refine SzOk.sub2 h0 h1 hw.1 (m:=sumL D.Qi.sz x) rfl hz fun g0 g1=>?_
 refine SzOk.loop hw.1 hf g0 (by omega) (fun _=>rfl) ?_ ?_
 ·intro i y l hy h0 h1
  have hi:=(List.getElem?_eq_some_iff.1 hy).1
  have hwy:=hw.2 y (List.mem_of_getElem? hy)
  obtain⟨r,h2,h3⟩:=zgj hf hwy h0 h1
  simp only [z6C,z9 hy,Option.bind_some,lt_t (show(i:Int)<x.length by omega),if_true,h2]
  by_cases hlt:r<0
  ·exact .inl (by simp only [lt_t hlt,if_true])
  ·exact .inr ⟨r,by simp only [lt_f hlt,if_false],h3.resolve_left hlt⟩
 ·intro l
  simp [z6C]

theorem zfp {fuel:Nat}{x:(List D.Qi)}(hf:18446744073709551616≤fuel) (hs:szL D.Qi.sz x≤1048576):z6V fuel x=some x:=by
 have hl:=z3B hs
 unfold z6V
 refine z78 hl hf (fun _=>rfl) ?_ ?_
 ·intro i y out hy d
  have hi:=(List.getElem?_eq_some_iff.1 hy).1
  have hsy:D.Qi.sz y≤1048576:=z3A hs (List.mem_of_getElem? hy)
  simp only [z6A,z9 hy,Option.bind_some,lt_t (show(i:Int)<x.length by omega),if_true,zgh hf hsy]
  rw [if_pos (by simp;omega)]
  simp
 ·intro out
  simp [z6A]

theorem zfD {fuel:Nat}{x:(List D.Qi)}(hf:18446744073709551616≤fuel) (hs:szL D.Qi.sz x≤1048576):z73 fuel x x=some true:=by
 have hl:=z3B hs
 unfold z73
 rw [if_neg (by simp)]
 refine z7e (n:=x.length) (t:=()) (by unfold maxLen;omega) hf rfl ?_ ?_
 ·intro i hi
  obtain⟨y,hy⟩:=z42 hi
  have hsy:D.Qi.sz y≤1048576:=z3A hs (List.mem_of_getElem? hy)
  simp [z6F,z9 hy,hi,z2j,zgE hf hsy]
 ·simp [z6F]

theorem zh4 {fuel:Nat}{x:D.Qv}{l:Int}(hf:18446744073709551616≤fuel) (hw:D.Qv.wf x) (h0:0≤l) (h1:l≤1048576):SzOk (D.Qv.sz x) l (z8d fuel x l):=by
 obtain⟨w0,w1,w2,_⟩:=hw
 unfold z8d D.Qv.sz
 refine SzOk.bind (zdn hf w0 h0 (by omega)) rfl fun r1 g1a g1b=>?_
 refine SzOk.bind (zdO hf w1 g1a (by omega)) rfl fun r2 g2a g2b=>?_
 refine SzOk.bind (zcP hf w2 g2a (by omega)) rfl fun r3 g3a g3b=>?_
 exact SzOk.same g3a

theorem zh2 {fuel:Nat}{x:D.Qv}(hf:18446744073709551616≤fuel) (hs:D.Qv.sz x≤1048576):z8b fuel x=some x:=by
 unfold D.Qv.sz at hs
 unfold z8b
 simp only [zdm hf (show szL D.Qd.sz x.Cells≤1048576 by omega),zdN hf (show x.QM.length≤1048576 by omega),zcO hf (show x.Qu.length≤1048576 by omega),Option.bind_some]

theorem zhs {fuel:Nat}{x:D.Qv}(hf:18446744073709551616≤fuel) (hs:D.Qv.sz x≤1048576):z8h fuel x x=some true:=by
 unfold D.Qv.sz at hs
 simp [z8h,z2j,zdG hf (show szL D.Qd.sz x.Cells≤1048576 by omega),ze1 hf (show x.QM.length≤1048576 by omega),zda hf (show x.Qu.length≤1048576 by omega)]

theorem zew {fuel:Nat}{x:(List (List D.Qi))}{l:Int}(hf:18446744073709551616≤fuel) (hw:WfL (WfL D.Qi.wf) x) (h0:0≤l) (h1:l≤1048576):SzOk (szL (fun x=>szL D.Qi.sz x) x) l (z6i fuel x l):=by
 unfold z6i
 generalize hz:w64 (l - (x.length:Int))=z
 refine SzOk.sub2 h0 h1 hw.1 (m:=sumL (fun x=>szL D.Qi.sz x) x) rfl hz fun g0 g1=>?_
 refine SzOk.loop hw.1 hf g0 (by omega) (fun _=>rfl) ?_ ?_
 ·intro i y l hy h0 h1
  have hi:=(List.getElem?_eq_some_iff.1 hy).1
  have hwy:=hw.2 y (List.mem_of_getElem? hy)
  obtain⟨r,h2,h3⟩:=zfs hf hwy h0 h1
  simp only [z5P,z9 hy,Option.bind_some,lt_t (show(i:Int)<x.length by omega),if_true,h2]
  by_cases hlt:r<0
  ·exact .inl (by simp only [lt_t hlt,if_true])
  ·exact .inr ⟨r,by simp only [lt_f hlt,if_false],h3.resolve_left hlt⟩
 ·intro l
  simp [z5P]

theorem zes {fuel:Nat}{x:(List (List D.Qi))}(hf:18446744073709551616≤fuel) (hs:szL (fun x=>szL D.Qi.sz x) x≤1048576):z6g fuel x=some x:=by
 have hl:=z3B hs
 unfold z6g
 refine z78 hl hf (fun _=>rfl) ?_ ?_
 ·intro i y out hy d
  have hi:=(List.getElem?_eq_some_iff.1 hy).1
  have hsy:szL D.Qi.sz y≤1048576:=z3A hs (List.mem_of_getElem? hy)
  simp only [z5N,z9 hy,Option.bind_some,lt_t (show(i:Int)<x.length by omega),if_true,zfp hf hsy]
  rw [if_pos (by simp;omega)]
  simp
 ·intro out
  simp [z5N]

theorem zf0 {fuel:Nat}{x:(List (List D.Qi))}(hf:18446744073709551616≤fuel) (hs:szL (fun x=>szL D.Qi.sz x) x≤1048576):z6p fuel x x=some true:=by
 have hl:=z3B hs
 unfold z6p
 rw [if_neg (by simp)]
 refine z7e (n:=x.length) (t:=()) (by unfold maxLen;omega) hf rfl ?_ ?_
 ·intro i hi
  obtain⟨y,hy⟩:=z42 hi
  have hsy:szL D.Qi.sz y≤1048576:=z3A hs (List.mem_of_getElem? hy)
  simp [z5S,z9 hy,hi,z2j,zfD hf hsy]
 ·simp [z5S]

theorem zgi {fuel:Nat}{x:(List D.Qv)}{l:Int}(hf:18446744073709551616≤fuel) (hw:WfL D.Qv.wf x) (h0:0≤l) (h1:l≤1048576):SzOk (szL D.Qv.sz x) l (z7C fuel x l):=by
 unfold z7C
 generalize hz:w64 (l - (x.length:Int))=z
 refine SzOk.sub2 h0 h1 hw.1 (m:=sumL D.Qv.sz x) rfl hz fun g0 g1=>?_
 refine SzOk.loop hw.1 hf g0 (by omega) (fun _=>rfl) ?_ ?_
 ·intro i y l hy h0 h1
  have hi:=(List.getElem?_eq_some_iff.1 hy).1
  have hwy:=hw.2 y (List.mem_of_getElem? hy)
  obtain⟨r,h2,h3⟩:=zh4 hf hwy h0 h1
  simp only [z7n,z9 hy,Option.bind_some,lt_t (show(i:Int)<x.length by omega),if_true,h2]
  by_cases hlt:r<0
  ·exact .inl (by simp only [lt_t hlt,if_true])
  ·exact .inr ⟨r,by simp only [lt_f hlt,if_false],h3.resolve_left hlt⟩
 ·intro l
  simp [z7n]

theorem zgg {fuel:Nat}{x:(List D.Qv)}(hf:18446744073709551616≤fuel) (hs:szL D.Qv.sz x≤1048576):z7A fuel x=some x:=by
 have hl:=z3B hs
 unfold z7A
 refine z78 hl hf (fun _=>rfl) ?_ ?_
 ·intro i y out hy d
  have hi:=(List.getElem?_eq_some_iff.1 hy).1
  have hsy:D.Qv.sz y≤1048576:=z3A hs (List.mem_of_getElem? hy)
  simp only [z7k,z9 hy,Option.bind_some,lt_t (show(i:Int)<x.length by omega),if_true,zh2 hf hsy]
  rw [if_pos (by simp;omega)]
  simp
 ·intro out
  simp [z7k]

theorem zgD {fuel:Nat}{x:(List D.Qv)}(hf:18446744073709551616≤fuel) (hs:szL D.Qv.sz x≤1048576):z7E fuel x x=some true:=by
 have hl:=z3B hs
 unfold z7E
 rw [if_neg (by simp)]
 refine z7e (n:=x.length) (t:=()) (by unfold maxLen;omega) hf rfl ?_ ?_
 ·intro i hi
  obtain⟨y,hy⟩:=z42 hi
  have hsy:D.Qv.sz y≤1048576:=z3A hs (List.mem_of_getElem? hy)
  simp [z7q,z9 hy,hi,z2j,zhs hf hsy]
 ·simp [z7q]

theorem zii {fuel:Nat}{x:D.Qe}{l:Int}(hf:18446744073709551616≤fuel) (hw:D.Qe.wf x) (h0:0≤l) (h1:l≤1048576):SzOk (D.Qe.sz x) l (z90 fuel x l):=by
 obtain⟨w0,w1,_⟩:=hw
 unfold z90 D.Qe.sz
 refine SzOk.bind (zgi hf w0 h0 (by omega)) rfl fun r1 g1a g1b=>?_
 exact SzOk.same g1a

theorem zih {fuel:Nat}{x:D.Qe}(hf:18446744073709551616≤fuel) (hs:D.Qe.sz x≤1048576):z8Z fuel x=some x:=by
 unfold D.Qe.sz at hs
 unfold z8Z
 simp only [zgg hf (show szL D.Qv.sz x.Qg≤1048576 by omega),z5C hf (show 0≤1048576 by exact Nat.zero_le _),Option.bind_some]

theorem zix {fuel:Nat}{x:D.Qe}(hf:18446744073709551616≤fuel) (hs:D.Qe.sz x≤1048576):z96 fuel x x=some true:=by
 unfold D.Qe.sz at hs
 simp [z96,z2j,zgD hf (show szL D.Qv.sz x.Qg≤1048576 by omega),z5M hf (show 0≤1048576 by exact Nat.zero_le _)]

theorem zfu {fuel:Nat}{x:D.Qa}{l:Int}(hf:18446744073709551616≤fuel) (hw:D.Qa.wf x) (h0:0≤l) (h1:l≤1048576):SzOk (D.Qa.sz x) l (z70 fuel x l):=by
 obtain⟨w0,w1,w2,w3,w4,_⟩:=hw
 unfold z70 D.Qa.sz
 refine SzOk.bind (zii hf w0 h0 (by omega)) rfl fun r1 g1a g1b=>?_
 refine SzOk.bind (zew hf w1 g1a (by omega)) rfl fun r2 g2a g2b=>?_
 refine SzOk.bind (zft hf w2 g2a (by omega)) rfl fun r3 g3a g3b=>?_
 refine SzOk.bind (zaf hf w3 g3a (by omega)) rfl fun r4 g4a g4b=>?_
 refine SzOk.bind (zaf hf w4 g4a (by omega)) rfl fun r5 g5a g5b=>?_
 exact SzOk.same g5a

theorem zfr {fuel:Nat}{x:D.Qa}(hf:18446744073709551616≤fuel) (hs:D.Qa.sz x≤1048576):z6X fuel x=some x:=by
 unfold D.Qa.sz at hs
 unfold z6X
 simp only [zih hf (show D.Qe.sz x.Qe≤1048576 by omega),zes hf (show szL (fun x=>szL D.Qi.sz x) x.Qf≤1048576 by omega),zfq hf (show szL (fun x=>x.length) x.Qt≤1048576 by omega),zae hf (show x.QK.length≤1048576 by omega),zae hf (show x.QZ.length≤1048576 by omega),Option.bind_some]

theorem zfF {fuel:Nat}{x:D.Qa}(hf:18446744073709551616≤fuel) (hs:D.Qa.sz x≤1048576):z75 fuel x x=some true:=by
 unfold D.Qa.sz at hs
 simp [z75,z2j,zix hf (show D.Qe.sz x.Qe≤1048576 by omega),zf0 hf (show szL (fun x=>szL D.Qi.sz x) x.Qf≤1048576 by omega),zfE hf (show szL (fun x=>x.length) x.Qt≤1048576 by omega),zag hf (show x.QK.length≤1048576 by omega),zag hf (show x.QZ.length≤1048576 by omega)]

theorem zbU:Opens Tryz.prog 2 tInt I64:=Opens.int Tryz.underlying2 (by kernel_rfl)
theorem zgv:Opens Tryz.prog 29 ty29 (WfL I64):=Opens.sl Tryz.underlying29 (by kernel_rfl) zbU
set_option maxRecDepth 100000 in
theorem zcE:Opens Tryz.prog 24 ty24 D.Qc.wf:=Opens.struct (f:=fun c:D.Qc=>(c.Qb,c.Qj,c.Qk,())) Tryz.underlying24 (by kernel_rfl) (OpensF.cons zbU rfl rfl (OpensF.cons zbU rfl rfl (OpensF.cons zbU rfl rfl OpensF.nil))) (fun⟨a0,a1,a2,_⟩=>⟨⟨a0,a1,a2⟩,rfl⟩)
theorem znZ:Opens Tryz.prog 201 zfo (WfL D.Qc.wf):=Opens.sl Tryz.underlying201 (by kernel_rfl) zcE
set_option maxRecDepth 100000 in
theorem ziN:Opens Tryz.prog 203 zfn D.Qd.wf:=Opens.struct (f:=fun c:D.Qd=>(c.Qj,c.QO,c.Value,c.Data,c.QY,())) Tryz.underlying203 (by kernel_rfl) (OpensF.cons zbU rfl rfl (OpensF.cons zbU rfl rfl (OpensF.cons zbU rfl rfl (OpensF.cons zgv rfl rfl (OpensF.cons znZ rfl rfl OpensF.nil))))) (fun⟨a0,a1,a2,a3,a4,_⟩=>⟨⟨a0,a1,a2,a3,a4⟩,rfl⟩)
theorem zo3:Opens Tryz.prog 195 zgY (WfL D.Qd.wf):=Opens.sl Tryz.underlying195 (by kernel_rfl) ziN
theorem zhi:Opens Tryz.prog 4 tBool fun _=>True:=Opens.bool Tryz.underlying4 (by kernel_rfl)
set_option maxRecDepth 100000 in
theorem znX:Opens Tryz.prog 288 zj7 D.Qp.wf:=Opens.struct (f:=fun c:D.Qp=>(c.Qa2,c.Qa3,c.QX,())) Tryz.underlying288 (by kernel_rfl) (OpensF.cons zhi rfl rfl (OpensF.cons zhi rfl rfl (OpensF.cons zcE rfl rfl OpensF.nil))) (fun⟨a0,a1,a2,_⟩=>⟨⟨a0,a1,a2⟩,rfl⟩)
theorem zo2:Opens Tryz.prog 196 zgX (WfL D.Qp.wf):=Opens.sl Tryz.underlying196 (by kernel_rfl) znX
set_option maxRecDepth 100000 in
theorem znW:Opens Tryz.prog 291 zj6 D.Qn.wf:=Opens.struct (f:=fun c:D.Qn=>(c.A,c.B,())) Tryz.underlying291 (by kernel_rfl) (OpensF.cons zcE rfl rfl (OpensF.cons zcE rfl rfl OpensF.nil)) (fun⟨a0,a1,_⟩=>⟨⟨a0,a1⟩,rfl⟩)
theorem zo1:Opens Tryz.prog 197 zgW (WfL D.Qn.wf):=Opens.sl Tryz.underlying197 (by kernel_rfl) znW
set_option maxRecDepth 100000 in
theorem zo0:Opens Tryz.prog 199 zib D.Qv.wf:=Opens.struct (f:=fun c:D.Qv=>(c.Cells,c.QM,c.Qu,())) Tryz.underlying199 (by kernel_rfl) (OpensF.cons zo3 rfl rfl (OpensF.cons zo2 rfl rfl (OpensF.cons zo1 rfl rfl OpensF.nil))) (fun⟨a0,a1,a2,_⟩=>⟨⟨a0,a1,a2⟩,rfl⟩)
theorem zpf:Opens Tryz.prog 22 ty22 (WfL D.Qv.wf):=Opens.sl Tryz.underlying22 (by kernel_rfl) zo0
set_option maxRecDepth 100000 in
theorem zpe:Opens Tryz.prog 26 ty26 D.Qe.wf:=Opens.struct (f:=fun c:D.Qe=>(c.Qg,c.Qo,())) Tryz.underlying26 (by kernel_rfl) (OpensF.cons zpf rfl rfl (OpensF.cons zcE rfl rfl OpensF.nil)) (fun⟨a0,a1,_⟩=>⟨⟨a0,a1⟩,rfl⟩)
set_option maxRecDepth 100000 in
theorem znY:Opens Tryz.prog 205 zia D.Qi.wf:=Opens.struct (f:=fun c:D.Qi=>(c.Qj,c.Qz,c.A,c.B,())) Tryz.underlying205 (by kernel_rfl) (OpensF.cons zbU rfl rfl (OpensF.cons ziN rfl rfl (OpensF.cons zcE rfl rfl (OpensF.cons zcE rfl rfl OpensF.nil)))) (fun⟨a0,a1,a2,a3,_⟩=>⟨⟨a0,a1,a2,a3⟩,rfl⟩)
theorem zo4:Opens Tryz.prog 141 zif (WfL D.Qi.wf):=Opens.sl Tryz.underlying141 (by kernel_rfl) znY
theorem zpd:Opens Tryz.prog 27 ty27 (WfL (WfL D.Qi.wf)):=Opens.sl Tryz.underlying27 (by kernel_rfl) zo4
theorem zpc:Opens Tryz.prog 28 ty28 (WfL (WfL I64)):=Opens.sl Tryz.underlying28 (by kernel_rfl) zgv
set_option maxRecDepth 100000 in
theorem zpb:Opens Tryz.prog 31 ty31 D.Qa.wf:=Opens.struct (f:=fun c:D.Qa=>(c.Qe,c.Qf,c.Qt,c.QK,c.QZ,())) Tryz.underlying31 (by kernel_rfl) (OpensF.cons zpe rfl rfl (OpensF.cons zpd rfl rfl (OpensF.cons zpc rfl rfl (OpensF.cons zgv rfl rfl (OpensF.cons zgv rfl rfl OpensF.nil))))) (fun⟨a0,a1,a2,a3,a4,_⟩=>⟨⟨a0,a1,a2,a3,a4⟩,rfl⟩)
end Go.E


namespace Go.E
open Go.RowKit Go.Proofs
set_option linter.unusedSimpArgs false
set_option linter.unusedVariables false

theorem zh5 {fuel:Nat}{x:(List Bool)}{l:Int}(hf:18446744073709551616≤fuel) (hw:WfL (fun _=>True) x) (h0:0≤l) (h1:l≤1048576):SzOk (x.length) l (z8e fuel x l):=by
 unfold z8e
 generalize hz:w64 (l - (x.length:Int))=z
 exact SzOk.sub2 h0 h1 hw.1 (m:=0) rfl hz fun g0 g1=>SzOk.same g0

theorem zh3 {fuel:Nat}{x:(List Bool)}(hf:18446744073709551616≤fuel) (hs:x.length≤1048576):z8c fuel x=some x:=by
 have hl:=hs
 unfold z8c
 refine z78 hl hf (fun _=>rfl) ?_ ?_
 ·intro i y out hy d
  have hi:=(List.getElem?_eq_some_iff.1 hy).1
  have hsy:0≤1048576:=Nat.zero_le _
  simp only [z7X,z9 hy,Option.bind_some,lt_t (show(i:Int)<x.length by omega),if_true]
  rw [if_pos (by simp;omega)]
  simp
 ·intro out
  simp [z7X]

theorem zht {fuel:Nat}{x:(List Bool)}(hf:18446744073709551616≤fuel) (hs:x.length≤1048576):z8i fuel x x=some true:=by
 have hl:=hs
 unfold z8i
 rw [if_neg (by simp)]
 refine z7e (n:=x.length) (t:=()) (by unfold maxLen;omega) hf rfl ?_ ?_
 ·intro i hi
  obtain⟨y,hy⟩:=z42 hi
  have hsy:0≤1048576:=Nat.zero_le _
  simp [z7Y,z9 hy,hi,z2j]
 ·simp [z7Y]

theorem zex {fuel:Nat}{x:D.Qq}{l:Int}(hf:18446744073709551616≤fuel) (hw:D.Qq.wf x) (h0:0≤l) (h1:l≤1048576):SzOk (D.Qq.sz x) l (z6j fuel x l):=by
 obtain⟨w0,w1,w2,w3,w4,w5,w6,_⟩:=hw
 unfold z6j D.Qq.sz
 refine SzOk.bind (zfu hf w0 h0 (by omega)) rfl fun r1 g1a g1b=>?_
 refine SzOk.bind (zh5 hf w4 g1a (by omega)) rfl fun r2 g2a g2b=>?_
 exact SzOk.same g2a

theorem zet {fuel:Nat}{x:D.Qq}(hf:18446744073709551616≤fuel) (hs:D.Qq.sz x≤1048576):z27 fuel x=some x:=by
 unfold D.Qq.sz at hs
 unfold z27
 simp only [zfr hf (show D.Qa.sz x.Qa≤1048576 by omega),zh3 hf (show x.Qs.length≤1048576 by omega),Option.bind_some]

theorem zca {fuel:Nat}{x:D.Qq}(hf:18446744073709551616≤fuel) (hs:D.Qq.sz x≤1048576):z29 fuel x x=some true:=by
 unfold D.Qq.sz at hs
 simp [z29,z2j,zfF hf (show D.Qa.sz x.Qa≤1048576 by omega),zht hf (show x.Qs.length≤1048576 by omega)]

theorem zpa:Opens Tryz.prog 56 ty56 (WfL (fun _=>True)):=Opens.sl Tryz.underlying56 (by kernel_rfl) zhi
set_option maxRecDepth 100000 in
theorem zp9:Opens Tryz.prog 58 ty58 D.Qq.wf:=Opens.struct (f:=fun c:D.Qq=>(c.Qa,c.QB,c.QL,c.Qa1,c.Qs,c.QG,c.Qx,())) Tryz.underlying58 (by kernel_rfl) (OpensF.cons zpb rfl rfl (OpensF.cons zbU rfl rfl (OpensF.cons zbU rfl rfl (OpensF.cons zhi rfl rfl (OpensF.cons zpa rfl rfl (OpensF.cons zbU rfl rfl (OpensF.cons zhi rfl rfl OpensF.nil))))))) (fun⟨a0,a1,a2,a3,a4,a5,a6,_⟩=>⟨⟨a0,a1,a2,a3,a4,a5,a6⟩,rfl⟩)
end Go.E


