/- Models of functions and proofs that the code runs as they say (written by program). Conditions: the model gives a value. -/
import Derived.Test.YteommboffflkbaaGreatFGe
import Derived.Test.YteommboffflkbaaGreatShort
import Derived.Test.YteommboffflkbaaGreatFA
import Derived.Test.YteommboffflkbaaGreatFG
import Derived.Test.YteommboffflkbaaGreatFGb
import Derived.Test.YteommboffflkbaaGreatFGc
import Derived.Test.YteommboffflkbaaGreatFGd
namespace Go.E
open Go.RowKit Go.Proofs
set_option linter.unusedVariables false
set_option linter.unusedSimpArgs false
set_option maxHeartbeats 2000000
set_option maxRecDepth 100000

theorem zkG:Enters Tryz.prog 198:=⟨_,_,Tryz.func198,rfl,by kernel_rfl⟩
def z7O (fuel:Nat) (x0:Bool):Option (Int):=(if x0=true then some 1 else some 0)

theorem ze6 {W w:World}(hE:Ext W w){x0:Bool}  {fuel:Nat}{r:Int}(hm:z7O fuel x0=some r):
    Calls Tryz.prog 198 ⟨[.bool x0]⟩ w (Ret fun v w8=>v=.int .i64 r∧St w w8 []):=by
  refine into Tryz.func198 4 _ ?_;unfold z7O at hm;have hS:=St.start w;refine sq<|rg<|rr 1 ?_;refine rn<|sq<|sq<|rg<|rr 1 ?_;refine rn<|ci hm (fun hm=>?_) (fun hm=>?_)
  · refine sq<|rg<|rr 1 ?_;refine rn<|rt ?_;cases hm;exact⟨_,.cons (.tmp rfl) .nil,rfl,hS⟩
  · refine sp<|sq<|rg<|rr 1 ?_;refine rn<|rt ?_;cases hm;exact⟨_,.cons (.tmp rfl) .nil,rfl,hS⟩

theorem zhc:Enters Tryz.prog 145:=⟨_,_,Tryz.func145,rfl,by kernel_rfl⟩
def z9B (fuel:Nat) (t2:Int):Option Int:=some t2
def z3z (fuel:Nat) (x0:(List D.Parcel)) (s1:Int × Int):Option (Rd (Int × Int) (Int) (Int)):=(if(decide (s1.2<(x0.length:Int)))=true then((idx x0 s1.2).bind fun h=>((z7O fuel (h.Kind == 4)).bind fun d=>some (.next (w64 (s1.1+d),w64 (s1.2+1))))) else some (.brk s1.1))
def z42 (fuel:Nat) (x0:(List D.Parcel)):Option (Int):=((iter (z3z fuel x0) fuel (0,0)).bind fun o=>aft o (z9B fuel))

theorem zam {W w:World}(hE:Ext W w){q:Option Addr}{b0:Nat}{x0:(List D.Parcel)}(g0:z6k.ro W [sl q x0 b0] x0){fuel:Nat}{r:Int}(hm:z42 fuel x0=some r):
    Calls Tryz.prog 145 ⟨[sl q x0 b0]⟩ w (Ret fun v w8=>v=.int .i64 r∧St w w8 []):=by
  refine into Tryz.func145 21 _ ?_;unfold z42 at hm;have hS:=St.start w;refine sq<|rg<|rr 1 ?_;refine rn<|sq<|rg<|rr 1 ?_;refine rn<|sq<|sq<|rg<|rr 1 ?_;refine rn ?_;obtain⟨i0,O,hm⟩:=bS hm;refine ct (fun(t2:Int) F w9=>i0=.inl t2∧Ext w w9∧St w w9 []∧F=[(3,.int .i64 t2)]) ?_ ?_
  · rintro t2 F w7 ⟨S,q0,G,rfl⟩;subst S;rw [z8] at hm;unfold z9B at hm;refine sq<|rg<|rr 2 ?_;refine rn<|rt ?_;cases hm;exact⟨_,.cons (.tmp rfl) .nil,rfl,G⟩
  · refine bk<|wk [0,3,4] ?_;refine it (fun(s1:Int × Int) F w9=>Ext w w9∧St w w9 []∧F=[(0,sl q x0 b0),(3,.int .i64 s1.1),(4,.int .i64 s1.2)]) O ⟨(Ext.refl _),hS,rfl⟩ ?_;rintro s1 F B0 _ u0 ⟨d0,h,rfl⟩ d X;unfold z3z at d;refine sq<|sq<|rg<|rr 4 ?_;refine rn<|ci d (fun d=>?_) (fun d=>?_)
    · refine sp<|sq<|bk<|rg<|rr 3 ?_;obtain⟨D0,Z,d⟩:=bS d;refine ix (hE.trans h.ext) g0 Z (fun v0 f0 M Y=>?_);obtain⟨j0,r0,k0,t0,e0,o0,p0⟩:=zv Y;subst e0;refine rr 1 ?_;refine l1 (At.ext (hE.trans h.ext) M) 0 ?_;refine rr 1 ?_;obtain⟨y0,a0,d⟩:=bS d;refine ca zkG (ze6 (hE.trans h.ext)  a0) (fun A0 C0 y=>?_);obtain⟨rfl,o⟩:=y;have H:=h.join o;refine rr 2 ?_;refine rn<|rg<|rr 3 ?_;refine rn ?_;cases d;exact⟨_,_,rfl,⟨(d0.trans o.ext),H,rfl⟩,rfl⟩
    · refine xt ?_;cases d;exact⟨_,_,⟨X,d0,h,rfl⟩,rfl⟩

theorem znF:Enters Tryz.prog 81:=⟨_,_,Tryz.func81,rfl,by kernel_rfl⟩
def z9A (fuel:Nat) (d:Int):Option Int:=some d
def z3y (fuel:Nat) (x0:D.Cluster) (d:Int × Int):Option (Rd (Int × Int) (Int) (Int)):=(if(decide (d.2<(x0.Channels.length:Int)))=true then((idx x0.Channels d.2).bind fun o=>((idx x0.Channels d.2).bind fun q=>((z42 fuel q).bind fun h=>some (.next (w64 (d.1+(w64 ((o.length:Int) - h))),w64 (d.2+1)))))) else some (.brk d.1))
def z5S (fuel:Nat) (x0:D.Cluster):Option (Int):=((iter (z3y fuel x0) fuel (0,0)).bind fun o=>aft o (z9A fuel))

theorem zco {W w:World}(hE:Ext W w){j0:Addr}{p0:List Value}{x0:D.Cluster}(y0:ty40.ro W p0 x0) (M:At W j0 p0){fuel:Nat}{r:Int}(hm:z5S fuel x0=some r):
    Calls Tryz.prog 81 ⟨[.pointer (some j0)]⟩ w (Ret fun v w8=>v=.int .i64 r∧St w w8 []):=by
  obtain⟨A1,k2,A4,k5,A7,K0,C0,L0,D0,M0,q0,h3,h6,G0,H0,J0⟩:=z1K y0;subst q0;refine into Tryz.func81 34 _ ?_;unfold z5S at hm;have hS:=St.start w;refine sq<|rg<|rr 1 ?_;refine rn<|sq<|rg<|rr 1 ?_;refine rn<|sq<|sq<|rg<|rr 1 ?_;refine rn ?_;obtain⟨B0,a0,hm⟩:=bS hm;refine ct (fun(o0:Int) F w9=>B0=.inl o0∧Ext w w9∧St w w9 []∧F=[(3,.int .i64 o0)]) ?_ ?_
  · rintro o0 F U0 ⟨b0,A0,S,rfl⟩;subst b0;rw [z8] at hm;unfold z9A at hm;refine sq<|rg<|rr 2 ?_;refine rn<|rt ?_;cases hm;exact⟨_,.cons (.tmp rfl) .nil,rfl,S⟩
  · refine bk<|wk [0,3,4] ?_;refine it (fun(k0:Int × Int) F w9=>Ext w w9∧St w w9 []∧F=[(0,.pointer (some j0)),(3,.int .i64 k0.1),(4,.int .i64 k0.2)]) a0 ⟨(Ext.refl _),hS,rfl⟩ ?_;rintro k0 F V0 _ P0 ⟨y,o,rfl⟩ d d0;unfold z3y at d;refine sq<|sq<|rg<|rr 4 ?_;refine l1 (At.ext (hE.trans o.ext) M) 4 ?_;refine rr 2 ?_;refine rn<|ci d (fun d=>?_) (fun d=>?_)
    · refine sp<|sq<|bk<|dn 0 mixed 20 [([],1048575),([],1048575),([1],1048573),([2],1048571),([3],1048567),([],1048575),([4,5],1048527),([6],1048511),([7],1048447),([],1048575),([9],1048063),([10],1047551),([11],1046527),([],1048575),([12,13],1036287),([14],1032191),([15],1015807),([8,16],982783),([0,17],917502),([18,16,0,1,2,3,4,5,6,7,8,9,10,11,12,13,14,15,16,17,18],786430)] o.ext (fun h=>?_);have G:=o.step (Ext.draw _);refine dr 11 h [0,1,2,3,5,9,10,11,13] ?_;refine dw [0,3,4,14,17,19,25,27] ?_;refine dl h 4 (At.ext (hE.trans o.ext) M) 4 ?_;obtain⟨Y0,f0,d⟩:=bS d;refine dx (hE.trans o.ext) h 6 h6 f0 (fun Q0 u0 Y e0=>?_);obtain⟨E0,N0,r0⟩:=z1h e0;subst r0;refine dl h 7 (At.ext (hE.trans o.ext) Y) 0 ?_;refine dr 7 h [8] ?_;refine dl h 12 (At.ext (hE.trans o.ext) M) 4 ?_;obtain⟨a1,g0,d⟩:=bS d;refine dx (hE.trans o.ext) h 14 h6 g0 (fun R0 v0 Z H=>?_);obtain⟨F0,O0,t0⟩:=z1h H;subst t0;refine dl h 15 (At.ext (hE.trans o.ext) Z) 0 ?_;obtain⟨S0,i0,d⟩:=bS d;refine o1 h 16 (mc h zhc (zam (hE.trans G.ext) H i0) (fun T0 X0 O=>?_));obtain⟨rfl,q⟩:=O;refine⟨q.ext,?_⟩;have X:=G.join q;refine dr 0 h [17,18,19] ?_;refine dw [0,3,4] ?_;refine dd h ?_;refine rg<|rr 3 ?_;refine rn ?_;cases d;exact⟨_,_,rfl,⟨((y.trans (Ext.draw _)).trans q.ext),X,rfl⟩,rfl⟩
    · refine xt ?_;cases d;exact⟨_,_,⟨d0,y,o,rfl⟩,rfl⟩

theorem zm7:Enters Tryz.prog 156:=⟨_,_,Tryz.func156,rfl,by kernel_rfl⟩
def z9p (fuel:Nat) (x0:Bool):Option (Int):=(if x0=true then some 1 else some 0)

theorem zfY {W w:World}(hE:Ext W w){x0:Bool}  {fuel:Nat}{r:Int}(hm:z9p fuel x0=some r):
    Calls Tryz.prog 156 ⟨[.bool x0]⟩ w (Ret fun v w8=>v=.int .i64 r∧St w w8 []):=by
  refine into Tryz.func156 4 _ ?_;unfold z9p at hm;have hS:=St.start w;refine sq<|rg<|rr 1 ?_;refine rn<|sq<|sq<|rg<|rr 1 ?_;refine rn<|ci hm (fun hm=>?_) (fun hm=>?_)
  · refine sq<|rg<|rr 1 ?_;refine rn<|rt ?_;cases hm;exact⟨_,.cons (.tmp rfl) .nil,rfl,hS⟩
  · refine sp<|sq<|rg<|rr 1 ?_;refine rn<|rt ?_;cases hm;exact⟨_,.cons (.tmp rfl) .nil,rfl,hS⟩

theorem zhb:Enters Tryz.prog 146:=⟨_,_,Tryz.func146,rfl,by kernel_rfl⟩
def zaR (fuel:Nat) (t2:Int):Option Int:=some t2
def z6g (fuel:Nat) (x0:(List D.Parcel)) (s1:Int × Int):Option (Rd (Int × Int) (Int) (Int)):=(if(decide (s1.2<(x0.length:Int)))=true then((idx x0 s1.2).bind fun h=>((z9p fuel (h.Kind == 4)).bind fun d=>some (.next (w64 (s1.1+d),w64 (s1.2+1))))) else some (.brk s1.1))
def z6U (fuel:Nat) (x0:(List D.Parcel)):Option (Int):=((iter (z6g fuel x0) fuel (0,0)).bind fun o=>aft o (zaR fuel))

theorem zbC {W w:World}(hE:Ext W w){q:Option Addr}{d0:Nat}{x0:(List D.Parcel)}(g0:z6k.ro W [sl q x0 d0] x0){fuel:Nat}{r:Int}(hm:z6U fuel x0=some r):
    Calls Tryz.prog 146 ⟨[sl q x0 d0]⟩ w (Ret fun v w8=>v=.int .i64 r∧St w w8 []):=by
  refine into Tryz.func146 20 _ ?_;unfold z6U at hm;have hS:=St.start w;refine sq<|rg<|rr 1 ?_;refine rn<|sq<|rg<|rr 1 ?_;refine rn<|sq<|sq<|rg<|rr 3 ?_;refine rn ?_;obtain⟨o5,j0,hm⟩:=bS hm;refine ct (fun(t2:Int) F w9=>o5=.inl t2∧St w w9 []∧F=[(3,.int .i64 t2)]) ?_ ?_
  · rintro t2 F w4 ⟨X,i0,rfl⟩;subst X;rw [z8] at hm;unfold zaR at hm;refine sq<|rg<|rr 2 ?_;refine rn<|rt ?_;cases hm;exact⟨_,.cons (.tmp rfl) .nil,rfl,i0⟩
  · refine bk<|wk [3,6,7,8] ?_;refine it (fun(s1:Int × Int) F w9=>St w w9 []∧F=[(3,.int .i64 s1.1),(6,sl q x0 d0),(7,.int .i64 (x0.length:Int)),(8,.int .i64 s1.2)]) j0 ⟨hS,rfl⟩ ?_;rintro s1 F D0 _ y0 ⟨h,rfl⟩ d Y;unfold z6g at d;refine sq<|rg<|rr 1 ?_;refine rn<|sq<|ci d (fun d=>?_) (fun d=>?_)
    · refine sp<|sq<|bk<|sq<|rg ?_;obtain⟨H0,a0,d⟩:=bS d;refine ix (hE.trans h.ext) g0 a0 (fun A0 f0 S Z=>?_);obtain⟨k0,u0,o0,v0,e0,r0,t0⟩:=zv Z;subst e0;refine lN (At.ext (hE.trans h.ext) S) ?_;refine nw h (fun q0 E0 p0 H=>?_);have M:=H.bring 0 rfl;refine so (A:=[]) M 0 (fun F0 o=>?_);refine rn<|rg<|rr 2 ?_;refine l1 ((o.bring 0 rfl).box) 0 ?_;refine rr 1 ?_;obtain⟨B0,b0,d⟩:=bS d;refine ca zm7 (zfY (hE.trans o.ext)  b0) (fun C0 G0 y=>?_);obtain⟨rfl,G⟩:=y;have O:=o.join G;refine rr 2 ?_;refine rn<|rg<|rr 2 ?_;refine rn ?_;cases d;exact⟨_,_,rfl,⟨(O.taken 0),rfl⟩,rfl⟩
    · refine xt ?_;cases d;exact⟨_,_,⟨Y,h,rfl⟩,rfl⟩

theorem znE:Enters Tryz.prog 82:=⟨_,_,Tryz.func82,rfl,by kernel_rfl⟩
def z7t (fuel:Nat) (d:Int):Option Int:=some d
def z1w (fuel:Nat) (x0:D.Cluster) (d:Int × Int):Option (Rd (Int × Int) (Int) (Int)):=(if(decide (d.2<(x0.Channels.length:Int)))=true then((idx x0.Channels d.2).bind fun h=>((z6U fuel h).bind fun o=>some (.next (w64 (d.1+(w64 ((h.length:Int) - o))),w64 (d.2+1))))) else some (.brk d.1))
def z29 (fuel:Nat) (x0:D.Cluster):Option (Int):=((iter (z1w fuel x0) fuel (0,0)).bind fun o=>aft o (z7t fuel))

theorem zaC {W w:World}(hE:Ext W w){f0:Addr}{e0:List Value}{x0:D.Cluster}(o0:ty40.ro W e0 x0) (k0:At W f0 e0){fuel:Nat}{r:Int}(hm:z29 fuel x0=some r):
    Calls Tryz.prog 82 ⟨[.pointer (some f0)]⟩ w (Ret fun v w8=>v=.int .i64 r∧St w w8 []):=by
  obtain⟨A1,k2,A4,k5,A7,B0,r0,C0,t0,D0,g0,h3,h6,v0,y0,A0⟩:=z1K o0;subst g0;refine into Tryz.func82 24 _ ?_;unfold z29 at hm;have hS:=St.start w;refine sq<|rg<|rr 1 ?_;refine rn<|sq<|rg<|rr 1 ?_;refine rn<|sq<|sq<|rg<|rr 3 ?_;refine l1 (At.ext (hE.trans hS.ext) k0) 4 ?_;refine rr 2 ?_;refine rn ?_;obtain⟨q0,S,hm⟩:=bS hm;refine ct (fun(d0:Int) F w9=>q0=.inl d0∧Ext w w9∧St w w9 []∧F=[(3,.int .i64 d0)]) ?_ ?_
  · rintro d0 F K0 ⟨X,p0,H,rfl⟩;subst X;rw [z8] at hm;unfold z7t at hm;refine sq<|rg<|rr 2 ?_;refine rn<|rt ?_;cases hm;exact⟨_,.cons (.tmp rfl) .nil,rfl,H⟩
  · refine bk<|wk [3,9,10,11] ?_;refine it (fun(b0:Int × Int) F w9=>Ext w w9∧St w w9 []∧F=[(3,.int .i64 b0.1),(9,sl A4 x0.Channels k5),(10,.int .i64 (x0.Channels.length:Int)),(11,.int .i64 b0.2)]) S ⟨(Ext.refl _),hS,rfl⟩ ?_;rintro b0 F L0 _ F0 ⟨o,h,rfl⟩ d Y;unfold z1w at d;refine sq<|rg<|rr 1 ?_;refine rn<|sq<|ci d (fun d=>?_) (fun d=>?_)
    · refine sp<|sq<|bk<|sq<|rg ?_;obtain⟨N0,Z,d⟩:=bS d;refine ix (hE.trans h.ext) h6 Z (fun G0 j0 O y=>?_);obtain⟨u0,E0,i0⟩:=z1h y;subst i0;refine l1 (At.ext (hE.trans h.ext) O) 0 ?_;refine rr 1 ?_;refine rn<|rg<|rr 4 ?_;obtain⟨H0,a0,d⟩:=bS d;refine ca zhb (zbC (hE.trans h.ext) y a0) (fun J0 M0 G=>?_);obtain⟨rfl,q⟩:=G;have M:=h.join q;refine rr 3 ?_;refine rn<|rg<|rr 2 ?_;refine rn ?_;cases d;exact⟨_,_,rfl,⟨(o.trans q.ext),M,rfl⟩,rfl⟩
    · refine xt ?_;cases d;exact⟨_,_,⟨Y,o,h,rfl⟩,rfl⟩

end Go.E


namespace Go.E
open Go.RowKit Go.Proofs
set_option linter.unusedVariables false
set_option linter.unusedSimpArgs false
set_option maxHeartbeats 2000000
set_option maxRecDepth 100000

theorem zm6:Enters Tryz.prog 157:=⟨_,_,Tryz.func157,rfl,by kernel_rfl⟩
def z98 (fuel:Nat) (x0:D.Cluster) (x1:Int):Option (Int):=((idx x0.Sent x1).bind fun d=>((idx x0.Got x1).bind fun h=>some (w64 (d - h))))

theorem ze4 {W w:World}(hE:Ext W w){X:Addr}{O:List Value}{x0:D.Cluster}{x1:Int}(b0:ty40.ro W O x0) (S:At W X O){fuel:Nat}{r:Int}(hm:z98 fuel x0 x1=some r):
    Calls Tryz.prog 157 ⟨[.pointer (some X),.int .i64 x1]⟩ w (Ret fun v w8=>v=.int .i64 r∧St w w8 []):=by
  obtain⟨A1,k2,A4,k5,A7,j0,f0,k0,g0,o0,Y,h3,h6,i0,d0,e0⟩:=z1K b0;subst Y;refine into Tryz.func157 20 _ ?_;unfold z98 at hm;have hS:=St.start w;refine sq<|rg<|rr 1 ?_;refine rn<|sq<|dn 0 mixed 16 [([],65535),([0],65534),([1],65533),([2],65531),([],65535),([3,4],65511),([5],65503),([],65535),([7],65407),([8],65279),([9],65023),([],65535),([10,11],62463),([12],61439),([6,13],57279),([14,0,1,2,3,4,5,6,7,8,9,10,11,12,13,14],49151)] hS.ext (fun d=>?_);have h:=hS.step (Ext.draw _);refine dr 8 d [0,1,2,4,7,8,9,11] ?_;refine dw [4,7,9,14,16] ?_;refine dl d 3 (At.ext (hE.trans hS.ext) S) 6 ?_;obtain⟨r0,H,hm⟩:=bS hm;refine dx (hE.trans hS.ext) d 5 d0 H (fun p0 Z o y=>?_);cases y;refine dl d 6 (At.ext (hE.trans hS.ext) o) 0 ?_;refine dl d 10 (At.ext (hE.trans hS.ext) S) 7 ?_;obtain⟨t0,M,hm⟩:=bS hm;refine dx (hE.trans hS.ext) d 12 e0 M (fun q0 a0 q G=>?_);cases G;refine dl d 13 (At.ext (hE.trans hS.ext) q) 0 ?_;refine dr 0 d [14,15] ?_;refine dw [4] ?_;refine dd d ?_;refine rt ?_;cases hm;exact⟨_,.cons (.tmp rfl) .nil,rfl,h⟩

theorem zmB:Enters Tryz.prog 104:=⟨_,_,Tryz.func104,rfl,by kernel_rfl⟩
def z86 (fuel:Nat) (x0:D.Cluster) (h:Int) (o:Unit):Option Bool:=((z5S fuel x0).bind fun d=>some (h == d))
def z49 (fuel:Nat) (x0:D.Cluster) (d:Int):Option (Rd (Int) (Unit) (Bool)):=(if(decide (d<(x0.Channels.length:Int)))=true then((idx x0.Channels d).bind fun o=>((z42 fuel o).bind fun h=>(if(decide (h>0))=true then some (.ret false) else some (.next (w64 (d+1)))))) else some (.brk ()))
def z87 (fuel:Nat) (x0:D.Cluster) (d:Int):Option Bool:=((iter (z49 fuel x0) fuel 0).bind fun o=>aft o (z86 fuel x0 d))
def z2J (fuel:Nat) (x0:D.Cluster) (d:Int × Int):Option (Rd (Int × Int) (Int) (Bool)):=(if(decide (d.2<(x0.Sent.length:Int)))=true then((z98 fuel x0 d.2).bind fun h=>some (.next (w64 (d.1+h),w64 (d.2+1)))) else some (.brk d.1))
def z6B (fuel:Nat) (x0:D.Cluster):Option (Bool):=((iter (z2J fuel x0) fuel (0,0)).bind fun o=>aft o (z87 fuel x0))

theorem zcU {W w:World}(hE:Ext W w){y:Addr}{E0:List Value}{x0:D.Cluster}(d0:ty40.ro W E0 x0) (G:At W y E0){fuel:Nat}{r:Bool}(hm:z6B fuel x0=some r):
    Calls Tryz.prog 104 ⟨[.pointer (some y)]⟩ w (Ret fun v w8=>v=.bool r∧St w w8 []):=by
  obtain⟨A1,k2,A4,k5,A7,X0,Q0,Y0,R0,a1,J0,h3,h6,T0,U0,V0⟩:=z1K d0;subst J0;refine into Tryz.func104 42 _ ?_;unfold z6B at hm;have hS:=St.start w;refine sq<|rg<|rr 1 ?_;refine rn<|sq<|rg<|rr 1 ?_;refine rn<|sq<|sq<|rg<|rr 1 ?_;refine rn ?_;obtain⟨O0,q0,hm⟩:=bS hm;refine ct (fun(b0:Int) F w9=>O0=.inl b0∧Ext w w9∧St w w9 []∧F=[(0,.pointer (some y)),(3,.int .i64 b0)]) ?_ ?_
  · rintro b0 F H0 ⟨t0,M0,j0,rfl⟩;subst t0;rw [z8] at hm;unfold z87 at hm;refine sq<|sq<|rg<|rr 1 ?_;refine rn ?_;obtain⟨P0,r0,hm⟩:=bS hm;refine ct (fun(G0:Unit) F w9=>P0=.inl G0∧Ext H0 w9∧St w w9 []∧F=[(0,.pointer (some y)),(3,.int .i64 b0)]) ?_ ?_
    · rintro G0 F s1 ⟨u0,N0,X,rfl⟩;subst u0;rw [z8] at hm;unfold z86 at hm;refine sq<|rg<|rr 2 ?_;obtain⟨g1,y0,hm⟩:=bS hm;refine ca znF (zco (hE.trans X.ext) d0 G y0) (fun m1 t1 e0=>?_);obtain⟨rfl,f0⟩:=e0;have k0:=X.join f0;refine rr 2 ?_;refine rn<|rt ?_;cases hm;exact⟨_,.cons (.tmp rfl) .nil,rfl,k0⟩
    · refine bk<|wk [0,3,5] ?_;refine it (fun(F0:Int) F w9=>Ext H0 w9∧St w w9 []∧F=[(0,.pointer (some y)),(3,.int .i64 b0),(5,.int .i64 F0)]) r0 ⟨(Ext.refl _),j0,rfl⟩ ?_;rintro F0 F u1 _ d1 ⟨M,o,rfl⟩ d Z;unfold z49 at d;refine sq<|sq<|rg<|rr 4 ?_;refine l1 (At.ext (hE.trans o.ext) G) 4 ?_;refine rr 2 ?_;refine rn<|ci d (fun d=>?_) (fun d=>?_)
      · refine sp<|sq<|bk<|sq<|rg<|rr 3 ?_;refine l1 (At.ext (hE.trans o.ext) G) 4 ?_;refine rr 1 ?_;obtain⟨C1,A0,d⟩:=bS d;refine ix (hE.trans o.ext) h6 A0 (fun f1 L0 p0 a0=>?_);obtain⟨S0,b1,K0⟩:=z1h a0;subst K0;refine l1 (At.ext (hE.trans o.ext) p0) 0 ?_;obtain⟨i1,B0,d⟩:=bS d;refine ca zhc (zam (hE.trans o.ext) a0 B0) (fun n1 v1 g0=>?_);obtain⟨rfl,O⟩:=g0;have Y:=o.join O;refine rr 1 ?_;refine rn<|ci d (fun d=>?_) (fun d=>?_)
        · refine sq<|rg<|rr 1 ?_;refine rn<|rt ?_;cases d;cases Z;have hm:some _=some _:=hm;cases hm;exact⟨_,.cons (.tmp rfl) .nil,rfl,Y⟩
        · refine sp<|rg<|rr 3 ?_;refine rn ?_;cases d;exact⟨_,_,rfl,⟨(M.trans O.ext),Y,rfl⟩,rfl⟩
      · refine xt ?_;cases d;exact⟨_,_,⟨Z,M,o,rfl⟩,rfl⟩
  · refine bk<|wk [0,3,4] ?_;refine it (fun(D0:Int × Int) F w9=>Ext w w9∧St w w9 []∧F=[(0,.pointer (some y)),(3,.int .i64 D0.1),(4,.int .i64 D0.2)]) q0 ⟨(Ext.refl _),hS,rfl⟩ ?_;rintro D0 F y1 _ e1 ⟨H,q,rfl⟩ h v0;unfold z2J at h;refine sq<|sq<|rg<|rr 4 ?_;refine l1 (At.ext (hE.trans q.ext) G) 6 ?_;refine rr 2 ?_;refine rn<|ci h (fun h=>?_) (fun h=>?_)
    · refine sp<|sq<|bk<|rg<|rr 3 ?_;obtain⟨j1,C0,h⟩:=bS h;refine ca zm6 (ze4 (hE.trans q.ext) d0 G C0) (fun p1 B1 i0=>?_);obtain⟨rfl,S⟩:=i0;have o0:=q.join S;refine rr 2 ?_;refine rn<|rg<|rr 3 ?_;refine rn ?_;cases h;exact⟨_,_,rfl,⟨(H.trans S.ext),o0,rfl⟩,rfl⟩
    · refine xt ?_;cases h;exact⟨_,_,⟨v0,H,q,rfl⟩,rfl⟩

theorem zka:Enters Tryz.prog 241:=⟨_,_,Tryz.func241,rfl,by kernel_rfl⟩
def zU (fuel:Nat) (t2:Unit):Option Int:=some (-1)
def zf (fuel:Nat) (x0:(List (List D.Parcel))) (x1:(List D.Parcel)→Option Bool) (s1:Int):Option (Rd (Int) (Unit) (Int)):=(if(decide (s1<(x0.length:Int)))=true then((idx x0 s1).bind fun h=>((x1 h).bind fun d=>(if d=true then some (.ret s1) else some (.next (w64 (s1+1)))))) else some (.brk ()))
def zy (fuel:Nat) (x0:(List (List D.Parcel))) (x1:(List D.Parcel)→Option Bool):Option (Int):=((iter (zf fuel x0 x1) fuel 0).bind fun o=>aft o (zU fuel))

theorem z4V {W w:World}(hE:Ext W w){H:Option Addr}{b0:Nat}{x0:(List (List D.Parcel))}{f1_:Nat}{u1_:List Value}{x1:(List D.Parcel)→Option Bool}(i0:ty38.ro W [sl H x0 b0] x0) (d0:Enters Tryz.prog f1_∧∀ {w9:World},Ext W w9→∀ {Az0:Option Addr}{kz0:Nat}{z0:(List D.Parcel)}{y9:Bool},z6k.ro w9 [sl Az0 z0 kz0] z0→x1 z0=some y9→Calls Tryz.prog f1_ ⟨[sl Az0 z0 kz0]++u1_⟩ w9 (Ret fun v w8=>v=.bool y9∧St w9 w8 [])){fuel:Nat}{r:Int}(hm:zy fuel x0 x1=some r):
    Calls Tryz.prog 241 ⟨[sl H x0 b0,.func (.func f1_) #[] ⟨u1_⟩]⟩ w (Ret fun v w8=>v=.int .i64 r∧St w w8 []):=by
  refine into Tryz.func241 19 _ ?_;unfold zy at hm;have hS:=St.start w;refine sq<|rg<|rr 1 ?_;refine rn<|sq<|sq<|rg<|rr 3 ?_;refine rn ?_;obtain⟨j0,X,hm⟩:=bS hm;refine ct (fun(t2:Unit) F w9=>j0=.inl t2∧Ext w w9∧St w w9 []∧F=[]) ?_ ?_
  · rintro t2 F w7 ⟨Y,o0,O,rfl⟩;subst Y;rw [z8] at hm;unfold zU at hm;refine sq<|rg<|rr 1 ?_;refine rn<|rt ?_;cases hm;exact⟨_,.cons (.tmp rfl) .nil,rfl,O⟩
  · refine bk<|wk [0,1,7,8] ?_;refine it (fun(s1:Int) F w9=>Ext w w9∧St w w9 []∧F=[(0,sl H x0 b0),(1,.func (.func f1_) #[] ⟨u1_⟩),(7,.int .i64 (x0.length:Int)),(8,.int .i64 s1)]) X ⟨(Ext.refl _),hS,rfl⟩ ?_;rintro s1 F v0 _ q0 ⟨e0,h,rfl⟩ d y;unfold zf at d;refine sq<|rg<|rr 1 ?_;refine rn<|sq<|ci d (fun d=>?_) (fun d=>?_)
    · refine sp<|sq<|bk<|sq<|rg<|rr 2 ?_;refine rn<|sq<|rg<|rr 3 ?_;obtain⟨A0,Z,d⟩:=bS d;refine ix (hE.trans h.ext) i0 Z (fun r0 g0 S G=>?_);obtain⟨k0,p0,f0⟩:=z1h G;subst f0;refine l1 (At.ext (hE.trans h.ext) S) 0 ?_;obtain⟨t0,a0,d⟩:=bS d;refine ca d0.1 (d0.2 (hE.trans h.ext) (z6k.ext (hE.trans h.ext) G) a0) (fun u0 y0 M=>?_);obtain⟨rfl,o⟩:=M;have q:=h.join o;refine rn<|ci d (fun d=>?_) (fun d=>?_)
      · refine sq<|rg<|rr 2 ?_;refine rn<|rt ?_;cases d;cases y;have hm:some _=some _:=hm;cases hm;exact⟨_,.cons (.tmp rfl) .nil,rfl,q⟩
      · refine sp<|rg<|rr 2 ?_;refine rn ?_;cases d;exact⟨_,_,rfl,⟨(e0.trans o.ext),q,rfl⟩,rfl⟩
    · refine xt ?_;cases d;exact⟨_,_,⟨y,e0,h,rfl⟩,rfl⟩

theorem zkC:Enters Tryz.prog 203:=⟨_,_,Tryz.func203,rfl,by kernel_rfl⟩
def zg (fuel:Nat) (x0:(List (List D.Parcel))) (x1:(List D.Parcel)→Option Bool):Option (Bool):=((zy fuel x0 x1).bind fun r1=>some (decide (r1≥0)))

theorem z47 {W w:World}(hE:Ext W w){d:Option Addr}{h:Nat}{x0:(List (List D.Parcel))}{f1_:Nat}{u1_:List Value}{x1:(List D.Parcel)→Option Bool}(o:ty38.ro W [sl d x0 h] x0) (q:Enters Tryz.prog f1_∧∀ {w9:World},Ext W w9→∀ {Az0:Option Addr}{kz0:Nat}{z0:(List D.Parcel)}{y9:Bool},z6k.ro w9 [sl Az0 z0 kz0] z0→x1 z0=some y9→Calls Tryz.prog f1_ ⟨[sl Az0 z0 kz0]++u1_⟩ w9 (Ret fun v w8=>v=.bool y9∧St w9 w8 [])){fuel:Nat}{r:Bool}(hm:zg fuel x0 x1=some r):
    Calls Tryz.prog 203 ⟨[sl d x0 h,.func (.func f1_) #[] ⟨u1_⟩]⟩ w (Ret fun v w8=>v=.bool r∧St w w8 []):=by
  refine into Tryz.func203 9 _ ?_;unfold zg at hm;have hS:=St.start w;refine sq<|rg<|rr 1 ?_;refine rn<|sq<|rg<|rr 2 ?_;obtain⟨r1,M,hm⟩:=bS hm;refine ca zka (z4V (hE.trans hS.ext) o q M) (fun v3 w4 y=>?_);obtain⟨rfl,G⟩:=y;have H:=hS.join G;refine rr 2 ?_;refine rn<|rt ?_;cases hm;exact⟨_,.cons (.tmp rfl) .nil,rfl,H⟩

theorem zkB:Enters Tryz.prog 204:=⟨_,_,Tryz.func204,rfl,by kernel_rfl⟩
def z2a (fuel:Nat) (x0:(List D.Parcel)):Option (Bool):=((z6U fuel x0).bind fun r1=>some (decide (r1>0)))

theorem z9x {W w:World}(hE:Ext W w){d:Option Addr}{h:Nat}{x0:(List D.Parcel)}(o:z6k.ro W [sl d x0 h] x0){fuel:Nat}{r:Bool}(hm:z2a fuel x0=some r):
    Calls Tryz.prog 204 ⟨[sl d x0 h]⟩ w (Ret fun v w8=>v=.bool r∧St w w8 []):=by
  refine into Tryz.func204 6 _ ?_;unfold z2a at hm;have hS:=St.start w;refine sq<|rg<|rr 1 ?_;refine rn<|sq<|rg<|rr 1 ?_;obtain⟨r1,H,hm⟩:=bS hm;refine ca zhb (zbC (hE.trans hS.ext) o H) (fun v3 w4 q=>?_);obtain⟨rfl,y⟩:=q;have G:=hS.join y;refine rr 2 ?_;refine rn<|rt ?_;cases hm;exact⟨_,.cons (.tmp rfl) .nil,rfl,G⟩

theorem zm8:Enters Tryz.prog 150:=⟨_,_,Tryz.func150,rfl,by kernel_rfl⟩
def z2W (fuel:Nat) (x0:D.Cluster):Option (Bool):=((zg fuel x0.Channels (fun y0=>z2a fuel y0)).bind fun d=>some d)

theorem zaj {W w:World}(hE:Ext W w){H:Addr}{G:List Value}{x0:D.Cluster}(S:ty40.ro W G x0) (O:At W H G){fuel:Nat}{r:Bool}(hm:z2W fuel x0=some r):
    Calls Tryz.prog 150 ⟨[.pointer (some H)]⟩ w (Ret fun v w8=>v=.bool r∧St w w8 []):=by
  obtain⟨A1,k2,A4,k5,A7,e0,Y,f0,Z,g0,M,h3,h6,a0,b0,d0⟩:=z1K S;subst M;refine into Tryz.func150 8 _ ?_;unfold z2W at hm;have hS:=St.start w;refine sq<|rg<|rr 1 ?_;refine rn<|sq<|rg<|rr 3 ?_;refine l1 (At.ext (hE.trans hS.ext) O) 4 ?_;obtain⟨i0,y,hm⟩:=bS hm;refine ca zkC (z47 (hE.trans hS.ext) h6 ⟨zkB,fun e9=>(fun d X=>z9x (Ext.refl _) d X)⟩ y) (fun j0 k0 h=>?_);obtain⟨rfl,o⟩:=h;have q:=hS.join o;refine rr 1 ?_;refine rn<|rt ?_;cases hm;exact⟨_,.cons (.tmp rfl) .nil,rfl,q⟩

theorem zha:Enters Tryz.prog 151:=⟨_,_,Tryz.func151,rfl,by kernel_rfl⟩
def zcz (fuel:Nat) (t2:Int):Option Int:=some t2
def z8L (fuel:Nat) (x0:(List Int)) (s1:Int × Int):Option (Rd (Int × Int) (Int) (Int)):=(if(decide (s1.2<(x0.length:Int)))=true then((idx x0 s1.2).bind fun d=>some (.next (w64 (s1.1+d),w64 (s1.2+1)))) else some (.brk s1.1))
def z9U (fuel:Nat) (x0:(List Int)):Option (Int):=((iter (z8L fuel x0) fuel (0,0)).bind fun o=>aft o (zcz fuel))

theorem zem {W w:World}(hE:Ext W w){o:Option Addr}{X:Nat}{x0:(List Int)}(a0:ty29.ro W [sl o x0 X] x0){fuel:Nat}{r:Int}(hm:z9U fuel x0=some r):
    Calls Tryz.prog 151 ⟨[sl o x0 X]⟩ w (Ret fun v w8=>v=.int .i64 r∧St w w8 []):=by
  refine into Tryz.func151 17 _ ?_;unfold z9U at hm;have hS:=St.start w;refine sq<|rg<|rr 1 ?_;refine rn<|sq<|rg<|rr 1 ?_;refine rn<|sq<|sq<|rg<|rr 3 ?_;refine rn ?_;obtain⟨b0,G,hm⟩:=bS hm;refine ct (fun(t2:Int) F w9=>b0=.inl t2∧Ext w w9∧St w w9 []∧F=[(3,.int .i64 t2)]) ?_ ?_
  · rintro t2 F w7 ⟨H,d0,q,rfl⟩;subst H;rw [z8] at hm;unfold zcz at hm;refine sq<|rg<|rr 2 ?_;refine rn<|rt ?_;cases hm;exact⟨_,.cons (.tmp rfl) .nil,rfl,q⟩
  · refine bk<|wk [3,6,7,8] ?_;refine it (fun(s1:Int × Int) F w9=>Ext w w9∧St w w9 []∧F=[(3,.int .i64 s1.1),(6,sl o x0 X),(7,.int .i64 (x0.length:Int)),(8,.int .i64 s1.2)]) G ⟨(Ext.refl _),hS,rfl⟩ ?_;rintro s1 F g0 _ e0 ⟨Y,h,rfl⟩ d M;unfold z8L at d;refine sq<|rg<|rr 1 ?_;refine rn<|sq<|ci d (fun d=>?_) (fun d=>?_)
    · refine sp<|sq<|bk<|sq<|rg ?_;obtain⟨i0,S,d⟩:=bS d;refine ix (hE.trans h.ext) a0 S (fun f0 Z y O=>?_);cases O;refine l1 (At.ext (hE.trans h.ext) y) 0 ?_;refine rr 1 ?_;refine rn<|rg<|rr 4 ?_;refine rn<|rg<|rr 2 ?_;refine rn ?_;cases d;exact⟨_,_,rfl,⟨Y,h,rfl⟩,rfl⟩
    · refine xt ?_;cases d;exact⟨_,_,⟨M,Y,h,rfl⟩,rfl⟩

theorem znA:Enters Tryz.prog 90:=⟨_,_,Tryz.func90,rfl,by kernel_rfl⟩
def z2s (fuel:Nat) (x0:D.Cluster):Option (Bool):=((z2W fuel x0).bind fun d=>(if(!d)=true then((z9U fuel x0.Sent).bind fun h=>((z9U fuel x0.Got).bind fun o=>((z29 fuel x0).bind fun q=>some ((w64 (h - o)) == q)))) else some false))

theorem zaS {W w:World}(hE:Ext W w){k0:Addr}{j0:List Value}{x0:D.Cluster}(X:ty40.ro W j0 x0) (S:At W k0 j0){fuel:Nat}{r:Bool}(hm:z2s fuel x0=some r):
    Calls Tryz.prog 90 ⟨[.pointer (some k0)]⟩ w (Ret fun v w8=>v=.bool r∧St w w8 []):=by
  obtain⟨A1,k2,A4,k5,A7,v0,r0,y0,t0,A0,o0,h3,h6,u0,p0,q0⟩:=z1K X;subst o0;refine into Tryz.func90 22 _ ?_;unfold z2s at hm;have hS:=St.start w;refine sq<|rg<|rr 1 ?_;refine rn<|sq<|dn 0 mixed 20 [([],1048575),([0],1048574),([1],1048573),([2,1],1048571),([3],1048567),([4,3],1048551),([5,3],1048535),([6,3],1048503),([7,3,3],1048439),([3],1048567),([9,3],1048055),([10,3],1047543),([11,3],1046519),([12,8,3],1044471),([8,13,3],1040119),([3],1048567),([15,13,3],1015799),([14,16,3],966647),([3,17],917495),([18,16,0,1,2,3,4,5,6,7,8,9,10,11,12,13,14,15,16,17,18],786431)] hS.ext (fun d=>?_);have H:=hS.step (Ext.draw _);refine dr 19 d [0] ?_;obtain⟨B0,e0,hm⟩:=bS hm;refine o1 d 1 (mc d zm8 (zaj (hE.trans H.ext) X S e0) (fun F0 K0 Y=>?_));obtain⟨rfl,o⟩:=Y;refine⟨o.ext,?_⟩;have h:=H.join o;refine dr 16 d [2,3] ?_;refine db 6 hm (fun hm=>?_) (fun hm=>?_)
  · refine dr 9 d [4,5,6,9,10,11,15] ?_;refine dw [2,6,9,14,18] ?_;refine dl d 7 (At.ext (hE.trans hS.ext) S) 6 ?_;refine dl d 12 (At.ext (hE.trans hS.ext) S) 7 ?_;obtain⟨C0,f0,hm⟩:=bS hm;refine o1 d 8 (mc d zha (zem (hE.trans h.ext) p0 f0) (fun G0 L0 Z=>?_));obtain⟨rfl,q⟩:=Z;refine⟨q.ext,?_⟩;have M:=h.join q;obtain⟨D0,g0,hm⟩:=bS hm;refine o1 d 13 (mc d zha (zem (hE.trans M.ext) q0 g0) (fun H0 M0 a0=>?_));obtain⟨rfl,y⟩:=a0;refine⟨y.ext,?_⟩;have O:=M.join y;refine dr 4 d [14] ?_;refine dw [2,6,17,18] ?_;obtain⟨E0,i0,hm⟩:=bS hm;refine o1 d 16 (mc d znE (zaC (hE.trans O.ext) X S i0) (fun J0 N0 b0=>?_));obtain⟨rfl,G⟩:=b0;refine⟨G.ext,?_⟩;have d0:=O.join G;refine dr 0 d [17,18,19] ?_;refine dw [2] ?_;refine dd d ?_;refine rt ?_;cases hm;exact⟨_,.cons (.tmp rfl) .nil,rfl,d0⟩
  · refine dr 0 d [4,5,6,7,8,9,10,11,12,13,14,15,16,17,18,19] ?_;refine dw [2] ?_;refine dd d ?_;refine rt ?_;cases hm;exact⟨_,.cons (.tmp rfl) .nil,rfl,h⟩

theorem znz:Enters Tryz.prog 92:=⟨_,_,Tryz.func92,rfl,by kernel_rfl⟩
def zaQ (fuel:Nat) (t2:Unit):Option Bool:=some true
def z7E (fuel:Nat) (x0:(List Bool)) (x1:(List Bool)) (s1:Int):Option (Rd (Int) (Unit) (Bool)):=(if(decide (s1<(x0.length:Int)))=true then((idx x0 s1).bind fun d=>((idx x1 s1).bind fun h=>(if(!(d == h))=true then some (.ret false) else some (.next (w64 (s1+1)))))) else some (.brk ()))
def z7V (fuel:Nat) (x0:(List Bool)) (x1:(List Bool)):Option (Bool):=(if((x0.length:Int) != (x1.length:Int))=true then some false else((iter (z7E fuel x0 x1) fuel 0).bind fun o=>aft o (zaQ fuel)))

theorem laws_eqBoolS_ok {W w:World}(hE:Ext W w){G:Option Addr}{e0:Nat}{x0:(List Bool)}{H:Option Addr}{f0:Nat}{x1:(List Bool)}(k0:ty56.ro W [sl G x0 e0] x0) (o0:ty56.ro W [sl H x1 f0] x1){fuel:Nat}{r:Bool}(hm:z7V fuel x0 x1=some r):
    Calls Tryz.prog 92 ⟨[sl G x0 e0,sl H x1 f0]⟩ w (Ret fun v w8=>v=.bool r∧St w w8 []):=by
  refine into Tryz.func92 26 _ ?_;unfold z7V at hm;have hS:=St.start w;refine sq<|rg<|rr 1 ?_;refine rn<|sq<|sq<|rg<|rr 5 ?_;refine rn<|ci hm (fun hm=>?_) (fun hm=>?_)
  · refine sq<|rg<|rr 1 ?_;refine rn<|rt ?_;cases hm;exact⟨_,.cons (.tmp rfl) .nil,rfl,hS⟩
  · refine sp<|sq<|sq<|rg<|rr 1 ?_;refine rn ?_;obtain⟨p0,X,hm⟩:=bS hm;refine ct (fun(t2:Unit) F w9=>p0=.inl t2∧Ext w w9∧St w w9 []∧F=[]) ?_ ?_
    · rintro t2 F w7 ⟨Y,q0,M,rfl⟩;subst Y;rw [z8] at hm;unfold zaQ at hm;refine sq<|rg<|rr 1 ?_;refine rn<|rt ?_;cases hm;exact⟨_,.cons (.tmp rfl) .nil,rfl,M⟩
    · refine bk<|wk [0,1,5] ?_;refine it (fun(s1:Int) F w9=>Ext w w9∧St w w9 []∧F=[(0,sl G x0 e0),(1,sl H x1 f0),(5,.int .i64 s1)]) X ⟨(Ext.refl _),hS,rfl⟩ ?_;rintro s1 F v0 _ r0 ⟨g0,h,rfl⟩ d y;unfold z7E at d;refine sq<|sq<|rg<|rr 4 ?_;refine rn<|ci d (fun d=>?_) (fun d=>?_)
      · refine sp<|sq<|bk<|sq<|dn 0 mixed 9 [([],511),([],511),([0,1],508),([2],507),([],511),([],511),([4,5],463),([6],447),([3,7],375)] h.ext (fun o=>?_);have q:=h.step (Ext.draw _);refine dr 5 o [0,1,4,5] ?_;obtain⟨y0,b0,d⟩:=bS d;refine dx (hE.trans h.ext) o 2 k0 b0 (fun t0 i0 O Z=>?_);cases Z;refine dl o 3 (At.ext (hE.trans h.ext) O) 0 ?_;obtain⟨A0,d0,d⟩:=bS d;refine dx (hE.trans h.ext) o 6 o0 d0 (fun u0 j0 S a0=>?_);cases a0;refine dl o 7 (At.ext (hE.trans h.ext) S) 0 ?_;refine dr 0 o [8] ?_;refine dw [0,1,5,25] ?_;refine dd o ?_;refine ci d (fun d=>?_) (fun d=>?_)
        · refine sq<|rg<|rr 1 ?_;refine rn<|rt ?_;cases d;cases y;have hm:some _=some _:=hm;cases hm;exact⟨_,.cons (.tmp rfl) .nil,rfl,q⟩
        · refine sp<|rg<|rr 3 ?_;refine rn ?_;cases d;exact⟨_,_,rfl,⟨(g0.trans (Ext.draw _)),q,rfl⟩,rfl⟩
      · refine xt ?_;cases d;exact⟨_,_,⟨y,g0,h,rfl⟩,rfl⟩

theorem zg6:Enters Tryz.prog 39:=⟨_,_,Tryz.func39,rfl,by kernel_rfl⟩
def z2O (fuel:Nat) (x0:D.Detector) (x1:D.Detector):Option (Bool):=((z4T fuel x0.Cluster x1.Cluster).bind fun d=>(if(!d)=true then some false else(if(x0.Holder != x1.Holder)=true then some false else(if(x0.Count != x1.Count)=true then some false else(if(!(x0.Dark == x1.Dark))=true then some false else((z7V fuel x0.Stained x1.Stained).bind fun h=>(if(!h)=true then some false else(if(x0.Rounds != x1.Rounds)=true then some false else(if(!(x0.Announced == x1.Announced))=true then some false else some true)))))))))

theorem laws_eqDetector_ok {W w:World}(hE:Ext W w){X:List Value}{x0:D.Detector}{Y:List Value}{x1:D.Detector}(b0:ty62.ro W X x0) (g0:ty62.ro W Y x1){fuel:Nat}{r:Bool}(hm:z2O fuel x0 x1=some r):
    Calls Tryz.prog 39 ⟨[.agg ⟨X⟩,.agg ⟨Y⟩]⟩ w (Ret fun v w8=>v=.bool r∧St w w8 []):=by
  obtain⟨A1,k2,A4,k5,A7,K0,t0,L0,u0,M0,v0,N0,Z,h3,h6,d0,e0,f0,i0⟩:=zdO b0;subst Z;obtain⟨y0,O0,A0,P0,B0,Q0,C0,R0,D0,S0,E0,T0,a0,j0,k0,o0,p0,q0,r0⟩:=zdO g0;subst a0;refine into Tryz.func39 42 _ ?_;unfold z2O at hm;have hS:=St.start w;refine sq<|rg<|nw hS (fun H0 a1 F0 M=>?_);refine nw M (fun J0 b1 G0 o=>?_);refine rr 1 ?_;refine rn<|sq<|sq<|rg<|rr 1 ?_;refine lN (At.sub ((o.bring 1 rfl).box) 0 8) ?_;refine rr 1 ?_;refine lN (At.sub ((o.bring 0 rfl).box) 0 8) ?_;obtain⟨U0,O,hm⟩:=bS hm;refine ca zig (laws_eqCluster_ok (hE.trans o.ext) (z8p x0.Cluster h3 h6 d0 e0 f0) (z8p x1.Cluster j0 k0 o0 p0 q0) O) (fun X0 d1 q=>?_);obtain⟨rfl,y⟩:=q;have d:=o.join y;refine rr 1 ?_;refine rn<|ci hm (fun hm=>?_) (fun hm=>?_)
  · refine sq<|rg<|rr 1 ?_;refine rn<|rt ?_;cases hm;exact⟨_,.cons (.tmp rfl) .nil,rfl,(d.taken 0)⟩
  · refine sp<|sq<|sq<|rg<|rr 1 ?_;refine l1 ((d.bring 1 rfl).box) 8 ?_;refine rr 1 ?_;refine l1 ((d.bring 0 rfl).box) 8 ?_;refine rr 1 ?_;refine rn<|ci hm (fun hm=>?_) (fun hm=>?_)
    · refine sq<|rg<|rr 1 ?_;refine rn<|rt ?_;cases hm;exact⟨_,.cons (.tmp rfl) .nil,rfl,(d.taken 0)⟩
    · refine sp<|sq<|sq<|rg<|rr 1 ?_;refine l1 ((d.bring 1 rfl).box) 9 ?_;refine rr 1 ?_;refine l1 ((d.bring 0 rfl).box) 9 ?_;refine rr 1 ?_;refine rn<|ci hm (fun hm=>?_) (fun hm=>?_)
      · refine sq<|rg<|rr 1 ?_;refine rn<|rt ?_;cases hm;exact⟨_,.cons (.tmp rfl) .nil,rfl,(d.taken 0)⟩
      · refine sp<|sq<|sq<|rg<|rr 1 ?_;refine l1 ((d.bring 1 rfl).box) 10 ?_;refine rr 1 ?_;refine l1 ((d.bring 0 rfl).box) 10 ?_;refine rr 1 ?_;refine rn<|ci hm (fun hm=>?_) (fun hm=>?_)
        · refine sq<|rg<|rr 1 ?_;refine rn<|rt ?_;cases hm;exact⟨_,.cons (.tmp rfl) .nil,rfl,(d.taken 0)⟩
        · refine sp<|sq<|sq<|rg<|rr 1 ?_;refine l1 ((d.bring 1 rfl).box) 11 ?_;refine rr 1 ?_;refine l1 ((d.bring 0 rfl).box) 11 ?_;obtain⟨V0,S,hm⟩:=bS hm;refine ca znz (laws_eqBoolS_ok (hE.trans d.ext) i0 r0 S) (fun Y0 e1 G=>?_);obtain⟨rfl,H⟩:=G;have h:=d.join H;refine rr 1 ?_;refine rn<|ci hm (fun hm=>?_) (fun hm=>?_)
          · refine sq<|rg<|rr 1 ?_;refine rn<|rt ?_;cases hm;exact⟨_,.cons (.tmp rfl) .nil,rfl,(h.taken 0)⟩
          · refine sp<|sq<|sq<|rg<|rr 1 ?_;refine l1 ((h.bring 1 rfl).box) 12 ?_;refine rr 1 ?_;refine l1 ((h.bring 0 rfl).box) 12 ?_;refine rr 1 ?_;refine rn<|ci hm (fun hm=>?_) (fun hm=>?_)
            · refine sq<|rg<|rr 1 ?_;refine rn<|rt ?_;cases hm;exact⟨_,.cons (.tmp rfl) .nil,rfl,(h.taken 0)⟩
            · refine sp<|sq<|sq<|rg<|rr 1 ?_;refine l1 ((h.bring 1 rfl).box) 13 ?_;refine rr 1 ?_;refine l1 ((h.bring 0 rfl).box) 13 ?_;refine rr 1 ?_;refine rn<|ci hm (fun hm=>?_) (fun hm=>?_)
              · refine sq<|rg<|rr 1 ?_;refine rn<|rt ?_;cases hm;exact⟨_,.cons (.tmp rfl) .nil,rfl,(h.taken 0)⟩
              · refine sp<|sq<|rg<|rr 1 ?_;refine rn<|rt ?_;cases hm;exact⟨_,.cons (.tmp rfl) .nil,rfl,(h.taken 0)⟩

end Go.E


namespace Go.E
open Go.RowKit Go.Proofs
set_option linter.unusedSimpArgs false
set_option linter.unusedVariables false

theorem z9T {fuel:Nat}{x:(List Int)}(hf:18446744073709551616≤fuel) (hs:x.length≤1048576):z37 fuel x x=some true:=by
  have hl:=hs
  unfold z37
  rw [if_neg (by simp)]
  refine z6W (n:=x.length) (t:=()) (by unfold maxLen;omega) hf rfl ?_ ?_
  · intro i hi
    obtain⟨y,hy⟩:=z4O hi
    have hsy:0≤1048576:=Nat.zero_le _
    simp [z78,z9 hy,hi,z2f]
  · simp [z78]

theorem z9R {fuel:Nat}{x:(List Int)}{l:Int}(hf:18446744073709551616≤fuel) (hw:WfL I64 x) (h0:0≤l) (h1:l≤1048576):SzOk (x.length) l (z32 fuel x l):=by
  unfold z32
  generalize hz:w64 (l - (x.length:Int))=z
  exact SzOk.sub2 h0 h1 hw.1 (m:=0) rfl hz fun g0 g1=>SzOk.same g0

theorem z9Q {fuel:Nat}{x:(List Int)}(hf:18446744073709551616≤fuel) (hs:x.length≤1048576):z31 fuel x=some x:=by
  have hl:=hs
  unfold z31
  refine z7z hl hf (fun _=>rfl) ?_ ?_
  · intro i y out hy d
    have hi:=(List.getElem?_eq_some_iff.1 hy).1
    have hsy:0≤1048576:=Nat.zero_le _
    simp only [z74,z9 hy,Option.bind_some,lt_t (show(i:Int)<x.length by omega),if_true]
    rw [if_pos (by simp;omega)]
    simp
  · intro out
    simp [z74]

theorem z5t {fuel:Nat}{x:D.Address}(hf:18446744073709551616≤fuel) (hs:0≤1048576):z1m fuel x=some x:=by
  skip
  unfold z1m
  rfl

theorem z5C {fuel:Nat}{x:D.Address}(hf:18446744073709551616≤fuel) (hs:0≤1048576):z1n fuel x x=some true:=by
  skip
  simp [z1n,z2f]

theorem zeX {fuel:Nat}{x:(List (List Int))}{l:Int}(hf:18446744073709551616≤fuel) (hw:WfL (WfL I64) x) (h0:0≤l) (h1:l≤1048576):SzOk (szL (fun x=>x.length) x) l (z6K fuel x l):=by
  unfold z6K
  generalize hz:w64 (l - (x.length:Int))=z
  refine SzOk.sub2 h0 h1 hw.1 (m:=sumL (fun x=>x.length) x) rfl hz fun g0 g1=>?_
  refine SzOk.loop hw.1 hf g0 (by omega) (fun _=>rfl) ?_ ?_
  · intro i y l hy h0 h1
    have hi:=(List.getElem?_eq_some_iff.1 hy).1
    have hwy:=hw.2 y (List.mem_of_getElem? hy)
    obtain⟨r,h2,h3⟩:=z9R hf hwy h0 h1
    simp only [z6r,z9 hy,Option.bind_some,lt_t (show(i:Int)<x.length by omega),if_true,h2]
    by_cases hlt:r<0
    · exact .inl (by simp only [lt_t hlt,if_true])
    · exact .inr ⟨r,by simp only [lt_f hlt,if_false],h3.resolve_left hlt⟩
  · intro l
    simp [z6r]

theorem zeU {fuel:Nat}{x:(List (List Int))}(hf:18446744073709551616≤fuel) (hs:szL (fun x=>x.length) x≤1048576):z6H fuel x=some x:=by
  have hl:=z3v hs
  unfold z6H
  refine z7z hl hf (fun _=>rfl) ?_ ?_
  · intro i y out hy d
    have hi:=(List.getElem?_eq_some_iff.1 hy).1
    have hsy:y.length≤1048576:=z3u hs (List.mem_of_getElem? hy)
    simp only [z6p,z9 hy,Option.bind_some,lt_t (show(i:Int)<x.length by omega),if_true,z9Q hf hsy]
    rw [if_pos (by simp;omega)]
    simp
  · intro out
    simp [z6p]

theorem zf5 {fuel:Nat}{x:(List (List Int))}(hf:18446744073709551616≤fuel) (hs:szL (fun x=>x.length) x≤1048576):z6P fuel x x=some true:=by
  have hl:=z3v hs
  unfold z6P
  rw [if_neg (by simp)]
  refine z6W (n:=x.length) (t:=()) (by unfold maxLen;omega) hf rfl ?_ ?_
  · intro i hi
    obtain⟨y,hy⟩:=z4O hi
    have hsy:y.length≤1048576:=z3u hs (List.mem_of_getElem? hy)
    simp [z6u,z9 hy,hi,z2f,z9T hf hsy]
  · simp [z6u]

theorem ze1 {fuel:Nat}{x:(List D.Address)}{l:Int}(hf:18446744073709551616≤fuel) (hw:WfL D.Address.wf x) (h0:0≤l) (h1:l≤1048576):SzOk (x.length) l (z68 fuel x l):=by
  unfold z68
  generalize hz:w64 (l - (x.length:Int))=z
  exact SzOk.sub2 h0 h1 hw.1 (m:=0) rfl hz fun g0 g1=>SzOk.same g0

theorem zdW {fuel:Nat}{x:D.ShardVar}(hf:18446744073709551616≤fuel) (hs:0≤1048576):z64 fuel x=some x:=by
  skip
  unfold z64
  simp only [z5t hf (show 0≤1048576 by exact Nat.zero_le _),Option.bind_some]

theorem zcR {fuel:Nat}{x:D.ShardRedex}(hf:18446744073709551616≤fuel) (hs:0≤1048576):z4o fuel x=some x:=by
  skip
  unfold z4o
  simp only [z5t hf (show 0≤1048576 by exact Nat.zero_le _),z5t hf (show 0≤1048576 by exact Nat.zero_le _),Option.bind_some]

theorem zdY {fuel:Nat}{x:(List D.Address)}(hf:18446744073709551616≤fuel) (hs:x.length≤1048576):z66 fuel x=some x:=by
  have hl:=hs
  unfold z66
  refine z7z hl hf (fun _=>rfl) ?_ ?_
  · intro i y out hy d
    have hi:=(List.getElem?_eq_some_iff.1 hy).1
    have hsy:0≤1048576:=Nat.zero_le _
    simp only [z5E,z9 hy,Option.bind_some,lt_t (show(i:Int)<x.length by omega),if_true,z5t hf hsy]
    rw [if_pos (by simp;omega)]
    simp
  · intro out
    simp [z5E]

theorem zer {fuel:Nat}{x:D.ShardVar}(hf:18446744073709551616≤fuel) (hs:0≤1048576):z6b fuel x x=some true:=by
  skip
  simp [z6b,z2f,z5C hf (show 0≤1048576 by exact Nat.zero_le _)]

theorem zd9 {fuel:Nat}{x:D.ShardRedex}(hf:18446744073709551616≤fuel) (hs:0≤1048576):z4v fuel x x=some true:=by
  skip
  simp [z4v,z2f,z5C hf (show 0≤1048576 by exact Nat.zero_le _),z5C hf (show 0≤1048576 by exact Nat.zero_le _)]

theorem zeu {fuel:Nat}{x:(List D.Address)}(hf:18446744073709551616≤fuel) (hs:x.length≤1048576):z6d fuel x x=some true:=by
  have hl:=hs
  unfold z6d
  rw [if_neg (by simp)]
  refine z6W (n:=x.length) (t:=()) (by unfold maxLen;omega) hf rfl ?_ ?_
  · intro i hi
    obtain⟨y,hy⟩:=z4O hi
    have hsy:0≤1048576:=Nat.zero_le _
    simp [z5K,z9 hy,hi,z2f,z5C hf hsy]
  · simp [z5K]

theorem zdj {fuel:Nat}{x:(List D.ShardVar)}{l:Int}(hf:18446744073709551616≤fuel) (hw:WfL D.ShardVar.wf x) (h0:0≤l) (h1:l≤1048576):SzOk (x.length) l (z5e fuel x l):=by
  unfold z5e
  generalize hz:w64 (l - (x.length:Int))=z
  exact SzOk.sub2 h0 h1 hw.1 (m:=0) rfl hz fun g0 g1=>SzOk.same g0

theorem zcm {fuel:Nat}{x:(List D.ShardRedex)}{l:Int}(hf:18446744073709551616≤fuel) (hw:WfL D.ShardRedex.wf x) (h0:0≤l) (h1:l≤1048576):SzOk (x.length) l (z3E fuel x l):=by
  unfold z3E
  generalize hz:w64 (l - (x.length:Int))=z
  exact SzOk.sub2 h0 h1 hw.1 (m:=0) rfl hz fun g0 g1=>SzOk.same g0

theorem zbb {fuel:Nat}{x:D.ShardCell}{l:Int}(hf:18446744073709551616≤fuel) (hw:D.ShardCell.wf x) (h0:0≤l) (h1:l≤1048576):SzOk (D.ShardCell.sz x) l (z3o fuel x l):=by
  obtain⟨w0,w1,w2,w3,w4,_⟩:=hw
  unfold z3o D.ShardCell.sz
  refine SzOk.bind (z9R hf w3 h0 (by omega)) rfl fun r1 g1a g1b=>?_
  refine SzOk.bind (ze1 hf w4 g1a (by omega)) rfl fun r2 g2a g2b=>?_
  exact SzOk.same g2a

theorem zdi {fuel:Nat}{x:(List D.ShardVar)}(hf:18446744073709551616≤fuel) (hs:x.length≤1048576):z5d fuel x=some x:=by
  have hl:=hs
  unfold z5d
  refine z7z hl hf (fun _=>rfl) ?_ ?_
  · intro i y out hy d
    have hi:=(List.getElem?_eq_some_iff.1 hy).1
    have hsy:0≤1048576:=Nat.zero_le _
    simp only [z5c,z9 hy,Option.bind_some,lt_t (show(i:Int)<x.length by omega),if_true,zdW hf hsy]
    rw [if_pos (by simp;omega)]
    simp
  · intro out
    simp [z5c]

theorem zck {fuel:Nat}{x:(List D.ShardRedex)}(hf:18446744073709551616≤fuel) (hs:x.length≤1048576):z3D fuel x=some x:=by
  have hl:=hs
  unfold z3D
  refine z7z hl hf (fun _=>rfl) ?_ ?_
  · intro i y out hy d
    have hi:=(List.getElem?_eq_some_iff.1 hy).1
    have hsy:0≤1048576:=Nat.zero_le _
    simp only [z3W,z9 hy,Option.bind_some,lt_t (show(i:Int)<x.length by omega),if_true,zcR hf hsy]
    rw [if_pos (by simp;omega)]
    simp
  · intro out
    simp [z3W]

theorem zba {fuel:Nat}{x:D.ShardCell}(hf:18446744073709551616≤fuel) (hs:D.ShardCell.sz x≤1048576):z3n fuel x=some x:=by
  unfold D.ShardCell.sz at hs
  unfold z3n
  simp only [z9Q hf (show x.Data.length≤1048576 by omega),zdY hf (show x.Aux.length≤1048576 by omega),Option.bind_some]

theorem zdy {fuel:Nat}{x:(List D.ShardVar)}(hf:18446744073709551616≤fuel) (hs:x.length≤1048576):z5n fuel x x=some true:=by
  have hl:=hs
  unfold z5n
  rw [if_neg (by simp)]
  refine z6W (n:=x.length) (t:=()) (by unfold maxLen;omega) hf rfl ?_ ?_
  · intro i hi
    obtain⟨y,hy⟩:=z4O hi
    have hsy:0≤1048576:=Nat.zero_le _
    simp [z5m,z9 hy,hi,z2f,zer hf hsy]
  · simp [z5m]

theorem zcH {fuel:Nat}{x:(List D.ShardRedex)}(hf:18446744073709551616≤fuel) (hs:x.length≤1048576):z3K fuel x x=some true:=by
  have hl:=hs
  unfold z3K
  rw [if_neg (by simp)]
  refine z6W (n:=x.length) (t:=()) (by unfold maxLen;omega) hf rfl ?_ ?_
  · intro i hi
    obtain⟨y,hy⟩:=z4O hi
    have hsy:0≤1048576:=Nat.zero_le _
    simp [z3Y,z9 hy,hi,z2f,zd9 hf hsy]
  · simp [z3Y]

theorem zbg {fuel:Nat}{x:D.ShardCell}(hf:18446744073709551616≤fuel) (hs:D.ShardCell.sz x≤1048576):z3q fuel x x=some true:=by
  unfold D.ShardCell.sz at hs
  simp [z3q,z2f,z9T hf (show x.Data.length≤1048576 by omega),zeu hf (show x.Aux.length≤1048576 by omega)]

theorem zfK {fuel:Nat}{x:D.Parcel}{l:Int}(hf:18446744073709551616≤fuel) (hw:D.Parcel.wf x) (h0:0≤l) (h1:l≤1048576):SzOk (D.Parcel.sz x) l (z7i fuel x l):=by
  obtain⟨w0,w1,w2,w3,_⟩:=hw
  unfold z7i D.Parcel.sz
  refine SzOk.bind (zbb hf w1 h0 (by omega)) rfl fun r1 g1a g1b=>?_
  exact SzOk.same g1a

theorem zfH {fuel:Nat}{x:D.Parcel}(hf:18446744073709551616≤fuel) (hs:D.Parcel.sz x≤1048576):z7g fuel x=some x:=by
  unfold D.Parcel.sz at hs
  unfold z7g
  simp only [zba hf (show D.ShardCell.sz x.Cell≤1048576 by omega),z5t hf (show 0≤1048576 by exact Nat.zero_le _),z5t hf (show 0≤1048576 by exact Nat.zero_le _),Option.bind_some]

theorem zg3 {fuel:Nat}{x:D.Parcel}(hf:18446744073709551616≤fuel) (hs:D.Parcel.sz x≤1048576):z7m fuel x x=some true:=by
  unfold D.Parcel.sz at hs
  simp [z7m,z2f,zbg hf (show D.ShardCell.sz x.Cell≤1048576 by omega),z5C hf (show 0≤1048576 by exact Nat.zero_le _),z5C hf (show 0≤1048576 by exact Nat.zero_le _)]

theorem zcT {fuel:Nat}{x:(List D.ShardCell)}{l:Int}(hf:18446744073709551616≤fuel) (hw:WfL D.ShardCell.wf x) (h0:0≤l) (h1:l≤1048576):SzOk (szL D.ShardCell.sz x) l (z4q fuel x l):=by
  unfold z4q
  generalize hz:w64 (l - (x.length:Int))=z
  refine SzOk.sub2 h0 h1 hw.1 (m:=sumL D.ShardCell.sz x) rfl hz fun g0 g1=>?_
  refine SzOk.loop hw.1 hf g0 (by omega) (fun _=>rfl) ?_ ?_
  · intro i y l hy h0 h1
    have hi:=(List.getElem?_eq_some_iff.1 hy).1
    have hwy:=hw.2 y (List.mem_of_getElem? hy)
    obtain⟨r,h2,h3⟩:=zbb hf hwy h0 h1
    simp only [z4B,z9 hy,Option.bind_some,lt_t (show(i:Int)<x.length by omega),if_true,h2]
    by_cases hlt:r<0
    · exact .inl (by simp only [lt_t hlt,if_true])
    · exact .inr ⟨r,by simp only [lt_f hlt,if_false],h3.resolve_left hlt⟩
  · intro l
    simp [z4B]

theorem zcS {fuel:Nat}{x:(List D.ShardCell)}(hf:18446744073709551616≤fuel) (hs:szL D.ShardCell.sz x≤1048576):z4p fuel x=some x:=by
  have hl:=z3v hs
  unfold z4p
  refine z7z hl hf (fun _=>rfl) ?_ ?_
  · intro i y out hy d
    have hi:=(List.getElem?_eq_some_iff.1 hy).1
    have hsy:D.ShardCell.sz y≤1048576:=z3u hs (List.mem_of_getElem? hy)
    simp only [z4A,z9 hy,Option.bind_some,lt_t (show(i:Int)<x.length by omega),if_true,zba hf hsy]
    rw [if_pos (by simp;omega)]
    simp
  · intro out
    simp [z4A]

theorem zda {fuel:Nat}{x:(List D.ShardCell)}(hf:18446744073709551616≤fuel) (hs:szL D.ShardCell.sz x≤1048576):z4w fuel x x=some true:=by
  have hl:=z3v hs
  unfold z4w
  rw [if_neg (by simp)]
  refine z6W (n:=x.length) (t:=()) (by unfold maxLen;omega) hf rfl ?_ ?_
  · intro i hi
    obtain⟨y,hy⟩:=z4O hi
    have hsy:D.ShardCell.sz y≤1048576:=z3u hs (List.mem_of_getElem? hy)
    simp [z4E,z9 hy,hi,z2f,zbg hf hsy]
  · simp [z4E]

theorem zeW {fuel:Nat}{x:(List D.Parcel)}{l:Int}(hf:18446744073709551616≤fuel) (hw:WfL D.Parcel.wf x) (h0:0≤l) (h1:l≤1048576):SzOk (szL D.Parcel.sz x) l (z6J fuel x l):=by
  unfold z6J
  generalize hz:w64 (l - (x.length:Int))=z
  refine SzOk.sub2 h0 h1 hw.1 (m:=sumL D.Parcel.sz x) rfl hz fun g0 g1=>?_
  refine SzOk.loop hw.1 hf g0 (by omega) (fun _=>rfl) ?_ ?_
  · intro i y l hy h0 h1
    have hi:=(List.getElem?_eq_some_iff.1 hy).1
    have hwy:=hw.2 y (List.mem_of_getElem? hy)
    obtain⟨r,h2,h3⟩:=zfK hf hwy h0 h1
    simp only [z6q,z9 hy,Option.bind_some,lt_t (show(i:Int)<x.length by omega),if_true,h2]
    by_cases hlt:r<0
    · exact .inl (by simp only [lt_t hlt,if_true])
    · exact .inr ⟨r,by simp only [lt_f hlt,if_false],h3.resolve_left hlt⟩
  · intro l
    simp [z6q]

theorem zeT {fuel:Nat}{x:(List D.Parcel)}(hf:18446744073709551616≤fuel) (hs:szL D.Parcel.sz x≤1048576):z6G fuel x=some x:=by
  have hl:=z3v hs
  unfold z6G
  refine z7z hl hf (fun _=>rfl) ?_ ?_
  · intro i y out hy d
    have hi:=(List.getElem?_eq_some_iff.1 hy).1
    have hsy:D.Parcel.sz y≤1048576:=z3u hs (List.mem_of_getElem? hy)
    simp only [z6o,z9 hy,Option.bind_some,lt_t (show(i:Int)<x.length by omega),if_true,zfH hf hsy]
    rw [if_pos (by simp;omega)]
    simp
  · intro out
    simp [z6o]

theorem zf4 {fuel:Nat}{x:(List D.Parcel)}(hf:18446744073709551616≤fuel) (hs:szL D.Parcel.sz x≤1048576):z6O fuel x x=some true:=by
  have hl:=z3v hs
  unfold z6O
  rw [if_neg (by simp)]
  refine z6W (n:=x.length) (t:=()) (by unfold maxLen;omega) hf rfl ?_ ?_
  · intro i hi
    obtain⟨y,hy⟩:=z4O hi
    have hsy:D.Parcel.sz y≤1048576:=z3u hs (List.mem_of_getElem? hy)
    simp [z6t,z9 hy,hi,z2f,zg3 hf hsy]
  · simp [z6t]

theorem zgs {fuel:Nat}{x:D.Shard}{l:Int}(hf:18446744073709551616≤fuel) (hw:D.Shard.wf x) (h0:0≤l) (h1:l≤1048576):SzOk (D.Shard.sz x) l (z7R fuel x l):=by
  obtain⟨w0,w1,w2,_⟩:=hw
  unfold z7R D.Shard.sz
  refine SzOk.bind (zcT hf w0 h0 (by omega)) rfl fun r1 g1a g1b=>?_
  refine SzOk.bind (zdj hf w1 g1a (by omega)) rfl fun r2 g2a g2b=>?_
  refine SzOk.bind (zcm hf w2 g2a (by omega)) rfl fun r3 g3a g3b=>?_
  exact SzOk.same g3a

theorem zgr {fuel:Nat}{x:D.Shard}(hf:18446744073709551616≤fuel) (hs:D.Shard.sz x≤1048576):z7Q fuel x=some x:=by
  unfold D.Shard.sz at hs
  unfold z7Q
  simp only [zcS hf (show szL D.ShardCell.sz x.Cells≤1048576 by omega),zdi hf (show x.Vars.length≤1048576 by omega),zck hf (show x.Redexes.length≤1048576 by omega),Option.bind_some]

theorem zgQ {fuel:Nat}{x:D.Shard}(hf:18446744073709551616≤fuel) (hs:D.Shard.sz x≤1048576):z7U fuel x x=some true:=by
  unfold D.Shard.sz at hs
  simp [z7U,z2f,zda hf (show szL D.ShardCell.sz x.Cells≤1048576 by omega),zdy hf (show x.Vars.length≤1048576 by omega),zcH hf (show x.Redexes.length≤1048576 by omega)]

theorem ze0 {fuel:Nat}{x:(List (List D.Parcel))}{l:Int}(hf:18446744073709551616≤fuel) (hw:WfL (WfL D.Parcel.wf) x) (h0:0≤l) (h1:l≤1048576):SzOk (szL (fun x=>szL D.Parcel.sz x) x) l (z67 fuel x l):=by
  unfold z67
  generalize hz:w64 (l - (x.length:Int))=z
  refine SzOk.sub2 h0 h1 hw.1 (m:=sumL (fun x=>szL D.Parcel.sz x) x) rfl hz fun g0 g1=>?_
  refine SzOk.loop hw.1 hf g0 (by omega) (fun _=>rfl) ?_ ?_
  · intro i y l hy h0 h1
    have hi:=(List.getElem?_eq_some_iff.1 hy).1
    have hwy:=hw.2 y (List.mem_of_getElem? hy)
    obtain⟨r,h2,h3⟩:=zeW hf hwy h0 h1
    simp only [z5F,z9 hy,Option.bind_some,lt_t (show(i:Int)<x.length by omega),if_true,h2]
    by_cases hlt:r<0
    · exact .inl (by simp only [lt_t hlt,if_true])
    · exact .inr ⟨r,by simp only [lt_f hlt,if_false],h3.resolve_left hlt⟩
  · intro l
    simp [z5F]

theorem zdX {fuel:Nat}{x:(List (List D.Parcel))}(hf:18446744073709551616≤fuel) (hs:szL (fun x=>szL D.Parcel.sz x) x≤1048576):z65 fuel x=some x:=by
  have hl:=z3v hs
  unfold z65
  refine z7z hl hf (fun _=>rfl) ?_ ?_
  · intro i y out hy d
    have hi:=(List.getElem?_eq_some_iff.1 hy).1
    have hsy:szL D.Parcel.sz y≤1048576:=z3u hs (List.mem_of_getElem? hy)
    simp only [z5D,z9 hy,Option.bind_some,lt_t (show(i:Int)<x.length by omega),if_true,zeT hf hsy]
    rw [if_pos (by simp;omega)]
    simp
  · intro out
    simp [z5D]

theorem zes {fuel:Nat}{x:(List (List D.Parcel))}(hf:18446744073709551616≤fuel) (hs:szL (fun x=>szL D.Parcel.sz x) x≤1048576):z6c fuel x x=some true:=by
  have hl:=z3v hs
  unfold z6c
  rw [if_neg (by simp)]
  refine z6W (n:=x.length) (t:=()) (by unfold maxLen;omega) hf rfl ?_ ?_
  · intro i hi
    obtain⟨y,hy⟩:=z4O hi
    have hsy:szL D.Parcel.sz y≤1048576:=z3u hs (List.mem_of_getElem? hy)
    simp [z5J,z9 hy,hi,z2f,zf4 hf hsy]
  · simp [z5J]

theorem zfJ {fuel:Nat}{x:(List D.Shard)}{l:Int}(hf:18446744073709551616≤fuel) (hw:WfL D.Shard.wf x) (h0:0≤l) (h1:l≤1048576):SzOk (szL D.Shard.sz x) l (z7h fuel x l):=by
  unfold z7h
  generalize hz:w64 (l - (x.length:Int))=z
  refine SzOk.sub2 h0 h1 hw.1 (m:=sumL D.Shard.sz x) rfl hz fun g0 g1=>?_
  refine SzOk.loop hw.1 hf g0 (by omega) (fun _=>rfl) ?_ ?_
  · intro i y l hy h0 h1
    have hi:=(List.getElem?_eq_some_iff.1 hy).1
    have hwy:=hw.2 y (List.mem_of_getElem? hy)
    obtain⟨r,h2,h3⟩:=zgs hf hwy h0 h1
    simp only [z75,z9 hy,Option.bind_some,lt_t (show(i:Int)<x.length by omega),if_true,h2]
    by_cases hlt:r<0
    · exact .inl (by simp only [lt_t hlt,if_true])
    · exact .inr ⟨r,by simp only [lt_f hlt,if_false],h3.resolve_left hlt⟩
  · intro l
    simp [z75]

theorem zfG {fuel:Nat}{x:(List D.Shard)}(hf:18446744073709551616≤fuel) (hs:szL D.Shard.sz x≤1048576):z7f fuel x=some x:=by
  have hl:=z3v hs
  unfold z7f
  refine z7z hl hf (fun _=>rfl) ?_ ?_
  · intro i y out hy d
    have hi:=(List.getElem?_eq_some_iff.1 hy).1
    have hsy:D.Shard.sz y≤1048576:=z3u hs (List.mem_of_getElem? hy)
    simp only [z73,z9 hy,Option.bind_some,lt_t (show(i:Int)<x.length by omega),if_true,zgr hf hsy]
    rw [if_pos (by simp;omega)]
    simp
  · intro out
    simp [z73]

theorem zg2 {fuel:Nat}{x:(List D.Shard)}(hf:18446744073709551616≤fuel) (hs:szL D.Shard.sz x≤1048576):z7k fuel x x=some true:=by
  have hl:=z3v hs
  unfold z7k
  rw [if_neg (by simp)]
  refine z6W (n:=x.length) (t:=()) (by unfold maxLen;omega) hf rfl ?_ ?_
  · intro i hi
    obtain⟨y,hy⟩:=z4O hi
    have hsy:D.Shard.sz y≤1048576:=z3u hs (List.mem_of_getElem? hy)
    simp [z77,z9 hy,hi,z2f,zgQ hf hsy]
  · simp [z77]

theorem zhF {fuel:Nat}{x:D.Grid}{l:Int}(hf:18446744073709551616≤fuel) (hw:D.Grid.wf x) (h0:0≤l) (h1:l≤1048576):SzOk (D.Grid.sz x) l (z8E fuel x l):=by
  obtain⟨w0,w1,_⟩:=hw
  unfold z8E D.Grid.sz
  refine SzOk.bind (zfJ hf w0 h0 (by omega)) rfl fun r1 g1a g1b=>?_
  exact SzOk.same g1a

theorem zhE {fuel:Nat}{x:D.Grid}(hf:18446744073709551616≤fuel) (hs:D.Grid.sz x≤1048576):z8D fuel x=some x:=by
  unfold D.Grid.sz at hs
  unfold z8D
  simp only [zfG hf (show szL D.Shard.sz x.Shards≤1048576 by omega),z5t hf (show 0≤1048576 by exact Nat.zero_le _),Option.bind_some]

theorem zhS {fuel:Nat}{x:D.Grid}(hf:18446744073709551616≤fuel) (hs:D.Grid.sz x≤1048576):z8K fuel x x=some true:=by
  unfold D.Grid.sz at hs
  simp [z8K,z2f,zg2 hf (show szL D.Shard.sz x.Shards≤1048576 by omega),z5C hf (show 0≤1048576 by exact Nat.zero_le _)]

theorem zeY {fuel:Nat}{x:D.Cluster}{l:Int}(hf:18446744073709551616≤fuel) (hw:D.Cluster.wf x) (h0:0≤l) (h1:l≤1048576):SzOk (D.Cluster.sz x) l (z6L fuel x l):=by
  obtain⟨w0,w1,w2,w3,w4,_⟩:=hw
  unfold z6L D.Cluster.sz
  refine SzOk.bind (zhF hf w0 h0 (by omega)) rfl fun r1 g1a g1b=>?_
  refine SzOk.bind (ze0 hf w1 g1a (by omega)) rfl fun r2 g2a g2b=>?_
  refine SzOk.bind (zeX hf w2 g2a (by omega)) rfl fun r3 g3a g3b=>?_
  refine SzOk.bind (z9R hf w3 g3a (by omega)) rfl fun r4 g4a g4b=>?_
  refine SzOk.bind (z9R hf w4 g4a (by omega)) rfl fun r5 g5a g5b=>?_
  exact SzOk.same g5a

theorem zeV {fuel:Nat}{x:D.Cluster}(hf:18446744073709551616≤fuel) (hs:D.Cluster.sz x≤1048576):z2x fuel x=some x:=by
  unfold D.Cluster.sz at hs
  unfold z2x
  simp only [zhE hf (show D.Grid.sz x.Grid≤1048576 by omega),zdX hf (show szL (fun x=>szL D.Parcel.sz x) x.Channels≤1048576 by omega),zeU hf (show szL (fun x=>x.length) x.Counts≤1048576 by omega),z9Q hf (show x.Sent.length≤1048576 by omega),z9Q hf (show x.Got.length≤1048576 by omega),Option.bind_some]

theorem zc4 {fuel:Nat}{x:D.Cluster}(hf:18446744073709551616≤fuel) (hs:D.Cluster.sz x≤1048576):z4T fuel x x=some true:=by
  unfold D.Cluster.sz at hs
  simp [z4T,z2f,zhS hf (show D.Grid.sz x.Grid≤1048576 by omega),zes hf (show szL (fun x=>szL D.Parcel.sz x) x.Channels≤1048576 by omega),zf5 hf (show szL (fun x=>x.length) x.Counts≤1048576 by omega),z9T hf (show x.Sent.length≤1048576 by omega),z9T hf (show x.Got.length≤1048576 by omega)]

theorem zdd:Opens Tryz.prog 2 tInt I64:=Opens.int Tryz.underlying2 (by kernel_rfl)
theorem zfU:Opens Tryz.prog 29 ty29 (WfL I64):=Opens.sl Tryz.underlying29 (by kernel_rfl) zdd
set_option maxRecDepth 100000 in
theorem zca:Opens Tryz.prog 24 ty24 D.Address.wf:=Opens.struct (f:=fun c:D.Address=>(c.Machine,c.Kind,c.Index,())) Tryz.underlying24 (by kernel_rfl) (OpensF.cons zdd rfl rfl (OpensF.cons zdd rfl rfl (OpensF.cons zdd rfl rfl OpensF.nil))) (fun⟨a0,a1,a2,_⟩=>⟨⟨a0,a1,a2⟩,rfl⟩)
theorem znh:Opens Tryz.prog 201 zeS (WfL D.Address.wf):=Opens.sl Tryz.underlying201 (by kernel_rfl) zca
set_option maxRecDepth 100000 in
theorem zi6:Opens Tryz.prog 203 zeR D.ShardCell.wf:=Opens.struct (f:=fun c:D.ShardCell=>(c.Kind,c.Level,c.Value,c.Data,c.Aux,())) Tryz.underlying203 (by kernel_rfl) (OpensF.cons zdd rfl rfl (OpensF.cons zdd rfl rfl (OpensF.cons zdd rfl rfl (OpensF.cons zfU rfl rfl (OpensF.cons znh rfl rfl OpensF.nil))))) (fun⟨a0,a1,a2,a3,a4,_⟩=>⟨⟨a0,a1,a2,a3,a4⟩,rfl⟩)
theorem znm:Opens Tryz.prog 195 zgn (WfL D.ShardCell.wf):=Opens.sl Tryz.underlying195 (by kernel_rfl) zi6
theorem zo9:Opens Tryz.prog 4 tBool fun _=>True:=Opens.bool Tryz.underlying4 (by kernel_rfl)
set_option maxRecDepth 100000 in
theorem znf:Opens Tryz.prog 288 zit D.ShardVar.wf:=Opens.struct (f:=fun c:D.ShardVar=>(c.Used,c.Full,c.Held,())) Tryz.underlying288 (by kernel_rfl) (OpensF.cons zo9 rfl rfl (OpensF.cons zo9 rfl rfl (OpensF.cons zca rfl rfl OpensF.nil))) (fun⟨a0,a1,a2,_⟩=>⟨⟨a0,a1,a2⟩,rfl⟩)
theorem znk:Opens Tryz.prog 196 zgm (WfL D.ShardVar.wf):=Opens.sl Tryz.underlying196 (by kernel_rfl) znf
set_option maxRecDepth 100000 in
theorem zne:Opens Tryz.prog 291 zis D.ShardRedex.wf:=Opens.struct (f:=fun c:D.ShardRedex=>(c.A,c.B,())) Tryz.underlying291 (by kernel_rfl) (OpensF.cons zca rfl rfl (OpensF.cons zca rfl rfl OpensF.nil)) (fun⟨a0,a1,_⟩=>⟨⟨a0,a1⟩,rfl⟩)
theorem znj:Opens Tryz.prog 197 zgk (WfL D.ShardRedex.wf):=Opens.sl Tryz.underlying197 (by kernel_rfl) zne
set_option maxRecDepth 100000 in
theorem zni:Opens Tryz.prog 199 zhz D.Shard.wf:=Opens.struct (f:=fun c:D.Shard=>(c.Cells,c.Vars,c.Redexes,())) Tryz.underlying199 (by kernel_rfl) (OpensF.cons znm rfl rfl (OpensF.cons znk rfl rfl (OpensF.cons znj rfl rfl OpensF.nil))) (fun⟨a0,a1,a2,_⟩=>⟨⟨a0,a1,a2⟩,rfl⟩)
theorem zoi:Opens Tryz.prog 22 ty22 (WfL D.Shard.wf):=Opens.sl Tryz.underlying22 (by kernel_rfl) zni
set_option maxRecDepth 100000 in
theorem zoh:Opens Tryz.prog 26 ty26 D.Grid.wf:=Opens.struct (f:=fun c:D.Grid=>(c.Shards,c.Root,())) Tryz.underlying26 (by kernel_rfl) (OpensF.cons zoi rfl rfl (OpensF.cons zca rfl rfl OpensF.nil)) (fun⟨a0,a1,_⟩=>⟨⟨a0,a1⟩,rfl⟩)
set_option maxRecDepth 100000 in
theorem zng:Opens Tryz.prog 205 zhy D.Parcel.wf:=Opens.struct (f:=fun c:D.Parcel=>(c.Kind,c.Cell,c.A,c.B,())) Tryz.underlying205 (by kernel_rfl) (OpensF.cons zdd rfl rfl (OpensF.cons zi6 rfl rfl (OpensF.cons zca rfl rfl (OpensF.cons zca rfl rfl OpensF.nil)))) (fun⟨a0,a1,a2,a3,_⟩=>⟨⟨a0,a1,a2,a3⟩,rfl⟩)
theorem znn:Opens Tryz.prog 141 zhD (WfL D.Parcel.wf):=Opens.sl Tryz.underlying141 (by kernel_rfl) zng
theorem zog:Opens Tryz.prog 27 ty27 (WfL (WfL D.Parcel.wf)):=Opens.sl Tryz.underlying27 (by kernel_rfl) znn
theorem zof:Opens Tryz.prog 28 ty28 (WfL (WfL I64)):=Opens.sl Tryz.underlying28 (by kernel_rfl) zfU
set_option maxRecDepth 100000 in
theorem zoe:Opens Tryz.prog 31 ty31 D.Cluster.wf:=Opens.struct (f:=fun c:D.Cluster=>(c.Grid,c.Channels,c.Counts,c.Sent,c.Got,())) Tryz.underlying31 (by kernel_rfl) (OpensF.cons zoh rfl rfl (OpensF.cons zog rfl rfl (OpensF.cons zof rfl rfl (OpensF.cons zfU rfl rfl (OpensF.cons zfU rfl rfl OpensF.nil))))) (fun⟨a0,a1,a2,a3,a4,_⟩=>⟨⟨a0,a1,a2,a3,a4⟩,rfl⟩)
end Go.E


namespace Go.E
open Go.RowKit Go.Proofs
set_option linter.unusedSimpArgs false
set_option linter.unusedVariables false

theorem zgR {fuel:Nat}{x:(List Bool)}(hf:18446744073709551616≤fuel) (hs:x.length≤1048576):z7V fuel x x=some true:=by
  have hl:=hs
  unfold z7V
  rw [if_neg (by simp)]
  refine z6W (n:=x.length) (t:=()) (by unfold maxLen;omega) hf rfl ?_ ?_
  · intro i hi
    obtain⟨y,hy⟩:=z4O hi
    have hsy:0≤1048576:=Nat.zero_le _
    simp [z7E,z9 hy,hi,z2f]
  · simp [z7E]

theorem zet {fuel:Nat}{x:D.Detector}(hf:18446744073709551616≤fuel) (hs:D.Detector.sz x≤1048576):z2O fuel x x=some true:=by
  unfold D.Detector.sz at hs
  simp [z2O,z2f,zc4 hf (show D.Cluster.sz x.Cluster≤1048576 by omega),zgR hf (show x.Stained.length≤1048576 by omega)]

end Go.E


