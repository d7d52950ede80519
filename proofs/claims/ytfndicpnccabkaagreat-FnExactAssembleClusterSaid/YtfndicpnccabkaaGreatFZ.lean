/- Models of functions and proofs that the code runs as they say (written by program). Conditions: the model gives a value. -/
import Derived.Test.YtfndicpnccabkaaGreatFP
import Derived.Test.YtfndicpnccabkaaGreatFI
import Derived.Test.YtfndicpnccabkaaGreatFVb
import Derived.Test.YtfndicpnccabkaaGreatFH
import Derived.Test.YtfndicpnccabkaaGreatMapS
import Derived.Test.YtfndicpnccabkaaGreatQB
import Derived.Test.YtfndicpnccabkaaGreatFQ
import Derived.Test.YtfndicpnccabkaaGreatMixed
set_option linter.unusedVariables false
set_option linter.unusedSimpArgs false
namespace Go.E
open Go.RowKit Go.Proofs
set_option maxHeartbeats 2000000
set_option maxRecDepth 100000

variable {W:Base}{w:World}
theorem zi3:EN 52:=en Tryz.func52
def z3y (fu:Nat)(x0:L9)(x1:Int):Option (Int):=(if(decide ((w64 (x1 - (x0.length:Int)))<0))=true then some (-1) else some (w64 (x1 - (x0.length:Int))))

theorem laws_szInt64S_ok (hE:Ext W w){o:Option Addr}{q:Nat}{x0:L9}{x1:Int}(G:ty45.ro W [sl o x0 q] x0){fu:Nat}{r:Int}(hm:z3y fu x0 x1=some r):
  CL 52 ⟨[sl o x0 q,iv x1]⟩ w (RI w r):=by
 refine into Tryz.func52 12 _ ?_;unfold z3y at hm;have hS:=St.start w;refine sg<|rm 1 ?_;refine sg<|rm 5 ?_;refine sq<|sg<|rm 2 ?_;refine ci hm (fun hm=>?_) (fun hm=>?_)
 ·refine sg<|rm 1 ?_;refine rt ?_;cases hm;exact⟨_,tR rfl,rfl,hS⟩
 ·refine sp<|sg<|rm 2 ?_;refine rt ?_;cases hm;exact⟨_,tR rfl,rfl,hS⟩

theorem ztf:EN 230:=en Tryz.func230
def z6V (fu:Nat)(x0:LD)(x1:Int):Option (Int):=(if(decide ((w64 (x1 - (x0.length:Int)))<0))=true then some (-1) else some (w64 (x1 - (x0.length:Int))))

theorem laws_szAddressS_ok (hE:Ext W w){o:Option Addr}{q:Nat}{x0:LD}{x1:Int}(G:zjN.ro W [sl o x0 q] x0){fu:Nat}{r:Int}(hm:z6V fu x0 x1=some r):
  CL 230 ⟨[sl o x0 q,iv x1]⟩ w (RI w r):=by
 refine into Tryz.func230 12 _ ?_;unfold z6V at hm;have hS:=St.start w;refine sg<|rm 1 ?_;refine sg<|rm 5 ?_;refine sq<|sg<|rm 2 ?_;refine ci hm (fun hm=>?_) (fun hm=>?_)
 ·refine sg<|rm 1 ?_;refine rt ?_;cases hm;exact⟨_,tR rfl,rfl,hS⟩
 ·refine sp<|sg<|rm 2 ?_;refine rt ?_;cases hm;exact⟨_,tR rfl,rfl,hS⟩

theorem zo4:EN 189:=en Tryz.func189
def z3T (fu:Nat)(x0:Qa)(x1:Int):Option (Int):=((z3y fu x0.Data x1).bind fun o=>(if(decide (o<0))=true then some (-1) else((z6V fu x0.QM o).bind fun q=>(if(decide (q<0))=true then some (-1) else some q))))

theorem laws_szShardCell_ok (hE:Ext W w){b0:List Value}{x0:Qa}{x1:Int}(c0:zjM.ro W b0 x0){fu:Nat}{r:Int}(hm:z3T fu x0 x1=some r):
  CL 189 ⟨[.agg ⟨b0⟩,iv x1]⟩ w (RI w r):=by
 obtain⟨A1,k2,A4,k5,e7,h3,h6⟩:=zd7 c0;subst e7;refine into Tryz.func189 18 _ ?_;unfold z3T at hm;have hS:=St.start w;refine sg<|nw hS (fun f0 o0 e0 q=>?_);refine rm 1 ?_;refine sg<|rr 1 ?_;refine l1 ((q.b 0 rfl).box) 3 ?_;refine rr 1 ?_;obtain⟨g0,Z,hm⟩:=bS hm;refine ca zi3 (laws_szInt64S_ok (hE.trans q.ext) h3 Z) (fun j0 p0 H=>?_);obtain⟨rfl,O⟩:=H;have o:=q.join O;refine rm 1 ?_;refine sq<|sg<|rm 2 ?_;refine ci hm (fun hm=>?_) (fun hm=>?_)
 ·refine sg<|rm 1 ?_;refine rt ?_;cases hm;exact⟨_,tR rfl,rfl,(o.t 0)⟩
 ·refine sp<|sg<|rr 1 ?_;refine l1 ((o.b 0 rfl).box) 4 ?_;refine rr 1 ?_;obtain⟨i0,a0,hm⟩:=bS hm;refine ca ztf (laws_szAddressS_ok (hE.trans o.ext) h6 a0) (fun k0 q0 X=>?_);obtain⟨rfl,Y⟩:=X;have G:=o.join Y;refine rm 1 ?_;refine sq<|sg<|rm 2 ?_;refine ci hm (fun hm=>?_) (fun hm=>?_)
  ·refine sg<|rm 1 ?_;refine rt ?_;cases hm;exact⟨_,tR rfl,rfl,(G.t 0)⟩
  ·refine sp<|sg<|rm 2 ?_;refine rt ?_;cases hm;exact⟨_,tR rfl,rfl,(G.t 0)⟩

theorem zu8:EN 149:=en Tryz.func149
def zaJ (fu:Nat)(t2:Int):Option Int:=some t2
def z5e (fu:Nat)(x0:LB)(s1:Int×Int):Option (Rd (Int×Int) (Int) (Int)):=(if(decide (s1.2<(x0.length:Int)))=true then((idx x0 s1.2).bind fun q=>((z3T fu q s1.1).bind fun o=>(if(decide (o<0))=true then some (.ret (-1)) else some (.next (o,w64 (s1.2+1)))))) else some (.brk s1.1))
def z4Z (fu:Nat)(x0:LB)(x1:Int):Option (Int):=(if(decide ((w64 (x1 - (x0.length:Int)))<0))=true then some (-1) else((iter (z5e fu x0) fu (w64 (x1 - (x0.length:Int)),0)).bind fun o=>aft o (zaJ fu)))

theorem laws_szShardCellS_ok (hE:Ext W w){Y:Option Addr}{i0:Nat}{x0:LB}{x1:Int}(p0:zn1.ro W [sl Y x0 i0] x0){fu:Nat}{r:Int}(hm:z4Z fu x0 x1=some r):
  CL 149 ⟨[sl Y x0 i0,iv x1]⟩ w (RI w r):=by
 refine into Tryz.func149 27 _ ?_;unfold z4Z at hm;have hS:=St.start w;refine sg<|rm 1 ?_;refine sg<|rm 5 ?_;refine sq<|sg<|rm 2 ?_;refine ci hm (fun hm=>?_) (fun hm=>?_)
 ·refine sg<|rm 1 ?_;refine rt ?_;cases hm;exact⟨_,tR rfl,rfl,hS⟩
 ·refine sp<|sq<|sg<|rm 1 ?_;obtain⟨q0,c0,hm⟩:=bS hm;refine ct (fun(t2:Int) F w9=>q0=.inl t2∧Ext w w9∧St w w9 []∧F=[(1,iv t2)]) ?_ ?_
  ·rintro t2 F w7 ⟨e0,y0,a0,rfl⟩;subst e0;rw[z8] at hm;unfold zaJ at hm;refine sg<|rm 2 ?_;refine rt ?_;cases hm;exact⟨_,tR rfl,rfl,a0⟩
  ·refine bk<|wk [0,1,5] ?_;refine it (fun(s1:Int×Int) F w9=>Ext w w9∧St w w9 []∧F=[(0,sl Y x0 i0),(1,iv s1.1),(5,iv s1.2)]) c0 ⟨(Ext.refl _),hS,rfl⟩ ?_;rintro s1 F G0 _ C0 ⟨j0,q,rfl⟩ o O;unfold z5e at o;refine sq<|sg<|rm 4 ?_;refine ci o (fun o=>?_) (fun o=>?_)
   ·refine sp<|sq<|bk<|sg<|rr 2 ?_;obtain⟨J0,f0,o⟩:=bS o;refine ix (hE.trans q.ext) p0 f0 (fun D0 o0 b0 X=>?_);obtain⟨r0,A0,t0,B0,k0,u0,v0⟩:=zd7 X;subst k0;refine lN (ax hE q b0) ?_;refine rr 1 ?_;obtain⟨E0,g0,o⟩:=bS o;refine ca zo4 (laws_szShardCell_ok (hE.trans q.ext) X g0) (fun F0 H0 Z=>?_);obtain⟨rfl,G⟩:=Z;have H:=q.join G;refine rm 1 ?_;refine sg<|rm 2 ?_;refine ci o (fun o=>?_) (fun o=>?_)
    ·refine sg<|rm 1 ?_;refine rt ?_;cases o;cases O;have hm:some _=some _:=hm;cases hm;exact⟨_,tR rfl,rfl,H⟩
    ·refine sp<|rg<|rm 3 ?_;cases o;exact⟨_,_,rfl,⟨(j0.trans G.ext),H,rfl⟩,rfl⟩
   ·refine xt ?_;cases o;exact⟨_,_,⟨O,j0,q,rfl⟩,rfl⟩

theorem zu7:EN 150:=en Tryz.func150
def z5T (fu:Nat)(x0:LH)(x1:Int):Option (Int):=(if(decide ((w64 (x1 - (x0.length:Int)))<0))=true then some (-1) else some (w64 (x1 - (x0.length:Int))))

theorem laws_szShardVarS_ok (hE:Ext W w){o:Option Addr}{q:Nat}{x0:LH}{x1:Int}(G:zn0.ro W [sl o x0 q] x0){fu:Nat}{r:Int}(hm:z5T fu x0 x1=some r):
  CL 150 ⟨[sl o x0 q,iv x1]⟩ w (RI w r):=by
 refine into Tryz.func150 12 _ ?_;unfold z5T at hm;have hS:=St.start w;refine sg<|rm 1 ?_;refine sg<|rm 5 ?_;refine sq<|sg<|rm 2 ?_;refine ci hm (fun hm=>?_) (fun hm=>?_)
 ·refine sg<|rm 1 ?_;refine rt ?_;cases hm;exact⟨_,tR rfl,rfl,hS⟩
 ·refine sp<|sg<|rm 2 ?_;refine rt ?_;cases hm;exact⟨_,tR rfl,rfl,hS⟩

theorem zu6:EN 151:=en Tryz.func151
def z4c (fu:Nat)(x0:LK)(x1:Int):Option (Int):=(if(decide ((w64 (x1 - (x0.length:Int)))<0))=true then some (-1) else some (w64 (x1 - (x0.length:Int))))

theorem laws_szShardRedexS_ok (hE:Ext W w){o:Option Addr}{q:Nat}{x0:LK}{x1:Int}(G:zmZ.ro W [sl o x0 q] x0){fu:Nat}{r:Int}(hm:z4c fu x0 x1=some r):
  CL 151 ⟨[sl o x0 q,iv x1]⟩ w (RI w r):=by
 refine into Tryz.func151 12 _ ?_;unfold z4c at hm;have hS:=St.start w;refine sg<|rm 1 ?_;refine sg<|rm 5 ?_;refine sq<|sg<|rm 2 ?_;refine ci hm (fun hm=>?_) (fun hm=>?_)
 ·refine sg<|rm 1 ?_;refine rt ?_;cases hm;exact⟨_,tR rfl,rfl,hS⟩
 ·refine sp<|sg<|rm 2 ?_;refine rt ?_;cases hm;exact⟨_,tR rfl,rfl,hS⟩

theorem zw8:EN 84:=en Tryz.func84
def z9g (fu:Nat)(x0:Qp)(x1:Int):Option (Int):=((z4Z fu x0.Cells x1).bind fun o=>(if(decide (o<0))=true then some (-1) else((z5T fu x0.QJ o).bind fun q=>(if(decide (q<0))=true then some (-1) else((z4c fu x0.Qs q).bind fun G=>(if(decide (G<0))=true then some (-1) else some G))))))

theorem laws_szShard_ok (hE:Ext W w){g0:List Value}{x0:Qp}{x1:Int}(j0:zoS.ro W g0 x0){fu:Nat}{r:Int}(hm:z9g fu x0 x1=some r):
  CL 84 ⟨[.agg ⟨g0⟩,iv x1]⟩ w (RI w r):=by
 obtain⟨A1,k2,A4,k5,A7,q0,i0,h3,h6,k0⟩:=zeO j0;subst i0;refine into Tryz.func84 24 _ ?_;unfold z9g at hm;have hS:=St.start w;refine sg<|nw hS (fun p0 B0 o0 G=>?_);refine rm 1 ?_;refine sg<|rr 1 ?_;refine l1 ((G.b 0 rfl).box) 0 ?_;refine rr 1 ?_;obtain⟨r0,c0,hm⟩:=bS hm;refine ca zu8 (laws_szShardCellS_ok (hE.trans G.ext) h3 c0) (fun v0 C0 O=>?_);obtain⟨rfl,X⟩:=O;have o:=G.join X;refine rm 1 ?_;refine sq<|sg<|rm 2 ?_;refine ci hm (fun hm=>?_) (fun hm=>?_)
 ·refine sg<|rm 1 ?_;refine rt ?_;cases hm;exact⟨_,tR rfl,rfl,(o.t 0)⟩
 ·refine sp<|sg<|rr 1 ?_;refine l1 ((o.b 0 rfl).box) 1 ?_;refine rr 1 ?_;obtain⟨t0,e0,hm⟩:=bS hm;refine ca zu7 (laws_szShardVarS_ok (hE.trans o.ext) h6 e0) (fun y0 D0 Y=>?_);obtain⟨rfl,Z⟩:=Y;have q:=o.join Z;refine rm 1 ?_;refine sq<|sg<|rm 2 ?_;refine ci hm (fun hm=>?_) (fun hm=>?_)
  ·refine sg<|rm 1 ?_;refine rt ?_;cases hm;exact⟨_,tR rfl,rfl,(q.t 0)⟩
  ·refine sp<|sg<|rr 1 ?_;refine l1 ((q.b 0 rfl).box) 2 ?_;refine rr 1 ?_;obtain⟨u0,f0,hm⟩:=bS hm;refine ca zu6 (laws_szShardRedexS_ok (hE.trans q.ext) k0 f0) (fun A0 E0 a0=>?_);obtain⟨rfl,b0⟩:=a0;have H:=q.join b0;refine rm 1 ?_;refine sq<|sg<|rm 2 ?_;refine ci hm (fun hm=>?_) (fun hm=>?_)
   ·refine sg<|rm 1 ?_;refine rt ?_;cases hm;exact⟨_,tR rfl,rfl,(H.t 0)⟩
   ·refine sp<|sg<|rm 2 ?_;refine rt ?_;cases hm;exact⟨_,tR rfl,rfl,(H.t 0)⟩

theorem zwA:EN 33:=en Tryz.func33
def zcJ (fu:Nat)(t2:Int):Option Int:=some t2
def z8f (fu:Nat)(x0:LG)(s1:Int×Int):Option (Rd (Int×Int) (Int) (Int)):=(if(decide (s1.2<(x0.length:Int)))=true then((idx x0 s1.2).bind fun q=>((z9g fu q s1.1).bind fun o=>(if(decide (o<0))=true then some (.ret (-1)) else some (.next (o,w64 (s1.2+1)))))) else some (.brk s1.1))
def z8G (fu:Nat)(x0:LG)(x1:Int):Option (Int):=(if(decide ((w64 (x1 - (x0.length:Int)))<0))=true then some (-1) else((iter (z8f fu x0) fu (w64 (x1 - (x0.length:Int)),0)).bind fun o=>aft o (zcJ fu)))

theorem laws_szShardS_ok (hE:Ext W w){Y:Option Addr}{i0:Nat}{x0:LG}{x1:Int}(p0:ty22.ro W [sl Y x0 i0] x0){fu:Nat}{r:Int}(hm:z8G fu x0 x1=some r):
  CL 33 ⟨[sl Y x0 i0,iv x1]⟩ w (RI w r):=by
 refine into Tryz.func33 27 _ ?_;unfold z8G at hm;have hS:=St.start w;refine sg<|rm 1 ?_;refine sg<|rm 5 ?_;refine sq<|sg<|rm 2 ?_;refine ci hm (fun hm=>?_) (fun hm=>?_)
 ·refine sg<|rm 1 ?_;refine rt ?_;cases hm;exact⟨_,tR rfl,rfl,hS⟩
 ·refine sp<|sq<|sg<|rm 1 ?_;obtain⟨q0,c0,hm⟩:=bS hm;refine ct (fun(t2:Int) F w9=>q0=.inl t2∧Ext w w9∧St w w9 []∧F=[(1,iv t2)]) ?_ ?_
  ·rintro t2 F w7 ⟨e0,B0,a0,rfl⟩;subst e0;rw[z8] at hm;unfold zcJ at hm;refine sg<|rm 2 ?_;refine rt ?_;cases hm;exact⟨_,tR rfl,rfl,a0⟩
  ·refine bk<|wk [0,1,5] ?_;refine it (fun(s1:Int×Int) F w9=>Ext w w9∧St w w9 []∧F=[(0,sl Y x0 i0),(1,iv s1.1),(5,iv s1.2)]) c0 ⟨(Ext.refl _),hS,rfl⟩ ?_;rintro s1 F K0 _ F0 ⟨j0,q,rfl⟩ o O;unfold z8f at o;refine sq<|sg<|rm 4 ?_;refine ci o (fun o=>?_) (fun o=>?_)
   ·refine sp<|sq<|bk<|sg<|rr 2 ?_;obtain⟨M0,f0,o⟩:=bS o;refine ix (hE.trans q.ext) p0 f0 (fun G0 o0 b0 X=>?_);obtain⟨r0,C0,t0,D0,u0,E0,k0,v0,y0,A0⟩:=zeO X;subst k0;refine lN (ax hE q b0) ?_;refine rr 1 ?_;obtain⟨H0,g0,o⟩:=bS o;refine ca zw8 (laws_szShard_ok (hE.trans q.ext) X g0) (fun J0 L0 Z=>?_);obtain⟨rfl,G⟩:=Z;have H:=q.join G;refine rm 1 ?_;refine sg<|rm 2 ?_;refine ci o (fun o=>?_) (fun o=>?_)
    ·refine sg<|rm 1 ?_;refine rt ?_;cases o;cases O;have hm:some _=some _:=hm;cases hm;exact⟨_,tR rfl,rfl,H⟩
    ·refine sp<|rg<|rm 3 ?_;cases o;exact⟨_,_,rfl,⟨(j0.trans G.ext),H,rfl⟩,rfl⟩
   ·refine xt ?_;cases o;exact⟨_,_,⟨O,j0,q,rfl⟩,rfl⟩

theorem zxs:EN 7:=en Tryz.func7
def zah (fu:Nat)(x0:D.Qk)(x1:Int):Option (Int):=((z8G fu x0.Qf x1).bind fun o=>(if(decide (o<0))=true then some (-1) else some o))

theorem laws_szGrid_ok (hE:Ext W w){X:List Value}{x0:D.Qk}{x1:Int}(Y:ty26.ro W X x0){fu:Nat}{r:Int}(hm:zah fu x0 x1=some r):
  CL 7 ⟨[.agg ⟨X⟩,iv x1]⟩ w (RI w r):=by
 obtain⟨A1,k2,e4,h3⟩:=zif Y;subst e4;refine into Tryz.func7 12 _ ?_;unfold zah at hm;have hS:=St.start w;refine sg<|nw hS (fun g5 w6 e7 o=>?_);refine rm 1 ?_;refine sg<|rr 1 ?_;refine l1 ((o.b 0 rfl).box) 0 ?_;refine rr 1 ?_;obtain⟨Z,O,hm⟩:=bS hm;refine ca zwA (laws_szShardS_ok (hE.trans o.ext) h3 O) (fun a0 b0 G=>?_);obtain⟨rfl,H⟩:=G;have q:=o.join H;refine rm 1 ?_;refine sq<|sg<|rm 2 ?_;refine ci hm (fun hm=>?_) (fun hm=>?_)
 ·refine sg<|rm 1 ?_;refine rt ?_;cases hm;exact⟨_,tR rfl,rfl,(q.t 0)⟩
 ·refine sp<|sg<|rm 2 ?_;refine rt ?_;cases hm;exact⟨_,tR rfl,rfl,(q.t 0)⟩

theorem zi4:EN 25:=en Tryz.func25
def zcH (fu:Nat)(o:L9):Option L9:=some o
def z8e (fu:Nat)(x0:L9)(o:Int×L9):Option (Rd (Int×L9) L9 L9):=(if(decide (o.1<(x0.length:Int)))=true then((idx x0 o.1).bind fun q=>(if decide (0≤o.1∧o.1.toNat<o.2.length)=true then some (.next (w64 (o.1+1),(o.2.set o.1.toNat q))) else none)) else some (.brk o.2))
def z3x (fu:Nat)(x0:L9):Option L9:=(if decide (0≤(x0.length:Int)∧(x0.length:Int)≤4294967296)=true then((iter (z8e fu x0) fu (0,(List.replicate (x0.length:Int).toNat (0:Int)))).bind fun o=>aft o (zcH fu)) else none)

theorem laws_toInt64S_ok (hE:Ext W w){X:Option Addr}{p0:Nat}{x0:L9}(v0:ty45.ro W [sl X x0 p0] x0){fu:Nat}{r:L9}(hm:z3x fu x0=some r):
  CL 25 ⟨[sl X x0 p0]⟩ w (Ret fun v w8=>∃ A0 k0,v=sl A0 r k0∧St w w8 [ow ty45 A0 r k0]):=by
 refine into Tryz.func25 22 _ ?_;unfold z3x at hm;have hS:=St.start w;refine sg<|rm 1 ?_;refine sg<|rr 2 ?_;obtain⟨B0,hm⟩:=iS hm;have L0:=of_decide_eq_true B0;refine mS (U:=z2z) (0:Int) hS L0 (fun _=>⟨rfl,rfl⟩) (fun A2 k3 w4 e5 y0=>?_);refine rm 1 ?_;refine sq<|sg<|rm 1 ?_;obtain⟨C0,f0,hm⟩:=bS hm;refine ct (fun(r0:L9) F w9=>C0=.inl r0∧St w w9 [Own ty45 [sl A2 (List.replicate (x0.length:Int).toNat (0:Int)) k3] r0]∧F=[(3,sl A2 (List.replicate (x0.length:Int).toNat (0:Int)) k3)]) ?_ ?_
 ·rintro r0 F F0 ⟨g0,H,rfl⟩;subst g0;rw[z8] at hm;unfold zcH at hm;refine sg<|rm 2 ?_;refine rt ?_;cases hm;have J0:=(H.b 0 rfl).lenEq;have Y:=(H.b 0 rfl).reLen J0;exact⟨_,tR rfl,A2,k3,(by first | (simp only[sl,J0];done) | (simp only[sl,J0];rfl)),Y⟩
 ·refine bk<|wk [0,3,4] ?_;refine it (fun(q0:Int×L9) F w9=>St w w9 [Own ty45 [sl A2 (List.replicate (x0.length:Int).toNat (0:Int)) k3] q0.2]∧F=[(0,sl X x0 p0),(3,sl A2 (List.replicate (x0.length:Int).toNat (0:Int)) k3),(4,iv q0.1)]) f0 ⟨y0,rfl⟩ ?_;rintro q0 F G0 _ D0 ⟨q,rfl⟩ o i0;unfold z8e at o;refine sq<|sg<|rm 4 ?_;refine ci o (fun o=>?_) (fun o=>?_)
  ·refine sp<|sq<|bk<|rg<|rr 4 ?_;obtain⟨t0,o0,o⟩:=bS o;refine ix (hE.trans q.ext) v0 o0 (fun E0 u0 c0 j0=>?_);cases j0;refine l1 (ax hE q c0) 0 ?_;have O:=q.b 0 rfl;obtain⟨e0,o⟩:=iS o;have G:=of_decide_eq_true e0;refine io O G.1 G.2 (fun M0 K0=>?_);have Z:=O.flat (T:=z2z) (cs:=[iv t0]) (x:=t0) ⟨rfl,rfl⟩;have a0:=Z.b 1 rfl;refine se a0 G.2 K0 (fun H0 b0=>?_);refine rn<|rg<|rm 3 ?_;cases o;exact⟨_,_,rfl,⟨b0,rfl⟩,rfl⟩
  ·refine xt ?_;cases o;exact⟨_,_,⟨i0,q,rfl⟩,rfl⟩

theorem zdQ:EN 39:=en Tryz.func39
def z1t (fu:Nat)(x0:Qb):Option (Qb):=some x0

theorem laws_toAddress_ok (hE:Ext W w){c0:List Value}{x0:Qb}(e0:ty24.ro W c0 x0){fu:Nat}{r:Qb}(hm:z1t fu x0=some r):
  CL 39 ⟨[.agg ⟨c0⟩]⟩ w (Ret fun v w8=>v=.agg ⟨[iv r.Qj,iv r.Qi,iv r.Qo]⟩∧St w w8 []):=by
 have e1:=zb3 e0;subst e1;refine into Tryz.func39 14 _ ?_;unfold z1t at hm;have hS:=St.start w;refine sg<|nw hS (fun g2 w3 e4 f0=>?_);refine nw f0 (fun g6 w7 g0 X=>?_);refine rn<|sg<|nw X (fun j0 k0 i0 o=>?_);refine rn<|sg<|rr 1 ?_;refine l1 ((o.b 2 rfl).box) 0 ?_;refine rr 1 ?_;have Y:=o.b 0 rfl;refine so (A:=[]) Y 0 (fun o0 q=>?_);refine rn<|sg<|rr 1 ?_;refine l1 ((q.b 2 rfl).box) 1 ?_;refine rr 1 ?_;have Z:=q.b 0 rfl;refine so (A:=[]) Z 1 (fun p0 G=>?_);refine rn<|sg<|rr 1 ?_;refine l1 ((G.b 2 rfl).box) 2 ?_;refine rr 1 ?_;have a0:=G.b 0 rfl;refine so (A:=[]) a0 2 (fun q0 H=>?_);refine rn<|sg<|lN ((H.b 0 rfl).box) ?_;have b0:=H.b 1 rfl;refine so (A:=[]) b0 0 (fun r0 O=>?_);refine rn<|rt ?_;cases hm;exact⟨_,.cons (ra ((O.b 0 rfl).box)) .nil,rfl,(O.t 0)⟩

theorem ztd:EN 232:=en Tryz.func232
def zbB (fu:Nat)(o:LD):Option LD:=some o
def z6m (fu:Nat)(x0:LD)(o:Int×LD):Option (Rd (Int×LD) LD LD):=(if(decide (o.1<(x0.length:Int)))=true then((idx x0 o.1).bind fun G=>((z1t fu G).bind fun q=>(if decide (0≤o.1∧o.1.toNat<o.2.length)=true then some (.next (w64 (o.1+1),(o.2.set o.1.toNat q))) else none))) else some (.brk o.2))
def z6T (fu:Nat)(x0:LD):Option LD:=(if decide (0≤(x0.length:Int)∧(x0.length:Int)≤4294967296)=true then((iter (z6m fu x0) fu (0,(List.replicate (x0.length:Int).toNat (⟨(0:Int),(0:Int),(0:Int)⟩:Qb)))).bind fun o=>aft o (zbB fu)) else none)

theorem laws_toAddressS_ok (hE:Ext W w){Y:Option Addr}{u0:Nat}{x0:LD}(D0:zjN.ro W [sl Y x0 u0] x0){fu:Nat}{r:LD}(hm:z6T fu x0=some r):
  CL 232 ⟨[sl Y x0 u0]⟩ w (Ret fun v w8=>∃ A0 k0,v=sl A0 r k0∧St w w8 [ow ty82 A0 r k0]):=by
 refine into Tryz.func232 23 _ ?_;unfold z6T at hm;have hS:=St.start w;refine sg<|rm 1 ?_;refine sg<|rr 2 ?_;obtain⟨F0,hm⟩:=iS hm;have T0:=of_decide_eq_true F0;refine mS (U:=ty34) (⟨(0:Int),(0:Int),(0:Int)⟩:Qb) hS T0 (fun _=>(z8q (c:=(⟨(0:Int),(0:Int),(0:Int)⟩:Qb)) rfl)) (fun A2 k3 w4 e5 E0=>?_);refine rm 1 ?_;refine sq<|sg<|rm 1 ?_;obtain⟨G0,o0,hm⟩:=bS hm;refine ct (fun(y0:LD) F w9=>G0=.inl y0∧St w w9 [Own ty82 [sl A2 (List.replicate (x0.length:Int).toNat (⟨(0:Int),(0:Int),(0:Int)⟩:Qb)) k3] y0]∧F=[(3,sl A2 (List.replicate (x0.length:Int).toNat (⟨(0:Int),(0:Int),(0:Int)⟩:Qb)) k3)]) ?_ ?_
 ·rintro y0 F M0 ⟨p0,H,rfl⟩;subst p0;rw[z8] at hm;unfold zbB at hm;refine sg<|rm 2 ?_;refine rt ?_;cases hm;have R0:=(H.b 0 rfl).lenEq;have b0:=(H.b 0 rfl).reLen R0;exact⟨_,tR rfl,A2,k3,(by first | (simp only[sl,R0];done) | (simp only[sl,R0];rfl)),b0⟩
 ·refine bk<|wk [0,3,4] ?_;refine it (fun(v0:Int×LD) F w9=>St w w9 [Own ty82 [sl A2 (List.replicate (x0.length:Int).toNat (⟨(0:Int),(0:Int),(0:Int)⟩:Qb)) k3] v0.2]∧F=[(0,sl Y x0 u0),(3,sl A2 (List.replicate (x0.length:Int).toNat (⟨(0:Int),(0:Int),(0:Int)⟩:Qb)) k3),(4,iv v0.1)]) o0 ⟨E0,rfl⟩ ?_;rintro v0 F N0 _ J0 ⟨q,rfl⟩ o q0;unfold z6m at o;refine sq<|sg<|rm 4 ?_;refine ci o (fun o=>?_) (fun o=>?_)
  ·refine sp<|sq<|bk<|rg<|rr 4 ?_;obtain⟨Q0,r0,o⟩:=bS o;refine ix (hE.trans q.ext) D0 r0 (fun K0 C0 i0 X=>?_);have B0:=zb3 X;subst B0;refine lN (ax hE q i0) ?_;obtain⟨H0,t0,o⟩:=bS o;refine ca zdQ (laws_toAddress_ok (hE.trans q.ext) X t0) (fun L0 O0 Z=>?_);obtain⟨rfl,a0⟩:=Z;have c0:=q.join a0;have O:=c0.b 0 rfl;obtain⟨j0,o⟩:=iS o;have G:=of_decide_eq_true j0;refine io O G.1 G.2 (fun U0 S0=>?_);have e0:=zkd (c:=H0) (B:=_) O;have f0:=e0.b 1 rfl;refine se f0 G.2 S0 (fun P0 g0=>?_);refine rn<|rg<|rm 3 ?_;cases o;exact⟨_,_,rfl,⟨g0,rfl⟩,rfl⟩
  ·refine xt ?_;cases o;exact⟨_,_,⟨q0,q,rfl⟩,rfl⟩

theorem zo0:EN 195:=en Tryz.func195
def z3S (fu:Nat)(x0:Qa):Option (Qa):=((z3x fu x0.Data).bind fun o=>((z6T fu x0.QM).bind fun q=>some (⟨x0.Qi,x0.QC,x0.Value,o,q⟩:Qa)))

theorem laws_toShardCell_ok (hE:Ext W w){y0:List Value}{x0:Qa}(D0:zjM.ro W y0 x0){fu:Nat}{r:Qa}(hm:z3S fu x0=some r):
  CL 195 ⟨[.agg ⟨y0⟩]⟩ w (Ret fun v w8=>∃ A0 k0 A1 k1,v=.agg ⟨[iv r.Qi,iv r.QC,iv r.Value,sl A0 r.Data k0,sl A1 r.QM k1]⟩∧St w w8 [ow ty45 A0 r.Data k0,ow ty82 A1 r.QM k1]):=by
 obtain⟨A1,k2,A4,k5,e7,h3,h6⟩:=zd7 D0;subst e7;refine into Tryz.func195 22 _ ?_;unfold z3S at hm;have hS:=St.start w;refine sg<|nw hS (fun K0 R0 G0 e0=>?_);refine nw e0 (fun L0 S0 H0 f0=>?_);refine rn<|sg<|nw f0 (fun M0 T0 J0 G=>?_);refine rn<|sg<|rr 1 ?_;refine l1 ((G.b 2 rfl).box) 0 ?_;refine rr 1 ?_;have g0:=G.b 0 rfl;refine so (A:=[]) g0 0 (fun U0 H=>?_);refine rn<|sg<|rr 1 ?_;refine l1 ((H.b 2 rfl).box) 1 ?_;refine rr 1 ?_;have i0:=H.b 0 rfl;refine so (A:=[]) i0 1 (fun V0 O=>?_);refine rn<|sg<|rr 1 ?_;refine l1 ((O.b 2 rfl).box) 2 ?_;refine rr 1 ?_;have j0:=O.b 0 rfl;refine so (A:=[]) j0 2 (fun X0 o=>?_);refine rn<|sg<|rr 1 ?_;refine l1 ((o.b 2 rfl).box) 3 ?_;obtain⟨N0,u0,hm⟩:=bS hm;refine ca zi4 (laws_toInt64S_ok (hE.trans o.ext) h3 u0) (fun P0 Y0 Z=>?_);obtain⟨B0,E0,rfl,a0⟩:=Z;have o0:=o.join a0;refine rr 1 ?_;have p0:=o0.b 1 rfl;refine so (A:=[]) p0 3 (fun a1 q=>?_);refine rn<|sg<|rr 1 ?_;refine l1 ((q.b 3 rfl).box) 4 ?_;obtain⟨O0,v0,hm⟩:=bS hm;refine ca ztd (laws_toAddressS_ok (hE.trans q.ext) h6 v0) (fun Q0 b1 b0=>?_);obtain⟨C0,F0,rfl,c0⟩:=b0;have q0:=q.join c0;refine rr 1 ?_;have r0:=q0.b 1 rfl;refine so (A:=[]) r0 4 (fun d1 X=>?_);refine rn<|sg<|lN ((X.b 0 rfl).box) ?_;have t0:=X.b 3 rfl;refine so (A:=[]) t0 0 (fun e1 Y=>?_);refine rn<|rt ?_;cases hm;exact⟨_,.cons (ra ((Y.b 0 rfl).box)) .nil,B0,E0,C0,F0,rfl,(((Y.b 2 rfl).b 3 rfl).t 2)⟩

theorem zu3:EN 156:=en Tryz.func156
def zaH (fu:Nat)(o:LB):Option LB:=some o
def z5d (fu:Nat)(x0:LB)(o:Int×LB):Option (Rd (Int×LB) LB LB):=(if(decide (o.1<(x0.length:Int)))=true then((idx x0 o.1).bind fun G=>((z3S fu G).bind fun q=>(if decide (0≤o.1∧o.1.toNat<o.2.length)=true then some (.next (w64 (o.1+1),(o.2.set o.1.toNat q))) else none))) else some (.brk o.2))
def z4Y (fu:Nat)(x0:LB):Option LB:=(if decide (0≤(x0.length:Int)∧(x0.length:Int)≤4294967296)=true then((iter (z5d fu x0) fu (0,(List.replicate (x0.length:Int).toNat (⟨(0:Int),(0:Int),(0:Int),([]:L9),([]:LD)⟩:Qa)))).bind fun o=>aft o (zaH fu)) else none)

theorem laws_toShardCellS_ok (hE:Ext W w){Y:Option Addr}{y0:Nat}{x0:LB}(F0:zn1.ro W [sl Y x0 y0] x0){fu:Nat}{r:LB}(hm:z4Y fu x0=some r):
  CL 156 ⟨[sl Y x0 y0]⟩ w (Ret fun v w8=>∃ A0 k0,v=sl A0 r k0∧St w w8 [ow ty81 A0 r k0]):=by
 refine into Tryz.func156 23 _ ?_;unfold z4Y at hm;have hS:=St.start w;refine sg<|rm 1 ?_;refine sg<|rr 2 ?_;obtain⟨H0,hm⟩:=iS hm;have j1:=of_decide_eq_true H0;refine mS (U:=z90) (⟨(0:Int),(0:Int),(0:Int),([]:L9),([]:LD)⟩:Qa) hS j1 (fun _=>(zgw (c:=(⟨(0:Int),(0:Int),(0:Int),([]:L9),([]:LD)⟩:Qa)) ⟨[],[],rfl,(z9s z2z 2 _),⟨[],[],rfl,(z9s ty34 34 _),rfl⟩⟩)) (fun A2 k3 w4 e5 G0=>?_);refine rm 1 ?_;refine sq<|sg<|rm 1 ?_;obtain⟨J0,q0,hm⟩:=bS hm;refine ct (fun(C0:LB) F w9=>J0=.inl C0∧St w w9 [Own ty81 [.slice A2 (List.replicate (x0.length:Int).toNat (⟨(0:Int),(0:Int),(0:Int),([]:L9),([]:LD)⟩:Qa)).length k3] C0]∧F=[(3,.slice A2 (List.replicate (x0.length:Int).toNat (⟨(0:Int),(0:Int),(0:Int),([]:L9),([]:LD)⟩:Qa)).length k3)]) ?_ ?_
 ·rintro C0 F a1 ⟨r0,H,rfl⟩;subst r0;rw[z8] at hm;unfold zaH at hm;refine sg<|rm 2 ?_;refine rt ?_;cases hm;have g1:=(H.b 0 rfl).lenEq;have b0:=(H.b 0 rfl).reLen g1;exact⟨_,tR rfl,A2,k3,(by first | (simp only[sl,g1];done) | (simp only[sl,g1];rfl)),b0⟩
 ·refine bk<|wk [0,3,4] ?_;refine it (fun(B0:Int×LB) F w9=>St w w9 [Own ty81 [.slice A2 (List.replicate (x0.length:Int).toNat (⟨(0:Int),(0:Int),(0:Int),([]:L9),([]:LD)⟩:Qa)).length k3] B0.2]∧F=[(0,sl Y x0 y0),(3,.slice A2 (List.replicate (x0.length:Int).toNat (⟨(0:Int),(0:Int),(0:Int),([]:L9),([]:LD)⟩:Qa)).length k3),(4,iv B0.1)]) q0 ⟨G0,rfl⟩ ?_;rintro B0 F b1 _ V0 ⟨q,rfl⟩ o t0;unfold z5d at o;refine sq<|sg<|rm 4 ?_;refine ci o (fun o=>?_) (fun o=>?_)
  ·refine sp<|sq<|bk<|rg<|rr 4 ?_;obtain⟨f1,u0,o⟩:=bS o;refine ix (hE.trans q.ext) F0 u0 (fun X0 E0 o0 X=>?_);obtain⟨L0,R0,M0,S0,D0,P0,Q0⟩:=zd7 X;subst D0;refine lN (ax hE q o0) ?_;obtain⟨K0,v0,o⟩:=bS o;refine ca zo0 (laws_toShardCell_ok (hE.trans q.ext) X v0) (fun Y0 d1 Z=>?_);obtain⟨N0,T0,O0,U0,rfl,a0⟩:=Z;have c0:=q.join a0;have O:=c0.b 2 rfl;obtain⟨p0,o⟩:=iS o;have G:=of_decide_eq_true p0;refine io O G.1 G.2 (fun m1 i1=>?_);have e0:=O.b 2 rfl;have f0:=e0.b 2 rfl;have g0:=zij (c:=K0) (B:=_) f0;have i0:=g0.b 1 rfl;refine se i0 G.2 i1 (fun e1 j0=>?_);refine rn<|rg<|rm 3 ?_;cases o;exact⟨_,_,rfl,⟨j0,rfl⟩,rfl⟩
  ·refine xt ?_;cases o;exact⟨_,_,⟨t0,q,rfl⟩,rfl⟩

theorem ztF:EN 196:=en Tryz.func196
def z6R (fu:Nat)(x0:Qn):Option (Qn):=((z1t fu x0.QU).bind fun o=>some (⟨x0.QZ,x0.Qa0,o⟩:Qn))

theorem laws_toShardVar_ok (hE:Ext W w){i0:List Value}{x0:Qn}(j0:zqF.ro W i0 x0){fu:Nat}{r:Qn}(hm:z6R fu x0=some r):
  CL 196 ⟨[.agg ⟨i0⟩]⟩ w (Ret fun v w8=>v=.agg ⟨[.bool r.QZ,.bool r.Qa0,iv r.QU.Qj,iv r.QU.Qi,iv r.QU.Qo]⟩∧St w w8 []):=by
 have e1:=zkg j0;subst e1;refine into Tryz.func196 15 _ ?_;unfold z6R at hm;have hS:=St.start w;refine sg<|nw hS (fun g2 w3 e4 k0=>?_);refine nw k0 (fun g6 w7 o0 Z=>?_);refine rn<|sg<|nw Z (fun q0 u0 p0 q=>?_);refine rn<|sg<|rr 1 ?_;refine l1 ((q.b 2 rfl).box) 0 ?_;refine rr 1 ?_;have a0:=q.b 0 rfl;refine so (A:=[]) a0 0 (fun v0 G=>?_);refine rn<|sg<|rr 1 ?_;refine l1 ((G.b 2 rfl).box) 1 ?_;refine rr 1 ?_;have b0:=G.b 0 rfl;refine so (A:=[]) b0 1 (fun y0 o=>?_);refine rn<|sg<|rr 1 ?_;refine lN (At.sub ((o.b 2 rfl).box) 2 3) ?_;obtain⟨r0,g0,hm⟩:=bS hm;refine ca zdQ (laws_toAddress_ok (hE.trans o.ext) (zbV x0.QU) g0) (fun t0 A0 X=>?_);obtain⟨rfl,Y⟩:=X;have c0:=o.join Y;refine rr 1 ?_;have e0:=c0.b 0 rfl;refine so (A:=[]) e0 2 (fun B0 H=>?_);refine rn<|sg<|lN ((H.b 0 rfl).box) ?_;have f0:=H.b 1 rfl;refine so (A:=[]) f0 0 (fun C0 O=>?_);refine rn<|rt ?_;cases hm;exact⟨_,.cons (ra ((O.b 0 rfl).box)) .nil,rfl,(O.t 0)⟩

theorem zu2:EN 157:=en Tryz.func157
def zbd (fu:Nat)(o:LH):Option LH:=some o
def z5R (fu:Nat)(x0:LH)(o:Int×LH):Option (Rd (Int×LH) LH LH):=(if(decide (o.1<(x0.length:Int)))=true then((idx x0 o.1).bind fun G=>((z6R fu G).bind fun q=>(if decide (0≤o.1∧o.1.toNat<o.2.length)=true then some (.next (w64 (o.1+1),(o.2.set o.1.toNat q))) else none))) else some (.brk o.2))
def z5S (fu:Nat)(x0:LH):Option LH:=(if decide (0≤(x0.length:Int)∧(x0.length:Int)≤4294967296)=true then((iter (z5R fu x0) fu (0,(List.replicate (x0.length:Int).toNat (⟨false,false,(⟨(0:Int),(0:Int),(0:Int)⟩:Qb)⟩:Qn)))).bind fun o=>aft o (zbd fu)) else none)

theorem laws_toShardVarS_ok (hE:Ext W w){Y:Option Addr}{u0:Nat}{x0:LH}(D0:zn0.ro W [sl Y x0 u0] x0){fu:Nat}{r:LH}(hm:z5S fu x0=some r):
  CL 157 ⟨[sl Y x0 u0]⟩ w (Ret fun v w8=>∃ A0 k0,v=sl A0 r k0∧St w w8 [ow zcu A0 r k0]):=by
 refine into Tryz.func157 23 _ ?_;unfold z5S at hm;have hS:=St.start w;refine sg<|rm 1 ?_;refine sg<|rr 2 ?_;obtain⟨F0,hm⟩:=iS hm;have T0:=of_decide_eq_true F0;refine mS (U:=ze7) (⟨false,false,(⟨(0:Int),(0:Int),(0:Int)⟩:Qb)⟩:Qn) hS T0 (fun _=>(zkk (c:=(⟨false,false,(⟨(0:Int),(0:Int),(0:Int)⟩:Qb)⟩:Qn)) rfl)) (fun A2 k3 w4 e5 E0=>?_);refine rm 1 ?_;refine sq<|sg<|rm 1 ?_;obtain⟨G0,o0,hm⟩:=bS hm;refine ct (fun(y0:LH) F w9=>G0=.inl y0∧St w w9 [Own zcu [.slice A2 (List.replicate (x0.length:Int).toNat (⟨false,false,(⟨(0:Int),(0:Int),(0:Int)⟩:Qb)⟩:Qn)).length k3] y0]∧F=[(3,.slice A2 (List.replicate (x0.length:Int).toNat (⟨false,false,(⟨(0:Int),(0:Int),(0:Int)⟩:Qb)⟩:Qn)).length k3)]) ?_ ?_
 ·rintro y0 F M0 ⟨p0,H,rfl⟩;subst p0;rw[z8] at hm;unfold zbd at hm;refine sg<|rm 2 ?_;refine rt ?_;cases hm;have R0:=(H.b 0 rfl).lenEq;have b0:=(H.b 0 rfl).reLen R0;exact⟨_,tR rfl,A2,k3,(by first | (simp only[sl,R0];done) | (simp only[sl,R0];rfl)),b0⟩
 ·refine bk<|wk [0,3,4] ?_;refine it (fun(v0:Int×LH) F w9=>St w w9 [Own zcu [.slice A2 (List.replicate (x0.length:Int).toNat (⟨false,false,(⟨(0:Int),(0:Int),(0:Int)⟩:Qb)⟩:Qn)).length k3] v0.2]∧F=[(0,sl Y x0 u0),(3,.slice A2 (List.replicate (x0.length:Int).toNat (⟨false,false,(⟨(0:Int),(0:Int),(0:Int)⟩:Qb)⟩:Qn)).length k3),(4,iv v0.1)]) o0 ⟨E0,rfl⟩ ?_;rintro v0 F N0 _ J0 ⟨q,rfl⟩ o q0;unfold z5R at o;refine sq<|sg<|rm 4 ?_;refine ci o (fun o=>?_) (fun o=>?_)
  ·refine sp<|sq<|bk<|rg<|rr 4 ?_;obtain⟨Q0,r0,o⟩:=bS o;refine ix (hE.trans q.ext) D0 r0 (fun K0 C0 i0 X=>?_);have B0:=zkg X;subst B0;refine lN (ax hE q i0) ?_;obtain⟨H0,t0,o⟩:=bS o;refine ca ztF (laws_toShardVar_ok (hE.trans q.ext) X t0) (fun L0 O0 Z=>?_);obtain⟨rfl,a0⟩:=Z;have c0:=q.join a0;have O:=c0.b 0 rfl;obtain⟨j0,o⟩:=iS o;have G:=of_decide_eq_true j0;refine io O G.1 G.2 (fun U0 S0=>?_);have e0:=zih (c:=H0) (B:=_) O;have f0:=e0.b 1 rfl;refine se f0 G.2 S0 (fun P0 g0=>?_);refine rn<|rg<|rm 3 ?_;cases o;exact⟨_,_,rfl,⟨g0,rfl⟩,rfl⟩
  ·refine xt ?_;cases o;exact⟨_,_,⟨q0,q,rfl⟩,rfl⟩

theorem ztE:EN 197:=en Tryz.func197
def z4X (fu:Nat)(x0:Qm):Option (Qm):=((z1t fu x0.A).bind fun o=>((z1t fu x0.B).bind fun q=>some (⟨o,q⟩:Qm)))

theorem laws_toShardRedex_ok (hE:Ext W w){k0:List Value}{x0:Qm}(o0:zqE.ro W k0 x0){fu:Nat}{r:Qm}(hm:z4X fu x0=some r):
  CL 197 ⟨[.agg ⟨k0⟩]⟩ w (Ret fun v w8=>v=.agg ⟨[iv r.A.Qj,iv r.A.Qi,iv r.A.Qo,iv r.B.Qj,iv r.B.Qi,iv r.B.Qo]⟩∧St w w8 []):=by
 have e1:=zkf o0;subst e1;refine into Tryz.func197 13 _ ?_;unfold z4X at hm;have hS:=St.start w;refine sg<|nw hS (fun g2 w3 e4 p0=>?_);refine nw p0 (fun g6 w7 q0 a0=>?_);refine rn<|sg<|nw a0 (fun t0 B0 r0 o=>?_);refine rn<|sg<|rr 1 ?_;refine lN (At.sub ((o.b 2 rfl).box) 0 3) ?_;obtain⟨u0,i0,hm⟩:=bS hm;refine ca zdQ (laws_toAddress_ok (hE.trans o.ext) (zbV x0.A) i0) (fun y0 C0 O=>?_);obtain⟨rfl,X⟩:=O;have b0:=o.join X;refine rr 1 ?_;have c0:=b0.b 0 rfl;refine so (A:=[]) c0 0 (fun D0 q=>?_);refine rn<|sg<|rr 1 ?_;refine lN (At.sub ((q.b 2 rfl).box) 3 3) ?_;obtain⟨v0,j0,hm⟩:=bS hm;refine ca zdQ (laws_toAddress_ok (hE.trans q.ext) (zbV x0.B) j0) (fun A0 E0 Y=>?_);obtain⟨rfl,Z⟩:=Y;have e0:=q.join Z;refine rr 1 ?_;have f0:=e0.b 0 rfl;refine so (A:=[]) f0 3 (fun F0 G=>?_);refine rn<|sg<|lN ((G.b 0 rfl).box) ?_;have g0:=G.b 1 rfl;refine so (A:=[]) g0 0 (fun G0 H=>?_);refine rn<|rt ?_;cases hm;exact⟨_,.cons (ra ((H.b 0 rfl).box)) .nil,rfl,(H.t 0)⟩

theorem zu1:EN 158:=en Tryz.func158
def zaf (fu:Nat)(o:LK):Option LK:=some o
def z4r (fu:Nat)(x0:LK)(o:Int×LK):Option (Rd (Int×LK) LK LK):=(if(decide (o.1<(x0.length:Int)))=true then((idx x0 o.1).bind fun G=>((z4X fu G).bind fun q=>(if decide (0≤o.1∧o.1.toNat<o.2.length)=true then some (.next (w64 (o.1+1),(o.2.set o.1.toNat q))) else none))) else some (.brk o.2))
def z4b (fu:Nat)(x0:LK):Option LK:=(if decide (0≤(x0.length:Int)∧(x0.length:Int)≤4294967296)=true then((iter (z4r fu x0) fu (0,(List.replicate (x0.length:Int).toNat (⟨(⟨(0:Int),(0:Int),(0:Int)⟩:Qb),(⟨(0:Int),(0:Int),(0:Int)⟩:Qb)⟩:Qm)))).bind fun o=>aft o (zaf fu)) else none)

theorem laws_toShardRedexS_ok (hE:Ext W w){Y:Option Addr}{u0:Nat}{x0:LK}(D0:zmZ.ro W [sl Y x0 u0] x0){fu:Nat}{r:LK}(hm:z4b fu x0=some r):
  CL 158 ⟨[sl Y x0 u0]⟩ w (Ret fun v w8=>∃ A0 k0,v=sl A0 r k0∧St w w8 [ow zd9 A0 r k0]):=by
 refine into Tryz.func158 23 _ ?_;unfold z4b at hm;have hS:=St.start w;refine sg<|rm 1 ?_;refine sg<|rr 2 ?_;obtain⟨F0,hm⟩:=iS hm;have T0:=of_decide_eq_true F0;refine mS (U:=zgv) (⟨(⟨(0:Int),(0:Int),(0:Int)⟩:Qb),(⟨(0:Int),(0:Int),(0:Int)⟩:Qb)⟩:Qm) hS T0 (fun _=>(zkm (c:=(⟨(⟨(0:Int),(0:Int),(0:Int)⟩:Qb),(⟨(0:Int),(0:Int),(0:Int)⟩:Qb)⟩:Qm)) rfl)) (fun A2 k3 w4 e5 E0=>?_);refine rm 1 ?_;refine sq<|sg<|rm 1 ?_;obtain⟨G0,o0,hm⟩:=bS hm;refine ct (fun(y0:LK) F w9=>G0=.inl y0∧St w w9 [Own zd9 [.slice A2 (List.replicate (x0.length:Int).toNat (⟨(⟨(0:Int),(0:Int),(0:Int)⟩:Qb),(⟨(0:Int),(0:Int),(0:Int)⟩:Qb)⟩:Qm)).length k3] y0]∧F=[(3,.slice A2 (List.replicate (x0.length:Int).toNat (⟨(⟨(0:Int),(0:Int),(0:Int)⟩:Qb),(⟨(0:Int),(0:Int),(0:Int)⟩:Qb)⟩:Qm)).length k3)]) ?_ ?_
 ·rintro y0 F M0 ⟨p0,H,rfl⟩;subst p0;rw[z8] at hm;unfold zaf at hm;refine sg<|rm 2 ?_;refine rt ?_;cases hm;have R0:=(H.b 0 rfl).lenEq;have b0:=(H.b 0 rfl).reLen R0;exact⟨_,tR rfl,A2,k3,(by first | (simp only[sl,R0];done) | (simp only[sl,R0];rfl)),b0⟩
 ·refine bk<|wk [0,3,4] ?_;refine it (fun(v0:Int×LK) F w9=>St w w9 [Own zd9 [.slice A2 (List.replicate (x0.length:Int).toNat (⟨(⟨(0:Int),(0:Int),(0:Int)⟩:Qb),(⟨(0:Int),(0:Int),(0:Int)⟩:Qb)⟩:Qm)).length k3] v0.2]∧F=[(0,sl Y x0 u0),(3,.slice A2 (List.replicate (x0.length:Int).toNat (⟨(⟨(0:Int),(0:Int),(0:Int)⟩:Qb),(⟨(0:Int),(0:Int),(0:Int)⟩:Qb)⟩:Qm)).length k3),(4,iv v0.1)]) o0 ⟨E0,rfl⟩ ?_;rintro v0 F N0 _ J0 ⟨q,rfl⟩ o q0;unfold z4r at o;refine sq<|sg<|rm 4 ?_;refine ci o (fun o=>?_) (fun o=>?_)
  ·refine sp<|sq<|bk<|rg<|rr 4 ?_;obtain⟨Q0,r0,o⟩:=bS o;refine ix (hE.trans q.ext) D0 r0 (fun K0 C0 i0 X=>?_);have B0:=zkf X;subst B0;refine lN (ax hE q i0) ?_;obtain⟨H0,t0,o⟩:=bS o;refine ca ztE (laws_toShardRedex_ok (hE.trans q.ext) X t0) (fun L0 O0 Z=>?_);obtain⟨rfl,a0⟩:=Z;have c0:=q.join a0;have O:=c0.b 0 rfl;obtain⟨j0,o⟩:=iS o;have G:=of_decide_eq_true j0;refine io O G.1 G.2 (fun U0 S0=>?_);have e0:=zii (c:=H0) (B:=_) O;have f0:=e0.b 1 rfl;refine se f0 G.2 S0 (fun P0 g0=>?_);refine rn<|rg<|rm 3 ?_;cases o;exact⟨_,_,rfl,⟨g0,rfl⟩,rfl⟩
  ·refine xt ?_;cases o;exact⟨_,_,⟨q0,q,rfl⟩,rfl⟩

theorem zw3:EN 95:=en Tryz.func95
def z9f (fu:Nat)(x0:Qp):Option (Qp):=((z4Y fu x0.Cells).bind fun o=>((z5S fu x0.QJ).bind fun q=>((z4b fu x0.Qs).bind fun G=>some (⟨o,q,G⟩:Qp))))

theorem laws_toShard_ok (hE:Ext W w){y0:List Value}{x0:Qp}(F0:zoS.ro W y0 x0){fu:Nat}{r:Qp}(hm:z9f fu x0=some r):
  CL 95 ⟨[.agg ⟨y0⟩]⟩ w (Ret fun v w8=>∃ A0 k0 A1 k1 A2 k2,v=.agg ⟨[sl A0 r.Cells k0,sl A1 r.QJ k1,sl A2 r.Qs k2]⟩∧St w w8 [ow ty81 A0 r.Cells k0,ow zcu A1 r.QJ k1,ow zd9 A2 r.Qs k2]):=by
 obtain⟨A1,k2,A4,k5,A7,R0,E0,h3,h6,G0⟩:=zeO F0;subst E0;refine into Tryz.func95 17 _ ?_;unfold z9f at hm;have hS:=St.start w;refine sg<|nw hS (fun O0 a1 L0 e0=>?_);refine nw e0 (fun P0 b1 M0 f0=>?_);refine rn<|sg<|nw f0 (fun Q0 d1 N0 o=>?_);refine rn<|sg<|rr 1 ?_;refine l1 ((o.b 2 rfl).box) 0 ?_;obtain⟨S0,t0,hm⟩:=bS hm;refine ca zu3 (laws_toShardCellS_ok (hE.trans o.ext) h3 t0) (fun V0 e1 X=>?_);obtain⟨B0,H0,rfl,Y⟩:=X;have g0:=o.join Y;refine rr 1 ?_;have i0:=g0.b 1 rfl;refine so (A:=[]) i0 0 (fun f1 q=>?_);refine rn<|sg<|rr 1 ?_;refine l1 ((q.b 3 rfl).box) 1 ?_;obtain⟨T0,u0,hm⟩:=bS hm;refine ca zu2 (laws_toShardVarS_ok (hE.trans q.ext) h6 u0) (fun X0 g1 Z=>?_);obtain⟨C0,J0,rfl,a0⟩:=Z;have j0:=q.join a0;refine rr 1 ?_;have o0:=j0.b 1 rfl;refine so (A:=[]) o0 1 (fun i1 G=>?_);refine rn<|sg<|rr 1 ?_;refine l1 ((G.b 4 rfl).box) 2 ?_;obtain⟨U0,v0,hm⟩:=bS hm;refine ca zu1 (laws_toShardRedexS_ok (hE.trans G.ext) G0 v0) (fun Y0 j1 b0=>?_);obtain⟨D0,K0,rfl,c0⟩:=b0;have p0:=G.join c0;refine rr 1 ?_;have q0:=p0.b 1 rfl;refine so (A:=[]) q0 2 (fun m1 H=>?_);refine rn<|sg<|lN ((H.b 0 rfl).box) ?_;have r0:=H.b 4 rfl;refine so (A:=[]) r0 0 (fun n1 O=>?_);refine rn<|rt ?_;cases hm;exact⟨_,.cons (ra ((O.b 0 rfl).box)) .nil,B0,H0,C0,J0,D0,K0,rfl,(O.sel [4,3,2])⟩

theorem zww:EN 38:=en Tryz.func38
def zcG (fu:Nat)(o:LG):Option LG:=some o
def z8d (fu:Nat)(x0:LG)(o:Int×LG):Option (Rd (Int×LG) LG LG):=(if(decide (o.1<(x0.length:Int)))=true then((idx x0 o.1).bind fun G=>((z9f fu G).bind fun q=>(if decide (0≤o.1∧o.1.toNat<o.2.length)=true then some (.next (w64 (o.1+1),(o.2.set o.1.toNat q))) else none))) else some (.brk o.2))
def z8E (fu:Nat)(x0:LG):Option LG:=(if decide (0≤(x0.length:Int)∧(x0.length:Int)≤4294967296)=true then((iter (z8d fu x0) fu (0,(List.replicate (x0.length:Int).toNat (⟨([]:LB),([]:LH),([]:LK)⟩:Qp)))).bind fun o=>aft o (zcG fu)) else none)

theorem laws_toShardS_ok (hE:Ext W w){Y:Option Addr}{B0:Nat}{x0:LG}(G0:ty22.ro W [sl Y x0 B0] x0){fu:Nat}{r:LG}(hm:z8E fu x0=some r):
  CL 38 ⟨[sl Y x0 B0]⟩ w (Ret fun v w8=>∃ A0 k0,v=sl A0 r k0∧St w w8 [ow ty33 A0 r k0]):=by
 refine into Tryz.func38 23 _ ?_;unfold z8E at hm;have hS:=St.start w;refine sg<|rm 1 ?_;refine sg<|rr 2 ?_;obtain⟨J0,hm⟩:=iS hm;have u1:=of_decide_eq_true J0;refine mS (U:=zed) (⟨([]:LB),([]:LH),([]:LK)⟩:Qp) hS u1 (fun _=>(zko (c:=(⟨([]:LB),([]:LH),([]:LK)⟩:Qp)) ⟨[],[],rfl,(z9s z90 126 _),⟨[],[],rfl,(z9s ze7 154 _),⟨[],[],rfl,(z9s zgv 152 _),rfl⟩⟩⟩)) (fun A2 k3 w4 e5 H0=>?_);refine rm 1 ?_;refine sq<|sg<|rm 1 ?_;obtain⟨K0,r0,hm⟩:=bS hm;refine ct (fun(D0:LG) F w9=>K0=.inl D0∧St w w9 [Own ty33 [.slice A2 (List.replicate (x0.length:Int).toNat (⟨([]:LB),([]:LH),([]:LK)⟩:Qp)).length k3] D0]∧F=[(3,.slice A2 (List.replicate (x0.length:Int).toNat (⟨([]:LB),([]:LH),([]:LK)⟩:Qp)).length k3)]) ?_ ?_
 ·rintro D0 F i1 ⟨t0,H,rfl⟩;subst t0;rw[z8] at hm;unfold zcG at hm;refine sg<|rm 2 ?_;refine rt ?_;cases hm;have s1:=(H.b 0 rfl).lenEq;have b0:=(H.b 0 rfl).reLen s1;exact⟨_,tR rfl,A2,k3,(by first | (simp only[sl,s1];done) | (simp only[sl,s1];rfl)),b0⟩
 ·refine bk<|wk [0,3,4] ?_;refine it (fun(C0:Int×LG) F w9=>St w w9 [Own ty33 [.slice A2 (List.replicate (x0.length:Int).toNat (⟨([]:LB),([]:LH),([]:LK)⟩:Qp)).length k3] C0.2]∧F=[(0,sl Y x0 B0),(3,.slice A2 (List.replicate (x0.length:Int).toNat (⟨([]:LB),([]:LH),([]:LK)⟩:Qp)).length k3),(4,iv C0.1)]) r0 ⟨H0,rfl⟩ ?_;rintro C0 F j1 _ e1 ⟨q,rfl⟩ o u0;unfold z8d at o;refine sq<|sg<|rm 4 ?_;refine ci o (fun o=>?_) (fun o=>?_)
  ·refine sp<|sq<|bk<|rg<|rr 4 ?_;obtain⟨p1,v0,o⟩:=bS o;refine ix (hE.trans q.ext) G0 v0 (fun f1 F0 p0 X=>?_);obtain⟨M0,V0,N0,X0,O0,Y0,E0,S0,T0,U0⟩:=zeO X;subst E0;refine lN (ax hE q p0) ?_;obtain⟨L0,y0,o⟩:=bS o;refine ca zw3 (laws_toShard_ok (hE.trans q.ext) X y0) (fun g1 m1 Z=>?_);obtain⟨P0,a1,Q0,b1,R0,d1,rfl,a0⟩:=Z;have c0:=q.join a0;have O:=c0.b 3 rfl;obtain⟨q0,o⟩:=iS o;have G:=of_decide_eq_true q0;refine io O G.1 G.2 (fun v1 t1=>?_);have e0:=O.b 3 rfl;have f0:=e0.b 3 rfl;have g0:=f0.b 3 rfl;have i0:=zim (c:=L0) (B:=_) g0;have j0:=i0.b 1 rfl;refine se j0 G.2 t1 (fun n1 o0=>?_);refine rn<|rg<|rm 3 ?_;cases o;exact⟨_,_,rfl,⟨o0,rfl⟩,rfl⟩
  ·refine xt ?_;cases o;exact⟨_,_,⟨u0,q,rfl⟩,rfl⟩

theorem zxr:EN 9:=en Tryz.func9
def zag (fu:Nat)(x0:D.Qk):Option (D.Qk):=((z8E fu x0.Qf).bind fun o=>((z1t fu x0.QO).bind fun q=>some (⟨o,q⟩:D.Qk)))

theorem laws_toGrid_ok (hE:Ext W w){p0:List Value}{x0:D.Qk}(r0:ty26.ro W p0 x0){fu:Nat}{r:D.Qk}(hm:zag fu x0=some r):
  CL 9 ⟨[.agg ⟨p0⟩]⟩ w (Ret fun v w8=>∃ A0 k0,v=.agg ⟨[sl A0 r.Qf k0,iv r.QO.Qj,iv r.QO.Qi,iv r.QO.Qo]⟩∧St w w8 [ow ty33 A0 r.Qf k0]):=by
 obtain⟨A1,k2,e4,h3⟩:=zif r0;subst e4;refine into Tryz.func9 13 _ ?_;unfold zag at hm;have hS:=St.start w;refine sg<|nw hS (fun g5 w6 e7 a0=>?_);refine nw a0 (fun y0 G0 u0 b0=>?_);refine rn<|sg<|nw b0 (fun B0 H0 v0 o=>?_);refine rn<|sg<|rr 1 ?_;refine l1 ((o.b 2 rfl).box) 0 ?_;obtain⟨C0,j0,hm⟩:=bS hm;refine ca zww (laws_toShardS_ok (hE.trans o.ext) h3 j0) (fun E0 J0 O=>?_);obtain⟨q0,t0,rfl,X⟩:=O;have c0:=o.join X;refine rr 1 ?_;have e0:=c0.b 1 rfl;refine so (A:=[]) e0 0 (fun K0 q=>?_);refine rn<|sg<|rr 1 ?_;refine lN (At.sub ((q.b 3 rfl).box) 1 3) ?_;obtain⟨D0,o0,hm⟩:=bS hm;refine ca zdQ (laws_toAddress_ok (hE.trans q.ext) (zbV x0.QO) o0) (fun F0 L0 Y=>?_);obtain⟨rfl,Z⟩:=Y;have f0:=q.join Z;refine rr 1 ?_;have g0:=f0.b 0 rfl;refine so (A:=[]) g0 1 (fun M0 G=>?_);refine rn<|sg<|lN ((G.b 0 rfl).box) ?_;have i0:=G.b 2 rfl;refine so (A:=[]) i0 0 (fun N0 H=>?_);refine rn<|rt ?_;cases hm;exact⟨_,.cons (ra ((H.b 0 rfl).box)) .nil,q0,t0,rfl,((H.b 2 rfl).t 1)⟩

theorem zgk:EN 27:=en Tryz.func27
def zcL (fu:Nat)(t2:Unit):Option Bool:=some true
def z8h (fu:Nat)(x0:L9)(x1:L9)(s1:Int):Option (Rd (Int) (Unit) (Bool)):=(if(decide (s1<(x0.length:Int)))=true then((idx x0 s1).bind fun o=>((idx x1 s1).bind fun q=>(if(o != q)=true then some (.ret false) else some (.next (w64 (s1+1)))))) else some (.brk ()))
def z2J (fu:Nat)(x0:L9)(x1:L9):Option (Bool):=(if((x0.length:Int) != (x1.length:Int))=true then some false else((iter (z8h fu x0 x1) fu 0).bind fun o=>aft o (zcL fu)))

theorem laws_eqInt64S_ok (hE:Ext W w){X:Option Addr}{k0:Nat}{x0:L9}{Y:Option Addr}{o0:Nat}{x1:L9}(t0:ty45.ro W [sl X x0 k0] x0)(u0:ty45.ro W [sl Y x1 o0] x1){fu:Nat}{r:Bool}(hm:z2J fu x0 x1=some r):
  CL 27 ⟨[sl X x0 k0,sl Y x1 o0]⟩ w (RB w r):=by
 refine into Tryz.func27 26 _ ?_;unfold z2J at hm;have hS:=St.start w;refine sg<|rm 1 ?_;refine sq<|sg<|rm 5 ?_;refine ci hm (fun hm=>?_) (fun hm=>?_)
 ·refine sg<|rm 1 ?_;refine rt ?_;cases hm;exact⟨_,tR rfl,rfl,hS⟩
 ·refine sp<|sq<|sg<|rm 1 ?_;obtain⟨v0,c0,hm⟩:=bS hm;refine ct (fun(t2:Unit) F w9=>v0=.inl t2∧Ext w w9∧St w w9 []∧F=[]) ?_ ?_
  ·rintro t2 F w7 ⟨e0,y0,Z,rfl⟩;subst e0;rw[z8] at hm;unfold zcL at hm;refine sg<|rm 1 ?_;refine rt ?_;cases hm;exact⟨_,tR rfl,rfl,Z⟩
  ·refine bk<|wk [0,1,5] ?_;refine it (fun(s1:Int) F w9=>Ext w w9∧St w w9 []∧F=[(0,sl X x0 k0),(1,sl Y x1 o0),(5,iv s1)]) c0 ⟨(Ext.refl _),hS,rfl⟩ ?_;rintro s1 F D0 _ A0 ⟨p0,q,rfl⟩ o O;unfold z8h at o;refine sq<|sg<|rm 4 ?_;refine ci o (fun o=>?_) (fun o=>?_)
   ·refine sp<|sq<|bk<|sq<|dn 0 mixed 9 [([],511),([],511),([0,1],508),([2],507),([],511),([],511),([4,5],463),([6],447),([3,7],375)] q.ext (fun G=>?_);have H:=q.step (Ext.draw _);refine dr 5 G [0,1,4,5] ?_;obtain⟨E0,i0,o⟩:=bS o;refine dx (hE.trans q.ext) G 2 t0 i0 (fun B0 q0 a0 f0=>?_);cases f0;refine dl G 3 (ax hE q a0) 0 ?_;obtain⟨F0,j0,o⟩:=bS o;refine dx (hE.trans q.ext) G 6 u0 j0 (fun C0 r0 b0 g0=>?_);cases g0;refine dl G 7 (ax hE q b0) 0 ?_;refine dr 0 G [8] ?_;refine dw [0,1,5,25] ?_;refine dd G ?_;refine ci o (fun o=>?_) (fun o=>?_)
    ·refine sg<|rm 1 ?_;refine rt ?_;cases o;cases O;have hm:some _=some _:=hm;cases hm;exact⟨_,tR rfl,rfl,H⟩
    ·refine sp<|rg<|rm 3 ?_;cases o;exact⟨_,_,rfl,⟨(p0.trans (Ext.draw _)),H,rfl⟩,rfl⟩
   ·refine xt ?_;cases o;exact⟨_,_,⟨O,p0,q,rfl⟩,rfl⟩

theorem ztw:EN 209:=en Tryz.func209
def zam (fu:Nat)(x0:Qx)(x1:Qx):Option (Bool):=(if(x0.Qe != x1.Qe)=true then some false else(if(x0.Qa2 != x1.Qa2)=true then some false else some true))

theorem laws_eqPort_ok (hE:Ext W w){q:List Value}{x0:Qx}{G:List Value}{x1:Qx}(H:zbX.ro W q x0)(O:zbX.ro W G x1){fu:Nat}{r:Bool}(hm:zam fu x0 x1=some r):
  CL 209 ⟨[.agg ⟨q⟩,.agg ⟨G⟩]⟩ w (RB w r):=by
 have e1:=z3e H;subst e1;have e2:=z3e O;subst e2;refine into Tryz.func209 15 _ ?_;unfold zam at hm;have hS:=St.start w;refine sg<|nw hS (fun g3 w4 e5 X=>?_);refine nw X (fun g7 Z Y o=>?_);refine rm 1 ?_;refine sq<|sg<|rr 1 ?_;refine l1 ((o.b 1 rfl).box) 0 ?_;refine rr 1 ?_;refine l1 ((o.b 0 rfl).box) 0 ?_;refine rm 1 ?_;refine ci hm (fun hm=>?_) (fun hm=>?_)
 ·refine sg<|rm 1 ?_;refine rt ?_;cases hm;exact⟨_,tR rfl,rfl,(o.t 0)⟩
 ·refine sp<|sq<|sg<|rr 1 ?_;refine l1 ((o.b 1 rfl).box) 1 ?_;refine rr 1 ?_;refine l1 ((o.b 0 rfl).box) 1 ?_;refine rm 1 ?_;refine ci hm (fun hm=>?_) (fun hm=>?_)
  ·refine sg<|rm 1 ?_;refine rt ?_;cases hm;exact⟨_,tR rfl,rfl,(o.t 0)⟩
  ·refine sp<|sg<|rm 1 ?_;refine rt ?_;cases hm;exact⟨_,tR rfl,rfl,(o.t 0)⟩

theorem ztW:EN 163:=en Tryz.func163
def zdm (fu:Nat)(t2:Unit):Option Bool:=some true
def z94 (fu:Nat)(x0:LF)(x1:LF)(s1:Int):Option (Rd (Int) (Unit) (Bool)):=(if(decide (s1<(x0.length:Int)))=true then((idx x0 s1).bind fun q=>((idx x1 s1).bind fun G=>((zam fu q G).bind fun o=>(if(!o)=true then some (.ret false) else some (.next (w64 (s1+1))))))) else some (.brk ()))
def z9k (fu:Nat)(x0:LF)(x1:LF):Option (Bool):=(if((x0.length:Int) != (x1.length:Int))=true then some false else((iter (z94 fu x0 x1) fu 0).bind fun o=>aft o (zdm fu)))

theorem laws_eqPortS_ok (hE:Ext W w){b0:Option Addr}{r0:Nat}{x0:LF}{c0:Option Addr}{t0:Nat}{x1:LF}(C0:z13.ro W [sl b0 x0 r0] x0)(D0:z13.ro W [sl c0 x1 t0] x1){fu:Nat}{r:Bool}(hm:z9k fu x0 x1=some r):
  CL 163 ⟨[sl b0 x0 r0,sl c0 x1 t0]⟩ w (RB w r):=by
 refine into Tryz.func163 27 _ ?_;unfold z9k at hm;have hS:=St.start w;refine sg<|rm 1 ?_;refine sq<|sg<|rm 5 ?_;refine ci hm (fun hm=>?_) (fun hm=>?_)
 ·refine sg<|rm 1 ?_;refine rt ?_;cases hm;exact⟨_,tR rfl,rfl,hS⟩
 ·refine sp<|sq<|sg<|rm 1 ?_;obtain⟨E0,j0,hm⟩:=bS hm;refine ct (fun(t2:Unit) F w9=>E0=.inl t2∧Ext w w9∧St w w9 []∧F=[]) ?_ ?_
  ·rintro t2 F w7 ⟨k0,F0,f0,rfl⟩;subst k0;rw[z8] at hm;unfold zdm at hm;refine sg<|rm 1 ?_;refine rt ?_;cases hm;exact⟨_,tR rfl,rfl,f0⟩
  ·refine bk<|wk [0,1,5] ?_;refine it (fun(s1:Int) F w9=>Ext w w9∧St w w9 []∧F=[(0,sl b0 x0 r0),(1,sl c0 x1 t0),(5,iv s1)]) j0 ⟨(Ext.refl _),hS,rfl⟩ ?_;rintro s1 F M0 _ G0 ⟨u0,G,rfl⟩ o Y;unfold z94 at o;refine sq<|sg<|rm 4 ?_;refine ci o (fun o=>?_) (fun o=>?_)
   ·refine sp<|sq<|bk<|sq<|dn 0 mixed 10 [([],1023),([],1023),([0,1],1020),([2],1019),([],1023),([],1023),([4,5],975),([6],959),([3,7],887),([8],767)] G.ext (fun q=>?_);have O:=G.step (Ext.draw _);refine dr 6 q [0,1,4,5] ?_;obtain⟨O0,o0,o⟩:=bS o;refine dx (hE.trans G.ext) q 2 C0 o0 (fun H0 A0 g0 Z=>?_);have v0:=z3e Z;subst v0;refine dL q 3 (ax hE G g0) ?_;obtain⟨P0,p0,o⟩:=bS o;refine dx (hE.trans G.ext) q 6 D0 p0 (fun J0 B0 i0 a0=>?_);have y0:=z3e a0;subst y0;refine dL q 7 (ax hE G i0) ?_;obtain⟨K0,q0,o⟩:=bS o;refine o1 q 8 (mc q ztw (laws_eqPort_ok (hE.trans O.ext) Z a0 q0) (fun L0 N0 e0=>?_));obtain⟨rfl,H⟩:=e0;refine⟨H.ext,?_⟩;have X:=O.join H;refine dr 0 q [9] ?_;refine dw [0,1,5,26] ?_;refine dd q ?_;refine ci o (fun o=>?_) (fun o=>?_)
    ·refine sg<|rm 1 ?_;refine rt ?_;cases o;cases Y;have hm:some _=some _:=hm;cases hm;exact⟨_,tR rfl,rfl,X⟩
    ·refine sp<|rg<|rm 3 ?_;cases o;exact⟨_,_,rfl,⟨((u0.trans (Ext.draw _)).trans H.ext),X,rfl⟩,rfl⟩
   ·refine xt ?_;cases o;exact⟨_,_,⟨Y,u0,G,rfl⟩,rfl⟩

theorem zuw:EN 104:=en Tryz.func104
def z9m (fu:Nat)(x0:D.Qe)(x1:D.Qe):Option (Bool):=(if(x0.Qi != x1.Qi)=true then some false else(if(x0.QC != x1.QC)=true then some false else(if(x0.Value != x1.Value)=true then some false else((z2J fu x0.Data x1.Data).bind fun o=>(if(!o)=true then some false else((z9k fu x0.Qy x1.Qy).bind fun q=>(if(!q)=true then some false else some true)))))))

theorem laws_eqAgent_ok (hE:Ext W w){c0:List Value}{x0:D.Qe}{e0:List Value}{x1:D.Qe}(g0:z8n.ro W c0 x0)(k0:z8n.ro W e0 x1){fu:Nat}{r:Bool}(hm:z9m fu x0 x1=some r):
  CL 104 ⟨[.agg ⟨c0⟩,.agg ⟨e0⟩]⟩ w (RB w r):=by
 obtain⟨A1,k2,A4,k5,e7,h3,h6⟩:=z1m g0;subst e7;obtain⟨o0,v0,p0,y0,f0,i0,j0⟩:=z1m k0;subst f0;refine into Tryz.func104 32 _ ?_;unfold z9m at hm;have hS:=St.start w;refine sg<|nw hS (fun t0 E0 q0 Z=>?_);refine nw Z (fun u0 F0 r0 o=>?_);refine rm 1 ?_;refine sq<|sg<|rr 1 ?_;refine l1 ((o.b 1 rfl).box) 0 ?_;refine rr 1 ?_;refine l1 ((o.b 0 rfl).box) 0 ?_;refine rm 1 ?_;refine ci hm (fun hm=>?_) (fun hm=>?_)
 ·refine sg<|rm 1 ?_;refine rt ?_;cases hm;exact⟨_,tR rfl,rfl,(o.t 0)⟩
 ·refine sp<|sq<|sg<|rr 1 ?_;refine l1 ((o.b 1 rfl).box) 1 ?_;refine rr 1 ?_;refine l1 ((o.b 0 rfl).box) 1 ?_;refine rm 1 ?_;refine ci hm (fun hm=>?_) (fun hm=>?_)
  ·refine sg<|rm 1 ?_;refine rt ?_;cases hm;exact⟨_,tR rfl,rfl,(o.t 0)⟩
  ·refine sp<|sq<|sg<|rr 1 ?_;refine l1 ((o.b 1 rfl).box) 2 ?_;refine rr 1 ?_;refine l1 ((o.b 0 rfl).box) 2 ?_;refine rm 1 ?_;refine ci hm (fun hm=>?_) (fun hm=>?_)
   ·refine sg<|rm 1 ?_;refine rt ?_;cases hm;exact⟨_,tR rfl,rfl,(o.t 0)⟩
   ·refine sp<|sq<|sg<|rr 1 ?_;refine l1 ((o.b 1 rfl).box) 3 ?_;refine rr 1 ?_;refine l1 ((o.b 0 rfl).box) 3 ?_;obtain⟨A0,a0,hm⟩:=bS hm;refine ca zgk (laws_eqInt64S_ok (hE.trans o.ext) h3 i0 a0) (fun C0 G0 H=>?_);obtain⟨rfl,O⟩:=H;have q:=o.join O;refine rm 1 ?_;refine ci hm (fun hm=>?_) (fun hm=>?_)
    ·refine sg<|rm 1 ?_;refine rt ?_;cases hm;exact⟨_,tR rfl,rfl,(q.t 0)⟩
    ·refine sp<|sq<|sg<|rr 1 ?_;refine l1 ((q.b 1 rfl).box) 4 ?_;refine rr 1 ?_;refine l1 ((q.b 0 rfl).box) 4 ?_;obtain⟨B0,b0,hm⟩:=bS hm;refine ca ztW (laws_eqPortS_ok (hE.trans q.ext) h6 j0 b0) (fun D0 H0 X=>?_);obtain⟨rfl,Y⟩:=X;have G:=q.join Y;refine rm 1 ?_;refine ci hm (fun hm=>?_) (fun hm=>?_)
     ·refine sg<|rm 1 ?_;refine rt ?_;cases hm;exact⟨_,tR rfl,rfl,(G.t 0)⟩
     ·refine sp<|sg<|rm 1 ?_;refine rt ?_;cases hm;exact⟨_,tR rfl,rfl,(G.t 0)⟩

theorem zwt:EN 44:=en Tryz.func44
def zcM (fu:Nat)(t2:Unit):Option Bool:=some true
def z8i (fu:Nat)(x0:LA)(x1:LA)(s1:Int):Option (Rd (Int) (Unit) (Bool)):=(if(decide (s1<(x0.length:Int)))=true then((idx x0 s1).bind fun q=>((idx x1 s1).bind fun G=>((z9m fu q G).bind fun o=>(if(!o)=true then some (.ret false) else some (.next (w64 (s1+1))))))) else some (.brk ()))
def z8M (fu:Nat)(x0:LA)(x1:LA):Option (Bool):=(if((x0.length:Int) != (x1.length:Int))=true then some false else((iter (z8i fu x0 x1) fu 0).bind fun o=>aft o (zcM fu)))

theorem laws_eqAgentS_ok (hE:Ext W w){b0:Option Addr}{r0:Nat}{x0:LA}{c0:Option Addr}{t0:Nat}{x1:LA}(C0:ty28.ro W [sl b0 x0 r0] x0)(D0:ty28.ro W [sl c0 x1 t0] x1){fu:Nat}{r:Bool}(hm:z8M fu x0 x1=some r):
  CL 44 ⟨[sl b0 x0 r0,sl c0 x1 t0]⟩ w (RB w r):=by
 refine into Tryz.func44 27 _ ?_;unfold z8M at hm;have hS:=St.start w;refine sg<|rm 1 ?_;refine sq<|sg<|rm 5 ?_;refine ci hm (fun hm=>?_) (fun hm=>?_)
 ·refine sg<|rm 1 ?_;refine rt ?_;cases hm;exact⟨_,tR rfl,rfl,hS⟩
 ·refine sp<|sq<|sg<|rm 1 ?_;obtain⟨E0,j0,hm⟩:=bS hm;refine ct (fun(t2:Unit) F w9=>E0=.inl t2∧Ext w w9∧St w w9 []∧F=[]) ?_ ?_
  ·rintro t2 F w7 ⟨k0,O0,f0,rfl⟩;subst k0;rw[z8] at hm;unfold zcM at hm;refine sg<|rm 1 ?_;refine rt ?_;cases hm;exact⟨_,tR rfl,rfl,f0⟩
  ·refine bk<|wk [0,1,5] ?_;refine it (fun(s1:Int) F w9=>Ext w w9∧St w w9 []∧F=[(0,sl b0 x0 r0),(1,sl c0 x1 t0),(5,iv s1)]) j0 ⟨(Ext.refl _),hS,rfl⟩ ?_;rintro s1 F a1 _ T0 ⟨u0,G,rfl⟩ o Y;unfold z8i at o;refine sq<|sg<|rm 4 ?_;refine ci o (fun o=>?_) (fun o=>?_)
   ·refine sp<|sq<|bk<|sq<|dn 0 mixed 10 [([],1023),([],1023),([0,1],1020),([2],1019),([],1023),([],1023),([4,5],975),([6],959),([3,7],887),([8],767)] G.ext (fun q=>?_);have O:=G.step (Ext.draw _);refine dr 6 q [0,1,4,5] ?_;obtain⟨d1,o0,o⟩:=bS o;refine dx (hE.trans G.ext) q 2 C0 o0 (fun U0 A0 g0 Z=>?_);obtain⟨F0,P0,G0,Q0,v0,K0,L0⟩:=z1m Z;subst v0;refine dL q 3 (ax hE G g0) ?_;obtain⟨e1,p0,o⟩:=bS o;refine dx (hE.trans G.ext) q 6 D0 p0 (fun V0 B0 i0 a0=>?_);obtain⟨H0,R0,J0,S0,y0,M0,N0⟩:=z1m a0;subst y0;refine dL q 7 (ax hE G i0) ?_;obtain⟨X0,q0,o⟩:=bS o;refine o1 q 8 (mc q zuw (laws_eqAgent_ok (hE.trans O.ext) Z a0 q0) (fun Y0 b1 e0=>?_));obtain⟨rfl,H⟩:=e0;refine⟨H.ext,?_⟩;have X:=O.join H;refine dr 0 q [9] ?_;refine dw [0,1,5,26] ?_;refine dd q ?_;refine ci o (fun o=>?_) (fun o=>?_)
    ·refine sg<|rm 1 ?_;refine rt ?_;cases o;cases Y;have hm:some _=some _:=hm;cases hm;exact⟨_,tR rfl,rfl,X⟩
    ·refine sp<|rg<|rm 3 ?_;cases o;exact⟨_,_,rfl,⟨((u0.trans (Ext.draw _)).trans H.ext),X,rfl⟩,rfl⟩
   ·refine xt ?_;cases o;exact⟨_,_,⟨Y,u0,G,rfl⟩,rfl⟩

theorem zmw:EN 11:=en Tryz.func11
def z8L (fu:Nat)(x0:QV)(x1:QV):Option (Bool):=((z8M fu x0.QG x1.QG).bind fun o=>(if(!o)=true then some false else some true))

theorem laws_eqNet_ok (hE:Ext W w){Y:List Value}{x0:QV}{Z:List Value}{x1:QV}(b0:ty30.ro W Y x0)(c0:ty30.ro W Z x1){fu:Nat}{r:Bool}(hm:z8L fu x0 x1=some r):
  CL 11 ⟨[.agg ⟨Y⟩,.agg ⟨Z⟩]⟩ w (RB w r):=by
 obtain⟨A1,k2,e4,h3⟩:=z48 b0;subst e4;obtain⟨A5,k6,a0,h7⟩:=z48 c0;subst a0;refine into Tryz.func11 11 _ ?_;unfold z8L at hm;have hS:=St.start w;refine sg<|nw hS (fun g0 o0 e0 O=>?_);refine nw O (fun i0 p0 f0 o=>?_);refine rm 1 ?_;refine sq<|sg<|rr 1 ?_;refine l1 ((o.b 1 rfl).box) 0 ?_;refine rr 1 ?_;refine l1 ((o.b 0 rfl).box) 0 ?_;obtain⟨j0,X,hm⟩:=bS hm;refine ca zwt (laws_eqAgentS_ok (hE.trans o.ext) h3 h7 X) (fun k0 q0 G=>?_);obtain⟨rfl,H⟩:=G;have q:=o.join H;refine rm 1 ?_;refine ci hm (fun hm=>?_) (fun hm=>?_)
 ·refine sg<|rm 1 ?_;refine rt ?_;cases hm;exact⟨_,tR rfl,rfl,(q.t 0)⟩
 ·refine sp<|sg<|rm 1 ?_;refine rt ?_;cases hm;exact⟨_,tR rfl,rfl,(q.t 0)⟩

theorem zdP:EN 46:=en Tryz.func46
def z1u (fu:Nat)(x0:Qb)(x1:Qb):Option (Bool):=(if(x0.Qj != x1.Qj)=true then some false else(if(x0.Qi != x1.Qi)=true then some false else(if(x0.Qo != x1.Qo)=true then some false else some true)))

theorem laws_eqAddress_ok (hE:Ext W w){q:List Value}{x0:Qb}{G:List Value}{x1:Qb}(H:ty34.ro W q x0)(O:ty34.ro W G x1){fu:Nat}{r:Bool}(hm:z1u fu x0 x1=some r):
  CL 46 ⟨[.agg ⟨q⟩,.agg ⟨G⟩]⟩ w (RB w r):=by
 have e1:=z1f H;subst e1;have e2:=z1f O;subst e2;refine into Tryz.func46 20 _ ?_;unfold z1u at hm;have hS:=St.start w;refine sg<|nw hS (fun g3 w4 e5 X=>?_);refine nw X (fun g7 Z Y o=>?_);refine rm 1 ?_;refine sq<|sg<|rr 1 ?_;refine l1 ((o.b 1 rfl).box) 0 ?_;refine rr 1 ?_;refine l1 ((o.b 0 rfl).box) 0 ?_;refine rm 1 ?_;refine ci hm (fun hm=>?_) (fun hm=>?_)
 ·refine sg<|rm 1 ?_;refine rt ?_;cases hm;exact⟨_,tR rfl,rfl,(o.t 0)⟩
 ·refine sp<|sq<|sg<|rr 1 ?_;refine l1 ((o.b 1 rfl).box) 1 ?_;refine rr 1 ?_;refine l1 ((o.b 0 rfl).box) 1 ?_;refine rm 1 ?_;refine ci hm (fun hm=>?_) (fun hm=>?_)
  ·refine sg<|rm 1 ?_;refine rt ?_;cases hm;exact⟨_,tR rfl,rfl,(o.t 0)⟩
  ·refine sp<|sq<|sg<|rr 1 ?_;refine l1 ((o.b 1 rfl).box) 2 ?_;refine rr 1 ?_;refine l1 ((o.b 0 rfl).box) 2 ?_;refine rm 1 ?_;refine ci hm (fun hm=>?_) (fun hm=>?_)
   ·refine sg<|rm 1 ?_;refine rt ?_;cases hm;exact⟨_,tR rfl,rfl,(o.t 0)⟩
   ·refine sp<|sg<|rm 1 ?_;refine rt ?_;cases hm;exact⟨_,tR rfl,rfl,(o.t 0)⟩

theorem zt9:EN 239:=en Tryz.func239
def zbK (fu:Nat)(t2:Unit):Option Bool:=some true
def z6s (fu:Nat)(x0:LD)(x1:LD)(s1:Int):Option (Rd (Int) (Unit) (Bool)):=(if(decide (s1<(x0.length:Int)))=true then((idx x0 s1).bind fun q=>((idx x1 s1).bind fun G=>((z1u fu q G).bind fun o=>(if(!o)=true then some (.ret false) else some (.next (w64 (s1+1))))))) else some (.brk ()))
def z73 (fu:Nat)(x0:LD)(x1:LD):Option (Bool):=(if((x0.length:Int) != (x1.length:Int))=true then some false else((iter (z6s fu x0 x1) fu 0).bind fun o=>aft o (zbK fu)))

theorem laws_eqAddressS_ok (hE:Ext W w){b0:Option Addr}{r0:Nat}{x0:LD}{c0:Option Addr}{t0:Nat}{x1:LD}(C0:ty82.ro W [sl b0 x0 r0] x0)(D0:ty82.ro W [sl c0 x1 t0] x1){fu:Nat}{r:Bool}(hm:z73 fu x0 x1=some r):
  CL 239 ⟨[sl b0 x0 r0,sl c0 x1 t0]⟩ w (RB w r):=by
 refine into Tryz.func239 27 _ ?_;unfold z73 at hm;have hS:=St.start w;refine sg<|rm 1 ?_;refine sq<|sg<|rm 5 ?_;refine ci hm (fun hm=>?_) (fun hm=>?_)
 ·refine sg<|rm 1 ?_;refine rt ?_;cases hm;exact⟨_,tR rfl,rfl,hS⟩
 ·refine sp<|sq<|sg<|rm 1 ?_;obtain⟨E0,j0,hm⟩:=bS hm;refine ct (fun(t2:Unit) F w9=>E0=.inl t2∧Ext w w9∧St w w9 []∧F=[]) ?_ ?_
  ·rintro t2 F w7 ⟨k0,F0,f0,rfl⟩;subst k0;rw[z8] at hm;unfold zbK at hm;refine sg<|rm 1 ?_;refine rt ?_;cases hm;exact⟨_,tR rfl,rfl,f0⟩
  ·refine bk<|wk [0,1,5] ?_;refine it (fun(s1:Int) F w9=>Ext w w9∧St w w9 []∧F=[(0,sl b0 x0 r0),(1,sl c0 x1 t0),(5,iv s1)]) j0 ⟨(Ext.refl _),hS,rfl⟩ ?_;rintro s1 F M0 _ G0 ⟨u0,G,rfl⟩ o Y;unfold z6s at o;refine sq<|sg<|rm 4 ?_;refine ci o (fun o=>?_) (fun o=>?_)
   ·refine sp<|sq<|bk<|sq<|dn 0 mixed 10 [([],1023),([],1023),([0,1],1020),([2],1019),([],1023),([],1023),([4,5],975),([6],959),([3,7],887),([8],767)] G.ext (fun q=>?_);have O:=G.step (Ext.draw _);refine dr 6 q [0,1,4,5] ?_;obtain⟨O0,o0,o⟩:=bS o;refine dx (hE.trans G.ext) q 2 C0 o0 (fun H0 A0 g0 Z=>?_);have v0:=z1f Z;subst v0;refine dL q 3 (ax hE G g0) ?_;obtain⟨P0,p0,o⟩:=bS o;refine dx (hE.trans G.ext) q 6 D0 p0 (fun J0 B0 i0 a0=>?_);have y0:=z1f a0;subst y0;refine dL q 7 (ax hE G i0) ?_;obtain⟨K0,q0,o⟩:=bS o;refine o1 q 8 (mc q zdP (laws_eqAddress_ok (hE.trans O.ext) Z a0 q0) (fun L0 N0 e0=>?_));obtain⟨rfl,H⟩:=e0;refine⟨H.ext,?_⟩;have X:=O.join H;refine dr 0 q [9] ?_;refine dw [0,1,5,26] ?_;refine dd q ?_;refine ci o (fun o=>?_) (fun o=>?_)
    ·refine sg<|rm 1 ?_;refine rt ?_;cases o;cases Y;have hm:some _=some _:=hm;cases hm;exact⟨_,tR rfl,rfl,X⟩
    ·refine sp<|rg<|rm 3 ?_;cases o;exact⟨_,_,rfl,⟨((u0.trans (Ext.draw _)).trans H.ext),X,rfl⟩,rfl⟩
   ·refine xt ?_;cases o;exact⟨_,_,⟨Y,u0,G,rfl⟩,rfl⟩

theorem znX:EN 210:=en Tryz.func210
def z3V (fu:Nat)(x0:Qa)(x1:Qa):Option (Bool):=(if(x0.Qi != x1.Qi)=true then some false else(if(x0.QC != x1.QC)=true then some false else(if(x0.Value != x1.Value)=true then some false else((z2J fu x0.Data x1.Data).bind fun o=>(if(!o)=true then some false else((z73 fu x0.QM x1.QM).bind fun q=>(if(!q)=true then some false else some true)))))))

theorem laws_eqShardCell_ok (hE:Ext W w){c0:List Value}{x0:Qa}{e0:List Value}{x1:Qa}(g0:z90.ro W c0 x0)(k0:z90.ro W e0 x1){fu:Nat}{r:Bool}(hm:z3V fu x0 x1=some r):
  CL 210 ⟨[.agg ⟨c0⟩,.agg ⟨e0⟩]⟩ w (RB w r):=by
 obtain⟨A1,k2,A4,k5,e7,h3,h6⟩:=zO g0;subst e7;obtain⟨o0,v0,p0,y0,f0,i0,j0⟩:=zO k0;subst f0;refine into Tryz.func210 32 _ ?_;unfold z3V at hm;have hS:=St.start w;refine sg<|nw hS (fun t0 E0 q0 Z=>?_);refine nw Z (fun u0 F0 r0 o=>?_);refine rm 1 ?_;refine sq<|sg<|rr 1 ?_;refine l1 ((o.b 1 rfl).box) 0 ?_;refine rr 1 ?_;refine l1 ((o.b 0 rfl).box) 0 ?_;refine rm 1 ?_;refine ci hm (fun hm=>?_) (fun hm=>?_)
 ·refine sg<|rm 1 ?_;refine rt ?_;cases hm;exact⟨_,tR rfl,rfl,(o.t 0)⟩
 ·refine sp<|sq<|sg<|rr 1 ?_;refine l1 ((o.b 1 rfl).box) 1 ?_;refine rr 1 ?_;refine l1 ((o.b 0 rfl).box) 1 ?_;refine rm 1 ?_;refine ci hm (fun hm=>?_) (fun hm=>?_)
  ·refine sg<|rm 1 ?_;refine rt ?_;cases hm;exact⟨_,tR rfl,rfl,(o.t 0)⟩
  ·refine sp<|sq<|sg<|rr 1 ?_;refine l1 ((o.b 1 rfl).box) 2 ?_;refine rr 1 ?_;refine l1 ((o.b 0 rfl).box) 2 ?_;refine rm 1 ?_;refine ci hm (fun hm=>?_) (fun hm=>?_)
   ·refine sg<|rm 1 ?_;refine rt ?_;cases hm;exact⟨_,tR rfl,rfl,(o.t 0)⟩
   ·refine sp<|sq<|sg<|rr 1 ?_;refine l1 ((o.b 1 rfl).box) 3 ?_;refine rr 1 ?_;refine l1 ((o.b 0 rfl).box) 3 ?_;obtain⟨A0,a0,hm⟩:=bS hm;refine ca zgk (laws_eqInt64S_ok (hE.trans o.ext) h3 i0 a0) (fun C0 G0 H=>?_);obtain⟨rfl,O⟩:=H;have q:=o.join O;refine rm 1 ?_;refine ci hm (fun hm=>?_) (fun hm=>?_)
    ·refine sg<|rm 1 ?_;refine rt ?_;cases hm;exact⟨_,tR rfl,rfl,(q.t 0)⟩
    ·refine sp<|sq<|sg<|rr 1 ?_;refine l1 ((q.b 1 rfl).box) 4 ?_;refine rr 1 ?_;refine l1 ((q.b 0 rfl).box) 4 ?_;obtain⟨B0,b0,hm⟩:=bS hm;refine ca zt9 (laws_eqAddressS_ok (hE.trans q.ext) h6 j0 b0) (fun D0 H0 X=>?_);obtain⟨rfl,Y⟩:=X;have G:=q.join Y;refine rm 1 ?_;refine ci hm (fun hm=>?_) (fun hm=>?_)
     ·refine sg<|rm 1 ?_;refine rt ?_;cases hm;exact⟨_,tR rfl,rfl,(G.t 0)⟩
     ·refine sp<|sg<|rm 1 ?_;refine rt ?_;cases hm;exact⟨_,tR rfl,rfl,(G.t 0)⟩

theorem ztV:EN 164:=en Tryz.func164
def zaM (fu:Nat)(t2:Unit):Option Bool:=some true
def z5h (fu:Nat)(x0:LB)(x1:LB)(s1:Int):Option (Rd (Int) (Unit) (Bool)):=(if(decide (s1<(x0.length:Int)))=true then((idx x0 s1).bind fun q=>((idx x1 s1).bind fun G=>((z3V fu q G).bind fun o=>(if(!o)=true then some (.ret false) else some (.next (w64 (s1+1))))))) else some (.brk ()))
def z56 (fu:Nat)(x0:LB)(x1:LB):Option (Bool):=(if((x0.length:Int) != (x1.length:Int))=true then some false else((iter (z5h fu x0 x1) fu 0).bind fun o=>aft o (zaM fu)))

theorem laws_eqShardCellS_ok (hE:Ext W w){b0:Option Addr}{r0:Nat}{x0:LB}{c0:Option Addr}{t0:Nat}{x1:LB}(C0:ty81.ro W [sl b0 x0 r0] x0)(D0:ty81.ro W [sl c0 x1 t0] x1){fu:Nat}{r:Bool}(hm:z56 fu x0 x1=some r):
  CL 164 ⟨[sl b0 x0 r0,sl c0 x1 t0]⟩ w (RB w r):=by
 refine into Tryz.func164 27 _ ?_;unfold z56 at hm;have hS:=St.start w;refine sg<|rm 1 ?_;refine sq<|sg<|rm 5 ?_;refine ci hm (fun hm=>?_) (fun hm=>?_)
 ·refine sg<|rm 1 ?_;refine rt ?_;cases hm;exact⟨_,tR rfl,rfl,hS⟩
 ·refine sp<|sq<|sg<|rm 1 ?_;obtain⟨E0,j0,hm⟩:=bS hm;refine ct (fun(t2:Unit) F w9=>E0=.inl t2∧Ext w w9∧St w w9 []∧F=[]) ?_ ?_
  ·rintro t2 F w7 ⟨k0,O0,f0,rfl⟩;subst k0;rw[z8] at hm;unfold zaM at hm;refine sg<|rm 1 ?_;refine rt ?_;cases hm;exact⟨_,tR rfl,rfl,f0⟩
  ·refine bk<|wk [0,1,5] ?_;refine it (fun(s1:Int) F w9=>Ext w w9∧St w w9 []∧F=[(0,sl b0 x0 r0),(1,sl c0 x1 t0),(5,iv s1)]) j0 ⟨(Ext.refl _),hS,rfl⟩ ?_;rintro s1 F a1 _ T0 ⟨u0,G,rfl⟩ o Y;unfold z5h at o;refine sq<|sg<|rm 4 ?_;refine ci o (fun o=>?_) (fun o=>?_)
   ·refine sp<|sq<|bk<|sq<|dn 0 mixed 10 [([],1023),([],1023),([0,1],1020),([2],1019),([],1023),([],1023),([4,5],975),([6],959),([3,7],887),([8],767)] G.ext (fun q=>?_);have O:=G.step (Ext.draw _);refine dr 6 q [0,1,4,5] ?_;obtain⟨d1,o0,o⟩:=bS o;refine dx (hE.trans G.ext) q 2 C0 o0 (fun U0 A0 g0 Z=>?_);obtain⟨F0,P0,G0,Q0,v0,K0,L0⟩:=zO Z;subst v0;refine dL q 3 (ax hE G g0) ?_;obtain⟨e1,p0,o⟩:=bS o;refine dx (hE.trans G.ext) q 6 D0 p0 (fun V0 B0 i0 a0=>?_);obtain⟨H0,R0,J0,S0,y0,M0,N0⟩:=zO a0;subst y0;refine dL q 7 (ax hE G i0) ?_;obtain⟨X0,q0,o⟩:=bS o;refine o1 q 8 (mc q znX (laws_eqShardCell_ok (hE.trans O.ext) Z a0 q0) (fun Y0 b1 e0=>?_));obtain⟨rfl,H⟩:=e0;refine⟨H.ext,?_⟩;have X:=O.join H;refine dr 0 q [9] ?_;refine dw [0,1,5,26] ?_;refine dd q ?_;refine ci o (fun o=>?_) (fun o=>?_)
    ·refine sg<|rm 1 ?_;refine rt ?_;cases o;cases Y;have hm:some _=some _:=hm;cases hm;exact⟨_,tR rfl,rfl,X⟩
    ·refine sp<|rg<|rm 3 ?_;cases o;exact⟨_,_,rfl,⟨((u0.trans (Ext.draw _)).trans H.ext),X,rfl⟩,rfl⟩
   ·refine xt ?_;cases o;exact⟨_,_,⟨Y,u0,G,rfl⟩,rfl⟩

theorem ztv:EN 211:=en Tryz.func211
def z71 (fu:Nat)(x0:Qn)(x1:Qn):Option (Bool):=(if(!(x0.QZ == x1.QZ))=true then some false else(if(!(x0.Qa0 == x1.Qa0))=true then some false else((z1u fu x0.QU x1.QU).bind fun o=>(if(!o)=true then some false else some true))))

theorem laws_eqShardVar_ok (hE:Ext W w){X:List Value}{x0:Qn}{Y:List Value}{x1:Qn}(Z:ze7.ro W X x0)(a0:ze7.ro W Y x1){fu:Nat}{r:Bool}(hm:z71 fu x0 x1=some r):
  CL 211 ⟨[.agg ⟨X⟩,.agg ⟨Y⟩]⟩ w (RB w r):=by
 have e1:=z3d Z;subst e1;have e2:=z3d a0;subst e2;refine into Tryz.func211 21 _ ?_;unfold z71 at hm;have hS:=St.start w;refine sg<|nw hS (fun g3 w4 e5 b0=>?_);refine nw b0 (fun g7 g0 c0 o=>?_);refine rm 1 ?_;refine sq<|sg<|rr 1 ?_;refine l1 ((o.b 1 rfl).box) 0 ?_;refine rr 1 ?_;refine l1 ((o.b 0 rfl).box) 0 ?_;refine rm 1 ?_;refine ci hm (fun hm=>?_) (fun hm=>?_)
 ·refine sg<|rm 1 ?_;refine rt ?_;cases hm;exact⟨_,tR rfl,rfl,(o.t 0)⟩
 ·refine sp<|sq<|sg<|rr 1 ?_;refine l1 ((o.b 1 rfl).box) 1 ?_;refine rr 1 ?_;refine l1 ((o.b 0 rfl).box) 1 ?_;refine rm 1 ?_;refine ci hm (fun hm=>?_) (fun hm=>?_)
  ·refine sg<|rm 1 ?_;refine rt ?_;cases hm;exact⟨_,tR rfl,rfl,(o.t 0)⟩
  ·refine sp<|sq<|sg<|rr 1 ?_;refine lN (At.sub ((o.b 1 rfl).box) 2 3) ?_;refine rr 1 ?_;refine lN (At.sub ((o.b 0 rfl).box) 2 3) ?_;obtain⟨e0,O,hm⟩:=bS hm;refine ca zdP (laws_eqAddress_ok (hE.trans o.ext) (zM x0.QU) (zM x1.QU) O) (fun f0 i0 G=>?_);obtain⟨rfl,H⟩:=G;have q:=o.join H;refine rm 1 ?_;refine ci hm (fun hm=>?_) (fun hm=>?_)
   ·refine sg<|rm 1 ?_;refine rt ?_;cases hm;exact⟨_,tR rfl,rfl,(q.t 0)⟩
   ·refine sp<|sg<|rm 1 ?_;refine rt ?_;cases hm;exact⟨_,tR rfl,rfl,(q.t 0)⟩

theorem ztU:EN 165:=en Tryz.func165
def zbg (fu:Nat)(t2:Unit):Option Bool:=some true
def z5Z (fu:Nat)(x0:LH)(x1:LH)(s1:Int):Option (Rd (Int) (Unit) (Bool)):=(if(decide (s1<(x0.length:Int)))=true then((idx x0 s1).bind fun q=>((idx x1 s1).bind fun G=>((z71 fu q G).bind fun o=>(if(!o)=true then some (.ret false) else some (.next (w64 (s1+1))))))) else some (.brk ()))
def z60 (fu:Nat)(x0:LH)(x1:LH):Option (Bool):=(if((x0.length:Int) != (x1.length:Int))=true then some false else((iter (z5Z fu x0 x1) fu 0).bind fun o=>aft o (zbg fu)))

theorem laws_eqShardVarS_ok (hE:Ext W w){b0:Option Addr}{r0:Nat}{x0:LH}{c0:Option Addr}{t0:Nat}{x1:LH}(C0:zcu.ro W [sl b0 x0 r0] x0)(D0:zcu.ro W [sl c0 x1 t0] x1){fu:Nat}{r:Bool}(hm:z60 fu x0 x1=some r):
  CL 165 ⟨[sl b0 x0 r0,sl c0 x1 t0]⟩ w (RB w r):=by
 refine into Tryz.func165 27 _ ?_;unfold z60 at hm;have hS:=St.start w;refine sg<|rm 1 ?_;refine sq<|sg<|rm 5 ?_;refine ci hm (fun hm=>?_) (fun hm=>?_)
 ·refine sg<|rm 1 ?_;refine rt ?_;cases hm;exact⟨_,tR rfl,rfl,hS⟩
 ·refine sp<|sq<|sg<|rm 1 ?_;obtain⟨E0,j0,hm⟩:=bS hm;refine ct (fun(t2:Unit) F w9=>E0=.inl t2∧Ext w w9∧St w w9 []∧F=[]) ?_ ?_
  ·rintro t2 F w7 ⟨k0,F0,f0,rfl⟩;subst k0;rw[z8] at hm;unfold zbg at hm;refine sg<|rm 1 ?_;refine rt ?_;cases hm;exact⟨_,tR rfl,rfl,f0⟩
  ·refine bk<|wk [0,1,5] ?_;refine it (fun(s1:Int) F w9=>Ext w w9∧St w w9 []∧F=[(0,sl b0 x0 r0),(1,sl c0 x1 t0),(5,iv s1)]) j0 ⟨(Ext.refl _),hS,rfl⟩ ?_;rintro s1 F M0 _ G0 ⟨u0,G,rfl⟩ o Y;unfold z5Z at o;refine sq<|sg<|rm 4 ?_;refine ci o (fun o=>?_) (fun o=>?_)
   ·refine sp<|sq<|bk<|sq<|dn 0 mixed 10 [([],1023),([],1023),([0,1],1020),([2],1019),([],1023),([],1023),([4,5],975),([6],959),([3,7],887),([8],767)] G.ext (fun q=>?_);have O:=G.step (Ext.draw _);refine dr 6 q [0,1,4,5] ?_;obtain⟨O0,o0,o⟩:=bS o;refine dx (hE.trans G.ext) q 2 C0 o0 (fun H0 A0 g0 Z=>?_);have v0:=z3d Z;subst v0;refine dL q 3 (ax hE G g0) ?_;obtain⟨P0,p0,o⟩:=bS o;refine dx (hE.trans G.ext) q 6 D0 p0 (fun J0 B0 i0 a0=>?_);have y0:=z3d a0;subst y0;refine dL q 7 (ax hE G i0) ?_;obtain⟨K0,q0,o⟩:=bS o;refine o1 q 8 (mc q ztv (laws_eqShardVar_ok (hE.trans O.ext) Z a0 q0) (fun L0 N0 e0=>?_));obtain⟨rfl,H⟩:=e0;refine⟨H.ext,?_⟩;have X:=O.join H;refine dr 0 q [9] ?_;refine dw [0,1,5,26] ?_;refine dd q ?_;refine ci o (fun o=>?_) (fun o=>?_)
    ·refine sg<|rm 1 ?_;refine rt ?_;cases o;cases Y;have hm:some _=some _:=hm;cases hm;exact⟨_,tR rfl,rfl,X⟩
    ·refine sp<|rg<|rm 3 ?_;cases o;exact⟨_,_,rfl,⟨((u0.trans (Ext.draw _)).trans H.ext),X,rfl⟩,rfl⟩
   ·refine xt ?_;cases o;exact⟨_,_,⟨Y,u0,G,rfl⟩,rfl⟩

theorem ztu:EN 212:=en Tryz.func212
def z54 (fu:Nat)(x0:Qm)(x1:Qm):Option (Bool):=((z1u fu x0.A x1.A).bind fun o=>(if(!o)=true then some false else((z1u fu x0.B x1.B).bind fun q=>(if(!q)=true then some false else some true))))

theorem laws_eqShardRedex_ok (hE:Ext W w){b0:List Value}{x0:Qm}{c0:List Value}{x1:Qm}(e0:zgv.ro W b0 x0)(f0:zgv.ro W c0 x1){fu:Nat}{r:Bool}(hm:z54 fu x0 x1=some r):
  CL 212 ⟨[.agg ⟨b0⟩,.agg ⟨c0⟩]⟩ w (RB w r):=by
 have e1:=zaS e0;subst e1;have e2:=zaS f0;subst e2;refine into Tryz.func212 17 _ ?_;unfold z54 at hm;have hS:=St.start w;refine sg<|nw hS (fun g3 w4 e5 g0=>?_);refine nw g0 (fun g7 q0 i0 q=>?_);refine rm 1 ?_;refine sq<|sg<|rr 1 ?_;refine lN (At.sub ((q.b 1 rfl).box) 0 3) ?_;refine rr 1 ?_;refine lN (At.sub ((q.b 0 rfl).box) 0 3) ?_;obtain⟨j0,Z,hm⟩:=bS hm;refine ca zdP (laws_eqAddress_ok (hE.trans q.ext) (zM x0.A) (zM x1.A) Z) (fun o0 r0 H=>?_);obtain⟨rfl,O⟩:=H;have o:=q.join O;refine rm 1 ?_;refine ci hm (fun hm=>?_) (fun hm=>?_)
 ·refine sg<|rm 1 ?_;refine rt ?_;cases hm;exact⟨_,tR rfl,rfl,(o.t 0)⟩
 ·refine sp<|sq<|sg<|rr 1 ?_;refine lN (At.sub ((o.b 1 rfl).box) 3 3) ?_;refine rr 1 ?_;refine lN (At.sub ((o.b 0 rfl).box) 3 3) ?_;obtain⟨k0,a0,hm⟩:=bS hm;refine ca zdP (laws_eqAddress_ok (hE.trans o.ext) (zM x0.B) (zM x1.B) a0) (fun p0 t0 X=>?_);obtain⟨rfl,Y⟩:=X;have G:=o.join Y;refine rm 1 ?_;refine ci hm (fun hm=>?_) (fun hm=>?_)
  ·refine sg<|rm 1 ?_;refine rt ?_;cases hm;exact⟨_,tR rfl,rfl,(G.t 0)⟩
  ·refine sp<|sg<|rm 1 ?_;refine rt ?_;cases hm;exact⟨_,tR rfl,rfl,(G.t 0)⟩

theorem ztT:EN 166:=en Tryz.func166
def zak (fu:Nat)(t2:Unit):Option Bool:=some true
def z4t (fu:Nat)(x0:LK)(x1:LK)(s1:Int):Option (Rd (Int) (Unit) (Bool)):=(if(decide (s1<(x0.length:Int)))=true then((idx x0 s1).bind fun q=>((idx x1 s1).bind fun G=>((z54 fu q G).bind fun o=>(if(!o)=true then some (.ret false) else some (.next (w64 (s1+1))))))) else some (.brk ()))
def z4g (fu:Nat)(x0:LK)(x1:LK):Option (Bool):=(if((x0.length:Int) != (x1.length:Int))=true then some false else((iter (z4t fu x0 x1) fu 0).bind fun o=>aft o (zak fu)))

theorem laws_eqShardRedexS_ok (hE:Ext W w){b0:Option Addr}{r0:Nat}{x0:LK}{c0:Option Addr}{t0:Nat}{x1:LK}(C0:zd9.ro W [sl b0 x0 r0] x0)(D0:zd9.ro W [sl c0 x1 t0] x1){fu:Nat}{r:Bool}(hm:z4g fu x0 x1=some r):
  CL 166 ⟨[sl b0 x0 r0,sl c0 x1 t0]⟩ w (RB w r):=by
 refine into Tryz.func166 27 _ ?_;unfold z4g at hm;have hS:=St.start w;refine sg<|rm 1 ?_;refine sq<|sg<|rm 5 ?_;refine ci hm (fun hm=>?_) (fun hm=>?_)
 ·refine sg<|rm 1 ?_;refine rt ?_;cases hm;exact⟨_,tR rfl,rfl,hS⟩
 ·refine sp<|sq<|sg<|rm 1 ?_;obtain⟨E0,j0,hm⟩:=bS hm;refine ct (fun(t2:Unit) F w9=>E0=.inl t2∧Ext w w9∧St w w9 []∧F=[]) ?_ ?_
  ·rintro t2 F w7 ⟨k0,F0,f0,rfl⟩;subst k0;rw[z8] at hm;unfold zak at hm;refine sg<|rm 1 ?_;refine rt ?_;cases hm;exact⟨_,tR rfl,rfl,f0⟩
  ·refine bk<|wk [0,1,5] ?_;refine it (fun(s1:Int) F w9=>Ext w w9∧St w w9 []∧F=[(0,sl b0 x0 r0),(1,sl c0 x1 t0),(5,iv s1)]) j0 ⟨(Ext.refl _),hS,rfl⟩ ?_;rintro s1 F M0 _ G0 ⟨u0,G,rfl⟩ o Y;unfold z4t at o;refine sq<|sg<|rm 4 ?_;refine ci o (fun o=>?_) (fun o=>?_)
   ·refine sp<|sq<|bk<|sq<|dn 0 mixed 10 [([],1023),([],1023),([0,1],1020),([2],1019),([],1023),([],1023),([4,5],975),([6],959),([3,7],887),([8],767)] G.ext (fun q=>?_);have O:=G.step (Ext.draw _);refine dr 6 q [0,1,4,5] ?_;obtain⟨O0,o0,o⟩:=bS o;refine dx (hE.trans G.ext) q 2 C0 o0 (fun H0 A0 g0 Z=>?_);have v0:=zaS Z;subst v0;refine dL q 3 (ax hE G g0) ?_;obtain⟨P0,p0,o⟩:=bS o;refine dx (hE.trans G.ext) q 6 D0 p0 (fun J0 B0 i0 a0=>?_);have y0:=zaS a0;subst y0;refine dL q 7 (ax hE G i0) ?_;obtain⟨K0,q0,o⟩:=bS o;refine o1 q 8 (mc q ztu (laws_eqShardRedex_ok (hE.trans O.ext) Z a0 q0) (fun L0 N0 e0=>?_));obtain⟨rfl,H⟩:=e0;refine⟨H.ext,?_⟩;have X:=O.join H;refine dr 0 q [9] ?_;refine dw [0,1,5,26] ?_;refine dd q ?_;refine ci o (fun o=>?_) (fun o=>?_)
    ·refine sg<|rm 1 ?_;refine rt ?_;cases o;cases Y;have hm:some _=some _:=hm;cases hm;exact⟨_,tR rfl,rfl,X⟩
    ·refine sp<|rg<|rm 3 ?_;cases o;exact⟨_,_,rfl,⟨((u0.trans (Ext.draw _)).trans H.ext),X,rfl⟩,rfl⟩
   ·refine xt ?_;cases o;exact⟨_,_,⟨Y,u0,G,rfl⟩,rfl⟩

theorem zuv:EN 105:=en Tryz.func105
def z9j (fu:Nat)(x0:Qp)(x1:Qp):Option (Bool):=((z56 fu x0.Cells x1.Cells).bind fun o=>(if(!o)=true then some false else((z60 fu x0.QJ x1.QJ).bind fun q=>(if(!q)=true then some false else((z4g fu x0.Qs x1.Qs).bind fun G=>(if(!G)=true then some false else some true))))))

theorem laws_eqShard_ok (hE:Ext W w){i0:List Value}{x0:Qp}{j0:List Value}{x1:Qp}(p0:zed.ro W i0 x0)(u0:zed.ro W j0 x1){fu:Nat}{r:Bool}(hm:z9j fu x0 x1=some r):
  CL 105 ⟨[.agg ⟨i0⟩,.agg ⟨j0⟩]⟩ w (RB w r):=by
 obtain⟨A1,k2,A4,k5,A7,G0,k0,h3,h6,q0⟩:=z1J p0;subst k0;obtain⟨y0,H0,A0,J0,B0,K0,o0,r0,t0,v0⟩:=z1J u0;subst o0;refine into Tryz.func105 23 _ ?_;unfold z9j at hm;have hS:=St.start w;refine sg<|nw hS (fun E0 R0 C0 c0=>?_);refine nw c0 (fun F0 S0 D0 G=>?_);refine rm 1 ?_;refine sq<|sg<|rr 1 ?_;refine l1 ((G.b 1 rfl).box) 0 ?_;refine rr 1 ?_;refine l1 ((G.b 0 rfl).box) 0 ?_;obtain⟨L0,e0,hm⟩:=bS hm;refine ca ztV (laws_eqShardCellS_ok (hE.trans G.ext) h3 r0 e0) (fun O0 T0 O=>?_);obtain⟨rfl,X⟩:=O;have o:=G.join X;refine rm 1 ?_;refine ci hm (fun hm=>?_) (fun hm=>?_)
 ·refine sg<|rm 1 ?_;refine rt ?_;cases hm;exact⟨_,tR rfl,rfl,(o.t 0)⟩
 ·refine sp<|sq<|sg<|rr 1 ?_;refine l1 ((o.b 1 rfl).box) 1 ?_;refine rr 1 ?_;refine l1 ((o.b 0 rfl).box) 1 ?_;obtain⟨M0,f0,hm⟩:=bS hm;refine ca ztU (laws_eqShardVarS_ok (hE.trans o.ext) h6 t0 f0) (fun P0 U0 Y=>?_);obtain⟨rfl,Z⟩:=Y;have q:=o.join Z;refine rm 1 ?_;refine ci hm (fun hm=>?_) (fun hm=>?_)
  ·refine sg<|rm 1 ?_;refine rt ?_;cases hm;exact⟨_,tR rfl,rfl,(q.t 0)⟩
  ·refine sp<|sq<|sg<|rr 1 ?_;refine l1 ((q.b 1 rfl).box) 2 ?_;refine rr 1 ?_;refine l1 ((q.b 0 rfl).box) 2 ?_;obtain⟨N0,g0,hm⟩:=bS hm;refine ca ztT (laws_eqShardRedexS_ok (hE.trans q.ext) q0 v0 g0) (fun Q0 V0 a0=>?_);obtain⟨rfl,b0⟩:=a0;have H:=q.join b0;refine rm 1 ?_;refine ci hm (fun hm=>?_) (fun hm=>?_)
   ·refine sg<|rm 1 ?_;refine rt ?_;cases hm;exact⟨_,tR rfl,rfl,(H.t 0)⟩
   ·refine sp<|sg<|rm 1 ?_;refine rt ?_;cases hm;exact⟨_,tR rfl,rfl,(H.t 0)⟩

theorem zws:EN 45:=en Tryz.func45
def zcK (fu:Nat)(t2:Unit):Option Bool:=some true
def z8g (fu:Nat)(x0:LG)(x1:LG)(s1:Int):Option (Rd (Int) (Unit) (Bool)):=(if(decide (s1<(x0.length:Int)))=true then((idx x0 s1).bind fun q=>((idx x1 s1).bind fun G=>((z9j fu q G).bind fun o=>(if(!o)=true then some (.ret false) else some (.next (w64 (s1+1))))))) else some (.brk ()))
def z8J (fu:Nat)(x0:LG)(x1:LG):Option (Bool):=(if((x0.length:Int) != (x1.length:Int))=true then some false else((iter (z8g fu x0 x1) fu 0).bind fun o=>aft o (zcK fu)))

theorem laws_eqShardS_ok (hE:Ext W w){b0:Option Addr}{r0:Nat}{x0:LG}{c0:Option Addr}{t0:Nat}{x1:LG}(C0:ty33.ro W [sl b0 x0 r0] x0)(D0:ty33.ro W [sl c0 x1 t0] x1){fu:Nat}{r:Bool}(hm:z8J fu x0 x1=some r):
  CL 45 ⟨[sl b0 x0 r0,sl c0 x1 t0]⟩ w (RB w r):=by
 refine into Tryz.func45 27 _ ?_;unfold z8J at hm;have hS:=St.start w;refine sg<|rm 1 ?_;refine sq<|sg<|rm 5 ?_;refine ci hm (fun hm=>?_) (fun hm=>?_)
 ·refine sg<|rm 1 ?_;refine rt ?_;cases hm;exact⟨_,tR rfl,rfl,hS⟩
 ·refine sp<|sq<|sg<|rm 1 ?_;obtain⟨E0,j0,hm⟩:=bS hm;refine ct (fun(t2:Unit) F w9=>E0=.inl t2∧Ext w w9∧St w w9 []∧F=[]) ?_ ?_
  ·rintro t2 F w7 ⟨k0,S0,f0,rfl⟩;subst k0;rw[z8] at hm;unfold zcK at hm;refine sg<|rm 1 ?_;refine rt ?_;cases hm;exact⟨_,tR rfl,rfl,f0⟩
  ·refine bk<|wk [0,1,5] ?_;refine it (fun(s1:Int) F w9=>Ext w w9∧St w w9 []∧F=[(0,sl b0 x0 r0),(1,sl c0 x1 t0),(5,iv s1)]) j0 ⟨(Ext.refl _),hS,rfl⟩ ?_;rintro s1 F i1 _ b1 ⟨u0,G,rfl⟩ o Y;unfold z8g at o;refine sq<|sg<|rm 4 ?_;refine ci o (fun o=>?_) (fun o=>?_)
   ·refine sp<|sq<|bk<|sq<|dn 0 mixed 10 [([],1023),([],1023),([0,1],1020),([2],1019),([],1023),([],1023),([4,5],975),([6],959),([3,7],887),([8],767)] G.ext (fun q=>?_);have O:=G.step (Ext.draw _);refine dr 6 q [0,1,4,5] ?_;obtain⟨m1,o0,o⟩:=bS o;refine dx (hE.trans G.ext) q 2 C0 o0 (fun d1 A0 g0 Z=>?_);obtain⟨F0,T0,G0,U0,H0,V0,v0,M0,N0,O0⟩:=z1J Z;subst v0;refine dL q 3 (ax hE G g0) ?_;obtain⟨n1,p0,o⟩:=bS o;refine dx (hE.trans G.ext) q 6 D0 p0 (fun e1 B0 i0 a0=>?_);obtain⟨J0,X0,K0,Y0,L0,a1,y0,P0,Q0,R0⟩:=z1J a0;subst y0;refine dL q 7 (ax hE G i0) ?_;obtain⟨f1,q0,o⟩:=bS o;refine o1 q 8 (mc q zuv (laws_eqShard_ok (hE.trans O.ext) Z a0 q0) (fun g1 j1 e0=>?_));obtain⟨rfl,H⟩:=e0;refine⟨H.ext,?_⟩;have X:=O.join H;refine dr 0 q [9] ?_;refine dw [0,1,5,26] ?_;refine dd q ?_;refine ci o (fun o=>?_) (fun o=>?_)
    ·refine sg<|rm 1 ?_;refine rt ?_;cases o;cases Y;have hm:some _=some _:=hm;cases hm;exact⟨_,tR rfl,rfl,X⟩
    ·refine sp<|rg<|rm 3 ?_;cases o;exact⟨_,_,rfl,⟨((u0.trans (Ext.draw _)).trans H.ext),X,rfl⟩,rfl⟩
   ·refine xt ?_;cases o;exact⟨_,_,⟨Y,u0,G,rfl⟩,rfl⟩

theorem zwH:EN 12:=en Tryz.func12
def zan (fu:Nat)(x0:D.Qk)(x1:D.Qk):Option (Bool):=((z8J fu x0.Qf x1.Qf).bind fun o=>(if(!o)=true then some false else((z1u fu x0.QO x1.QO).bind fun q=>(if(!q)=true then some false else some true))))

theorem laws_eqGrid_ok (hE:Ext W w){c0:List Value}{x0:D.Qk}{e0:List Value}{x1:D.Qk}(g0:ty36.ro W c0 x0)(i0:ty36.ro W e0 x1){fu:Nat}{r:Bool}(hm:zan fu x0 x1=some r):
  CL 12 ⟨[.agg ⟨c0⟩,.agg ⟨e0⟩]⟩ w (RB w r):=by
 obtain⟨A1,k2,e4,h3⟩:=z4D g0;subst e4;obtain⟨A5,k6,f0,h7⟩:=z4D i0;subst f0;refine into Tryz.func12 17 _ ?_;unfold zan at hm;have hS:=St.start w;refine sg<|nw hS (fun o0 v0 j0 Z=>?_);refine nw Z (fun p0 y0 k0 q=>?_);refine rm 1 ?_;refine sq<|sg<|rr 1 ?_;refine l1 ((q.b 1 rfl).box) 0 ?_;refine rr 1 ?_;refine l1 ((q.b 0 rfl).box) 0 ?_;obtain⟨q0,a0,hm⟩:=bS hm;refine ca zws (laws_eqShardS_ok (hE.trans q.ext) h3 h7 a0) (fun t0 A0 H=>?_);obtain⟨rfl,O⟩:=H;have o:=q.join O;refine rm 1 ?_;refine ci hm (fun hm=>?_) (fun hm=>?_)
 ·refine sg<|rm 1 ?_;refine rt ?_;cases hm;exact⟨_,tR rfl,rfl,(o.t 0)⟩
 ·refine sp<|sq<|sg<|rr 1 ?_;refine lN (At.sub ((o.b 1 rfl).box) 1 3) ?_;refine rr 1 ?_;refine lN (At.sub ((o.b 0 rfl).box) 1 3) ?_;obtain⟨r0,b0,hm⟩:=bS hm;refine ca zdP (laws_eqAddress_ok (hE.trans o.ext) (zM x0.QO) (zM x1.QO) b0) (fun u0 B0 X=>?_);obtain⟨rfl,Y⟩:=X;have G:=o.join Y;refine rm 1 ?_;refine ci hm (fun hm=>?_) (fun hm=>?_)
  ·refine sg<|rm 1 ?_;refine rt ?_;cases hm;exact⟨_,tR rfl,rfl,(G.t 0)⟩
  ·refine sp<|sg<|rm 1 ?_;refine rt ?_;cases hm;exact⟨_,tR rfl,rfl,(G.t 0)⟩

theorem zeY:EN 28:=en Tryz.func28
def zbE (fu:Nat)(t2:Int×L9):Option (Int×L9):=some (t2.1,t2.2)
def z6p (fu:Nat)(x0:L9)(s1:Int×Int×L9):Option (Rd (Int×Int×L9) (Int×L9) (Int×L9)):=(if(decide (s1.2.1<(x0.length:Int)))=true then(if decide (0≤s1.2.1∧s1.2.1.toNat<s1.2.2.length)=true then some (.next (w64 (s1.1+1),w64 (s1.2.1+1),(s1.2.2.set s1.2.1.toNat s1.1))) else none) else some (.brk (s1.1,s1.2.2)))
def z1y (fu:Nat)(x0:L9)(x1:Int):Option (Int×L9):=((iter (z6p fu x0) fu (x1,0,x0)).bind fun o=>aft o (zbE fu))

theorem laws_markInt64S_ok {RR:List Res}{G:Option Addr}{H:Nat}{x0:L9}{x1:Int}(hS:St W w (ow ty45 G x0 H::RR)){fu:Nat}{r:Int×L9}(hm:z1y fu x0 x1=some r):
  CL 28 ⟨[sl G x0 H,iv x1]⟩ w (Ret fun v w8=>v=iv r.1∧St W w8 (Own ty45 [sl G x0 H] r.2::RR)):=by
 refine into Tryz.func28 19 _ ?_;unfold z1y at hm;refine sg<|rm 1 ?_;refine sq<|sg<|rm 1 ?_;obtain⟨o5,g0,hm⟩:=bS hm;refine ct (fun(t2:Int×L9) F w9=>o5=.inl t2∧St W w9 (Own ty45 [sl G x0 H] t2.2::RR)∧F=[(1,iv t2.1)]) ?_ ?_
 ·rintro t2 F w4 ⟨c0,f0,rfl⟩;subst c0;rw[z8] at hm;unfold zbE at hm;refine sg<|rm 2 ?_;refine rt ?_;cases hm;exact⟨_,tR rfl,rfl,f0⟩
 ·refine bk<|wk [0,1,5] ?_;refine it (fun(s1:Int×Int×L9) F w9=>St W w9 (Own ty45 [sl G x0 H] s1.2.2::RR)∧F=[(0,sl G x0 H),(1,iv s1.1),(5,iv s1.2.1)]) g0 ⟨hS,rfl⟩ ?_;rintro s1 F j0 _ i0 ⟨O,rfl⟩ o e0;unfold z6p at o;refine sq<|sg<|rm 4 ?_;refine ci o (fun o=>?_) (fun o=>?_)
  ·refine sp<|sq<|bk<|sg<|rr 3 ?_;have X:=O.b 0 rfl;obtain⟨b0,o⟩:=iS o;have q:=of_decide_eq_true b0;refine io X q.1 q.2 (fun p0 o0=>?_);have Y:=X.flat (T:=z2z) (cs:=[iv s1.1]) (x:=s1.1) ⟨rfl,rfl⟩;have Z:=Y.b 1 rfl;refine se Z q.2 o0 (fun k0 a0=>?_);refine rn<|rg<|rm 3 ?_;refine rg<|rm 3 ?_;cases o;exact⟨_,_,rfl,⟨a0,rfl⟩,rfl⟩
  ·refine xt ?_;cases o;exact⟨_,_,⟨e0,O,rfl⟩,rfl⟩

theorem zo9:EN 167:=en Tryz.func167
def zaL (fu:Nat)(t2:Int×LD):Option (Int×LD):=some (t2.1,t2.2)
def z5g (fu:Nat)(x0:LD)(s1:Int×Int×LD):Option (Rd (Int×Int×LD) (Int×LD) (Int×LD)):=(if(decide (s1.2.1<(x0.length:Int)))=true then((idx s1.2.2 s1.2.1).bind fun o=>some (.next (w64 ((w64 ((w64 (s1.1+1))+1))+1),w64 (s1.2.1+1),(s1.2.2.set s1.2.1.toNat (⟨s1.1,w64 (s1.1+1),w64 ((w64 (s1.1+1))+1)⟩:Qb))))) else some (.brk (s1.1,s1.2.2)))
def z3g (fu:Nat)(x0:LD)(x1:Int):Option (Int×LD):=((iter (z5g fu x0) fu (x1,0,x0)).bind fun o=>aft o (zaL fu))

theorem laws_markAddressS_ok {RR:List Res}{G:Option Addr}{H:Nat}{x0:LD}{x1:Int}(hS:St W w (ow ty82 G x0 H::RR)){fu:Nat}{r:Int×LD}(hm:z3g fu x0 x1=some r):
  CL 167 ⟨[sl G x0 H,iv x1]⟩ w (Ret fun v w8=>v=iv r.1∧St W w8 (Own ty82 [sl G x0 H] r.2::RR)):=by
 refine into Tryz.func167 34 _ ?_;unfold z3g at hm;refine sg<|rm 1 ?_;refine sq<|sg<|rm 1 ?_;obtain⟨o5,u0,hm⟩:=bS hm;refine ct (fun(t2:Int×LD) F w9=>o5=.inl t2∧St W w9 (Own ty82 [sl G x0 H] t2.2::RR)∧F=[(1,iv t2.1)]) ?_ ?_
 ·rintro t2 F w4 ⟨o0,t0,rfl⟩;subst o0;rw[z8] at hm;unfold zaL at hm;refine sg<|rm 2 ?_;refine rt ?_;cases hm;exact⟨_,tR rfl,rfl,t0⟩
 ·refine bk<|wk [0,1,5] ?_;refine it (fun(s1:Int×Int×LD) F w9=>St W w9 (Own ty82 [sl G x0 H] s1.2.2::RR)∧F=[(0,sl G x0 H),(1,iv s1.1),(5,iv s1.2.1)]) u0 ⟨hS,rfl⟩ ?_;rintro s1 F y0 _ v0 ⟨O,rfl⟩ o p0;unfold z5g at o;refine sq<|sg<|rm 4 ?_;refine ci o (fun o=>?_) (fun o=>?_)
  ·refine sp<|sq<|bk<|sg<|rr 3 ?_;have Z:=O.b 0 rfl;obtain⟨D0,q,o⟩:=bS o;refine fo Z q (fun H0 r0 E0 a0=>?_);obtain⟨q0,b0⟩:=zqB (a0.b 1 rfl);subst q0;refine rr 1 ?_;have c0:=b0.b 0 rfl;refine sh c0 E0 0 (fun A0 X=>?_);refine rn<|sg<|rm 3 ?_;refine sg<|rr 3 ?_;refine ia (X.b 0 rfl) (zk q).1 (fun J0 F0=>?_);refine rr 1 ?_;have e0:=X.b 0 rfl;refine sh e0 F0 1 (fun B0 Y=>?_);refine rn<|sg<|rm 3 ?_;refine sg<|rr 3 ?_;refine ia (Y.b 0 rfl) (zk q).1 (fun K0 G0=>?_);refine rr 1 ?_;have f0:=Y.b 0 rfl;refine sh f0 G0 2 (fun C0 g0=>?_);refine rn<|rg<|rm 3 ?_;refine rg<|rm 3 ?_;have i0:=zkd (c:=(⟨s1.1,w64 (s1.1+1),w64 ((w64 (s1.1+1))+1)⟩:Qb)) (B:=_) g0;have j0:=i0.b 1 rfl;have k0:=St.unfocusN j0;cases o;exact⟨_,_,rfl,⟨k0,rfl⟩,rfl⟩
  ·refine xt ?_;cases o;exact⟨_,_,⟨p0,O,rfl⟩,rfl⟩

theorem zuu:EN 106:=en Tryz.func106
def z9K (fu:Nat)(t2:Int×LB):Option (Int×LB):=some (t2.1,t2.2)
def z3U (fu:Nat)(x0:LB)(s1:Int×Int×LB):Option (Rd (Int×Int×LB) (Int×LB) (Int×LB)):=(if(decide (s1.2.1<(x0.length:Int)))=true then((idx s1.2.2 s1.2.1).bind fun G=>((z1y fu G.Data (w64 ((w64 ((w64 (s1.1+1))+1))+1))).bind fun o=>((z3g fu G.QM o.1).bind fun q=>some (.next (q.1,w64 (s1.2.1+1),(s1.2.2.set s1.2.1.toNat (⟨s1.1,w64 (s1.1+1),w64 ((w64 (s1.1+1))+1),o.2,q.2⟩:Qa))))))) else some (.brk (s1.1,s1.2.2)))
def z3z (fu:Nat)(x0:LB)(x1:Int):Option (Int×LB):=((iter (z3U fu x0) fu (x1,0,x0)).bind fun o=>aft o (z9K fu))

theorem laws_markShardCellS_ok {RR:List Res}{e0:Option Addr}{f0:Nat}{x0:LB}{x1:Int}(hS:St W w (ow ty81 e0 x0 f0::RR)){fu:Nat}{r:Int×LB}(hm:z3z fu x0 x1=some r):
  CL 106 ⟨[sl e0 x0 f0,iv x1]⟩ w (Ret fun v w8=>v=iv r.1∧St W w8 (Own ty81 [sl e0 x0 f0] r.2::RR)):=by
 refine into Tryz.func106 48 _ ?_;unfold z3z at hm;refine sg<|rm 1 ?_;refine sq<|sg<|rm 1 ?_;obtain⟨o5,R0,hm⟩:=bS hm;refine ct (fun(t2:Int×LB) F w9=>o5=.inl t2∧St W w9 (Own ty81 [sl e0 x0 f0] t2.2::RR)∧F=[(1,iv t2.1)]) ?_ ?_
 ·rintro t2 F w4 ⟨K0,Q0,rfl⟩;subst K0;rw[z8] at hm;unfold z9K at hm;refine sg<|rm 2 ?_;refine rt ?_;cases hm;exact⟨_,tR rfl,rfl,Q0⟩
 ·refine bk<|wk [0,1,5] ?_;refine it (fun(s1:Int×Int×LB) F w9=>St W w9 (Own ty81 [sl e0 x0 f0] s1.2.2::RR)∧F=[(0,sl e0 x0 f0),(1,iv s1.1),(5,iv s1.2.1)]) R0 ⟨hS,rfl⟩ ?_;rintro s1 F Y0 _ U0 ⟨g0,rfl⟩ o L0;unfold z3U at o;refine sq<|sg<|rm 4 ?_;refine ci o (fun o=>?_) (fun o=>?_)
  ·refine sp<|sq<|bk<|sg<|rr 3 ?_;have t0:=g0.b 0 rfl;obtain⟨G,q,o⟩:=bS o;refine fo t0 q (fun u1 P0 j1 u0=>?_);obtain⟨O,b0,X,c0,O0,v0⟩:=zoT (u0.b 1 rfl);subst O0;refine rr 1 ?_;have y0:=v0.b 2 rfl;refine sh y0 j1 0 (fun a1 i0=>?_);refine rn<|sg<|rm 3 ?_;refine sg<|rr 3 ?_;refine ia (i0.b 0 rfl) (zk q).1 (fun v1 m1=>?_);refine rr 1 ?_;have A0:=i0.b 0 rfl;refine sh A0 m1 1 (fun b1 j0=>?_);refine rn<|sg<|rm 3 ?_;refine sg<|rr 3 ?_;refine ia (j0.b 0 rfl) (zk q).1 (fun y1 n1=>?_);refine rr 1 ?_;have B0:=j0.b 0 rfl;refine sh B0 n1 2 (fun d1 Y=>?_);refine rn<|sg<|rm 3 ?_;refine sg<|rr 2 ?_;refine ia (Y.b 0 rfl) (zk q).1 (fun A1 p1=>?_);refine rr 1 ?_;refine l1 ((Y.b 0 rfl).hole_atN p1) 3 ?_;refine rr 1 ?_;obtain⟨H,M0,o⟩:=bS o;refine ca zeY (laws_markInt64S_ok (W:=W) (RR:=_) (x0:=G.Data) (x1:=w64 ((w64 ((w64 (s1.1+1))+1))+1)) (Y.b 1 rfl)  M0) (fun V0 e1 q0=>?_);obtain⟨rfl,Z⟩:=q0;refine rm 1 ?_;refine rg<|rr 2 ?_;refine ia (Z.b 1 rfl) (zk q).1 (fun B1 t1=>?_);refine rr 1 ?_;refine l1 ((Z.b 1 rfl).hole_atN t1) 4 ?_;refine rr 1 ?_;obtain⟨p0,N0,o⟩:=bS o;refine ca zo9 (laws_markAddressS_ok (W:=W) (RR:=_) (x0:=G.QM) (x1:=H.1) (Z.b 2 rfl)  N0) (fun X0 f1 r0=>?_);obtain⟨rfl,k0⟩:=r0;refine rm 1 ?_;refine rg<|rm 3 ?_;have g1:=(k0.b 1 rfl).lenEq;have C0:=(k0.b 1 rfl).reLen g1;have o0:=(C0.b 2 rfl).reHole (es':=[iv s1.1,iv (w64 (s1.1+1)),iv (w64 ((w64 (s1.1+1))+1)),.slice O H.2.length b0,.slice X G.QM.length c0]) (by show([iv s1.1,iv (w64 (s1.1+1)),iv (w64 ((w64 (s1.1+1))+1)),.slice O G.Data.length b0,.slice X G.QM.length c0]:List Value)=[iv s1.1,iv (w64 (s1.1+1)),iv (w64 ((w64 (s1.1+1))+1)),.slice O H.2.length b0,.slice X G.QM.length c0];first | (simp only[sl,g1];done) | (simp only[sl,g1];rfl));have i1:=(o0.b 2 rfl).lenEq;have D0:=(o0.b 2 rfl).reLen i1;have a0:=(D0.b 1 rfl).reHole (es':=[iv s1.1,iv (w64 (s1.1+1)),iv (w64 ((w64 (s1.1+1))+1)),.slice O H.2.length b0,.slice X p0.2.length c0]) (by show([iv s1.1,iv (w64 (s1.1+1)),iv (w64 ((w64 (s1.1+1))+1)),.slice O H.2.length b0,.slice X G.QM.length c0]:List Value)=[iv s1.1,iv (w64 (s1.1+1)),iv (w64 ((w64 (s1.1+1))+1)),.slice O H.2.length b0,.slice X p0.2.length c0];first | (simp only[sl,i1];done) | (simp only[sl,i1];rfl));have S0:=(show ty45.ro _ [.slice O G.Data.length b0] H.2 from(Eq.symm g1) ▸ ((a0.b 2 rfl).own));have T0:=(show ty82.ro _ [.slice X G.QM.length c0] p0.2 from(Eq.symm i1) ▸ ((a0.b 1 rfl).own));have E0:=a0.b 1 rfl;have F0:=E0.b 2 rfl;have G0:=zij (c:=(⟨s1.1,w64 (s1.1+1),w64 ((w64 (s1.1+1))+1),H.2,p0.2⟩:Qa)) (B:=_) F0;have H0:=G0.b 1 rfl;have J0:=St.unfocusN H0;cases o;exact⟨_,_,rfl,⟨J0,rfl⟩,rfl⟩
  ·refine xt ?_;cases o;exact⟨_,_,⟨L0,g0,rfl⟩,rfl⟩

theorem zut:EN 107:=en Tryz.func107
def zai (fu:Nat)(t2:Int×LH):Option (Int×LH):=some (t2.1,t2.2)
def z4s (fu:Nat)(x0:LH)(s1:Int×Int×LH):Option (Rd (Int×Int×LH) (Int×LH) (Int×LH)):=(if(decide (s1.2.1<(x0.length:Int)))=true then((idx s1.2.2 s1.2.1).bind fun o=>some (.next (w64 ((w64 ((w64 ((w64 ((w64 (s1.1+1))+1))+1))+1))+1),w64 (s1.2.1+1),(s1.2.2.set s1.2.1.toNat (⟨((s1.1.tmod 3) == 0),(((w64 (s1.1+1)).tmod 3) == 0),(⟨w64 ((w64 (s1.1+1))+1),w64 ((w64 ((w64 (s1.1+1))+1))+1),w64 ((w64 ((w64 ((w64 (s1.1+1))+1))+1))+1)⟩:Qb)⟩:Qn))))) else some (.brk (s1.1,s1.2.2)))
def z4d (fu:Nat)(x0:LH)(x1:Int):Option (Int×LH):=((iter (z4s fu x0) fu (x1,0,x0)).bind fun o=>aft o (zai fu))

theorem laws_markShardVarS_ok {RR:List Res}{G:Option Addr}{H:Nat}{x0:LH}{x1:Int}(hS:St W w (ow zcu G x0 H::RR)){fu:Nat}{r:Int×LH}(hm:z4d fu x0 x1=some r):
  CL 107 ⟨[sl G x0 H,iv x1]⟩ w (Ret fun v w8=>v=iv r.1∧St W w8 (Own zcu [sl G x0 H] r.2::RR)):=by
 refine into Tryz.func107 55 _ ?_;unfold z4d at hm;refine sg<|rm 1 ?_;refine sq<|sg<|rm 1 ?_;obtain⟨o5,B0,hm⟩:=bS hm;refine ct (fun(t2:Int×LH) F w9=>o5=.inl t2∧St W w9 (Own zcu [sl G x0 H] t2.2::RR)∧F=[(1,iv t2.1)]) ?_ ?_
 ·rintro t2 F w4 ⟨t0,A0,rfl⟩;subst t0;rw[z8] at hm;unfold zai at hm;refine sg<|rm 2 ?_;refine rt ?_;cases hm;exact⟨_,tR rfl,rfl,A0⟩
 ·refine bk<|wk [0,1,5] ?_;refine it (fun(s1:Int×Int×LH) F w9=>St W w9 (Own zcu [sl G x0 H] s1.2.2::RR)∧F=[(0,sl G x0 H),(1,iv s1.1),(5,iv s1.2.1)]) B0 ⟨hS,rfl⟩ ?_;rintro s1 F D0 _ C0 ⟨O,rfl⟩ o u0;unfold z4s at o;refine sq<|sg<|rm 4 ?_;refine ci o (fun o=>?_) (fun o=>?_)
  ·refine sp<|sq<|bk<|sg<|rr 5 ?_;have b0:=O.b 0 rfl;obtain⟨K0,q,o⟩:=bS o;refine fo b0 q (fun Q0 y0 L0 c0=>?_);obtain⟨v0,e0⟩:=zoQ (c0.b 1 rfl);subst v0;refine rr 1 ?_;have f0:=e0.b 0 rfl;refine sh f0 L0 0 (fun E0 X=>?_);refine rn<|sg<|rm 3 ?_;refine sg<|rr 5 ?_;refine ia (X.b 0 rfl) (zk q).1 (fun R0 M0=>?_);refine rr 1 ?_;have g0:=X.b 0 rfl;refine sh g0 M0 1 (fun F0 Y=>?_);refine rn<|sg<|rm 3 ?_;refine sg<|rr 3 ?_;refine ia (Y.b 0 rfl) (zk q).1 (fun S0 N0=>?_);refine rr 2 ?_;have i0:=Y.b 0 rfl;refine sh i0 N0 2 (fun G0 Z=>?_);refine rn<|sg<|rm 3 ?_;refine sg<|rr 3 ?_;refine ia (Z.b 0 rfl) (zk q).1 (fun T0 O0=>?_);refine rr 2 ?_;have j0:=Z.b 0 rfl;refine sh j0 O0 3 (fun H0 a0=>?_);refine rn<|sg<|rm 3 ?_;refine sg<|rr 3 ?_;refine ia (a0.b 0 rfl) (zk q).1 (fun U0 P0=>?_);refine rr 2 ?_;have k0:=a0.b 0 rfl;refine sh k0 P0 4 (fun J0 o0=>?_);refine rn<|rg<|rm 3 ?_;refine rg<|rm 3 ?_;have p0:=zih (c:=(⟨((s1.1.tmod 3) == 0),(((w64 (s1.1+1)).tmod 3) == 0),(⟨w64 ((w64 (s1.1+1))+1),w64 ((w64 ((w64 (s1.1+1))+1))+1),w64 ((w64 ((w64 ((w64 (s1.1+1))+1))+1))+1)⟩:Qb)⟩:Qn)) (B:=_) o0;have q0:=p0.b 1 rfl;have r0:=St.unfocusN q0;cases o;exact⟨_,_,rfl,⟨r0,rfl⟩,rfl⟩
  ·refine xt ?_;cases o;exact⟨_,_,⟨u0,O,rfl⟩,rfl⟩

theorem zus:EN 108:=en Tryz.func108
def z9h (fu:Nat)(t2:Int×LK):Option (Int×LK):=some (t2.1,t2.2)
def z3o (fu:Nat)(x0:LK)(s1:Int×Int×LK):Option (Rd (Int×Int×LK) (Int×LK) (Int×LK)):=(if(decide (s1.2.1<(x0.length:Int)))=true then((idx s1.2.2 s1.2.1).bind fun o=>some (.next (w64 ((w64 ((w64 ((w64 ((w64 ((w64 (s1.1+1))+1))+1))+1))+1))+1),w64 (s1.2.1+1),(s1.2.2.set s1.2.1.toNat (⟨(⟨s1.1,w64 (s1.1+1),w64 ((w64 (s1.1+1))+1)⟩:Qb),(⟨w64 ((w64 ((w64 (s1.1+1))+1))+1),w64 ((w64 ((w64 ((w64 (s1.1+1))+1))+1))+1),w64 ((w64 ((w64 ((w64 ((w64 (s1.1+1))+1))+1))+1))+1)⟩:Qb)⟩:Qm))))) else some (.brk (s1.1,s1.2.2)))
def z2Z (fu:Nat)(x0:LK)(x1:Int):Option (Int×LK):=((iter (z3o fu x0) fu (x1,0,x0)).bind fun o=>aft o (z9h fu))

theorem laws_markShardRedexS_ok {RR:List Res}{G:Option Addr}{H:Nat}{x0:LK}{x1:Int}(hS:St W w (ow zd9 G x0 H::RR)){fu:Nat}{r:Int×LK}(hm:z2Z fu x0 x1=some r):
  CL 108 ⟨[sl G x0 H,iv x1]⟩ w (Ret fun v w8=>v=iv r.1∧St W w8 (Own zd9 [sl G x0 H] r.2::RR)):=by
 refine into Tryz.func108 61 _ ?_;unfold z2Z at hm;refine sg<|rm 1 ?_;refine sq<|sg<|rm 1 ?_;obtain⟨o5,D0,hm⟩:=bS hm;refine ct (fun(t2:Int×LK) F w9=>o5=.inl t2∧St W w9 (Own zd9 [sl G x0 H] t2.2::RR)∧F=[(1,iv t2.1)]) ?_ ?_
 ·rintro t2 F w4 ⟨v0,C0,rfl⟩;subst v0;rw[z8] at hm;unfold z9h at hm;refine sg<|rm 2 ?_;refine rt ?_;cases hm;exact⟨_,tR rfl,rfl,C0⟩
 ·refine bk<|wk [0,1,5] ?_;refine it (fun(s1:Int×Int×LK) F w9=>St W w9 (Own zd9 [sl G x0 H] s1.2.2::RR)∧F=[(0,sl G x0 H),(1,iv s1.1),(5,iv s1.2.1)]) D0 ⟨hS,rfl⟩ ?_;rintro s1 F F0 _ E0 ⟨O,rfl⟩ o y0;unfold z3o at o;refine sq<|sg<|rm 4 ?_;refine ci o (fun o=>?_) (fun o=>?_)
  ·refine sp<|sq<|bk<|sg<|rr 3 ?_;have c0:=O.b 0 rfl;obtain⟨N0,q,o⟩:=bS o;refine fo c0 q (fun U0 B0 O0 e0=>?_);obtain⟨A0,f0⟩:=zoR (e0.b 1 rfl);subst A0;refine rr 2 ?_;have g0:=f0.b 0 rfl;refine sh g0 O0 0 (fun G0 X=>?_);refine rn<|sg<|rm 3 ?_;refine sg<|rr 3 ?_;refine ia (X.b 0 rfl) (zk q).1 (fun V0 P0=>?_);refine rr 2 ?_;have i0:=X.b 0 rfl;refine sh i0 P0 1 (fun H0 Y=>?_);refine rn<|sg<|rm 3 ?_;refine sg<|rr 3 ?_;refine ia (Y.b 0 rfl) (zk q).1 (fun X0 Q0=>?_);refine rr 2 ?_;have j0:=Y.b 0 rfl;refine sh j0 Q0 2 (fun J0 Z=>?_);refine rn<|sg<|rm 3 ?_;refine sg<|rr 3 ?_;refine ia (Z.b 0 rfl) (zk q).1 (fun Y0 R0=>?_);refine rr 2 ?_;have k0:=Z.b 0 rfl;refine sh k0 R0 3 (fun K0 a0=>?_);refine rn<|sg<|rm 3 ?_;refine sg<|rr 3 ?_;refine ia (a0.b 0 rfl) (zk q).1 (fun a1 S0=>?_);refine rr 2 ?_;have o0:=a0.b 0 rfl;refine sh o0 S0 4 (fun L0 b0=>?_);refine rn<|sg<|rm 3 ?_;refine sg<|rr 3 ?_;refine ia (b0.b 0 rfl) (zk q).1 (fun b1 T0=>?_);refine rr 2 ?_;have p0:=b0.b 0 rfl;refine sh p0 T0 5 (fun M0 q0=>?_);refine rn<|rg<|rm 3 ?_;refine rg<|rm 3 ?_;have r0:=zii (c:=(⟨(⟨s1.1,w64 (s1.1+1),w64 ((w64 (s1.1+1))+1)⟩:Qb),(⟨w64 ((w64 ((w64 (s1.1+1))+1))+1),w64 ((w64 ((w64 ((w64 (s1.1+1))+1))+1))+1),w64 ((w64 ((w64 ((w64 ((w64 (s1.1+1))+1))+1))+1))+1)⟩:Qb)⟩:Qm)) (B:=_) q0;have t0:=r0.b 1 rfl;have u0:=St.unfocusN t0;cases o;exact⟨_,_,rfl,⟨u0,rfl⟩,rfl⟩
  ·refine xt ?_;cases o;exact⟨_,_,⟨y0,O,rfl⟩,rfl⟩

theorem zwr:EN 47:=en Tryz.func47
def zbD (fu:Nat)(t2:Int×LG):Option (Int×LG):=some (t2.1,t2.2)
def z6o (fu:Nat)(x0:LG)(s1:Int×Int×LG):Option (Rd (Int×Int×LG) (Int×LG) (Int×LG)):=(if(decide (s1.2.1<(x0.length:Int)))=true then((idx s1.2.2 s1.2.1).bind fun o=>((z3z fu o.Cells s1.1).bind fun q=>((z4d fu o.QJ q.1).bind fun G=>((z2Z fu o.Qs G.1).bind fun H=>some (.next (H.1,w64 (s1.2.1+1),(s1.2.2.set s1.2.1.toNat (⟨q.2,G.2,H.2⟩:Qp)))))))) else some (.brk (s1.1,s1.2.2)))
def z6W (fu:Nat)(x0:LG)(x1:Int):Option (Int×LG):=((iter (z6o fu x0) fu (x1,0,x0)).bind fun o=>aft o (zbD fu))

theorem laws_markShardS_ok {RR:List Res}{i0:Option Addr}{j0:Nat}{x0:LG}{x1:Int}(hS:St W w (ow ty33 i0 x0 j0::RR)){fu:Nat}{r:Int×LG}(hm:z6W fu x0 x1=some r):
  CL 47 ⟨[sl i0 x0 j0,iv x1]⟩ w (Ret fun v w8=>v=iv r.1∧St W w8 (Own ty33 [sl i0 x0 j0] r.2::RR)):=by
 refine into Tryz.func47 34 _ ?_;unfold z6W at hm;refine sg<|rm 1 ?_;refine sq<|sg<|rm 1 ?_;obtain⟨o5,U0,hm⟩:=bS hm;refine ct (fun(t2:Int×LG) F w9=>o5=.inl t2∧St W w9 (Own ty33 [sl i0 x0 j0] t2.2::RR)∧F=[(1,iv t2.1)]) ?_ ?_
 ·rintro t2 F w4 ⟨M0,T0,rfl⟩;subst M0;rw[z8] at hm;unfold zbD at hm;refine sg<|rm 2 ?_;refine rt ?_;cases hm;exact⟨_,tR rfl,rfl,T0⟩
 ·refine bk<|wk [0,1,5] ?_;refine it (fun(s1:Int×Int×LG) F w9=>St W w9 (Own ty33 [sl i0 x0 j0] s1.2.2::RR)∧F=[(0,sl i0 x0 j0),(1,iv s1.1),(5,iv s1.2.1)]) U0 ⟨hS,rfl⟩ ?_;rintro s1 F f1 _ a1 ⟨k0,rfl⟩ o N0;unfold z6o at o;refine sq<|sg<|rm 4 ?_;refine ci o (fun o=>?_) (fun o=>?_)
  ·refine sp<|sq<|bk<|sg<|rr 2 ?_;have A0:=k0.b 0 rfl;obtain⟨q,g0,o⟩:=bS o;refine fo A0 g0 (fun y1 S0 t1 B0=>?_);obtain⟨H,Y,O,Z,X,a0,R0,o0⟩:=zoU (B0.b 1 rfl);subst R0;refine rr 1 ?_;refine l1 ((o0.b 3 rfl).hole_atN t1) 0 ?_;refine rr 1 ?_;obtain⟨G,O0,o⟩:=bS o;refine ca zuu (laws_markShardCellS_ok (W:=W) (RR:=_) (x0:=q.Cells) (x1:=s1.1) o0  O0) (fun b1 g1 u0=>?_);obtain⟨rfl,e0⟩:=u0;refine rm 1 ?_;refine sg<|rr 2 ?_;refine ia (e0.b 3 rfl) (zk g0).1 (fun A1 u1=>?_);refine rr 1 ?_;refine l1 ((e0.b 3 rfl).hole_atN u1) 1 ?_;refine rr 1 ?_;obtain⟨c0,P0,o⟩:=bS o;refine ca zut (laws_markShardVarS_ok (W:=W) (RR:=_) (x0:=q.QJ) (x1:=G.1) (e0.b 1 rfl)  P0) (fun d1 i1 v0=>?_);obtain⟨rfl,f0⟩:=v0;refine rm 1 ?_;refine rg<|rr 2 ?_;refine ia (f0.b 3 rfl) (zk g0).1 (fun B1 v1=>?_);refine rr 1 ?_;refine l1 ((f0.b 3 rfl).hole_atN v1) 2 ?_;refine rr 1 ?_;obtain⟨t0,Q0,o⟩:=bS o;refine ca zus (laws_markShardRedexS_ok (W:=W) (RR:=_) (x0:=q.Qs) (x1:=c0.1) (f0.b 2 rfl)  Q0) (fun e1 j1 y0=>?_);obtain⟨rfl,p0⟩:=y0;refine rm 1 ?_;refine rg<|rm 3 ?_;have m1:=(p0.b 2 rfl).lenEq;have C0:=(p0.b 2 rfl).reLen m1;have q0:=(C0.b 3 rfl).reHole (es':=[.slice H G.2.length Y,.slice O q.QJ.length Z,.slice X q.Qs.length a0]) (by show([.slice H q.Cells.length Y,.slice O q.QJ.length Z,.slice X q.Qs.length a0]:List Value)=[.slice H G.2.length Y,.slice O q.QJ.length Z,.slice X q.Qs.length a0];first | (simp only[sl,m1];done) | (simp only[sl,m1];rfl));have n1:=(q0.b 3 rfl).lenEq;have D0:=(q0.b 3 rfl).reLen n1;have r0:=(D0.b 1 rfl).reHole (es':=[.slice H G.2.length Y,.slice O c0.2.length Z,.slice X q.Qs.length a0]) (by show([.slice H G.2.length Y,.slice O q.QJ.length Z,.slice X q.Qs.length a0]:List Value)=[.slice H G.2.length Y,.slice O c0.2.length Z,.slice X q.Qs.length a0];first | (simp only[sl,n1];done) | (simp only[sl,n1];rfl));have p1:=(r0.b 3 rfl).lenEq;have E0:=(r0.b 3 rfl).reLen p1;have b0:=(E0.b 1 rfl).reHole (es':=[.slice H G.2.length Y,.slice O c0.2.length Z,.slice X t0.2.length a0]) (by show([.slice H G.2.length Y,.slice O c0.2.length Z,.slice X q.Qs.length a0]:List Value)=[.slice H G.2.length Y,.slice O c0.2.length Z,.slice X t0.2.length a0];first | (simp only[sl,p1];done) | (simp only[sl,p1];rfl));have V0:=(show ty81.ro _ [.slice H q.Cells.length Y] G.2 from(Eq.symm m1) ▸ ((b0.b 3 rfl).own));have X0:=(show zcu.ro _ [.slice O q.QJ.length Z] c0.2 from(Eq.symm n1) ▸ ((b0.b 2 rfl).own));have Y0:=(show zd9.ro _ [.slice X q.Qs.length a0] t0.2 from(Eq.symm p1) ▸ ((b0.b 1 rfl).own));have F0:=b0.b 1 rfl;have G0:=F0.b 2 rfl;have H0:=G0.b 3 rfl;have J0:=zim (c:=(⟨G.2,c0.2,t0.2⟩:Qp)) (B:=_) H0;have K0:=J0.b 1 rfl;have L0:=St.unfocusN K0;cases o;exact⟨_,_,rfl,⟨L0,rfl⟩,rfl⟩
  ·refine xt ?_;cases o;exact⟨_,_,⟨N0,k0,rfl⟩,rfl⟩

theorem zwG:EN 13:=en Tryz.func13
def zaj (fu:Nat)(x0:D.Qk)(x1:Int):Option (Int×LG):=((z6W fu x0.Qf x1).bind fun r5=>some (r5.1,r5.2))

theorem laws_markGrid_ok {RR:List Res}{x0:D.Qk}{o:Option Addr}{q:Nat}{x1:Int}(hS:St W w (ow ty33 o x0.Qf q::RR)){fu:Nat}{r:Int×LG}(hm:zaj fu x0 x1=some r):
  CL 13 ⟨[.agg ⟨[sl o x0.Qf q,iv x0.QO.Qj,iv x0.QO.Qi,iv x0.QO.Qo]⟩,iv x1]⟩ w (Ret fun v w8=>v=iv r.1∧St W w8 (Own ty33 [sl o x0.Qf q] r.2::RR)):=by
 refine into Tryz.func13 10 _ ?_;unfold zaj at hm;refine sg<|nw hS (fun g1 w2 e3 O=>?_);refine rm 1 ?_;refine sg<|rr 1 ?_;refine l1 ((O.b 0 rfl).box) 0 ?_;refine rr 1 ?_;obtain⟨r5,X,hm⟩:=bS hm;refine ca zwr (laws_markShardS_ok (W:=W) (RR:=_) (x0:=x0.Qf) (x1:=x1) (O.b 1 rfl)  X) (fun v7 Y G=>?_);obtain⟨rfl,H⟩:=G;refine rm 1 ?_;refine sg<|rm 2 ?_;refine rt ?_;cases hm;exact⟨_,tR rfl,rfl,(H.b 1 rfl).drop⟩

theorem zur:EN 109:=en Tryz.func109
def zcg (fu:Nat)(t2:Int×LF):Option (Int×LF):=some (t2.1,t2.2)
def z7r (fu:Nat)(x0:LF)(s1:Int×Int×LF):Option (Rd (Int×Int×LF) (Int×LF) (Int×LF)):=(if(decide (s1.2.1<(x0.length:Int)))=true then((idx s1.2.2 s1.2.1).bind fun o=>some (.next (w64 ((w64 (s1.1+1))+1),w64 (s1.2.1+1),(s1.2.2.set s1.2.1.toNat (⟨s1.1,w64 (s1.1+1)⟩:Qx))))) else some (.brk (s1.1,s1.2.2)))
def z7Q (fu:Nat)(x0:LF)(x1:Int):Option (Int×LF):=((iter (z7r fu x0) fu (x1,0,x0)).bind fun o=>aft o (zcg fu))

theorem laws_markPortS_ok {RR:List Res}{q:Option Addr}{G:Nat}{x0:LF}{x1:Int}(hS:St W w (ow z13 q x0 G::RR)){fu:Nat}{r:Int×LF}(hm:z7Q fu x0 x1=some r):
  CL 109 ⟨[sl q x0 G,iv x1]⟩ w (Ret fun v w8=>v=iv r.1∧St W w8 (Own z13 [sl q x0 G] r.2::RR)):=by
 refine into Tryz.func109 27 _ ?_;unfold z7Q at hm;refine sg<|rm 1 ?_;refine sq<|sg<|rm 1 ?_;obtain⟨o5,r0,hm⟩:=bS hm;refine ct (fun(t2:Int×LF) F w9=>o5=.inl t2∧St W w9 (Own z13 [sl q x0 G] t2.2::RR)∧F=[(1,iv t2.1)]) ?_ ?_
 ·rintro t2 F w4 ⟨j0,q0,rfl⟩;subst j0;rw[z8] at hm;unfold zcg at hm;refine sg<|rm 2 ?_;refine rt ?_;cases hm;exact⟨_,tR rfl,rfl,q0⟩
 ·refine bk<|wk [0,1,5] ?_;refine it (fun(s1:Int×Int×LF) F w9=>St W w9 (Own z13 [sl q x0 G] s1.2.2::RR)∧F=[(0,sl q x0 G),(1,iv s1.1),(5,iv s1.2.1)]) r0 ⟨hS,rfl⟩ ?_;rintro s1 F u0 _ t0 ⟨H,rfl⟩ o k0;unfold z7r at o;refine sq<|sg<|rm 4 ?_;refine ci o (fun o=>?_) (fun o=>?_)
  ·refine sp<|sq<|bk<|sg<|rr 3 ?_;have Y:=H.b 0 rfl;obtain⟨A0,X,o⟩:=bS o;refine fo Y X (fun D0 p0 B0 Z=>?_);obtain⟨o0,a0⟩:=zfk (Z.b 1 rfl);subst o0;refine rr 1 ?_;have b0:=a0.b 0 rfl;refine sh b0 B0 0 (fun v0 O=>?_);refine rn<|sg<|rm 3 ?_;refine sg<|rr 3 ?_;refine ia (O.b 0 rfl) (zk X).1 (fun E0 C0=>?_);refine rr 1 ?_;have c0:=O.b 0 rfl;refine sh c0 C0 1 (fun y0 e0=>?_);refine rn<|rg<|rm 3 ?_;refine rg<|rm 3 ?_;have f0:=zbW (c:=(⟨s1.1,w64 (s1.1+1)⟩:Qx)) (B:=_) e0;have g0:=f0.b 1 rfl;have i0:=St.unfocusN g0;cases o;exact⟨_,_,rfl,⟨i0,rfl⟩,rfl⟩
  ·refine xt ?_;cases o;exact⟨_,_,⟨k0,H,rfl⟩,rfl⟩

theorem zwq:EN 48:=en Tryz.func48
def zbF (fu:Nat)(t2:Int×LA):Option (Int×LA):=some (t2.1,t2.2)
def z6q (fu:Nat)(x0:LA)(s1:Int×Int×LA):Option (Rd (Int×Int×LA) (Int×LA) (Int×LA)):=(if(decide (s1.2.1<(x0.length:Int)))=true then((idx s1.2.2 s1.2.1).bind fun G=>((z1y fu G.Data (w64 ((w64 ((w64 (s1.1+1))+1))+1))).bind fun o=>((z7Q fu G.Qy o.1).bind fun q=>some (.next (q.1,w64 (s1.2.1+1),(s1.2.2.set s1.2.1.toNat (⟨s1.1,w64 (s1.1+1),w64 ((w64 (s1.1+1))+1),o.2,q.2⟩:D.Qe))))))) else some (.brk (s1.1,s1.2.2)))
def z6X (fu:Nat)(x0:LA)(x1:Int):Option (Int×LA):=((iter (z6q fu x0) fu (x1,0,x0)).bind fun o=>aft o (zbF fu))

theorem laws_markAgentS_ok {RR:List Res}{e0:Option Addr}{f0:Nat}{x0:LA}{x1:Int}(hS:St W w (ow ty28 e0 x0 f0::RR)){fu:Nat}{r:Int×LA}(hm:z6X fu x0 x1=some r):
  CL 48 ⟨[sl e0 x0 f0,iv x1]⟩ w (Ret fun v w8=>v=iv r.1∧St W w8 (Own ty28 [sl e0 x0 f0] r.2::RR)):=by
 refine into Tryz.func48 48 _ ?_;unfold z6X at hm;refine sg<|rm 1 ?_;refine sq<|sg<|rm 1 ?_;obtain⟨o5,R0,hm⟩:=bS hm;refine ct (fun(t2:Int×LA) F w9=>o5=.inl t2∧St W w9 (Own ty28 [sl e0 x0 f0] t2.2::RR)∧F=[(1,iv t2.1)]) ?_ ?_
 ·rintro t2 F w4 ⟨K0,Q0,rfl⟩;subst K0;rw[z8] at hm;unfold zbF at hm;refine sg<|rm 2 ?_;refine rt ?_;cases hm;exact⟨_,tR rfl,rfl,Q0⟩
 ·refine bk<|wk [0,1,5] ?_;refine it (fun(s1:Int×Int×LA) F w9=>St W w9 (Own ty28 [sl e0 x0 f0] s1.2.2::RR)∧F=[(0,sl e0 x0 f0),(1,iv s1.1),(5,iv s1.2.1)]) R0 ⟨hS,rfl⟩ ?_;rintro s1 F Y0 _ U0 ⟨g0,rfl⟩ o L0;unfold z6q at o;refine sq<|sg<|rm 4 ?_;refine ci o (fun o=>?_) (fun o=>?_)
  ·refine sp<|sq<|bk<|sg<|rr 3 ?_;have t0:=g0.b 0 rfl;obtain⟨G,q,o⟩:=bS o;refine fo t0 q (fun u1 P0 j1 u0=>?_);obtain⟨O,b0,X,c0,O0,v0⟩:=zfm (u0.b 1 rfl);subst O0;refine rr 1 ?_;have y0:=v0.b 2 rfl;refine sh y0 j1 0 (fun a1 i0=>?_);refine rn<|sg<|rm 3 ?_;refine sg<|rr 3 ?_;refine ia (i0.b 0 rfl) (zk q).1 (fun v1 m1=>?_);refine rr 1 ?_;have A0:=i0.b 0 rfl;refine sh A0 m1 1 (fun b1 j0=>?_);refine rn<|sg<|rm 3 ?_;refine sg<|rr 3 ?_;refine ia (j0.b 0 rfl) (zk q).1 (fun y1 n1=>?_);refine rr 1 ?_;have B0:=j0.b 0 rfl;refine sh B0 n1 2 (fun d1 Y=>?_);refine rn<|sg<|rm 3 ?_;refine sg<|rr 2 ?_;refine ia (Y.b 0 rfl) (zk q).1 (fun A1 p1=>?_);refine rr 1 ?_;refine l1 ((Y.b 0 rfl).hole_atN p1) 3 ?_;refine rr 1 ?_;obtain⟨H,M0,o⟩:=bS o;refine ca zeY (laws_markInt64S_ok (W:=W) (RR:=_) (x0:=G.Data) (x1:=w64 ((w64 ((w64 (s1.1+1))+1))+1)) (Y.b 1 rfl)  M0) (fun V0 e1 q0=>?_);obtain⟨rfl,Z⟩:=q0;refine rm 1 ?_;refine rg<|rr 2 ?_;refine ia (Z.b 1 rfl) (zk q).1 (fun B1 t1=>?_);refine rr 1 ?_;refine l1 ((Z.b 1 rfl).hole_atN t1) 4 ?_;refine rr 1 ?_;obtain⟨p0,N0,o⟩:=bS o;refine ca zur (laws_markPortS_ok (W:=W) (RR:=_) (x0:=G.Qy) (x1:=H.1) (Z.b 2 rfl)  N0) (fun X0 f1 r0=>?_);obtain⟨rfl,k0⟩:=r0;refine rm 1 ?_;refine rg<|rm 3 ?_;have g1:=(k0.b 1 rfl).lenEq;have C0:=(k0.b 1 rfl).reLen g1;have o0:=(C0.b 2 rfl).reHole (es':=[iv s1.1,iv (w64 (s1.1+1)),iv (w64 ((w64 (s1.1+1))+1)),.slice O H.2.length b0,.slice X G.Qy.length c0]) (by show([iv s1.1,iv (w64 (s1.1+1)),iv (w64 ((w64 (s1.1+1))+1)),.slice O G.Data.length b0,.slice X G.Qy.length c0]:List Value)=[iv s1.1,iv (w64 (s1.1+1)),iv (w64 ((w64 (s1.1+1))+1)),.slice O H.2.length b0,.slice X G.Qy.length c0];first | (simp only[sl,g1];done) | (simp only[sl,g1];rfl));have i1:=(o0.b 2 rfl).lenEq;have D0:=(o0.b 2 rfl).reLen i1;have a0:=(D0.b 1 rfl).reHole (es':=[iv s1.1,iv (w64 (s1.1+1)),iv (w64 ((w64 (s1.1+1))+1)),.slice O H.2.length b0,.slice X p0.2.length c0]) (by show([iv s1.1,iv (w64 (s1.1+1)),iv (w64 ((w64 (s1.1+1))+1)),.slice O H.2.length b0,.slice X G.Qy.length c0]:List Value)=[iv s1.1,iv (w64 (s1.1+1)),iv (w64 ((w64 (s1.1+1))+1)),.slice O H.2.length b0,.slice X p0.2.length c0];first | (simp only[sl,i1];done) | (simp only[sl,i1];rfl));have S0:=(show ty45.ro _ [.slice O G.Data.length b0] H.2 from(Eq.symm g1) ▸ ((a0.b 2 rfl).own));have T0:=(show z13.ro _ [.slice X G.Qy.length c0] p0.2 from(Eq.symm i1) ▸ ((a0.b 1 rfl).own));have E0:=a0.b 1 rfl;have F0:=E0.b 2 rfl;have G0:=z7i (c:=(⟨s1.1,w64 (s1.1+1),w64 ((w64 (s1.1+1))+1),H.2,p0.2⟩:D.Qe)) (B:=_) F0;have H0:=G0.b 1 rfl;have J0:=St.unfocusN H0;cases o;exact⟨_,_,rfl,⟨J0,rfl⟩,rfl⟩
  ·refine xt ?_;cases o;exact⟨_,_,⟨L0,g0,rfl⟩,rfl⟩

theorem zwF:EN 14:=en Tryz.func14
def z9i (fu:Nat)(x0:QV)(x1:Int):Option (Int×LA):=((z6X fu x0.QG x1).bind fun r5=>some (r5.1,r5.2))

theorem laws_markNet_ok {RR:List Res}{x0:QV}{o:Option Addr}{q:Nat}{x1:Int}(hS:St W w (ow ty28 o x0.QG q::RR)){fu:Nat}{r:Int×LA}(hm:z9i fu x0 x1=some r):
  CL 14 ⟨[.agg ⟨[sl o x0.QG q]⟩,iv x1]⟩ w (Ret fun v w8=>v=iv r.1∧St W w8 (Own ty28 [sl o x0.QG q] r.2::RR)):=by
 refine into Tryz.func14 10 _ ?_;unfold z9i at hm;refine sg<|nw hS (fun g1 w2 e3 O=>?_);refine rm 1 ?_;refine sg<|rr 1 ?_;refine l1 ((O.b 0 rfl).box) 0 ?_;refine rr 1 ?_;obtain⟨r5,X,hm⟩:=bS hm;refine ca zwq (laws_markAgentS_ok (W:=W) (RR:=_) (x0:=x0.QG) (x1:=x1) (O.b 1 rfl)  X) (fun v7 Y G=>?_);obtain⟨rfl,H⟩:=G;refine rm 1 ?_;refine sg<|rm 2 ?_;refine rt ?_;cases hm;exact⟨_,tR rfl,rfl,(H.b 1 rfl).drop⟩

theorem zw9:EN 83:=en Tryz.func83
def zbG (fu:Nat)(t2:Int):Option Int:=some t2
def z4e (fu:Nat)(x0:L9)(s1:Int×Int):Option (Rd (Int×Int) (Int) (Int)):=(if(decide (s1.2<(x0.length:Int)))=true then((idx x0 s1.2).bind fun o=>(if(o != s1.1)=true then some (.ret (-1)) else some (.next (w64 (s1.1+1),w64 (s1.2+1))))) else some (.brk s1.1))
def z6Y (fu:Nat)(x0:L9)(x1:Int):Option (Int):=((iter (z4e fu x0) fu (x1,0)).bind fun o=>aft o (zbG fu))

theorem laws_heldInt64S_ok (hE:Ext W w){H:Option Addr}{c0:Nat}{x0:L9}{x1:Int}(g0:ty45.ro W [sl H x0 c0] x0){fu:Nat}{r:Int}(hm:z6Y fu x0 x1=some r):
  CL 83 ⟨[sl H x0 c0,iv x1]⟩ w (RI w r):=by
 refine into Tryz.func83 21 _ ?_;unfold z6Y at hm;have hS:=St.start w;refine sg<|rm 1 ?_;refine sq<|sg<|rm 1 ?_;obtain⟨i0,Y,hm⟩:=bS hm;refine ct (fun(t2:Int) F w9=>i0=.inl t2∧Ext w w9∧St w w9 []∧F=[(1,iv t2)]) ?_ ?_
 ·rintro t2 F w7 ⟨Z,j0,O,rfl⟩;subst Z;rw[z8] at hm;unfold zbG at hm;refine sg<|rm 2 ?_;refine rt ?_;cases hm;exact⟨_,tR rfl,rfl,O⟩
 ·refine bk<|wk [0,1,5] ?_;refine it (fun(s1:Int×Int) F w9=>Ext w w9∧St w w9 []∧F=[(0,sl H x0 c0),(1,iv s1.1),(5,iv s1.2)]) Y ⟨(Ext.refl _),hS,rfl⟩ ?_;rintro s1 F p0 _ k0 ⟨e0,q,rfl⟩ o G;unfold z4e at o;refine sq<|sg<|rm 4 ?_;refine ci o (fun o=>?_) (fun o=>?_)
  ·refine sp<|sq<|bk<|sq<|sg<|rr 2 ?_;obtain⟨q0,b0,o⟩:=bS o;refine ix (hE.trans q.ext) g0 b0 (fun o0 f0 X a0=>?_);cases a0;refine l1 (ax hE q X) 0 ?_;refine rm 2 ?_;refine ci o (fun o=>?_) (fun o=>?_)
   ·refine sg<|rm 1 ?_;refine rt ?_;cases o;cases G;have hm:some _=some _:=hm;cases hm;exact⟨_,tR rfl,rfl,q⟩
   ·refine sp<|rg<|rm 3 ?_;refine rg<|rm 3 ?_;cases o;exact⟨_,_,rfl,⟨e0,q,rfl⟩,rfl⟩
  ·refine xt ?_;cases o;exact⟨_,_,⟨G,e0,q,rfl⟩,rfl⟩

end Go.E




