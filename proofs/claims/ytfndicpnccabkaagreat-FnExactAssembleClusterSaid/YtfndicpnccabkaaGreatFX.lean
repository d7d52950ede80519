/- Models of functions and proofs that the code runs as they say (written by program). Conditions: the model gives a value. -/
import Derived.Test.YtfndicpnccabkaaGreatFZb
import Derived.Test.YtfndicpnccabkaaGreatFP
import Derived.Test.YtfndicpnccabkaaGreatFI
import Derived.Test.YtfndicpnccabkaaGreatFVb
import Derived.Test.YtfndicpnccabkaaGreatFH
import Derived.Test.YtfndicpnccabkaaGreatMapS
import Derived.Test.YtfndicpnccabkaaGreatQB
import Derived.Test.YtfndicpnccabkaaGreatFYb
import Derived.Test.YtfndicpnccabkaaGreatMixed
set_option linter.unusedVariables false
set_option linter.unusedSimpArgs false
namespace Go.E
open Go.RowKit Go.Proofs
set_option maxHeartbeats 2000000
set_option maxRecDepth 100000

variable {W:Base}{w:World}
theorem ztS:EN 168:=en Tryz.func168
def z8H (fu:Nat)(x0:Qh)(x1:Int):Option (Int):=((z3T fu x0.Qz x1).bind fun o=>(if(decide (o<0))=true then some (-1) else some o))

theorem laws_szParcel_ok (hE:Ext W w){X:List Value}{x0:Qh}{x1:Int}(Y:zoN.ro W X x0){fu:Nat}{r:Int}(hm:z8H fu x0 x1=some r):
  CL 168 ⟨[.agg ⟨X⟩,iv x1]⟩ w (RI w r):=by
 obtain⟨A1,k2,A4,k5,e7,h3,h6⟩:=zeL Y;subst e7;refine into Tryz.func168 12 _ ?_;unfold z8H at hm;have hS:=St.start w;refine sg<|nw hS (fun a0 e0 Z o=>?_);refine rm 1 ?_;refine sg<|rr 1 ?_;refine lN (At.sub ((o.b 0 rfl).box) 1 5) ?_;refine rr 1 ?_;obtain⟨b0,O,hm⟩:=bS hm;refine ca zo4 (laws_szShardCell_ok (hE.trans o.ext) (zkh x0.Qz h3 h6) O) (fun c0 f0 G=>?_);obtain⟨rfl,H⟩:=G;have q:=o.join H;refine rm 1 ?_;refine sq<|sg<|rm 2 ?_;refine ci hm (fun hm=>?_) (fun hm=>?_)
 ·refine sg<|rm 1 ?_;refine rt ?_;cases hm;exact⟨_,tR rfl,rfl,(q.t 0)⟩
 ·refine sp<|sg<|rm 2 ?_;refine rt ?_;cases hm;exact⟨_,tR rfl,rfl,(q.t 0)⟩

theorem zup:EN 111:=en Tryz.func111
def zce (fu:Nat)(t2:Int):Option Int:=some t2
def z7p (fu:Nat)(x0:LE)(s1:Int×Int):Option (Rd (Int×Int) (Int) (Int)):=(if(decide (s1.2<(x0.length:Int)))=true then((idx x0 s1.2).bind fun q=>((z8H fu q s1.1).bind fun o=>(if(decide (o<0))=true then some (.ret (-1)) else some (.next (o,w64 (s1.2+1)))))) else some (.brk s1.1))
def z7N (fu:Nat)(x0:LE)(x1:Int):Option (Int):=(if(decide ((w64 (x1 - (x0.length:Int)))<0))=true then some (-1) else((iter (z7p fu x0) fu (w64 (x1 - (x0.length:Int)),0)).bind fun o=>aft o (zce fu)))

theorem laws_szParcelS_ok (hE:Ext W w){Y:Option Addr}{i0:Nat}{x0:LE}{x1:Int}(p0:zoP.ro W [sl Y x0 i0] x0){fu:Nat}{r:Int}(hm:z7N fu x0 x1=some r):
  CL 111 ⟨[sl Y x0 i0,iv x1]⟩ w (RI w r):=by
 refine into Tryz.func111 27 _ ?_;unfold z7N at hm;have hS:=St.start w;refine sg<|rm 1 ?_;refine sg<|rm 5 ?_;refine sq<|sg<|rm 2 ?_;refine ci hm (fun hm=>?_) (fun hm=>?_)
 ·refine sg<|rm 1 ?_;refine rt ?_;cases hm;exact⟨_,tR rfl,rfl,hS⟩
 ·refine sp<|sq<|sg<|rm 1 ?_;obtain⟨q0,c0,hm⟩:=bS hm;refine ct (fun(t2:Int) F w9=>q0=.inl t2∧Ext w w9∧St w w9 []∧F=[(1,iv t2)]) ?_ ?_
  ·rintro t2 F w7 ⟨e0,y0,a0,rfl⟩;subst e0;rw[z8] at hm;unfold zce at hm;refine sg<|rm 2 ?_;refine rt ?_;cases hm;exact⟨_,tR rfl,rfl,a0⟩
  ·refine bk<|wk [0,1,5] ?_;refine it (fun(s1:Int×Int) F w9=>Ext w w9∧St w w9 []∧F=[(0,sl Y x0 i0),(1,iv s1.1),(5,iv s1.2)]) c0 ⟨(Ext.refl _),hS,rfl⟩ ?_;rintro s1 F G0 _ C0 ⟨j0,q,rfl⟩ o O;unfold z7p at o;refine sq<|sg<|rm 4 ?_;refine ci o (fun o=>?_) (fun o=>?_)
   ·refine sp<|sq<|bk<|sg<|rr 2 ?_;obtain⟨J0,f0,o⟩:=bS o;refine ix (hE.trans q.ext) p0 f0 (fun D0 o0 b0 X=>?_);obtain⟨r0,A0,t0,B0,k0,u0,v0⟩:=zeL X;subst k0;refine lN (ax hE q b0) ?_;refine rr 1 ?_;obtain⟨E0,g0,o⟩:=bS o;refine ca ztS (laws_szParcel_ok (hE.trans q.ext) X g0) (fun F0 H0 Z=>?_);obtain⟨rfl,G⟩:=Z;have H:=q.join G;refine rm 1 ?_;refine sg<|rm 2 ?_;refine ci o (fun o=>?_) (fun o=>?_)
    ·refine sg<|rm 1 ?_;refine rt ?_;cases o;cases O;have hm:some _=some _:=hm;cases hm;exact⟨_,tR rfl,rfl,H⟩
    ·refine sp<|rg<|rm 3 ?_;cases o;exact⟨_,_,rfl,⟨(j0.trans G.ext),H,rfl⟩,rfl⟩
   ·refine xt ?_;cases o;exact⟨_,_,⟨O,j0,q,rfl⟩,rfl⟩

theorem zwo:EN 50:=en Tryz.func50
def zbC (fu:Nat)(t2:Int):Option Int:=some t2
def z6n (fu:Nat)(x0:(List LE))(s1:Int×Int):Option (Rd (Int×Int) (Int) (Int)):=(if(decide (s1.2<(x0.length:Int)))=true then((idx x0 s1.2).bind fun q=>((z7N fu q s1.1).bind fun o=>(if(decide (o<0))=true then some (.ret (-1)) else some (.next (o,w64 (s1.2+1)))))) else some (.brk s1.1))
def z6U (fu:Nat)(x0:(List LE))(x1:Int):Option (Int):=(if(decide ((w64 (x1 - (x0.length:Int)))<0))=true then some (-1) else((iter (z6n fu x0) fu (w64 (x1 - (x0.length:Int)),0)).bind fun o=>aft o (zbC fu)))

theorem laws_szParcelSS_ok (hE:Ext W w){Y:Option Addr}{i0:Nat}{x0:(List LE)}{x1:Int}(p0:ty43.ro W [sl Y x0 i0] x0){fu:Nat}{r:Int}(hm:z6U fu x0 x1=some r):
  CL 50 ⟨[sl Y x0 i0,iv x1]⟩ w (RI w r):=by
 refine into Tryz.func50 27 _ ?_;unfold z6U at hm;have hS:=St.start w;refine sg<|rm 1 ?_;refine sg<|rm 5 ?_;refine sq<|sg<|rm 2 ?_;refine ci hm (fun hm=>?_) (fun hm=>?_)
 ·refine sg<|rm 1 ?_;refine rt ?_;cases hm;exact⟨_,tR rfl,rfl,hS⟩
 ·refine sp<|sq<|sg<|rm 1 ?_;obtain⟨q0,c0,hm⟩:=bS hm;refine ct (fun(t2:Int) F w9=>q0=.inl t2∧Ext w w9∧St w w9 []∧F=[(1,iv t2)]) ?_ ?_
  ·rintro t2 F w7 ⟨e0,t0,a0,rfl⟩;subst e0;rw[z8] at hm;unfold zbC at hm;refine sg<|rm 2 ?_;refine rt ?_;cases hm;exact⟨_,tR rfl,rfl,a0⟩
  ·refine bk<|wk [0,1,5] ?_;refine it (fun(s1:Int×Int) F w9=>Ext w w9∧St w w9 []∧F=[(0,sl Y x0 i0),(1,iv s1.1),(5,iv s1.2)]) c0 ⟨(Ext.refl _),hS,rfl⟩ ?_;rintro s1 F C0 _ v0 ⟨j0,q,rfl⟩ o O;unfold z6n at o;refine sq<|sg<|rm 4 ?_;refine ci o (fun o=>?_) (fun o=>?_)
   ·refine sp<|sq<|bk<|sg<|rr 2 ?_;obtain⟨E0,f0,o⟩:=bS o;refine ix (hE.trans q.ext) p0 f0 (fun y0 o0 b0 X=>?_);obtain⟨r0,u0,k0⟩:=zkj X;subst k0;refine l1 (ax hE q b0) 0 ?_;refine rr 1 ?_;obtain⟨A0,g0,o⟩:=bS o;refine ca zup (laws_szParcelS_ok (hE.trans q.ext) X g0) (fun B0 D0 Z=>?_);obtain⟨rfl,G⟩:=Z;have H:=q.join G;refine rm 1 ?_;refine sg<|rm 2 ?_;refine ci o (fun o=>?_) (fun o=>?_)
    ·refine sg<|rm 1 ?_;refine rt ?_;cases o;cases O;have hm:some _=some _:=hm;cases hm;exact⟨_,tR rfl,rfl,H⟩
    ·refine sp<|rg<|rm 3 ?_;cases o;exact⟨_,_,rfl,⟨(j0.trans G.ext),H,rfl⟩,rfl⟩
   ·refine xt ?_;cases o;exact⟨_,_,⟨O,j0,q,rfl⟩,rfl⟩

theorem zwn:EN 51:=en Tryz.func51
def zcf (fu:Nat)(t2:Int):Option Int:=some t2
def z7q (fu:Nat)(x0:LO)(s1:Int×Int):Option (Rd (Int×Int) (Int) (Int)):=(if(decide (s1.2<(x0.length:Int)))=true then((idx x0 s1.2).bind fun q=>((z3y fu q s1.1).bind fun o=>(if(decide (o<0))=true then some (.ret (-1)) else some (.next (o,w64 (s1.2+1)))))) else some (.brk s1.1))
def z7O (fu:Nat)(x0:LO)(x1:Int):Option (Int):=(if(decide ((w64 (x1 - (x0.length:Int)))<0))=true then some (-1) else((iter (z7q fu x0) fu (w64 (x1 - (x0.length:Int)),0)).bind fun o=>aft o (zcf fu)))

theorem laws_szInt64SS_ok (hE:Ext W w){Y:Option Addr}{i0:Nat}{x0:LO}{x1:Int}(p0:ty44.ro W [sl Y x0 i0] x0){fu:Nat}{r:Int}(hm:z7O fu x0 x1=some r):
  CL 51 ⟨[sl Y x0 i0,iv x1]⟩ w (RI w r):=by
 refine into Tryz.func51 27 _ ?_;unfold z7O at hm;have hS:=St.start w;refine sg<|rm 1 ?_;refine sg<|rm 5 ?_;refine sq<|sg<|rm 2 ?_;refine ci hm (fun hm=>?_) (fun hm=>?_)
 ·refine sg<|rm 1 ?_;refine rt ?_;cases hm;exact⟨_,tR rfl,rfl,hS⟩
 ·refine sp<|sq<|sg<|rm 1 ?_;obtain⟨q0,c0,hm⟩:=bS hm;refine ct (fun(t2:Int) F w9=>q0=.inl t2∧Ext w w9∧St w w9 []∧F=[(1,iv t2)]) ?_ ?_
  ·rintro t2 F w7 ⟨e0,t0,a0,rfl⟩;subst e0;rw[z8] at hm;unfold zcf at hm;refine sg<|rm 2 ?_;refine rt ?_;cases hm;exact⟨_,tR rfl,rfl,a0⟩
  ·refine bk<|wk [0,1,5] ?_;refine it (fun(s1:Int×Int) F w9=>Ext w w9∧St w w9 []∧F=[(0,sl Y x0 i0),(1,iv s1.1),(5,iv s1.2)]) c0 ⟨(Ext.refl _),hS,rfl⟩ ?_;rintro s1 F C0 _ v0 ⟨j0,q,rfl⟩ o O;unfold z7q at o;refine sq<|sg<|rm 4 ?_;refine ci o (fun o=>?_) (fun o=>?_)
   ·refine sp<|sq<|bk<|sg<|rr 2 ?_;obtain⟨E0,f0,o⟩:=bS o;refine ix (hE.trans q.ext) p0 f0 (fun y0 o0 b0 X=>?_);obtain⟨r0,u0,k0⟩:=zL X;subst k0;refine l1 (ax hE q b0) 0 ?_;refine rr 1 ?_;obtain⟨A0,g0,o⟩:=bS o;refine ca zi3 (laws_szInt64S_ok (hE.trans q.ext) X g0) (fun B0 D0 Z=>?_);obtain⟨rfl,G⟩:=Z;have H:=q.join G;refine rm 1 ?_;refine sg<|rm 2 ?_;refine ci o (fun o=>?_) (fun o=>?_)
    ·refine sg<|rm 1 ?_;refine rt ?_;cases o;cases O;have hm:some _=some _:=hm;cases hm;exact⟨_,tR rfl,rfl,H⟩
    ·refine sp<|rg<|rm 3 ?_;cases o;exact⟨_,_,rfl,⟨(j0.trans G.ext),H,rfl⟩,rfl⟩
   ·refine xt ?_;cases o;exact⟨_,_,⟨O,j0,q,rfl⟩,rfl⟩

theorem zwE:EN 16:=en Tryz.func16
def z7P (fu:Nat)(x0:Qv)(x1:Int):Option (Int):=((zah fu x0.Qk x1).bind fun o=>(if(decide (o<0))=true then some (-1) else((z6U fu x0.Qd o).bind fun q=>(if(decide (q<0))=true then some (-1) else((z7O fu x0.QL q).bind fun G=>(if(decide (G<0))=true then some (-1) else((z3y fu x0.QY G).bind fun H=>(if(decide (H<0))=true then some (-1) else((z3y fu x0.Got H).bind fun O=>(if(decide (O<0))=true then some (-1) else some O))))))))))

theorem laws_szCluster_ok (hE:Ext W w){t0:List Value}{x0:Qv}{x1:Int}(v0:ty47.ro W t0 x0){fu:Nat}{r:Int}(hm:z7P fu x0 x1=some r):
  CL 16 ⟨[.agg ⟨t0⟩,iv x1]⟩ w (RI w r):=by
 obtain⟨A1,k2,A4,k5,A7,G0,C0,H0,D0,J0,u0,h3,h6,y0,A0,B0⟩:=zic v0;subst u0;refine into Tryz.func16 36 _ ?_;unfold z7P at hm;have hS:=St.start w;refine sg<|nw hS (fun F0 U0 E0 O=>?_);refine rm 1 ?_;refine sg<|rr 1 ?_;refine lN (At.sub ((O.b 0 rfl).box) 0 4) ?_;refine rr 1 ?_;obtain⟨K0,k0,hm⟩:=bS hm;refine ca zxs (laws_szGrid_ok (hE.trans O.ext) (zmV x0.Qk h3) k0) (fun P0 V0 Y=>?_);obtain⟨rfl,Z⟩:=Y;have o:=O.join Z;refine rm 1 ?_;refine sq<|sg<|rm 2 ?_;refine ci hm (fun hm=>?_) (fun hm=>?_)
 ·refine sg<|rm 1 ?_;refine rt ?_;cases hm;exact⟨_,tR rfl,rfl,(o.t 0)⟩
 ·refine sp<|sg<|rr 1 ?_;refine l1 ((o.b 0 rfl).box) 4 ?_;refine rr 1 ?_;obtain⟨L0,o0,hm⟩:=bS hm;refine ca zwo (laws_szParcelSS_ok (hE.trans o.ext) h6 o0) (fun Q0 X0 a0=>?_);obtain⟨rfl,b0⟩:=a0;have q:=o.join b0;refine rm 1 ?_;refine sq<|sg<|rm 2 ?_;refine ci hm (fun hm=>?_) (fun hm=>?_)
  ·refine sg<|rm 1 ?_;refine rt ?_;cases hm;exact⟨_,tR rfl,rfl,(q.t 0)⟩
  ·refine sp<|sg<|rr 1 ?_;refine l1 ((q.b 0 rfl).box) 5 ?_;refine rr 1 ?_;obtain⟨M0,p0,hm⟩:=bS hm;refine ca zwn (laws_szInt64SS_ok (hE.trans q.ext) y0 p0) (fun R0 Y0 c0=>?_);obtain⟨rfl,e0⟩:=c0;have G:=q.join e0;refine rm 1 ?_;refine sq<|sg<|rm 2 ?_;refine ci hm (fun hm=>?_) (fun hm=>?_)
   ·refine sg<|rm 1 ?_;refine rt ?_;cases hm;exact⟨_,tR rfl,rfl,(G.t 0)⟩
   ·refine sp<|sg<|rr 1 ?_;refine l1 ((G.b 0 rfl).box) 6 ?_;refine rr 1 ?_;obtain⟨N0,q0,hm⟩:=bS hm;refine ca zi3 (laws_szInt64S_ok (hE.trans G.ext) A0 q0) (fun S0 a1 f0=>?_);obtain⟨rfl,g0⟩:=f0;have H:=G.join g0;refine rm 1 ?_;refine sq<|sg<|rm 2 ?_;refine ci hm (fun hm=>?_) (fun hm=>?_)
    ·refine sg<|rm 1 ?_;refine rt ?_;cases hm;exact⟨_,tR rfl,rfl,(H.t 0)⟩
    ·refine sp<|sg<|rr 1 ?_;refine l1 ((H.b 0 rfl).box) 7 ?_;refine rr 1 ?_;obtain⟨O0,r0,hm⟩:=bS hm;refine ca zi3 (laws_szInt64S_ok (hE.trans H.ext) B0 r0) (fun T0 b1 i0=>?_);obtain⟨rfl,j0⟩:=i0;have X:=H.join j0;refine rm 1 ?_;refine sq<|sg<|rm 2 ?_;refine ci hm (fun hm=>?_) (fun hm=>?_)
     ·refine sg<|rm 1 ?_;refine rt ?_;cases hm;exact⟨_,tR rfl,rfl,(X.t 0)⟩
     ·refine sp<|sg<|rm 2 ?_;refine rt ?_;cases hm;exact⟨_,tR rfl,rfl,(X.t 0)⟩

theorem ztQ:EN 171:=en Tryz.func171
def z8F (fu:Nat)(x0:Qh):Option (Qh):=((z3S fu x0.Qz).bind fun o=>((z1t fu x0.A).bind fun q=>((z1t fu x0.B).bind fun G=>some (⟨x0.Qi,o,q,G⟩:Qh))))

theorem laws_toParcel_ok (hE:Ext W w){C0:List Value}{x0:Qh}(F0:zoN.ro W C0 x0){fu:Nat}{r:Qh}(hm:z8F fu x0=some r):
  CL 171 ⟨[.agg ⟨C0⟩]⟩ w (Ret fun v w8=>∃ A0 k0 A1 k1,v=.agg ⟨[iv r.Qi,iv r.Qz.Qi,iv r.Qz.QC,iv r.Qz.Value,sl A0 r.Qz.Data k0,sl A1 r.Qz.QM k1,iv r.A.Qj,iv r.A.Qi,iv r.A.Qo,iv r.B.Qj,iv r.B.Qi,iv r.B.Qo]⟩∧St w w8 [ow ty45 A0 r.Qz.Data k0,ow ty82 A1 r.Qz.QM k1]):=by
 obtain⟨A1,k2,A4,k5,e7,h3,h6⟩:=zeL F0;subst e7;refine into Tryz.func171 20 _ ?_;unfold z8F at hm;have hS:=St.start w;refine sg<|nw hS (fun M0 V0 J0 f0=>?_);refine nw f0 (fun N0 X0 K0 g0=>?_);refine rn<|sg<|nw g0 (fun O0 Y0 L0 H=>?_);refine rn<|sg<|rr 1 ?_;refine l1 ((H.b 2 rfl).box) 0 ?_;refine rr 1 ?_;have i0:=H.b 0 rfl;refine so (A:=[]) i0 0 (fun a1 o=>?_);refine rn<|sg<|rr 1 ?_;refine lN (At.sub ((o.b 2 rfl).box) 1 5) ?_;obtain⟨P0,v0,hm⟩:=bS hm;refine ca zo0 (laws_toShardCell_ok (hE.trans o.ext) (zkh x0.Qz h3 h6) v0) (fun S0 b1 Y=>?_);obtain⟨D0,G0,E0,H0,rfl,Z⟩:=Y;have j0:=o.join Z;refine rr 1 ?_;have o0:=j0.b 2 rfl;refine so (A:=[]) o0 1 (fun d1 q=>?_);refine rn<|sg<|rr 1 ?_;refine lN (At.sub ((q.b 4 rfl).box) 6 3) ?_;obtain⟨Q0,y0,hm⟩:=bS hm;refine ca zdQ (laws_toAddress_ok (hE.trans q.ext) (zbV x0.A) y0) (fun T0 e1 a0=>?_);obtain⟨rfl,b0⟩:=a0;have p0:=q.join b0;refine rr 1 ?_;have q0:=p0.b 0 rfl;refine so (A:=[]) q0 6 (fun f1 G=>?_);refine rn<|sg<|rr 1 ?_;refine lN (At.sub ((G.b 4 rfl).box) 9 3) ?_;obtain⟨R0,B0,hm⟩:=bS hm;refine ca zdQ (laws_toAddress_ok (hE.trans G.ext) (zbV x0.B) B0) (fun U0 g1 c0=>?_);obtain⟨rfl,e0⟩:=c0;have r0:=G.join e0;refine rr 1 ?_;have t0:=r0.b 0 rfl;refine so (A:=[]) t0 9 (fun i1 O=>?_);refine rn<|sg<|lN ((O.b 0 rfl).box) ?_;have u0:=O.b 3 rfl;refine so (A:=[]) u0 0 (fun j1 X=>?_);refine rn<|rt ?_;cases hm;exact⟨_,.cons (ra ((X.b 0 rfl).box)) .nil,D0,G0,E0,H0,rfl,(((X.b 3 rfl).b 3 rfl).t 2)⟩

theorem zun:EN 114:=en Tryz.func114
def zcc (fu:Nat)(o:LE):Option LE:=some o
def z7n (fu:Nat)(x0:LE)(o:Int×LE):Option (Rd (Int×LE) LE LE):=(if(decide (o.1<(x0.length:Int)))=true then((idx x0 o.1).bind fun G=>((z8F fu G).bind fun q=>(if decide (0≤o.1∧o.1.toNat<o.2.length)=true then some (.next (w64 (o.1+1),(o.2.set o.1.toNat q))) else none))) else some (.brk o.2))
def z7L (fu:Nat)(x0:LE):Option LE:=(if decide (0≤(x0.length:Int)∧(x0.length:Int)≤4294967296)=true then((iter (z7n fu x0) fu (0,(List.replicate (x0.length:Int).toNat (⟨(0:Int),(⟨(0:Int),(0:Int),(0:Int),([]:L9),([]:LD)⟩:Qa),(⟨(0:Int),(0:Int),(0:Int)⟩:Qb),(⟨(0:Int),(0:Int),(0:Int)⟩:Qb)⟩:Qh)))).bind fun o=>aft o (zcc fu)) else none)

theorem laws_toParcelS_ok (hE:Ext W w){Y:Option Addr}{y0:Nat}{x0:LE}(F0:zoP.ro W [sl Y x0 y0] x0){fu:Nat}{r:LE}(hm:z7L fu x0=some r):
  CL 114 ⟨[sl Y x0 y0]⟩ w (Ret fun v w8=>∃ A0 k0,v=sl A0 r k0∧St w w8 [ow zdB A0 r k0]):=by
 refine into Tryz.func114 23 _ ?_;unfold z7L at hm;have hS:=St.start w;refine sg<|rm 1 ?_;refine sg<|rr 2 ?_;obtain⟨H0,hm⟩:=iS hm;have j1:=of_decide_eq_true H0;refine mS (U:=zdA) (⟨(0:Int),(⟨(0:Int),(0:Int),(0:Int),([]:L9),([]:LD)⟩:Qa),(⟨(0:Int),(0:Int),(0:Int)⟩:Qb),(⟨(0:Int),(0:Int),(0:Int)⟩:Qb)⟩:Qh) hS j1 (fun _=>(zki (c:=(⟨(0:Int),(⟨(0:Int),(0:Int),(0:Int),([]:L9),([]:LD)⟩:Qa),(⟨(0:Int),(0:Int),(0:Int)⟩:Qb),(⟨(0:Int),(0:Int),(0:Int)⟩:Qb)⟩:Qh)) ⟨[],[],rfl,(z9s z2z 2 _),⟨[],[],rfl,(z9s ty34 34 _),rfl⟩⟩)) (fun A2 k3 w4 e5 G0=>?_);refine rm 1 ?_;refine sq<|sg<|rm 1 ?_;obtain⟨J0,q0,hm⟩:=bS hm;refine ct (fun(C0:LE) F w9=>J0=.inl C0∧St w w9 [Own zdB [.slice A2 (List.replicate (x0.length:Int).toNat (⟨(0:Int),(⟨(0:Int),(0:Int),(0:Int),([]:L9),([]:LD)⟩:Qa),(⟨(0:Int),(0:Int),(0:Int)⟩:Qb),(⟨(0:Int),(0:Int),(0:Int)⟩:Qb)⟩:Qh)).length k3] C0]∧F=[(3,.slice A2 (List.replicate (x0.length:Int).toNat (⟨(0:Int),(⟨(0:Int),(0:Int),(0:Int),([]:L9),([]:LD)⟩:Qa),(⟨(0:Int),(0:Int),(0:Int)⟩:Qb),(⟨(0:Int),(0:Int),(0:Int)⟩:Qb)⟩:Qh)).length k3)]) ?_ ?_
 ·rintro C0 F a1 ⟨r0,H,rfl⟩;subst r0;rw[z8] at hm;unfold zcc at hm;refine sg<|rm 2 ?_;refine rt ?_;cases hm;have g1:=(H.b 0 rfl).lenEq;have b0:=(H.b 0 rfl).reLen g1;exact⟨_,tR rfl,A2,k3,(by first | (simp only[sl,g1];done) | (simp only[sl,g1];rfl)),b0⟩
 ·refine bk<|wk [0,3,4] ?_;refine it (fun(B0:Int×LE) F w9=>St w w9 [Own zdB [.slice A2 (List.replicate (x0.length:Int).toNat (⟨(0:Int),(⟨(0:Int),(0:Int),(0:Int),([]:L9),([]:LD)⟩:Qa),(⟨(0:Int),(0:Int),(0:Int)⟩:Qb),(⟨(0:Int),(0:Int),(0:Int)⟩:Qb)⟩:Qh)).length k3] B0.2]∧F=[(0,sl Y x0 y0),(3,.slice A2 (List.replicate (x0.length:Int).toNat (⟨(0:Int),(⟨(0:Int),(0:Int),(0:Int),([]:L9),([]:LD)⟩:Qa),(⟨(0:Int),(0:Int),(0:Int)⟩:Qb),(⟨(0:Int),(0:Int),(0:Int)⟩:Qb)⟩:Qh)).length k3),(4,iv B0.1)]) q0 ⟨G0,rfl⟩ ?_;rintro B0 F b1 _ V0 ⟨q,rfl⟩ o t0;unfold z7n at o;refine sq<|sg<|rm 4 ?_;refine ci o (fun o=>?_) (fun o=>?_)
  ·refine sp<|sq<|bk<|rg<|rr 4 ?_;obtain⟨f1,u0,o⟩:=bS o;refine ix (hE.trans q.ext) F0 u0 (fun X0 E0 o0 X=>?_);obtain⟨L0,R0,M0,S0,D0,P0,Q0⟩:=zeL X;subst D0;refine lN (ax hE q o0) ?_;obtain⟨K0,v0,o⟩:=bS o;refine ca ztQ (laws_toParcel_ok (hE.trans q.ext) X v0) (fun Y0 d1 Z=>?_);obtain⟨N0,T0,O0,U0,rfl,a0⟩:=Z;have c0:=q.join a0;have O:=c0.b 2 rfl;obtain⟨p0,o⟩:=iS o;have G:=of_decide_eq_true p0;refine io O G.1 G.2 (fun m1 i1=>?_);have e0:=O.b 2 rfl;have f0:=e0.b 2 rfl;have g0:=zig (c:=K0) (B:=_) f0;have i0:=g0.b 1 rfl;refine se i0 G.2 i1 (fun e1 j0=>?_);refine rn<|rg<|rm 3 ?_;cases o;exact⟨_,_,rfl,⟨j0,rfl⟩,rfl⟩
  ·refine xt ?_;cases o;exact⟨_,_,⟨t0,q,rfl⟩,rfl⟩

theorem zwj:EN 55:=en Tryz.func55
def zbA (fu:Nat)(o:(List LE)):Option (List LE):=some o
def z6k (fu:Nat)(x0:(List LE))(o:Int×(List LE)):Option (Rd (Int×(List LE)) ((List LE)) ((List LE))):=(if(decide (o.1<(x0.length:Int)))=true then((idx x0 o.1).bind fun G=>((z7L fu G).bind fun q=>(if decide (0≤o.1∧o.1.toNat<o.2.length)=true then some (.next (w64 (o.1+1),(o.2.set o.1.toNat q))) else none))) else some (.brk o.2))
def z6S (fu:Nat)(x0:(List LE)):Option ((List LE)):=(if decide (0≤(x0.length:Int)∧(x0.length:Int)≤4294967296)=true then((iter (z6k fu x0) fu (0,(List.replicate (x0.length:Int).toNat ([]:LE)))).bind fun o=>aft o (zbA fu)) else none)

theorem laws_toParcelSS_ok (hE:Ext W w){Y:Option Addr}{u0:Nat}{x0:(List LE)}(D0:ty43.ro W [sl Y x0 u0] x0){fu:Nat}{r:(List LE)}(hm:z6S fu x0=some r):
  CL 55 ⟨[sl Y x0 u0]⟩ w (Ret fun v w8=>∃ A0 k0,v=sl A0 r k0∧St w w8 [ow ty50 A0 r k0]):=by
 refine into Tryz.func55 23 _ ?_;unfold z6S at hm;have hS:=St.start w;refine sg<|rm 1 ?_;refine sg<|rr 2 ?_;obtain⟨F0,hm⟩:=iS hm;have Y0:=of_decide_eq_true F0;refine mS (U:=zdB) ([]:LE) hS Y0 (fun _=>(z9s zdA 189 _)) (fun A2 k3 w4 e5 E0=>?_);refine rm 1 ?_;refine sq<|sg<|rm 1 ?_;obtain⟨G0,o0,hm⟩:=bS hm;refine ct (fun(y0:(List LE)) F w9=>G0=.inl y0∧St w w9 [Own ty50 [sl A2 (List.replicate (x0.length:Int).toNat ([]:LE)) k3] y0]∧F=[(3,sl A2 (List.replicate (x0.length:Int).toNat ([]:LE)) k3)]) ?_ ?_
 ·rintro y0 F Q0 ⟨p0,H,rfl⟩;subst p0;rw[z8] at hm;unfold zbA at hm;refine sg<|rm 2 ?_;refine rt ?_;cases hm;have V0:=(H.b 0 rfl).lenEq;have b0:=(H.b 0 rfl).reLen V0;exact⟨_,tR rfl,A2,k3,(by first | (simp only[sl,V0];done) | (simp only[sl,V0];rfl)),b0⟩
 ·refine bk<|wk [0,3,4] ?_;refine it (fun(v0:Int×(List LE)) F w9=>St w w9 [Own ty50 [sl A2 (List.replicate (x0.length:Int).toNat ([]:LE)) k3] v0.2]∧F=[(0,sl Y x0 u0),(3,sl A2 (List.replicate (x0.length:Int).toNat ([]:LE)) k3),(4,iv v0.1)]) o0 ⟨E0,rfl⟩ ?_;rintro v0 F R0 _ M0 ⟨q,rfl⟩ o q0;unfold z6k at o;refine sq<|sg<|rm 4 ?_;refine ci o (fun o=>?_) (fun o=>?_)
  ·refine sp<|sq<|bk<|rg<|rr 4 ?_;obtain⟨U0,r0,o⟩:=bS o;refine ix (hE.trans q.ext) D0 r0 (fun N0 C0 i0 X=>?_);obtain⟨H0,K0,B0⟩:=zkj X;subst B0;refine l1 (ax hE q i0) 0 ?_;obtain⟨O0,t0,o⟩:=bS o;refine ca zun (laws_toParcelS_ok (hE.trans q.ext) X t0) (fun P0 S0 Z=>?_);obtain⟨J0,L0,rfl,a0⟩:=Z;have c0:=q.join a0;have O:=c0.b 1 rfl;obtain⟨j0,o⟩:=iS o;have G:=of_decide_eq_true j0;refine io O G.1 G.2 (fun a1 X0=>?_);have e0:=O.b 1 rfl;have f0:=e0.b 1 rfl;refine se f0 G.2 X0 (fun T0 g0=>?_);refine rn<|rg<|rm 3 ?_;cases o;exact⟨_,_,rfl,⟨g0,rfl⟩,rfl⟩
  ·refine xt ?_;cases o;exact⟨_,_,⟨q0,q,rfl⟩,rfl⟩

theorem zwi:EN 56:=en Tryz.func56
def zcd (fu:Nat)(o:LO):Option LO:=some o
def z7o (fu:Nat)(x0:LO)(o:Int×LO):Option (Rd (Int×LO) LO LO):=(if(decide (o.1<(x0.length:Int)))=true then((idx x0 o.1).bind fun G=>((z3x fu G).bind fun q=>(if decide (0≤o.1∧o.1.toNat<o.2.length)=true then some (.next (w64 (o.1+1),(o.2.set o.1.toNat q))) else none))) else some (.brk o.2))
def z7M (fu:Nat)(x0:LO):Option LO:=(if decide (0≤(x0.length:Int)∧(x0.length:Int)≤4294967296)=true then((iter (z7o fu x0) fu (0,(List.replicate (x0.length:Int).toNat ([]:L9)))).bind fun o=>aft o (zcd fu)) else none)

theorem laws_toInt64SS_ok (hE:Ext W w){Y:Option Addr}{u0:Nat}{x0:LO}(D0:ty44.ro W [sl Y x0 u0] x0){fu:Nat}{r:LO}(hm:z7M fu x0=some r):
  CL 56 ⟨[sl Y x0 u0]⟩ w (Ret fun v w8=>∃ A0 k0,v=sl A0 r k0∧St w w8 [ow ty44 A0 r k0]):=by
 refine into Tryz.func56 23 _ ?_;unfold z7M at hm;have hS:=St.start w;refine sg<|rm 1 ?_;refine sg<|rr 2 ?_;obtain⟨F0,hm⟩:=iS hm;have Y0:=of_decide_eq_true F0;refine mS (U:=ty45) ([]:L9) hS Y0 (fun _=>(z9s z2z 2 _)) (fun A2 k3 w4 e5 E0=>?_);refine rm 1 ?_;refine sq<|sg<|rm 1 ?_;obtain⟨G0,o0,hm⟩:=bS hm;refine ct (fun(y0:LO) F w9=>G0=.inl y0∧St w w9 [Own ty44 [sl A2 (List.replicate (x0.length:Int).toNat ([]:L9)) k3] y0]∧F=[(3,sl A2 (List.replicate (x0.length:Int).toNat ([]:L9)) k3)]) ?_ ?_
 ·rintro y0 F Q0 ⟨p0,H,rfl⟩;subst p0;rw[z8] at hm;unfold zcd at hm;refine sg<|rm 2 ?_;refine rt ?_;cases hm;have V0:=(H.b 0 rfl).lenEq;have b0:=(H.b 0 rfl).reLen V0;exact⟨_,tR rfl,A2,k3,(by first | (simp only[sl,V0];done) | (simp only[sl,V0];rfl)),b0⟩
 ·refine bk<|wk [0,3,4] ?_;refine it (fun(v0:Int×LO) F w9=>St w w9 [Own ty44 [sl A2 (List.replicate (x0.length:Int).toNat ([]:L9)) k3] v0.2]∧F=[(0,sl Y x0 u0),(3,sl A2 (List.replicate (x0.length:Int).toNat ([]:L9)) k3),(4,iv v0.1)]) o0 ⟨E0,rfl⟩ ?_;rintro v0 F R0 _ M0 ⟨q,rfl⟩ o q0;unfold z7o at o;refine sq<|sg<|rm 4 ?_;refine ci o (fun o=>?_) (fun o=>?_)
  ·refine sp<|sq<|bk<|rg<|rr 4 ?_;obtain⟨U0,r0,o⟩:=bS o;refine ix (hE.trans q.ext) D0 r0 (fun N0 C0 i0 X=>?_);obtain⟨H0,K0,B0⟩:=zL X;subst B0;refine l1 (ax hE q i0) 0 ?_;obtain⟨O0,t0,o⟩:=bS o;refine ca zi4 (laws_toInt64S_ok (hE.trans q.ext) X t0) (fun P0 S0 Z=>?_);obtain⟨J0,L0,rfl,a0⟩:=Z;have c0:=q.join a0;have O:=c0.b 1 rfl;obtain⟨j0,o⟩:=iS o;have G:=of_decide_eq_true j0;refine io O G.1 G.2 (fun a1 X0=>?_);have e0:=O.b 1 rfl;have f0:=e0.b 1 rfl;refine se f0 G.2 X0 (fun T0 g0=>?_);refine rn<|rg<|rm 3 ?_;cases o;exact⟨_,_,rfl,⟨g0,rfl⟩,rfl⟩
  ·refine xt ?_;cases o;exact⟨_,_,⟨q0,q,rfl⟩,rfl⟩

theorem zi5:EN 18:=en Tryz.func18
def z2T (fu:Nat)(x0:Qv):Option (Qv):=((zag fu x0.Qk).bind fun o=>((z6S fu x0.Qd).bind fun q=>((z7M fu x0.QL).bind fun G=>((z3x fu x0.QY).bind fun H=>((z3x fu x0.Got).bind fun O=>some (⟨o,q,G,H,O⟩:Qv))))))

theorem laws_toCluster_ok (hE:Ext W w){N0:List Value}{x0:Qv}(U0:ty47.ro W N0 x0){fu:Nat}{r:Qv}(hm:z2T fu x0=some r):
  CL 18 ⟨[.agg ⟨N0⟩]⟩ w (Ret fun v w8=>∃ A0 k0 A1 k1 A2 k2 A3 k3 A4 k4,v=.agg ⟨[sl A0 r.Qk.Qf k0,iv r.Qk.QO.Qj,iv r.Qk.QO.Qi,iv r.Qk.QO.Qo,sl A1 r.Qd k1,sl A2 r.QL k2,sl A3 r.QY k3,sl A4 r.Got k4]⟩∧St w w8 [ow ty33 A0 r.Qk.Qf k0,ow ty50 A1 r.Qd k1,ow ty44 A2 r.QL k2,ow ty45 A3 r.QY k3,ow ty45 A4 r.Got k4]):=by
 obtain⟨A1,k2,A4,k5,A7,u1,g1,v1,i1,y1,T0,h3,h6,V0,X0,Y0⟩:=zic U0;subst T0;refine into Tryz.func18 25 _ ?_;unfold z2T at hm;have hS:=St.start w;refine sg<|nw hS (fun p1 M1 j1 p0=>?_);refine nw p0 (fun s1 N1 m1 q0=>?_);refine rn<|sg<|nw q0 (fun t1 O1 n1 o=>?_);refine rn<|sg<|rr 1 ?_;refine lN (At.sub ((o.b 2 rfl).box) 0 4) ?_;obtain⟨B1,H0,hm⟩:=bS hm;refine ca zxr (laws_toGrid_ok (hE.trans o.ext) (zmV x0.Qk h3) H0) (fun G1 P1 Z=>?_);obtain⟨O0,a1,rfl,a0⟩:=Z;have r0:=o.join a0;refine rr 1 ?_;have t0:=r0.b 1 rfl;refine so (A:=[]) t0 0 (fun Q1 q=>?_);refine rn<|sg<|rr 1 ?_;refine l1 ((q.b 3 rfl).box) 4 ?_;obtain⟨C1,J0,hm⟩:=bS hm;refine ca zwj (laws_toParcelSS_ok (hE.trans q.ext) h6 J0) (fun H1 R1 b0=>?_);obtain⟨P0,b1,rfl,c0⟩:=b0;have u0:=q.join c0;refine rr 1 ?_;have v0:=u0.b 1 rfl;refine so (A:=[]) v0 4 (fun S1 G=>?_);refine rn<|sg<|rr 1 ?_;refine l1 ((G.b 4 rfl).box) 5 ?_;obtain⟨D1,K0,hm⟩:=bS hm;refine ca zwi (laws_toInt64SS_ok (hE.trans G.ext) V0 K0) (fun J1 T1 e0=>?_);obtain⟨Q0,d1,rfl,f0⟩:=e0;have y0:=G.join f0;refine rr 1 ?_;have B0:=y0.b 1 rfl;refine so (A:=[]) B0 5 (fun U1 H=>?_);refine rn<|sg<|rr 1 ?_;refine l1 ((H.b 5 rfl).box) 6 ?_;obtain⟨E1,L0,hm⟩:=bS hm;refine ca zi4 (laws_toInt64S_ok (hE.trans H.ext) X0 L0) (fun K1 V1 g0=>?_);obtain⟨R0,e1,rfl,i0⟩:=g0;have C0:=H.join i0;refine rr 1 ?_;have D0:=C0.b 1 rfl;refine so (A:=[]) D0 6 (fun W1 O=>?_);refine rn<|sg<|rr 1 ?_;refine l1 ((O.b 6 rfl).box) 7 ?_;obtain⟨F1,M0,hm⟩:=bS hm;refine ca zi4 (laws_toInt64S_ok (hE.trans O.ext) Y0 M0) (fun L1 X1 j0=>?_);obtain⟨S0,f1,rfl,o0⟩:=j0;have E0:=O.join o0;refine rr 1 ?_;have F0:=E0.b 1 rfl;refine so (A:=[]) F0 7 (fun Y1 X=>?_);refine rn<|sg<|lN ((X.b 0 rfl).box) ?_;have G0:=X.b 6 rfl;refine so (A:=[]) G0 0 (fun a2 Y=>?_);refine rn<|rt ?_;cases hm;exact⟨_,.cons (ra ((Y.b 0 rfl).box)) .nil,O0,a1,P0,b1,Q0,d1,R0,e1,S0,f1,rfl,(Y.sel [6,5,4,3,2])⟩

theorem ztM:EN 178:=en Tryz.func178
def z8K (fu:Nat)(x0:Qh)(x1:Qh):Option (Bool):=(if(x0.Qi != x1.Qi)=true then some false else((z3V fu x0.Qz x1.Qz).bind fun o=>(if(!o)=true then some false else((z1u fu x0.A x1.A).bind fun q=>(if(!q)=true then some false else((z1u fu x0.B x1.B).bind fun G=>(if(!G)=true then some false else some true)))))))

theorem laws_eqParcel_ok (hE:Ext W w){i0:List Value}{x0:Qh}{j0:List Value}{x1:Qh}(o0:zdA.ro W i0 x0)(r0:zdA.ro W j0 x1){fu:Nat}{r:Bool}(hm:z8K fu x0 x1=some r):
  CL 178 ⟨[.agg ⟨i0⟩,.agg ⟨j0⟩]⟩ w (RB w r):=by
 obtain⟨A1,k2,A4,k5,e7,h3,h6⟩:=z3D o0;subst e7;obtain⟨t0,C0,u0,D0,k0,p0,q0⟩:=z3D r0;subst k0;refine into Tryz.func178 28 _ ?_;unfold z8K at hm;have hS:=St.start w;refine sg<|nw hS (fun A0 L0 v0 c0=>?_);refine nw c0 (fun B0 M0 y0 o=>?_);refine rm 1 ?_;refine sq<|sg<|rr 1 ?_;refine l1 ((o.b 1 rfl).box) 0 ?_;refine rr 1 ?_;refine l1 ((o.b 0 rfl).box) 0 ?_;refine rm 1 ?_;refine ci hm (fun hm=>?_) (fun hm=>?_)
 ·refine sg<|rm 1 ?_;refine rt ?_;cases hm;exact⟨_,tR rfl,rfl,(o.t 0)⟩
 ·refine sp<|sq<|sg<|rr 1 ?_;refine lN (At.sub ((o.b 1 rfl).box) 1 5) ?_;refine rr 1 ?_;refine lN (At.sub ((o.b 0 rfl).box) 1 5) ?_;obtain⟨E0,e0,hm⟩:=bS hm;refine ca znX (laws_eqShardCell_ok (hE.trans o.ext) (z6y x0.Qz h3 h6) (z6y x1.Qz p0 q0) e0) (fun H0 N0 O=>?_);obtain⟨rfl,X⟩:=O;have q:=o.join X;refine rm 1 ?_;refine ci hm (fun hm=>?_) (fun hm=>?_)
  ·refine sg<|rm 1 ?_;refine rt ?_;cases hm;exact⟨_,tR rfl,rfl,(q.t 0)⟩
  ·refine sp<|sq<|sg<|rr 1 ?_;refine lN (At.sub ((q.b 1 rfl).box) 6 3) ?_;refine rr 1 ?_;refine lN (At.sub ((q.b 0 rfl).box) 6 3) ?_;obtain⟨F0,f0,hm⟩:=bS hm;refine ca zdP (laws_eqAddress_ok (hE.trans q.ext) (zM x0.A) (zM x1.A) f0) (fun J0 O0 Y=>?_);obtain⟨rfl,Z⟩:=Y;have G:=q.join Z;refine rm 1 ?_;refine ci hm (fun hm=>?_) (fun hm=>?_)
   ·refine sg<|rm 1 ?_;refine rt ?_;cases hm;exact⟨_,tR rfl,rfl,(G.t 0)⟩
   ·refine sp<|sq<|sg<|rr 1 ?_;refine lN (At.sub ((G.b 1 rfl).box) 9 3) ?_;refine rr 1 ?_;refine lN (At.sub ((G.b 0 rfl).box) 9 3) ?_;obtain⟨G0,g0,hm⟩:=bS hm;refine ca zdP (laws_eqAddress_ok (hE.trans G.ext) (zM x0.B) (zM x1.B) g0) (fun K0 P0 a0=>?_);obtain⟨rfl,b0⟩:=a0;have H:=G.join b0;refine rm 1 ?_;refine ci hm (fun hm=>?_) (fun hm=>?_)
    ·refine sg<|rm 1 ?_;refine rt ?_;cases hm;exact⟨_,tR rfl,rfl,(H.t 0)⟩
    ·refine sp<|sg<|rm 1 ?_;refine rt ?_;cases hm;exact⟨_,tR rfl,rfl,(H.t 0)⟩

theorem zug:EN 123:=en Tryz.func123
def zci (fu:Nat)(t2:Unit):Option Bool:=some true
def z7s (fu:Nat)(x0:LE)(x1:LE)(s1:Int):Option (Rd (Int) (Unit) (Bool)):=(if(decide (s1<(x0.length:Int)))=true then((idx x0 s1).bind fun q=>((idx x1 s1).bind fun G=>((z8K fu q G).bind fun o=>(if(!o)=true then some (.ret false) else some (.next (w64 (s1+1))))))) else some (.brk ()))
def z7S (fu:Nat)(x0:LE)(x1:LE):Option (Bool):=(if((x0.length:Int) != (x1.length:Int))=true then some false else((iter (z7s fu x0 x1) fu 0).bind fun o=>aft o (zci fu)))

theorem laws_eqParcelS_ok (hE:Ext W w){b0:Option Addr}{r0:Nat}{x0:LE}{c0:Option Addr}{t0:Nat}{x1:LE}(C0:zdB.ro W [sl b0 x0 r0] x0)(D0:zdB.ro W [sl c0 x1 t0] x1){fu:Nat}{r:Bool}(hm:z7S fu x0 x1=some r):
  CL 123 ⟨[sl b0 x0 r0,sl c0 x1 t0]⟩ w (RB w r):=by
 refine into Tryz.func123 27 _ ?_;unfold z7S at hm;have hS:=St.start w;refine sg<|rm 1 ?_;refine sq<|sg<|rm 5 ?_;refine ci hm (fun hm=>?_) (fun hm=>?_)
 ·refine sg<|rm 1 ?_;refine rt ?_;cases hm;exact⟨_,tR rfl,rfl,hS⟩
 ·refine sp<|sq<|sg<|rm 1 ?_;obtain⟨E0,j0,hm⟩:=bS hm;refine ct (fun(t2:Unit) F w9=>E0=.inl t2∧Ext w w9∧St w w9 []∧F=[]) ?_ ?_
  ·rintro t2 F w7 ⟨k0,O0,f0,rfl⟩;subst k0;rw[z8] at hm;unfold zci at hm;refine sg<|rm 1 ?_;refine rt ?_;cases hm;exact⟨_,tR rfl,rfl,f0⟩
  ·refine bk<|wk [0,1,5] ?_;refine it (fun(s1:Int) F w9=>Ext w w9∧St w w9 []∧F=[(0,sl b0 x0 r0),(1,sl c0 x1 t0),(5,iv s1)]) j0 ⟨(Ext.refl _),hS,rfl⟩ ?_;rintro s1 F a1 _ T0 ⟨u0,G,rfl⟩ o Y;unfold z7s at o;refine sq<|sg<|rm 4 ?_;refine ci o (fun o=>?_) (fun o=>?_)
   ·refine sp<|sq<|bk<|sq<|dn 0 mixed 10 [([],1023),([],1023),([0,1],1020),([2],1019),([],1023),([],1023),([4,5],975),([6],959),([3,7],887),([8],767)] G.ext (fun q=>?_);have O:=G.step (Ext.draw _);refine dr 6 q [0,1,4,5] ?_;obtain⟨d1,o0,o⟩:=bS o;refine dx (hE.trans G.ext) q 2 C0 o0 (fun U0 A0 g0 Z=>?_);obtain⟨F0,P0,G0,Q0,v0,K0,L0⟩:=z3D Z;subst v0;refine dL q 3 (ax hE G g0) ?_;obtain⟨e1,p0,o⟩:=bS o;refine dx (hE.trans G.ext) q 6 D0 p0 (fun V0 B0 i0 a0=>?_);obtain⟨H0,R0,J0,S0,y0,M0,N0⟩:=z3D a0;subst y0;refine dL q 7 (ax hE G i0) ?_;obtain⟨X0,q0,o⟩:=bS o;refine o1 q 8 (mc q ztM (laws_eqParcel_ok (hE.trans O.ext) Z a0 q0) (fun Y0 b1 e0=>?_));obtain⟨rfl,H⟩:=e0;refine⟨H.ext,?_⟩;have X:=O.join H;refine dr 0 q [9] ?_;refine dw [0,1,5,26] ?_;refine dd q ?_;refine ci o (fun o=>?_) (fun o=>?_)
    ·refine sg<|rm 1 ?_;refine rt ?_;cases o;cases Y;have hm:some _=some _:=hm;cases hm;exact⟨_,tR rfl,rfl,X⟩
    ·refine sp<|rg<|rm 3 ?_;cases o;exact⟨_,_,rfl,⟨((u0.trans (Ext.draw _)).trans H.ext),X,rfl⟩,rfl⟩
   ·refine xt ?_;cases o;exact⟨_,_,⟨Y,u0,G,rfl⟩,rfl⟩

theorem zwf:EN 59:=en Tryz.func59
def zbJ (fu:Nat)(t2:Unit):Option Bool:=some true
def z6r (fu:Nat)(x0:(List LE))(x1:(List LE))(s1:Int):Option (Rd (Int) (Unit) (Bool)):=(if(decide (s1<(x0.length:Int)))=true then((idx x0 s1).bind fun q=>((idx x1 s1).bind fun G=>((z7S fu q G).bind fun o=>(if(!o)=true then some (.ret false) else some (.next (w64 (s1+1))))))) else some (.brk ()))
def z72 (fu:Nat)(x0:(List LE))(x1:(List LE)):Option (Bool):=(if((x0.length:Int) != (x1.length:Int))=true then some false else((iter (z6r fu x0 x1) fu 0).bind fun o=>aft o (zbJ fu)))

theorem laws_eqParcelSS_ok (hE:Ext W w){b0:Option Addr}{r0:Nat}{x0:(List LE)}{c0:Option Addr}{t0:Nat}{x1:(List LE)}(C0:ty50.ro W [sl b0 x0 r0] x0)(D0:ty50.ro W [sl c0 x1 t0] x1){fu:Nat}{r:Bool}(hm:z72 fu x0 x1=some r):
  CL 59 ⟨[sl b0 x0 r0,sl c0 x1 t0]⟩ w (RB w r):=by
 refine into Tryz.func59 27 _ ?_;unfold z72 at hm;have hS:=St.start w;refine sg<|rm 1 ?_;refine sq<|sg<|rm 5 ?_;refine ci hm (fun hm=>?_) (fun hm=>?_)
 ·refine sg<|rm 1 ?_;refine rt ?_;cases hm;exact⟨_,tR rfl,rfl,hS⟩
 ·refine sp<|sq<|sg<|rm 1 ?_;obtain⟨E0,j0,hm⟩:=bS hm;refine ct (fun(t2:Unit) F w9=>E0=.inl t2∧Ext w w9∧St w w9 []∧F=[]) ?_ ?_
  ·rintro t2 F w7 ⟨k0,H0,f0,rfl⟩;subst k0;rw[z8] at hm;unfold zbJ at hm;refine sg<|rm 1 ?_;refine rt ?_;cases hm;exact⟨_,tR rfl,rfl,f0⟩
  ·refine bk<|wk [0,1,5] ?_;refine it (fun(s1:Int) F w9=>Ext w w9∧St w w9 []∧F=[(0,sl b0 x0 r0),(1,sl c0 x1 t0),(5,iv s1)]) j0 ⟨(Ext.refl _),hS,rfl⟩ ?_;rintro s1 F Q0 _ L0 ⟨u0,G,rfl⟩ o Y;unfold z6r at o;refine sq<|sg<|rm 4 ?_;refine ci o (fun o=>?_) (fun o=>?_)
   ·refine sp<|sq<|bk<|sq<|dn 0 mixed 10 [([],1023),([],1023),([0,1],1020),([2],1019),([],1023),([],1023),([4,5],975),([6],959),([3,7],887),([8],767)] G.ext (fun q=>?_);have O:=G.step (Ext.draw _);refine dr 6 q [0,1,4,5] ?_;obtain⟨S0,o0,o⟩:=bS o;refine dx (hE.trans G.ext) q 2 C0 o0 (fun M0 A0 g0 Z=>?_);obtain⟨F0,J0,v0⟩:=z3E Z;subst v0;refine dl q 3 (ax hE G g0) 0 ?_;obtain⟨T0,p0,o⟩:=bS o;refine dx (hE.trans G.ext) q 6 D0 p0 (fun N0 B0 i0 a0=>?_);obtain⟨G0,K0,y0⟩:=z3E a0;subst y0;refine dl q 7 (ax hE G i0) 0 ?_;obtain⟨O0,q0,o⟩:=bS o;refine o1 q 8 (mc q zug (laws_eqParcelS_ok (hE.trans O.ext) Z a0 q0) (fun P0 R0 e0=>?_));obtain⟨rfl,H⟩:=e0;refine⟨H.ext,?_⟩;have X:=O.join H;refine dr 0 q [9] ?_;refine dw [0,1,5,26] ?_;refine dd q ?_;refine ci o (fun o=>?_) (fun o=>?_)
    ·refine sg<|rm 1 ?_;refine rt ?_;cases o;cases Y;have hm:some _=some _:=hm;cases hm;exact⟨_,tR rfl,rfl,X⟩
    ·refine sp<|rg<|rm 3 ?_;cases o;exact⟨_,_,rfl,⟨((u0.trans (Ext.draw _)).trans H.ext),X,rfl⟩,rfl⟩
   ·refine xt ?_;cases o;exact⟨_,_,⟨Y,u0,G,rfl⟩,rfl⟩

theorem zwe:EN 60:=en Tryz.func60
def zcj (fu:Nat)(t2:Unit):Option Bool:=some true
def z7t (fu:Nat)(x0:LO)(x1:LO)(s1:Int):Option (Rd (Int) (Unit) (Bool)):=(if(decide (s1<(x0.length:Int)))=true then((idx x0 s1).bind fun q=>((idx x1 s1).bind fun G=>((z2J fu q G).bind fun o=>(if(!o)=true then some (.ret false) else some (.next (w64 (s1+1))))))) else some (.brk ()))
def z7T (fu:Nat)(x0:LO)(x1:LO):Option (Bool):=(if((x0.length:Int) != (x1.length:Int))=true then some false else((iter (z7t fu x0 x1) fu 0).bind fun o=>aft o (zcj fu)))

theorem laws_eqInt64SS_ok (hE:Ext W w){b0:Option Addr}{r0:Nat}{x0:LO}{c0:Option Addr}{t0:Nat}{x1:LO}(C0:ty44.ro W [sl b0 x0 r0] x0)(D0:ty44.ro W [sl c0 x1 t0] x1){fu:Nat}{r:Bool}(hm:z7T fu x0 x1=some r):
  CL 60 ⟨[sl b0 x0 r0,sl c0 x1 t0]⟩ w (RB w r):=by
 refine into Tryz.func60 27 _ ?_;unfold z7T at hm;have hS:=St.start w;refine sg<|rm 1 ?_;refine sq<|sg<|rm 5 ?_;refine ci hm (fun hm=>?_) (fun hm=>?_)
 ·refine sg<|rm 1 ?_;refine rt ?_;cases hm;exact⟨_,tR rfl,rfl,hS⟩
 ·refine sp<|sq<|sg<|rm 1 ?_;obtain⟨E0,j0,hm⟩:=bS hm;refine ct (fun(t2:Unit) F w9=>E0=.inl t2∧Ext w w9∧St w w9 []∧F=[]) ?_ ?_
  ·rintro t2 F w7 ⟨k0,H0,f0,rfl⟩;subst k0;rw[z8] at hm;unfold zcj at hm;refine sg<|rm 1 ?_;refine rt ?_;cases hm;exact⟨_,tR rfl,rfl,f0⟩
  ·refine bk<|wk [0,1,5] ?_;refine it (fun(s1:Int) F w9=>Ext w w9∧St w w9 []∧F=[(0,sl b0 x0 r0),(1,sl c0 x1 t0),(5,iv s1)]) j0 ⟨(Ext.refl _),hS,rfl⟩ ?_;rintro s1 F Q0 _ L0 ⟨u0,G,rfl⟩ o Y;unfold z7t at o;refine sq<|sg<|rm 4 ?_;refine ci o (fun o=>?_) (fun o=>?_)
   ·refine sp<|sq<|bk<|sq<|dn 0 mixed 10 [([],1023),([],1023),([0,1],1020),([2],1019),([],1023),([],1023),([4,5],975),([6],959),([3,7],887),([8],767)] G.ext (fun q=>?_);have O:=G.step (Ext.draw _);refine dr 6 q [0,1,4,5] ?_;obtain⟨S0,o0,o⟩:=bS o;refine dx (hE.trans G.ext) q 2 C0 o0 (fun M0 A0 g0 Z=>?_);obtain⟨F0,J0,v0⟩:=zL Z;subst v0;refine dl q 3 (ax hE G g0) 0 ?_;obtain⟨T0,p0,o⟩:=bS o;refine dx (hE.trans G.ext) q 6 D0 p0 (fun N0 B0 i0 a0=>?_);obtain⟨G0,K0,y0⟩:=zL a0;subst y0;refine dl q 7 (ax hE G i0) 0 ?_;obtain⟨O0,q0,o⟩:=bS o;refine o1 q 8 (mc q zgk (laws_eqInt64S_ok (hE.trans O.ext) Z a0 q0) (fun P0 R0 e0=>?_));obtain⟨rfl,H⟩:=e0;refine⟨H.ext,?_⟩;have X:=O.join H;refine dr 0 q [9] ?_;refine dw [0,1,5,26] ?_;refine dd q ?_;refine ci o (fun o=>?_) (fun o=>?_)
    ·refine sg<|rm 1 ?_;refine rt ?_;cases o;cases Y;have hm:some _=some _:=hm;cases hm;exact⟨_,tR rfl,rfl,X⟩
    ·refine sp<|rg<|rm 3 ?_;cases o;exact⟨_,_,rfl,⟨((u0.trans (Ext.draw _)).trans H.ext),X,rfl⟩,rfl⟩
   ·refine xt ?_;cases o;exact⟨_,_,⟨Y,u0,G,rfl⟩,rfl⟩

theorem zwC:EN 20:=en Tryz.func20
def z7U (fu:Nat)(x0:Qv)(x1:Qv):Option (Bool):=((zan fu x0.Qk x1.Qk).bind fun o=>(if(!o)=true then some false else((z72 fu x0.Qd x1.Qd).bind fun q=>(if(!q)=true then some false else((z7T fu x0.QL x1.QL).bind fun G=>(if(!G)=true then some false else((z2J fu x0.QY x1.QY).bind fun H=>(if(!H)=true then some false else((z2J fu x0.Got x1.Got).bind fun O=>(if(!O)=true then some false else some true))))))))))

theorem laws_eqCluster_ok (hE:Ext W w){u0:List Value}{x0:Qv}{v0:List Value}{x1:Qv}(B0:ty52.ro W u0 x0)(F0:ty52.ro W v0 x1){fu:Nat}{r:Bool}(hm:z7U fu x0 x1=some r):
  CL 20 ⟨[.agg ⟨u0⟩,.agg ⟨v0⟩]⟩ w (RB w r):=by
 obtain⟨A1,k2,A4,k5,A7,Y0,M0,a1,N0,b1,y0,h3,h6,C0,D0,E0⟩:=z7A B0;subst y0;obtain⟨O0,d1,P0,e1,Q0,f1,R0,g1,S0,i1,A0,G0,H0,J0,K0,L0⟩:=z7A F0;subst A0;refine into Tryz.func20 35 _ ?_;unfold z7U at hm;have hS:=St.start w;refine sg<|nw hS (fun V0 C1 T0 k0=>?_);refine nw k0 (fun X0 D1 U0 O=>?_);refine rm 1 ?_;refine sq<|sg<|rr 1 ?_;refine lN (At.sub ((O.b 1 rfl).box) 0 4) ?_;refine rr 1 ?_;refine lN (At.sub ((O.b 0 rfl).box) 0 4) ?_;obtain⟨j1,o0,hm⟩:=bS hm;refine ca zwH (laws_eqGrid_ok (hE.trans O.ext) (z6x x0.Qk h3) (z6x x1.Qk G0) o0) (fun t1 E1 Y=>?_);obtain⟨rfl,Z⟩:=Y;have o:=O.join Z;refine rm 1 ?_;refine ci hm (fun hm=>?_) (fun hm=>?_)
 ·refine sg<|rm 1 ?_;refine rt ?_;cases hm;exact⟨_,tR rfl,rfl,(o.t 0)⟩
 ·refine sp<|sq<|sg<|rr 1 ?_;refine l1 ((o.b 1 rfl).box) 4 ?_;refine rr 1 ?_;refine l1 ((o.b 0 rfl).box) 4 ?_;obtain⟨m1,p0,hm⟩:=bS hm;refine ca zwf (laws_eqParcelSS_ok (hE.trans o.ext) h6 H0 p0) (fun u1 F1 a0=>?_);obtain⟨rfl,b0⟩:=a0;have q:=o.join b0;refine rm 1 ?_;refine ci hm (fun hm=>?_) (fun hm=>?_)
  ·refine sg<|rm 1 ?_;refine rt ?_;cases hm;exact⟨_,tR rfl,rfl,(q.t 0)⟩
  ·refine sp<|sq<|sg<|rr 1 ?_;refine l1 ((q.b 1 rfl).box) 5 ?_;refine rr 1 ?_;refine l1 ((q.b 0 rfl).box) 5 ?_;obtain⟨n1,q0,hm⟩:=bS hm;refine ca zwe (laws_eqInt64SS_ok (hE.trans q.ext) C0 J0 q0) (fun v1 G1 c0=>?_);obtain⟨rfl,e0⟩:=c0;have G:=q.join e0;refine rm 1 ?_;refine ci hm (fun hm=>?_) (fun hm=>?_)
   ·refine sg<|rm 1 ?_;refine rt ?_;cases hm;exact⟨_,tR rfl,rfl,(G.t 0)⟩
   ·refine sp<|sq<|sg<|rr 1 ?_;refine l1 ((G.b 1 rfl).box) 6 ?_;refine rr 1 ?_;refine l1 ((G.b 0 rfl).box) 6 ?_;obtain⟨p1,r0,hm⟩:=bS hm;refine ca zgk (laws_eqInt64S_ok (hE.trans G.ext) D0 K0 r0) (fun y1 H1 f0=>?_);obtain⟨rfl,g0⟩:=f0;have H:=G.join g0;refine rm 1 ?_;refine ci hm (fun hm=>?_) (fun hm=>?_)
    ·refine sg<|rm 1 ?_;refine rt ?_;cases hm;exact⟨_,tR rfl,rfl,(H.t 0)⟩
    ·refine sp<|sq<|sg<|rr 1 ?_;refine l1 ((H.b 1 rfl).box) 7 ?_;refine rr 1 ?_;refine l1 ((H.b 0 rfl).box) 7 ?_;obtain⟨s1,t0,hm⟩:=bS hm;refine ca zgk (laws_eqInt64S_ok (hE.trans H.ext) E0 L0 t0) (fun B1 J1 i0=>?_);obtain⟨rfl,j0⟩:=i0;have X:=H.join j0;refine rm 1 ?_;refine ci hm (fun hm=>?_) (fun hm=>?_)
     ·refine sg<|rm 1 ?_;refine rt ?_;cases hm;exact⟨_,tR rfl,rfl,(X.t 0)⟩
     ·refine sp<|sg<|rm 1 ?_;refine rt ?_;cases hm;exact⟨_,tR rfl,rfl,(X.t 0)⟩

theorem zuf:EN 124:=en Tryz.func124
def zbe (fu:Nat)(t2:Int×LE):Option (Int×LE):=some (t2.1,t2.2)
def z5U (fu:Nat)(x0:LE)(s1:Int×Int×LE):Option (Rd (Int×Int×LE) (Int×LE) (Int×LE)):=(if(decide (s1.2.1<(x0.length:Int)))=true then((idx s1.2.2 s1.2.1).bind fun G=>((z1y fu G.Qz.Data (w64 ((w64 ((w64 ((w64 (s1.1+1))+1))+1))+1))).bind fun q=>((z3g fu G.Qz.QM q.1).bind fun o=>some (.next (w64 ((w64 ((w64 ((w64 ((w64 ((w64 (o.1+1))+1))+1))+1))+1))+1),w64 (s1.2.1+1),(s1.2.2.set s1.2.1.toNat (⟨s1.1,(⟨w64 (s1.1+1),w64 ((w64 (s1.1+1))+1),w64 ((w64 ((w64 (s1.1+1))+1))+1),q.2,o.2⟩:Qa),(⟨o.1,w64 (o.1+1),w64 ((w64 (o.1+1))+1)⟩:Qb),(⟨w64 ((w64 ((w64 (o.1+1))+1))+1),w64 ((w64 ((w64 ((w64 (o.1+1))+1))+1))+1),w64 ((w64 ((w64 ((w64 ((w64 (o.1+1))+1))+1))+1))+1)⟩:Qb)⟩:Qh))))))) else some (.brk (s1.1,s1.2.2)))
def z5V (fu:Nat)(x0:LE)(x1:Int):Option (Int×LE):=((iter (z5U fu x0) fu (x1,0,x0)).bind fun o=>aft o (zbe fu))

theorem laws_markParcelS_ok {RR:List Res}{f0:Option Addr}{g0:Nat}{x0:LE}{x1:Int}(hS:St W w (ow zdB f0 x0 g0::RR)){fu:Nat}{r:Int×LE}(hm:z5V fu x0 x1=some r):
  CL 124 ⟨[sl f0 x0 g0,iv x1]⟩ w (Ret fun v w8=>v=iv r.1∧St W w8 (Own zdB [sl f0 x0 g0] r.2::RR)):=by
 refine into Tryz.func124 108 _ ?_;unfold z5V at hm;refine sg<|rm 1 ?_;refine sq<|sg<|rm 1 ?_;obtain⟨o5,n1,hm⟩:=bS hm;refine ct (fun(t2:Int×LE) F w9=>o5=.inl t2∧St W w9 (Own zdB [sl f0 x0 g0] t2.2::RR)∧F=[(1,iv t2.1)]) ?_ ?_
 ·rintro t2 F w4 ⟨a1,m1,rfl⟩;subst a1;rw[z8] at hm;unfold zbe at hm;refine sg<|rm 2 ?_;refine rt ?_;cases hm;exact⟨_,tR rfl,rfl,m1⟩
 ·refine bk<|wk [0,1,5] ?_;refine it (fun(s1:Int×Int×LE) F w9=>St W w9 (Own zdB [sl f0 x0 g0] s1.2.2::RR)∧F=[(0,sl f0 x0 g0),(1,iv s1.1),(5,iv s1.2.1)]) n1 ⟨hS,rfl⟩ ?_;rintro s1 F v1 _ p1 ⟨q0,rfl⟩ q b1;unfold z5U at q;refine sq<|sg<|rm 4 ?_;refine ci q (fun q=>?_) (fun q=>?_)
  ·refine sp<|sq<|bk<|sg<|rr 3 ?_;have J0:=q0.b 0 rfl;obtain⟨H,G,q⟩:=bS q;refine fo J0 G (fun b2 g1 O1 K0=>?_);obtain⟨X,c0,Y,e0,f1,L0⟩:=zoO (K0.b 1 rfl);subst f1;refine rr 1 ?_;have M0:=L0.b 2 rfl;refine sh M0 O1 0 (fun y1 r0=>?_);refine rn<|sg<|rm 3 ?_;refine sg<|rr 3 ?_;refine ia (r0.b 0 rfl) (zk G).1 (fun d2 P1=>?_);refine rr 2 ?_;have N0:=r0.b 0 rfl;refine sh N0 P1 1 (fun A1 t0=>?_);refine rn<|sg<|rm 3 ?_;refine sg<|rr 3 ?_;refine ia (t0.b 0 rfl) (zk G).1 (fun e2 Q1=>?_);refine rr 2 ?_;have O0:=t0.b 0 rfl;refine sh O0 Q1 2 (fun B1 u0=>?_);refine rn<|sg<|rm 3 ?_;refine sg<|rr 3 ?_;refine ia (u0.b 0 rfl) (zk G).1 (fun f2 R1=>?_);refine rr 2 ?_;have P0:=u0.b 0 rfl;refine sh P0 R1 3 (fun C1 Z=>?_);refine rn<|sg<|rm 3 ?_;refine sg<|rr 2 ?_;refine ia (Z.b 0 rfl) (zk G).1 (fun g2 S1=>?_);refine rr 2 ?_;refine l1 ((Z.b 0 rfl).hole_atN S1) 4 ?_;refine rr 1 ?_;obtain⟨O,d1,q⟩:=bS q;refine ca zeY (laws_markInt64S_ok (W:=W) (RR:=_) (x0:=H.Qz.Data) (x1:=w64 ((w64 ((w64 ((w64 (s1.1+1))+1))+1))+1)) (Z.b 1 rfl)  d1) (fun t1 D1 G0=>?_);obtain⟨rfl,a0⟩:=G0;refine rm 1 ?_;refine sg<|rr 2 ?_;refine ia (a0.b 1 rfl) (zk G).1 (fun i2 T1=>?_);refine rr 2 ?_;refine l1 ((a0.b 1 rfl).hole_atN T1) 5 ?_;refine rr 1 ?_;obtain⟨o,e1,q⟩:=bS q;refine ca zo9 (laws_markAddressS_ok (W:=W) (RR:=_) (x0:=H.Qz.QM) (x1:=O.1) (a0.b 2 rfl)  e1) (fun u1 E1 H0=>?_);obtain⟨rfl,v0⟩:=H0;refine rm 1 ?_;refine sg<|rr 3 ?_;refine ia (v0.b 2 rfl) (zk G).1 (fun j2 U1=>?_);refine rr 2 ?_;have Q0:=v0.b 2 rfl;refine sh Q0 U1 6 (fun F1 y0=>?_);refine rn<|sg<|rm 3 ?_;refine sg<|rr 3 ?_;refine ia (y0.b 0 rfl) (zk G).1 (fun m2 V1=>?_);refine rr 2 ?_;have R0:=y0.b 0 rfl;refine sh R0 V1 7 (fun G1 A0=>?_);refine rn<|sg<|rm 3 ?_;refine sg<|rr 3 ?_;refine ia (A0.b 0 rfl) (zk G).1 (fun n2 W1=>?_);refine rr 2 ?_;have S0:=A0.b 0 rfl;refine sh S0 W1 8 (fun H1 B0=>?_);refine rn<|sg<|rm 3 ?_;refine sg<|rr 3 ?_;refine ia (B0.b 0 rfl) (zk G).1 (fun o2 X1=>?_);refine rr 2 ?_;have T0:=B0.b 0 rfl;refine sh T0 X1 9 (fun J1 C0=>?_);refine rn<|sg<|rm 3 ?_;refine sg<|rr 3 ?_;refine ia (C0.b 0 rfl) (zk G).1 (fun p2 Y1=>?_);refine rr 2 ?_;have U0:=C0.b 0 rfl;refine sh U0 Y1 10 (fun K1 D0=>?_);refine rn<|sg<|rm 3 ?_;refine sg<|rr 3 ?_;refine ia (D0.b 0 rfl) (zk G).1 (fun q2 a2=>?_);refine rr 2 ?_;have V0:=D0.b 0 rfl;refine sh V0 a2 11 (fun L1 E0=>?_);refine rn<|rg<|rm 3 ?_;refine rg<|rm 3 ?_;have M1:=(E0.b 2 rfl).lenEq;have X0:=(E0.b 2 rfl).reLen M1;have F0:=(X0.b 1 rfl).reHole (es':=[iv s1.1,iv (w64 (s1.1+1)),iv (w64 ((w64 (s1.1+1))+1)),iv (w64 ((w64 ((w64 (s1.1+1))+1))+1)),.slice X O.2.length c0,.slice Y H.Qz.QM.length e0,iv o.1,iv (w64 (o.1+1)),iv (w64 ((w64 (o.1+1))+1)),iv (w64 ((w64 ((w64 (o.1+1))+1))+1)),iv (w64 ((w64 ((w64 ((w64 (o.1+1))+1))+1))+1)),iv (w64 ((w64 ((w64 ((w64 ((w64 (o.1+1))+1))+1))+1))+1))]) (by show([iv s1.1,iv (w64 (s1.1+1)),iv (w64 ((w64 (s1.1+1))+1)),iv (w64 ((w64 ((w64 (s1.1+1))+1))+1)),.slice X H.Qz.Data.length c0,.slice Y H.Qz.QM.length e0,iv o.1,iv (w64 (o.1+1)),iv (w64 ((w64 (o.1+1))+1)),iv (w64 ((w64 ((w64 (o.1+1))+1))+1)),iv (w64 ((w64 ((w64 ((w64 (o.1+1))+1))+1))+1)),iv (w64 ((w64 ((w64 ((w64 ((w64 (o.1+1))+1))+1))+1))+1))]:List Value)=[iv s1.1,iv (w64 (s1.1+1)),iv (w64 ((w64 (s1.1+1))+1)),iv (w64 ((w64 ((w64 (s1.1+1))+1))+1)),.slice X O.2.length c0,.slice Y H.Qz.QM.length e0,iv o.1,iv (w64 (o.1+1)),iv (w64 ((w64 (o.1+1))+1)),iv (w64 ((w64 ((w64 (o.1+1))+1))+1)),iv (w64 ((w64 ((w64 ((w64 (o.1+1))+1))+1))+1)),iv (w64 ((w64 ((w64 ((w64 ((w64 (o.1+1))+1))+1))+1))+1))];first | (simp only[sl,M1];done) | (simp only[sl,M1];rfl));have N1:=(F0.b 2 rfl).lenEq;have Y0:=(F0.b 2 rfl).reLen N1;have b0:=(Y0.b 1 rfl).reHole (es':=[iv s1.1,iv (w64 (s1.1+1)),iv (w64 ((w64 (s1.1+1))+1)),iv (w64 ((w64 ((w64 (s1.1+1))+1))+1)),.slice X O.2.length c0,.slice Y o.2.length e0,iv o.1,iv (w64 (o.1+1)),iv (w64 ((w64 (o.1+1))+1)),iv (w64 ((w64 ((w64 (o.1+1))+1))+1)),iv (w64 ((w64 ((w64 ((w64 (o.1+1))+1))+1))+1)),iv (w64 ((w64 ((w64 ((w64 ((w64 (o.1+1))+1))+1))+1))+1))]) (by show([iv s1.1,iv (w64 (s1.1+1)),iv (w64 ((w64 (s1.1+1))+1)),iv (w64 ((w64 ((w64 (s1.1+1))+1))+1)),.slice X O.2.length c0,.slice Y H.Qz.QM.length e0,iv o.1,iv (w64 (o.1+1)),iv (w64 ((w64 (o.1+1))+1)),iv (w64 ((w64 ((w64 (o.1+1))+1))+1)),iv (w64 ((w64 ((w64 ((w64 (o.1+1))+1))+1))+1)),iv (w64 ((w64 ((w64 ((w64 ((w64 (o.1+1))+1))+1))+1))+1))]:List Value)=[iv s1.1,iv (w64 (s1.1+1)),iv (w64 ((w64 (s1.1+1))+1)),iv (w64 ((w64 ((w64 (s1.1+1))+1))+1)),.slice X O.2.length c0,.slice Y o.2.length e0,iv o.1,iv (w64 (o.1+1)),iv (w64 ((w64 (o.1+1))+1)),iv (w64 ((w64 ((w64 (o.1+1))+1))+1)),iv (w64 ((w64 ((w64 ((w64 (o.1+1))+1))+1))+1)),iv (w64 ((w64 ((w64 ((w64 ((w64 (o.1+1))+1))+1))+1))+1))];first | (simp only[sl,N1];done) | (simp only[sl,N1];rfl));have i1:=(show ty45.ro _ [.slice X H.Qz.Data.length c0] O.2 from(Eq.symm M1) ▸ ((b0.b 2 rfl).own));have j1:=(show ty82.ro _ [.slice Y H.Qz.QM.length e0] o.2 from(Eq.symm N1) ▸ ((b0.b 1 rfl).own));have i0:=b0.b 1 rfl;have j0:=i0.b 2 rfl;have k0:=zig (c:=(⟨s1.1,(⟨w64 (s1.1+1),w64 ((w64 (s1.1+1))+1),w64 ((w64 ((w64 (s1.1+1))+1))+1),O.2,o.2⟩:Qa),(⟨o.1,w64 (o.1+1),w64 ((w64 (o.1+1))+1)⟩:Qb),(⟨w64 ((w64 ((w64 (o.1+1))+1))+1),w64 ((w64 ((w64 ((w64 (o.1+1))+1))+1))+1),w64 ((w64 ((w64 ((w64 ((w64 (o.1+1))+1))+1))+1))+1)⟩:Qb)⟩:Qh)) (B:=_) j0;have o0:=k0.b 1 rfl;have p0:=St.unfocusN o0;cases q;exact⟨_,_,rfl,⟨p0,rfl⟩,rfl⟩
  ·refine xt ?_;cases q;exact⟨_,_,⟨b1,q0,rfl⟩,rfl⟩

theorem zwd:EN 61:=en Tryz.func61
def zaK (fu:Nat)(t2:Int×(List LE)):Option (Int×(List LE)):=some (t2.1,t2.2)
def z5f (fu:Nat)(x0:(List LE))(s1:Int×Int×(List LE)):Option (Rd (Int×Int×(List LE)) (Int×(List LE)) (Int×(List LE))):=(if(decide (s1.2.1<(x0.length:Int)))=true then((idx s1.2.2 s1.2.1).bind fun q=>((z5V fu q s1.1).bind fun o=>some (.next (o.1,w64 (s1.2.1+1),(s1.2.2.set s1.2.1.toNat o.2))))) else some (.brk (s1.1,s1.2.2)))
def z51 (fu:Nat)(x0:(List LE))(x1:Int):Option (Int×(List LE)):=((iter (z5f fu x0) fu (x1,0,x0)).bind fun o=>aft o (zaK fu))

theorem laws_markParcelSS_ok {RR:List Res}{q:Option Addr}{G:Nat}{x0:(List LE)}{x1:Int}(hS:St W w (ow ty50 q x0 G::RR)){fu:Nat}{r:Int×(List LE)}(hm:z51 fu x0 x1=some r):
  CL 61 ⟨[sl q x0 G,iv x1]⟩ w (Ret fun v w8=>v=iv r.1∧St W w8 (Own ty50 [sl q x0 G] r.2::RR)):=by
 refine into Tryz.func61 19 _ ?_;unfold z51 at hm;refine sg<|rm 1 ?_;refine sq<|sg<|rm 1 ?_;obtain⟨o5,A0,hm⟩:=bS hm;refine ct (fun(t2:Int×(List LE)) F w9=>o5=.inl t2∧St W w9 (Own ty50 [sl q x0 G] t2.2::RR)∧F=[(1,iv t2.1)]) ?_ ?_
 ·rintro t2 F w4 ⟨k0,y0,rfl⟩;subst k0;rw[z8] at hm;unfold zaK at hm;refine sg<|rm 2 ?_;refine rt ?_;cases hm;exact⟨_,tR rfl,rfl,y0⟩
 ·refine bk<|wk [0,1,5] ?_;refine it (fun(s1:Int×Int×(List LE)) F w9=>St W w9 (Own ty50 [sl q x0 G] s1.2.2::RR)∧F=[(0,sl q x0 G),(1,iv s1.1),(5,iv s1.2.1)]) A0 ⟨hS,rfl⟩ ?_;rintro s1 F E0 _ C0 ⟨H,rfl⟩ o o0;unfold z5f at o;refine sq<|sg<|rm 4 ?_;refine ci o (fun o=>?_) (fun o=>?_)
  ·refine sp<|sq<|bk<|rg<|rr 2 ?_;have c0:=H.b 0 rfl;obtain⟨t0,p0,o⟩:=bS o;refine fo c0 p0 (fun J0 v0 H0 e0=>?_);obtain⟨Z,a0,u0,O⟩:=(e0.b 1 rfl).openSl;subst u0;refine l1 ((O.b 1 rfl).hole_atN H0) 0 ?_;refine rr 1 ?_;obtain⟨r0,q0,o⟩:=bS o;refine ca zuf (laws_markParcelS_ok (W:=W) (RR:=_) (x0:=t0) (x1:=s1.1) O  q0) (fun D0 F0 b0=>?_);obtain⟨rfl,X⟩:=b0;refine rm 1 ?_;refine rg<|rm 3 ?_;have G0:=(X.b 0 rfl).lenEq;have f0:=(X.b 0 rfl).reLen G0;have Y:=(f0.b 1 rfl).reHole (es':=[.slice Z r0.2.length a0]) (by show([.slice Z t0.length a0]:List Value)=[.slice Z r0.2.length a0];first | (simp only[sl,G0];done) | (simp only[sl,G0];rfl));have B0:=(show zdB.ro _ [.slice Z t0.length a0] r0.2 from(Eq.symm G0) ▸ ((Y.b 1 rfl).own));have g0:=Y.b 1 rfl;have i0:=g0.b 1 rfl;have j0:=St.unfocusN i0;cases o;exact⟨_,_,rfl,⟨j0,rfl⟩,rfl⟩
  ·refine xt ?_;cases o;exact⟨_,_,⟨o0,H,rfl⟩,rfl⟩

theorem zwc:EN 62:=en Tryz.func62
def zbf (fu:Nat)(t2:Int×LO):Option (Int×LO):=some (t2.1,t2.2)
def z5W (fu:Nat)(x0:LO)(s1:Int×Int×LO):Option (Rd (Int×Int×LO) (Int×LO) (Int×LO)):=(if(decide (s1.2.1<(x0.length:Int)))=true then((idx s1.2.2 s1.2.1).bind fun q=>((z1y fu q s1.1).bind fun o=>some (.next (o.1,w64 (s1.2.1+1),(s1.2.2.set s1.2.1.toNat o.2))))) else some (.brk (s1.1,s1.2.2)))
def z5X (fu:Nat)(x0:LO)(x1:Int):Option (Int×LO):=((iter (z5W fu x0) fu (x1,0,x0)).bind fun o=>aft o (zbf fu))

theorem laws_markInt64SS_ok {RR:List Res}{q:Option Addr}{G:Nat}{x0:LO}{x1:Int}(hS:St W w (ow ty44 q x0 G::RR)){fu:Nat}{r:Int×LO}(hm:z5X fu x0 x1=some r):
  CL 62 ⟨[sl q x0 G,iv x1]⟩ w (Ret fun v w8=>v=iv r.1∧St W w8 (Own ty44 [sl q x0 G] r.2::RR)):=by
 refine into Tryz.func62 19 _ ?_;unfold z5X at hm;refine sg<|rm 1 ?_;refine sq<|sg<|rm 1 ?_;obtain⟨o5,A0,hm⟩:=bS hm;refine ct (fun(t2:Int×LO) F w9=>o5=.inl t2∧St W w9 (Own ty44 [sl q x0 G] t2.2::RR)∧F=[(1,iv t2.1)]) ?_ ?_
 ·rintro t2 F w4 ⟨k0,y0,rfl⟩;subst k0;rw[z8] at hm;unfold zbf at hm;refine sg<|rm 2 ?_;refine rt ?_;cases hm;exact⟨_,tR rfl,rfl,y0⟩
 ·refine bk<|wk [0,1,5] ?_;refine it (fun(s1:Int×Int×LO) F w9=>St W w9 (Own ty44 [sl q x0 G] s1.2.2::RR)∧F=[(0,sl q x0 G),(1,iv s1.1),(5,iv s1.2.1)]) A0 ⟨hS,rfl⟩ ?_;rintro s1 F E0 _ C0 ⟨H,rfl⟩ o o0;unfold z5W at o;refine sq<|sg<|rm 4 ?_;refine ci o (fun o=>?_) (fun o=>?_)
  ·refine sp<|sq<|bk<|rg<|rr 2 ?_;have c0:=H.b 0 rfl;obtain⟨t0,p0,o⟩:=bS o;refine fo c0 p0 (fun J0 v0 H0 e0=>?_);obtain⟨Z,a0,u0,O⟩:=(e0.b 1 rfl).openSl;subst u0;refine l1 ((O.b 1 rfl).hole_atN H0) 0 ?_;refine rr 1 ?_;obtain⟨r0,q0,o⟩:=bS o;refine ca zeY (laws_markInt64S_ok (W:=W) (RR:=_) (x0:=t0) (x1:=s1.1) O  q0) (fun D0 F0 b0=>?_);obtain⟨rfl,X⟩:=b0;refine rm 1 ?_;refine rg<|rm 3 ?_;have G0:=(X.b 0 rfl).lenEq;have f0:=(X.b 0 rfl).reLen G0;have Y:=(f0.b 1 rfl).reHole (es':=[.slice Z r0.2.length a0]) (by show([.slice Z t0.length a0]:List Value)=[.slice Z r0.2.length a0];first | (simp only[sl,G0];done) | (simp only[sl,G0];rfl));have B0:=(show ty45.ro _ [.slice Z t0.length a0] r0.2 from(Eq.symm G0) ▸ ((Y.b 1 rfl).own));have g0:=Y.b 1 rfl;have i0:=g0.b 1 rfl;have j0:=St.unfocusN i0;cases o;exact⟨_,_,rfl,⟨j0,rfl⟩,rfl⟩
  ·refine xt ?_;cases o;exact⟨_,_,⟨o0,H,rfl⟩,rfl⟩

theorem zwB:EN 21:=en Tryz.func21
def z5Y (fu:Nat)(x0:Qv)(x1:Int):Option (Int×LG×(List LE)×LO×L9×L9):=((zaj fu x0.Qk x1).bind fun r5=>((z51 fu x0.Qd r5.1).bind fun o=>((z5X fu x0.QL o.1).bind fun q=>((z1y fu x0.QY q.1).bind fun G=>((z1y fu x0.Got G.1).bind fun H=>some (H.1,r5.2,o.2,q.2,G.2,H.2))))))

theorem laws_markCluster_ok {RR:List Res}{x0:Qv}{o:Option Addr}{X:Nat}{q:Option Addr}{Y:Nat}{G:Option Addr}{Z:Nat}{H:Option Addr}{a0:Nat}{O:Option Addr}{b0:Nat}{x1:Int}(hS:St W w (ow ty33 o x0.Qk.Qf X::ow ty50 q x0.Qd Y::ow ty44 G x0.QL Z::ow ty45 H x0.QY a0::ow ty45 O x0.Got b0::RR)){fu:Nat}{r:Int×LG×(List LE)×LO×L9×L9}(hm:z5Y fu x0 x1=some r):
  CL 21 ⟨[.agg ⟨[sl o x0.Qk.Qf X,iv x0.Qk.QO.Qj,iv x0.Qk.QO.Qi,iv x0.Qk.QO.Qo,sl q x0.Qd Y,sl G x0.QL Z,sl H x0.QY a0,sl O x0.Got b0]⟩,iv x1]⟩ w (Ret fun v w8=>v=iv r.1∧St W w8 (Own ty33 [sl o x0.Qk.Qf X] r.2.1::Own ty50 [sl q x0.Qd Y] r.2.2.1::Own ty44 [sl G x0.QL Z] r.2.2.2.1::Own ty45 [sl H x0.QY a0] r.2.2.2.2.1::Own ty45 [sl O x0.Got b0] r.2.2.2.2.2::RR)):=by
 refine into Tryz.func21 26 _ ?_;unfold z5Y at hm;refine sg<|nw hS (fun g1 w2 e3 y0=>?_);refine rm 1 ?_;refine sg<|rr 1 ?_;refine lN (At.sub ((y0.b 0 rfl).box) 0 4) ?_;refine rr 1 ?_;obtain⟨r5,A0,hm⟩:=bS hm;refine ca zwG (laws_markGrid_ok (W:=W) (RR:=_) (x0:=x0.Qk) (x1:=x1) (y0.b 1 rfl)  A0) (fun v7 K0 i0=>?_);obtain⟨rfl,c0⟩:=i0;refine rm 1 ?_;refine sg<|rr 1 ?_;refine l1 ((c0.b 1 rfl).box) 4 ?_;refine rr 1 ?_;obtain⟨B0,r0,hm⟩:=bS hm;refine ca zwd (laws_markParcelSS_ok (W:=W) (RR:=_) (x0:=x0.Qd) (x1:=r5.1) (c0.b 2 rfl)  r0) (fun F0 L0 j0=>?_);obtain⟨rfl,e0⟩:=j0;refine rm 1 ?_;refine sg<|rr 1 ?_;refine l1 ((e0.b 2 rfl).box) 5 ?_;refine rr 1 ?_;obtain⟨C0,t0,hm⟩:=bS hm;refine ca zwc (laws_markInt64SS_ok (W:=W) (RR:=_) (x0:=x0.QL) (x1:=B0.1) (e0.b 3 rfl)  t0) (fun G0 M0 k0=>?_);obtain⟨rfl,f0⟩:=k0;refine rm 1 ?_;refine sg<|rr 1 ?_;refine l1 ((f0.b 3 rfl).box) 6 ?_;refine rr 1 ?_;obtain⟨D0,u0,hm⟩:=bS hm;refine ca zeY (laws_markInt64S_ok (W:=W) (RR:=_) (x0:=x0.QY) (x1:=C0.1) (f0.b 4 rfl)  u0) (fun H0 N0 o0=>?_);obtain⟨rfl,g0⟩:=o0;refine rm 1 ?_;refine sg<|rr 1 ?_;refine l1 ((g0.b 4 rfl).box) 7 ?_;refine rr 1 ?_;obtain⟨E0,v0,hm⟩:=bS hm;refine ca zeY (laws_markInt64S_ok (W:=W) (RR:=_) (x0:=x0.Got) (x1:=D0.1) (g0.b 5 rfl)  v0) (fun J0 O0 p0=>?_);obtain⟨rfl,q0⟩:=p0;refine rm 1 ?_;refine sg<|rm 2 ?_;refine rt ?_;cases hm;exact⟨_,tR rfl,rfl,(q0.selR [4,3,2,1,0] 6)⟩

def z1a (fu:Nat)(o:Int×LA)(G:Bool):Option Bool:=(if G=true then some false else((z81 fu (⟨o.2⟩:QV) 1).bind fun q=>(if(decide (q<0))=true then some false else(if(q != o.1)=true then some false else some true))))
def zG (fu:Nat)(x0:Qv)(Y:QV×Int)(Z:QV×Int)(X:Bool):Option Bool:=(if X=true then some false else((z9i fu Z.1 1).bind fun o=>((z81 fu (⟨o.2⟩:QV) 1).bind fun q=>(if(decide (q<0))=true then some false else(if(q != o.1)=true then some false else((z2T fu x0).bind fun H=>((z1Y fu H).bind fun G=>((z8L fu G.1 Y.1).bind fun O=>(if(!O)=true then z1a fu o true else z1a fu o (G.2 != Y.2))))))))))
def z1b (fu:Nat)(x0:Qv)(o:QV×Int)(Z:Qv)(q:QV×Int)(Y:Bool):Option Bool:=(if Y=true then some false else((z2T fu x0).bind fun G=>((z7U fu Z G).bind fun H=>(if(!H)=true then some false else((z5Y fu Z 1).bind fun O=>(if(decide (O.1<0))=true then zG fu x0 o q true else((z8L fu q.1 o.1).bind fun X=>(if(!X)=true then zG fu x0 o q true else zG fu x0 o q (q.2 != o.2)))))))))
def z2j (fu:Nat)(x0:Qv):Option (Bool):=((z7P fu x0 1048576).bind fun O=>(if(decide (O<0))=true then some true else((z2T fu x0).bind fun X=>((z2Y fu X).bind fun o=>((z2T fu x0).bind fun H=>((z1Y fu H).bind fun q=>((z8L fu q.1 o.1).bind fun G=>(if(!G)=true then z1b fu x0 o H q true else z1b fu x0 o H q (q.2 != o.2)))))))))

theorem laws_FnExactAssembleCluster_ok (hE:Ext W w){E2:List Value}{x0:Qv}(O0:ty47.ro W E2 x0){fu:Nat}{r:Bool}(hm:z2j fu x0=some r):
  CL 4 ⟨[.agg ⟨E2⟩]⟩ w (RB w r):=by
 obtain⟨A1,k2,A4,k5,A7,K2,u2,L2,v2,M2,e3,h3,h6,r4,s4,t4⟩:=zic O0;subst e3;refine into Tryz.func4 96 _ ?_;unfold z2j at hm;have hS:=St.start w;refine sg<|nw hS (fun L1 J4 n4 H0=>?_);refine rm 1 ?_;refine sg<|rm 1 ?_;refine sg<|lN ((H0.b 0 rfl).box) ?_;refine rr 1 ?_;obtain⟨C4,i2,hm⟩:=bS hm;refine ca zwE (laws_szCluster_ok (hE.trans H0.ext) O0 i2) (fun D4 K4 O1=>?_);obtain⟨rfl,P1⟩:=O1;have y0:=H0.join P1;refine rm 1 ?_;refine sq<|sg<|rm 2 ?_;refine ci hm (fun hm=>?_) (fun hm=>?_)
 ·refine sg<|rm 1 ?_;refine rt ?_;cases hm;exact⟨_,tR rfl,rfl,(y0.t 0)⟩
 ·refine sp<|sg<|lN ((y0.b 0 rfl).box) ?_;obtain⟨E3,j2,hm⟩:=bS hm;refine ca zi5 (laws_toCluster_ok (hE.trans y0.ext) O0 j2) (fun E4 L4 Q1=>?_);obtain⟨g4,u4,i4,v4,j4,x4,k4,y4,m4,B4,rfl,R1⟩:=Q1;have g0:=y0.join R1;obtain⟨f0,m2,hm⟩:=bS hm;refine ca zwD (zdF (Ext.refl _) (zec E3 ((g0.b 0 rfl).own) ((g0.b 1 rfl).own) ((g0.b 2 rfl).own) ((g0.b 3 rfl).own) ((g0.b 4 rfl).own)) m2) (fun F4 M4 S1=>?_);obtain⟨K1,N1,rfl,T1⟩:=S1;have Y1:=g0.join T1;refine rr 3 ?_;refine nw Y1 (fun M1 N4 o4 a2=>?_);have b2:=a2.b 0 rfl;refine so (A:=[]) b2 0 (fun O4 J0=>?_);refine rm 1 ?_;refine sg<|lN ((J0.b 7 rfl).box) ?_;obtain⟨b0,n2,hm⟩:=bS hm;refine ca zi5 (laws_toCluster_ok (hE.trans J0.ext) O0 n2) (fun G4 P4 U1=>?_);obtain⟨y2,N2,A2,O2,B2,P2,C2,Q2,D2,R2,rfl,V1⟩:=U1;have d2:=J0.join V1;refine nw d2 (fun F2 Q4 p4 e2=>?_);have f2:=e2.b 0 rfl;refine so (A:=[]) f2 0 (fun R4 c0=>?_);refine rn<|sg<|lN ((c0.b 0 rfl).box) ?_;obtain⟨i0,o2,hm⟩:=bS hm;refine ca zqf (zax (Ext.refl _) (zec b0 ((c0.b 1 rfl).own) ((c0.b 2 rfl).own) ((c0.b 3 rfl).own) ((c0.b 4 rfl).own) ((c0.b 5 rfl).own)) o2) (fun H4 S4 W1=>?_);obtain⟨u0,v0,rfl,X1⟩:=W1;have g2:=c0.join X1;refine rr 3 ?_;refine nw g2 (fun N0 T4 q4 i1=>?_);have j1:=i1.b 0 rfl;refine so (A:=[]) j1 0 (fun r2 X=>?_);refine rm 1 ?_;refine sq<|sq<|ct (fun(K0:Bool) F w9=>z1b fu x0 f0 b0 i0 K0=some r∧Ext r2 w9∧St w w9 [Box N0 [sl u0 i0.1.QG v0] 30,ow ty28 u0 i0.1.QG v0,Box F2 [sl y2 b0.Qk.Qf N2,iv b0.Qk.QO.Qj,iv b0.Qk.QO.Qi,iv b0.Qk.QO.Qo,sl A2 b0.Qd O2,sl B2 b0.QL P2,sl C2 b0.QY Q2,sl D2 b0.Got R2] 52,ow ty33 y2 b0.Qk.Qf N2,ow ty50 A2 b0.Qd O2,ow ty44 B2 b0.QL P2,ow ty45 C2 b0.QY Q2,ow ty45 D2 b0.Got R2,Box M1 [sl K1 f0.1.QG N1] 30,ow ty28 K1 f0.1.QG N1,Box L1 [sl A1 x0.Qk.Qf k2,iv x0.Qk.QO.Qj,iv x0.Qk.QO.Qi,iv x0.Qk.QO.Qo,sl A4 x0.Qd k5,sl A7 x0.QL K2,sl u2 x0.QY L2,sl v2 x0.Got M2] 47]∧F=[(1,.pointer (some ⟨L1,0,none⟩)),(4,.pointer (some ⟨M1,0,none⟩)),(5,iv f0.2),(6,.pointer (some ⟨F2,0,none⟩)),(7,.pointer (some ⟨N0,0,none⟩)),(8,iv i0.2),(40,.bool K0)]) ?_ ?_
  ·rintro K0 F R3 ⟨hm,G2,Y,rfl⟩;unfold z1b at hm;refine ci hm (fun hm=>?_) (fun hm=>?_)
   ·refine sg<|rm 1 ?_;refine rt ?_;cases hm;exact⟨_,tR rfl,rfl,(Y.t 0)⟩
   ·refine sp<|sq<|sq<|dn 0 mixed 5 [([],31),([],31),([1],29),([0,2,2],26),([3],23)] Y.ext (fun q=>?_);have C0:=Y.step (Ext.draw _);refine dL q 0 ((Y.b 2 rfl).box) ?_;refine dL q 1 ((Y.b 10 rfl).box) ?_;obtain⟨p2,t1,hm⟩:=bS hm;refine o1 q 2 (mc q zi5 (laws_toCluster_ok (hE.trans C0.ext) O0 t1) (fun F3 S3 P0=>?_));obtain⟨S2,i3,T2,j3,U2,k3,V2,m3,W2,n3,rfl,A0⟩:=P0;refine⟨A0.ext,?_⟩;have o:=C0.join A0;obtain⟨u3,u1,hm⟩:=bS hm;refine o1 q 3 (mc q zwC (laws_eqCluster_ok (Ext.refl _) (zec b0 ((o.b 8 rfl).own) ((o.b 9 rfl).own) ((o.b 10 rfl).own) ((o.b 11 rfl).own) ((o.b 12 rfl).own)) (zec p2 ((o.b 0 rfl).own) ((o.b 1 rfl).own) ((o.b 2 rfl).own) ((o.b 3 rfl).own) ((o.b 4 rfl).own)) u1) (fun G3 T3 Q0=>?_));obtain⟨rfl,B0⟩:=Q0;refine⟨B0.ext,?_⟩;have p0:=o.join B0;refine dr 0 q [4] ?_;refine dd q ?_;refine ci hm (fun hm=>?_) (fun hm=>?_)
    ·refine sg<|rm 1 ?_;refine rt ?_;cases hm;exact⟨_,tR rfl,rfl,(p0.t 0)⟩
    ·refine sp<|sg<|rm 1 ?_;refine sg<|lN ((p0.b 7 rfl).box) ?_;refine rr 1 ?_;obtain⟨v3,v1,hm⟩:=bS hm;refine ca zwB (laws_markCluster_ok (W:=w) (RR:=_) (x0:=b0) (x1:=1) (((((p0.b 12 rfl).b 12 rfl).b 12 rfl).b 12 rfl).b 12 rfl)  v1) (fun H3 s2 R0=>?_);obtain⟨rfl,G⟩:=R0;refine rm 1 ?_;refine sq<|sq<|ct (fun(L0:Bool) F w9=>zG fu x0 f0 i0 L0=some r∧Ext s2 w9∧St w w9 [Box N0 [sl u0 i0.1.QG v0] 30,ow ty28 u0 i0.1.QG v0,Box M1 [sl K1 f0.1.QG N1] 30,ow ty28 K1 f0.1.QG N1,Box L1 [sl A1 x0.Qk.Qf k2,iv x0.Qk.QO.Qj,iv x0.Qk.QO.Qi,iv x0.Qk.QO.Qo,sl A4 x0.Qd k5,sl A7 x0.QL K2,sl u2 x0.QY L2,sl v2 x0.Got M2] 47]∧F=[(1,.pointer (some ⟨L1,0,none⟩)),(4,.pointer (some ⟨M1,0,none⟩)),(5,iv f0.2),(7,.pointer (some ⟨N0,0,none⟩)),(61,.bool L0)]) ?_ ?_
     ·rintro L0 F U3 ⟨hm,H2,q0,rfl⟩;unfold zG at hm;refine ci hm (fun hm=>?_) (fun hm=>?_)
      ·refine sg<|rm 1 ?_;refine rt ?_;cases hm;exact⟨_,tR rfl,rfl,(q0.t 0)⟩
      ·refine sp<|sg<|rm 1 ?_;refine sg<|lN ((q0.b 0 rfl).box) ?_;refine rr 1 ?_;obtain⟨O,y1,hm⟩:=bS hm;refine ca zwF (laws_markNet_ok (W:=w) (RR:=_) (x0:=i0.1) (x1:=1) (q0.b 1 rfl)  y1) (fun J3 V3 S0=>?_);obtain⟨rfl,r0⟩:=S0;refine rm 1 ?_;refine sg<|rm 1 ?_;refine sg<|lN ((r0.b 1 rfl).box) ?_;refine rr 1 ?_;have U4:=(r0.b 0 rfl).lenEq;have m1:=(r0.b 0 rfl).reLen U4;have D0:=(m1.b 1 rfl).reBox (cs':=[.slice u0 O.2.length v0]) (by show([.slice u0 i0.1.QG.length v0]:List Value)=[.slice u0 O.2.length v0];first | (simp only[sl,U4];done) | (simp only[sl,U4];rfl));refine kn (u:=.agg ⟨[.slice u0 O.2.length v0]⟩) 65 rfl (by simp only[sl,U4]) ?_;obtain⟨y3,B1,hm⟩:=bS hm;refine ca zqg (laws_heldNet_ok (Ext.refl _) (z9b (⟨O.2⟩:QV) ((D0.b 1 rfl).own)) B1) (fun K3 W3 T0=>?_);obtain⟨rfl,U0⟩:=T0;have Z:=D0.join U0;refine rm 1 ?_;refine sq<|sg<|rm 2 ?_;refine ci hm (fun hm=>?_) (fun hm=>?_)
       ·refine sg<|rm 1 ?_;refine rt ?_;cases hm;exact⟨_,tR rfl,rfl,(Z.t 0)⟩
       ·refine sp<|sq<|sg<|rm 3 ?_;refine ci hm (fun hm=>?_) (fun hm=>?_)
        ·refine sg<|rm 1 ?_;refine rt ?_;cases hm;exact⟨_,tR rfl,rfl,(Z.t 0)⟩
        ·refine sp<|sg<|lN ((Z.b 4 rfl).box) ?_;obtain⟨q2,C1,hm⟩:=bS hm;refine ca zi5 (laws_toCluster_ok (hE.trans Z.ext) O0 C1) (fun L3 X3 V0=>?_);obtain⟨X2,o3,Y2,p3,a3,q3,b3,r3,c3,s3,rfl,X0⟩:=V0;have H:=Z.join X0;obtain⟨J1,D1,hm⟩:=bS hm;refine ca zqf (zax (Ext.refl _) (zec q2 ((H.b 0 rfl).own) ((H.b 1 rfl).own) ((H.b 2 rfl).own) ((H.b 3 rfl).own) ((H.b 4 rfl).own)) D1) (fun M3 Y3 Y0=>?_);obtain⟨d3,t3,rfl,a1⟩:=Y0;have n1:=H.join a1;refine rr 3 ?_;refine nw n1 (fun g3 a4 f3 p1=>?_);have s1:=p1.b 0 rfl;refine so (A:=[]) s1 0 (fun t2 a0=>?_);refine rm 1 ?_;refine sq<|sq<|ct (fun(M0:Bool) F w9=>z1a fu O M0=some r∧Ext t2 w9∧St w w9 [Box N0 [sl u0 O.2 v0] 30,ow ty28 u0 O.2 v0]∧F=[(7,.pointer (some ⟨N0,0,none⟩)),(10,iv O.1),(87,.bool M0)]) ?_ ?_
         ·rintro M0 F b4 ⟨hm,J2,e0,rfl⟩;unfold z1a at hm;refine ci hm (fun hm=>?_) (fun hm=>?_)
          ·refine sg<|rm 1 ?_;refine rt ?_;cases hm;exact⟨_,tR rfl,rfl,(e0.t 0)⟩
          ·refine sp<|sg<|rm 1 ?_;refine sg<|lN ((e0.b 0 rfl).box) ?_;refine rr 1 ?_;obtain⟨A3,E1,hm⟩:=bS hm;refine ca zqg (laws_heldNet_ok (Ext.refl _) (z9b (⟨O.2⟩:QV) ((e0.b 1 rfl).own)) E1) (fun N3 c4 b1=>?_);obtain⟨rfl,d1⟩:=b1;have t0:=e0.join d1;refine rm 1 ?_;refine sq<|sg<|rm 2 ?_;refine ci hm (fun hm=>?_) (fun hm=>?_)
           ·refine sg<|rm 1 ?_;refine rt ?_;cases hm;exact⟨_,tR rfl,rfl,(t0.t 0)⟩
           ·refine sp<|sq<|sg<|rm 3 ?_;refine ci hm (fun hm=>?_) (fun hm=>?_)
            ·refine sg<|rm 1 ?_;refine rt ?_;cases hm;exact⟨_,tR rfl,rfl,(t0.t 0)⟩
            ·refine sp<|sg<|rm 1 ?_;refine rt ?_;cases hm;exact⟨_,tR rfl,rfl,(t0.t 0)⟩
         ·refine rg<|lN ((a0.b 0 rfl).box) ?_;refine lN ((a0.b 9 rfl).box) ?_;obtain⟨B3,F1,hm⟩:=bS hm;refine ca zmw (laws_eqNet_ok (Ext.refl _) (z9b J1.1 ((a0.b 1 rfl).own)) (z9b f0.1 ((a0.b 10 rfl).own)) F1) (fun O3 d4 e1=>?_);obtain⟨rfl,j0⟩:=e1;have E0:=a0.join j0;refine rr 2 ?_;refine rb 83 hm (fun hm=>?_) (fun hm=>?_)
          ·refine rm 4 ?_;exact⟨true,_,⟨hm,j0.ext,(((E0.b 8 rfl).b 8 rfl).t 2),rfl⟩,rfl⟩
          ·refine rm 4 ?_;exact⟨(J1.2 != f0.2),_,⟨hm,j0.ext,(((E0.b 8 rfl).b 8 rfl).t 2),rfl⟩,rfl⟩
     ·refine rg<|rr 3 ?_;refine rb 51 hm (fun hm=>?_) (fun hm=>?_)
      ·refine rm 10 ?_;exact⟨true,_,⟨hm,(Ext.refl _),(G.sel [10,11,13,14,15]),rfl⟩,rfl⟩
      ·refine lN ((G.b 10 rfl).box) ?_;refine lN ((G.b 13 rfl).box) ?_;obtain⟨C3,G1,hm⟩:=bS hm;refine ca zmw (laws_eqNet_ok (Ext.refl _) (z9b i0.1 ((G.b 11 rfl).own)) (z9b f0.1 ((G.b 14 rfl).own)) G1) (fun P3 e4 f1=>?_);obtain⟨rfl,k0⟩:=f1;have F0:=G.join k0;refine rr 3 ?_;refine rb 57 hm (fun hm=>?_) (fun hm=>?_)
       ·refine rm 4 ?_;exact⟨true,_,⟨hm,k0.ext,(F0.sel [10,11,13,14,15]),rfl⟩,rfl⟩
       ·refine rm 4 ?_;exact⟨(i0.2 != f0.2),_,⟨hm,k0.ext,(F0.sel [10,11,13,14,15]),rfl⟩,rfl⟩
  ·refine rg<|lN ((X.b 0 rfl).box) ?_;refine lN ((X.b 8 rfl).box) ?_;obtain⟨D3,H1,hm⟩:=bS hm;refine ca zmw (laws_eqNet_ok (Ext.refl _) (z9b i0.1 ((X.b 1 rfl).own)) (z9b f0.1 ((X.b 9 rfl).own)) H1) (fun Q3 f4 g1=>?_);obtain⟨rfl,o0⟩:=g1;have G0:=X.join o0;refine rr 2 ?_;refine rb 36 hm (fun hm=>?_) (fun hm=>?_)
   ·refine rm 4 ?_;exact⟨true,_,⟨hm,o0.ext,(G0.sel [0,1,2,3,4,5,6,7,8,9,15]),rfl⟩,rfl⟩
   ·refine rm 4 ?_;exact⟨(i0.2 != f0.2),_,⟨hm,o0.ext,(G0.sel [0,1,2,3,4,5,6,7,8,9,15]),rfl⟩,rfl⟩

end Go.E




