/- Models of functions and proofs that the code runs as they say (written by program). Conditions: the model gives a value. -/
import Derived.Test.YtfndicpnccabkaaGreatFH
import Derived.Test.YtfndicpnccabkaaGreatMapS
import Derived.Test.YtfndicpnccabkaaGreatQB
import Derived.Test.YtfndicpnccabkaaGreatFV
import Derived.Test.YtfndicpnccabkaaGreatMixed
set_option linter.unusedVariables false
set_option linter.unusedSimpArgs false
namespace Go.E
open Go.RowKit Go.Proofs
set_option maxHeartbeats 2000000
set_option maxRecDepth 100000

variable {W:Base}{w:World}
theorem ztJ:EN 185:=en Tryz.func185
def zQ (fu:Nat)(t2:Unit):Option Int:=some (-1)
def zg (fu:Nat)(x0:LB)(x1:Qa→Option Bool)(s1:Int):Option (Rd (Int) (Unit) (Int)):=(if(decide (s1<(x0.length:Int)))=true then((idx x0 s1).bind fun q=>((x1 q).bind fun o=>(if o=true then some (.ret s1) else some (.next (w64 (s1+1)))))) else some (.brk ()))
def zr (fu:Nat)(x0:LB)(x1:Qa→Option Bool):Option (Int):=((iter (zg fu x0 x1) fu 0).bind fun o=>aft o (zQ fu))

theorem z5p (hE:Ext W w){Y:Option Addr}{i0:Nat}{x0:LB}{L0:Nat}{M0:List Value}{x1:Qa→Option Bool}(q0:ty81.ro W [sl Y x0 i0] x0)(j0:Enters Tryz.prog L0∧∀ {w9:World},Ext W w9→∀ {N0:List Value}{z0:Qa}{y9:Bool},z90.ro w9 N0 z0→x1 z0=some y9→CL L0 ⟨[.agg ⟨N0⟩]++M0⟩ w9 (Ret fun v w8=>v=.bool y9∧St w9 w8 [])){fu:Nat}{r:Int}(hm:zr fu x0 x1=some r):
  CL 185 ⟨[sl Y x0 i0,.func (.func L0) #[] ⟨M0⟩]⟩ w (RI w r):=by
 refine into Tryz.func185 19 _ ?_;unfold zr at hm;have hS:=St.start w;refine sg<|rm 1 ?_;refine sq<|sg<|rm 3 ?_;obtain⟨r0,c0,hm⟩:=bS hm;refine ct (fun(t2:Unit) F w9=>r0=.inl t2∧Ext w w9∧St w w9 []∧F=[]) ?_ ?_
 ·rintro t2 F w7 ⟨e0,A0,a0,rfl⟩;subst e0;rw[z8] at hm;unfold zQ at hm;refine sg<|rm 1 ?_;refine rt ?_;cases hm;exact⟨_,tR rfl,rfl,a0⟩
 ·refine bk<|wk [0,1,7,8] ?_;refine it (fun(s1:Int) F w9=>Ext w w9∧St w w9 []∧F=[(0,sl Y x0 i0),(1,.func (.func L0) #[] ⟨M0⟩),(7,iv (x0.length:Int)),(8,iv s1)]) c0 ⟨(Ext.refl _),hS,rfl⟩ ?_;rintro s1 F H0 _ D0 ⟨k0,q,rfl⟩ o O;unfold zg at o;refine sg<|rm 1 ?_;refine sq<|ci o (fun o=>?_) (fun o=>?_)
  ·refine sp<|sq<|bk<|sg<|rm 2 ?_;refine sg<|rr 3 ?_;obtain⟨K0,f0,o⟩:=bS o;refine ix (hE.trans q.ext) q0 f0 (fun E0 p0 b0 X=>?_);obtain⟨t0,B0,u0,C0,o0,v0,y0⟩:=zO X;subst o0;refine lN (ax hE q b0) ?_;obtain⟨F0,g0,o⟩:=bS o;refine ca j0.1 (j0.2 (hE.trans q.ext) (z90.ext (hE.trans q.ext) X) g0) (fun G0 J0 Z=>?_);obtain⟨rfl,G⟩:=Z;have H:=q.join G;refine rn<|ci o (fun o=>?_) (fun o=>?_)
   ·refine sg<|rm 2 ?_;refine rt ?_;cases o;cases O;have hm:some _=some _:=hm;cases hm;exact⟨_,tR rfl,rfl,H⟩
   ·refine sp<|rg<|rm 2 ?_;cases o;exact⟨_,_,rfl,⟨(k0.trans G.ext),H,rfl⟩,rfl⟩
  ·refine xt ?_;cases o;exact⟨_,_,⟨O,k0,q,rfl⟩,rfl⟩

theorem zud:EN 139:=en Tryz.func139
def zh (fu:Nat)(x0:LB)(x1:Qa→Option Bool):Option (Bool):=((zr fu x0 x1).bind fun r1=>some (decide (r1≥0)))

theorem z4x (hE:Ext W w){o:Option Addr}{q:Nat}{x0:LB}{a0:Nat}{c0:List Value}{x1:Qa→Option Bool}(G:ty81.ro W [sl o x0 q] x0)(H:Enters Tryz.prog a0∧∀ {w9:World},Ext W w9→∀ {b0:List Value}{z0:Qa}{y9:Bool},z90.ro w9 b0 z0→x1 z0=some y9→CL a0 ⟨[.agg ⟨b0⟩]++c0⟩ w9 (Ret fun v w8=>v=.bool y9∧St w9 w8 [])){fu:Nat}{r:Bool}(hm:zh fu x0 x1=some r):
  CL 139 ⟨[sl o x0 q,.func (.func a0) #[] ⟨c0⟩]⟩ w (RB w r):=by
 refine into Tryz.func139 9 _ ?_;unfold zh at hm;have hS:=St.start w;refine sg<|rm 1 ?_;refine sg<|rr 2 ?_;obtain⟨r1,Z,hm⟩:=bS hm;refine ca ztJ (z5p (hE.trans hS.ext) G H Z) (fun v3 w4 O=>?_);obtain⟨rfl,X⟩:=O;have Y:=hS.join X;refine rm 2 ?_;refine rt ?_;cases hm;exact⟨_,tR rfl,rfl,Y⟩

theorem zth:EN 228:=en Tryz.func228
def z7K (fu:Nat)(t2:Unit):Option Bool:=some true
def z2i (fu:Nat)(x0:L9)(x1:L9)(s1:Int):Option (Rd (Int) (Unit) (Bool)):=(if(decide (s1<(x0.length:Int)))=true then((idx x0 s1).bind fun o=>((idx x1 s1).bind fun q=>(if(o != q)=true then some (.ret false) else some (.next (w64 (s1+1)))))) else some (.brk ()))
def z1P (fu:Nat)(x0:L9)(x1:L9):Option (Bool):=(if((x0.length:Int) != (x1.length:Int))=true then some false else((iter (z2i fu x0 x1) fu 0).bind fun o=>aft o (z7K fu)))

theorem zc0 (hE:Ext W w){X:Option Addr}{k0:Nat}{x0:L9}{Y:Option Addr}{o0:Nat}{x1:L9}(t0:ty45.ro W [sl X x0 k0] x0)(u0:ty45.ro W [sl Y x1 o0] x1){fu:Nat}{r:Bool}(hm:z1P fu x0 x1=some r):
  CL 228 ⟨[sl X x0 k0,sl Y x1 o0]⟩ w (RB w r):=by
 refine into Tryz.func228 26 _ ?_;unfold z1P at hm;have hS:=St.start w;refine sg<|rm 1 ?_;refine sq<|sg<|rm 5 ?_;refine ci hm (fun hm=>?_) (fun hm=>?_)
 ·refine sg<|rm 1 ?_;refine rt ?_;cases hm;exact⟨_,tR rfl,rfl,hS⟩
 ·refine sp<|sq<|sg<|rm 3 ?_;obtain⟨v0,c0,hm⟩:=bS hm;refine ct (fun(t2:Unit) F w9=>v0=.inl t2∧Ext w w9∧St w w9 []∧F=[]) ?_ ?_
  ·rintro t2 F w7 ⟨e0,y0,Z,rfl⟩;subst e0;rw[z8] at hm;unfold z7K at hm;refine sg<|rm 1 ?_;refine rt ?_;cases hm;exact⟨_,tR rfl,rfl,Z⟩
  ·refine bk<|wk [0,1,12,13] ?_;refine it (fun(s1:Int) F w9=>Ext w w9∧St w w9 []∧F=[(0,sl X x0 k0),(1,sl Y x1 o0),(12,iv (x0.length:Int)),(13,iv s1)]) c0 ⟨(Ext.refl _),hS,rfl⟩ ?_;rintro s1 F D0 _ A0 ⟨p0,q,rfl⟩ o O;unfold z2i at o;refine sg<|rm 1 ?_;refine sq<|ci o (fun o=>?_) (fun o=>?_)
   ·refine sp<|sq<|bk<|sg<|rm 2 ?_;refine sq<|dn 0 mixed 9 [([],511),([],511),([0,1],508),([2],507),([],511),([],511),([4,5],463),([6],447),([3,7],375)] q.ext (fun G=>?_);have H:=q.step (Ext.draw _);refine dr 5 G [0,1,4,5] ?_;obtain⟨E0,i0,o⟩:=bS o;refine dx (hE.trans q.ext) G 2 t0 i0 (fun B0 q0 a0 f0=>?_);cases f0;refine dl G 3 (ax hE q a0) 0 ?_;obtain⟨F0,j0,o⟩:=bS o;refine dx (hE.trans q.ext) G 6 u0 j0 (fun C0 r0 b0 g0=>?_);cases g0;refine dl G 7 (ax hE q b0) 0 ?_;refine dr 0 G [8] ?_;refine dw [0,1,12,13,24] ?_;refine dd G ?_;refine ci o (fun o=>?_) (fun o=>?_)
    ·refine sg<|rm 1 ?_;refine rt ?_;cases o;cases O;have hm:some _=some _:=hm;cases hm;exact⟨_,tR rfl,rfl,H⟩
    ·refine sp<|rg<|rm 2 ?_;cases o;exact⟨_,_,rfl,⟨(p0.trans (Ext.draw _)),H,rfl⟩,rfl⟩
   ·refine xt ?_;cases o;exact⟨_,_,⟨O,p0,q,rfl⟩,rfl⟩

theorem ztg:EN 229:=en Tryz.func229
def z2H (fu:Nat)(t2:Unit):Option Bool:=some true
def zJ (fu:Nat)(x0:LD)(x1:LD)(s1:Int):Option (Rd (Int) (Unit) (Bool)):=(if(decide (s1<(x0.length:Int)))=true then((idx x0 s1).bind fun o=>((idx x1 s1).bind fun q=>(if(!(((o.Qj:Int) == q.Qj) && (((o.Qi:Int) == q.Qi) && (((o.Qo:Int) == q.Qo) && true))))=true then some (.ret false) else some (.next (w64 (s1+1)))))) else some (.brk ()))
def zu (fu:Nat)(x0:LD)(x1:LD):Option (Bool):=(if((x0.length:Int) != (x1.length:Int))=true then some false else((iter (zJ fu x0 x1) fu 0).bind fun o=>aft o (z2H fu)))

theorem z84 (hE:Ext W w){X:Option Addr}{k0:Nat}{x0:LD}{Y:Option Addr}{o0:Nat}{x1:LD}(v0:ty82.ro W [sl X x0 k0] x0)(y0:ty82.ro W [sl Y x1 o0] x1){fu:Nat}{r:Bool}(hm:zu fu x0 x1=some r):
  CL 229 ⟨[sl X x0 k0,sl Y x1 o0]⟩ w (RB w r):=by
 refine into Tryz.func229 26 _ ?_;unfold zu at hm;have hS:=St.start w;refine sg<|rm 1 ?_;refine sq<|sg<|rm 5 ?_;refine ci hm (fun hm=>?_) (fun hm=>?_)
 ·refine sg<|rm 1 ?_;refine rt ?_;cases hm;exact⟨_,tR rfl,rfl,hS⟩
 ·refine sp<|sq<|sg<|rm 3 ?_;obtain⟨A0,c0,hm⟩:=bS hm;refine ct (fun(t2:Unit) F w9=>A0=.inl t2∧Ext w w9∧St w w9 []∧F=[]) ?_ ?_
  ·rintro t2 F w7 ⟨e0,B0,Z,rfl⟩;subst e0;rw[z8] at hm;unfold z2H at hm;refine sg<|rm 1 ?_;refine rt ?_;cases hm;exact⟨_,tR rfl,rfl,Z⟩
  ·refine bk<|wk [0,1,12,13] ?_;refine it (fun(s1:Int) F w9=>Ext w w9∧St w w9 []∧F=[(0,sl X x0 k0),(1,sl Y x1 o0),(12,iv (x0.length:Int)),(13,iv s1)]) c0 ⟨(Ext.refl _),hS,rfl⟩ ?_;rintro s1 F F0 _ C0 ⟨p0,q,rfl⟩ o O;unfold zJ at o;refine sg<|rm 1 ?_;refine sq<|ci o (fun o=>?_) (fun o=>?_)
   ·refine sp<|sq<|bk<|sg<|rm 2 ?_;refine sq<|dn 0 mixed 9 [([],511),([],511),([0,1],508),([2],507),([],511),([],511),([4,5],463),([6],447),([3,7],375)] q.ext (fun G=>?_);have H:=q.step (Ext.draw _);refine dr 5 G [0,1,4,5] ?_;obtain⟨G0,i0,o⟩:=bS o;refine dx (hE.trans q.ext) G 2 v0 i0 (fun D0 t0 a0 f0=>?_);have q0:=z1f f0;subst q0;refine dL G 3 (ax hE q a0) ?_;obtain⟨H0,j0,o⟩:=bS o;refine dx (hE.trans q.ext) G 6 y0 j0 (fun E0 u0 b0 g0=>?_);have r0:=z1f g0;subst r0;refine dL G 7 (ax hE q b0) ?_;refine dr 0 G [8] ?_;refine dw [0,1,12,13,24] ?_;refine dd G ?_;refine ci o (fun o=>?_) (fun o=>?_)
    ·refine sg<|rm 1 ?_;refine rt ?_;cases o;cases O;have hm:some _=some _:=hm;cases hm;exact⟨_,tR rfl,rfl,H⟩
    ·refine sp<|rg<|rm 2 ?_;cases o;exact⟨_,_,rfl,⟨(p0.trans (Ext.draw _)),H,rfl⟩,rfl⟩
   ·refine xt ?_;cases o;exact⟨_,_,⟨O,p0,q,rfl⟩,rfl⟩

theorem zo5:EN 186:=en Tryz.func186
def z1T (fu:Nat)(x0:Qa)(x1:Qa):Option (Bool):=(if(x0.Qi == x1.Qi)=true then(if(x0.QC == x1.QC)=true then(if(x0.Value == x1.Value)=true then((z1P fu x0.Data x1.Data).bind fun o=>(if o=true then((zu fu x0.QM x1.QM).bind fun q=>some q) else some false)) else some false) else some false) else some false)

theorem zbj (hE:Ext W w){c0:List Value}{x0:Qa}{e0:List Value}{x1:Qa}(g0:z90.ro W c0 x0)(k0:z90.ro W e0 x1){fu:Nat}{r:Bool}(hm:z1T fu x0 x1=some r):
  CL 186 ⟨[.agg ⟨c0⟩,.agg ⟨e0⟩]⟩ w (RB w r):=by
 obtain⟨A1,k2,A4,k5,e7,h3,h6⟩:=zO g0;subst e7;obtain⟨o0,v0,p0,y0,f0,i0,j0⟩:=zO k0;subst f0;refine into Tryz.func186 38 _ ?_;unfold z1T at hm;have hS:=St.start w;refine sg<|nw hS (fun t0 E0 q0 Y=>?_);refine nw Y (fun u0 F0 r0 o=>?_);refine rm 1 ?_;refine sg<|rr 1 ?_;refine l1 ((o.b 1 rfl).box) 0 ?_;refine rr 1 ?_;refine l1 ((o.b 0 rfl).box) 0 ?_;refine rr 2 ?_;refine rb 10 hm (fun hm=>?_) (fun hm=>?_)
 ·refine rr 1 ?_;refine l1 ((o.b 1 rfl).box) 1 ?_;refine rr 1 ?_;refine l1 ((o.b 0 rfl).box) 1 ?_;refine rr 3 ?_;refine rb 17 hm (fun hm=>?_) (fun hm=>?_)
  ·refine rr 1 ?_;refine l1 ((o.b 1 rfl).box) 2 ?_;refine rr 1 ?_;refine l1 ((o.b 0 rfl).box) 2 ?_;refine rr 3 ?_;refine rb 24 hm (fun hm=>?_) (fun hm=>?_)
   ·refine rr 1 ?_;refine l1 ((o.b 1 rfl).box) 3 ?_;refine rr 1 ?_;refine l1 ((o.b 0 rfl).box) 3 ?_;obtain⟨A0,a0,hm⟩:=bS hm;refine ca zth (zc0 (hE.trans o.ext) h3 i0 a0) (fun C0 G0 G=>?_);obtain⟨rfl,H⟩:=G;have q:=o.join H;refine rr 2 ?_;refine rb 31 hm (fun hm=>?_) (fun hm=>?_)
    ·refine rr 1 ?_;refine l1 ((q.b 1 rfl).box) 4 ?_;refine rr 1 ?_;refine l1 ((q.b 0 rfl).box) 4 ?_;obtain⟨B0,b0,hm⟩:=bS hm;refine ca ztg (z84 (hE.trans q.ext) h6 j0 b0) (fun D0 H0 O=>?_);obtain⟨rfl,X⟩:=O;have Z:=q.join X;refine rm 2 ?_;refine rt ?_;cases hm;exact⟨_,tR rfl,rfl,(Z.t 0)⟩
    ·refine rm 7 ?_;refine rt ?_;cases hm;exact⟨_,tR rfl,rfl,(q.t 0)⟩
   ·refine rm 14 ?_;refine rt ?_;cases hm;exact⟨_,tR rfl,rfl,(o.t 0)⟩
  ·refine rm 21 ?_;refine rt ?_;cases hm;exact⟨_,tR rfl,rfl,(o.t 0)⟩
 ·refine rm 28 ?_;refine rt ?_;cases hm;exact⟨_,tR rfl,rfl,(o.t 0)⟩

theorem zoc:EN 141:=en Tryz.func141
def z2q (fu:Nat)(x0:Qa):Option (Bool):=(if(x0.Qi == 0)=true then((z1T fu x0 (⟨0,0,0,[],[]⟩:Qa)).bind fun o=>some o) else(if(x0.Qi != 1)=true then((z4A fu x0).bind fun q=>((z3h fu q).bind fun G=>some G)) else some false))

theorem zaQ (hE:Ext W w){i0:List Value}{x0:Qa}(G:z90.ro W i0 x0){fu:Nat}{r:Bool}(hm:z2q fu x0=some r):
  CL 141 ⟨[.agg ⟨i0⟩]⟩ w (RB w r):=by
 obtain⟨A1,k2,A4,k5,e7,h3,h6⟩:=zO G;subst e7;refine into Tryz.func141 17 _ ?_;unfold z2q at hm;have hS:=St.start w;refine sg<|nw hS (fun q0 C0 p0 o=>?_);refine rm 1 ?_;refine sq<|sg<|rr 1 ?_;refine l1 ((o.b 0 rfl).box) 0 ?_;refine rm 1 ?_;refine ci hm (fun hm=>?_) (fun hm=>?_)
 ·refine sg<|lN ((o.b 0 rfl).box) ?_;refine qt (qb) ?_;obtain⟨u0,e0,hm⟩:=bS hm;refine ca zo5 (zbj (hE.trans o.ext) G (z6y (⟨0,0,0,[],[]⟩:Qa) (zp1 z2z 2 _) (zp1 ty34 34 _)) e0) (fun y0 D0 H=>?_);obtain⟨rfl,O⟩:=H;have b0:=o.join O;refine rm 1 ?_;refine rt ?_;cases hm;exact⟨_,tR rfl,rfl,(b0.t 0)⟩
 ·refine sp<|sg<|rr 1 ?_;refine l1 ((o.b 0 rfl).box) 0 ?_;refine rr 2 ?_;refine rb 12 hm (fun hm=>?_) (fun hm=>?_)
  ·refine lN ((o.b 0 rfl).box) ?_;obtain⟨j0,f0,hm⟩:=bS hm;refine ca zqb (zcQ (hE.trans o.ext) G f0) (fun A0 E0 X=>?_);obtain⟨k0,r0,o0,t0,rfl,Y⟩:=X;have q:=o.join Y;obtain⟨v0,g0,hm⟩:=bS hm;refine ca ztK (zgc (Ext.refl _) (zkp j0 ((q.b 0 rfl).own) ((q.b 1 rfl).own)) g0) (fun B0 F0 Z=>?_);obtain⟨rfl,a0⟩:=Z;have c0:=q.join a0;refine rm 2 ?_;refine rt ?_;cases hm;exact⟨_,tR rfl,rfl,(c0.t 0)⟩
  ·refine rm 5 ?_;refine rt ?_;cases hm;exact⟨_,tR rfl,rfl,(o.t 0)⟩

theorem zuc:EN 140:=en Tryz.func140
def z6u (fu:Nat)(x0:Qa):Option (Bool):=((z2q fu x0).bind fun o=>some (!o))

theorem zeC (hE:Ext W w){X:List Value}{x0:Qa}(Y:z90.ro W X x0){fu:Nat}{r:Bool}(hm:z6u fu x0=some r):
  CL 140 ⟨[.agg ⟨X⟩]⟩ w (RB w r):=by
 obtain⟨A1,k2,A4,k5,e7,h3,h6⟩:=zO Y;subst e7;refine into Tryz.func140 6 _ ?_;unfold z6u at hm;have hS:=St.start w;refine sg<|nw hS (fun a0 e0 Z o=>?_);refine rm 1 ?_;refine sg<|lN ((o.b 0 rfl).box) ?_;obtain⟨b0,O,hm⟩:=bS hm;refine ca zoc (zaQ (hE.trans o.ext) Y O) (fun c0 f0 q=>?_);obtain⟨rfl,G⟩:=q;have H:=o.join G;refine rm 2 ?_;refine rt ?_;cases hm;exact⟨_,tR rfl,rfl,(H.t 0)⟩

theorem ztH:EN 187:=en Tryz.func187
def zX (fu:Nat)(t2:Unit):Option Int:=some (-1)
def zi (fu:Nat)(x0:LH)(x1:Qn→Option Bool)(s1:Int):Option (Rd (Int) (Unit) (Int)):=(if(decide (s1<(x0.length:Int)))=true then((idx x0 s1).bind fun q=>((x1 q).bind fun o=>(if o=true then some (.ret s1) else some (.next (w64 (s1+1)))))) else some (.brk ()))
def zA (fu:Nat)(x0:LH)(x1:Qn→Option Bool):Option (Int):=((iter (zi fu x0 x1) fu 0).bind fun o=>aft o (zX fu))

theorem z6b (hE:Ext W w){Y:Option Addr}{i0:Nat}{x0:LH}{E0:Nat}{F0:List Value}{x1:Qn→Option Bool}(q0:zcu.ro W [sl Y x0 i0] x0)(j0:Enters Tryz.prog E0∧∀ {w9:World},Ext W w9→∀ {G0:List Value}{z0:Qn}{y9:Bool},ze7.ro w9 G0 z0→x1 z0=some y9→CL E0 ⟨[.agg ⟨G0⟩]++F0⟩ w9 (Ret fun v w8=>v=.bool y9∧St w9 w8 [])){fu:Nat}{r:Int}(hm:zA fu x0 x1=some r):
  CL 187 ⟨[sl Y x0 i0,.func (.func E0) #[] ⟨F0⟩]⟩ w (RI w r):=by
 refine into Tryz.func187 19 _ ?_;unfold zA at hm;have hS:=St.start w;refine sg<|rm 1 ?_;refine sq<|sg<|rm 3 ?_;obtain⟨r0,c0,hm⟩:=bS hm;refine ct (fun(t2:Unit) F w9=>r0=.inl t2∧Ext w w9∧St w w9 []∧F=[]) ?_ ?_
 ·rintro t2 F w7 ⟨e0,t0,a0,rfl⟩;subst e0;rw[z8] at hm;unfold zX at hm;refine sg<|rm 1 ?_;refine rt ?_;cases hm;exact⟨_,tR rfl,rfl,a0⟩
 ·refine bk<|wk [0,1,7,8] ?_;refine it (fun(s1:Int) F w9=>Ext w w9∧St w w9 []∧F=[(0,sl Y x0 i0),(1,.func (.func E0) #[] ⟨F0⟩),(7,iv (x0.length:Int)),(8,iv s1)]) c0 ⟨(Ext.refl _),hS,rfl⟩ ?_;rintro s1 F B0 _ u0 ⟨k0,q,rfl⟩ o O;unfold zi at o;refine sg<|rm 1 ?_;refine sq<|ci o (fun o=>?_) (fun o=>?_)
  ·refine sp<|sq<|bk<|sg<|rm 2 ?_;refine sg<|rr 3 ?_;obtain⟨D0,f0,o⟩:=bS o;refine ix (hE.trans q.ext) q0 f0 (fun v0 p0 b0 X=>?_);have o0:=z3d X;subst o0;refine lN (ax hE q b0) ?_;obtain⟨y0,g0,o⟩:=bS o;refine ca j0.1 (j0.2 (hE.trans q.ext) (ze7.ext (hE.trans q.ext) X) g0) (fun A0 C0 Z=>?_);obtain⟨rfl,G⟩:=Z;have H:=q.join G;refine rn<|ci o (fun o=>?_) (fun o=>?_)
   ·refine sg<|rm 2 ?_;refine rt ?_;cases o;cases O;have hm:some _=some _:=hm;cases hm;exact⟨_,tR rfl,rfl,H⟩
   ·refine sp<|rg<|rm 2 ?_;cases o;exact⟨_,_,rfl,⟨(k0.trans G.ext),H,rfl⟩,rfl⟩
  ·refine xt ?_;cases o;exact⟨_,_,⟨O,k0,q,rfl⟩,rfl⟩

theorem zub:EN 142:=en Tryz.func142
def zj (fu:Nat)(x0:LH)(x1:Qn→Option Bool):Option (Bool):=((zA fu x0 x1).bind fun r1=>some (decide (r1≥0)))

theorem z5k (hE:Ext W w){o:Option Addr}{q:Nat}{x0:LH}{a0:Nat}{c0:List Value}{x1:Qn→Option Bool}(G:zcu.ro W [sl o x0 q] x0)(H:Enters Tryz.prog a0∧∀ {w9:World},Ext W w9→∀ {b0:List Value}{z0:Qn}{y9:Bool},ze7.ro w9 b0 z0→x1 z0=some y9→CL a0 ⟨[.agg ⟨b0⟩]++c0⟩ w9 (Ret fun v w8=>v=.bool y9∧St w9 w8 [])){fu:Nat}{r:Bool}(hm:zj fu x0 x1=some r):
  CL 142 ⟨[sl o x0 q,.func (.func a0) #[] ⟨c0⟩]⟩ w (RB w r):=by
 refine into Tryz.func142 9 _ ?_;unfold zj at hm;have hS:=St.start w;refine sg<|rm 1 ?_;refine sg<|rr 2 ?_;obtain⟨r1,Z,hm⟩:=bS hm;refine ca ztH (z6b (hE.trans hS.ext) G H Z) (fun v3 w4 O=>?_);obtain⟨rfl,X⟩:=O;have Y:=hS.join X;refine rm 2 ?_;refine rt ?_;cases hm;exact⟨_,tR rfl,rfl,Y⟩

theorem zu9:EN 144:=en Tryz.func144
def z6v (fu:Nat)(x0:Qn):Option (Bool):=(if x0.QZ=true then some true else(if(!x0.Qa0)=true then some (((x0.QU.Qj:Int) == 0) && (((x0.QU.Qi:Int) == 0) && (((x0.QU.Qo:Int) == 0) && true))) else some false))

theorem zeD (hE:Ext W w){q:List Value}{x0:Qn}(G:ze7.ro W q x0){fu:Nat}{r:Bool}(hm:z6v fu x0=some r):
  CL 144 ⟨[.agg ⟨q⟩]⟩ w (RB w r):=by
 have e1:=z3d G;subst e1;refine into Tryz.func144 16 _ ?_;unfold z6v at hm;have hS:=St.start w;refine sg<|nw hS (fun g2 w3 e4 o=>?_);refine rm 1 ?_;refine sg<|rr 1 ?_;refine l1 ((o.b 0 rfl).box) 0 ?_;refine rr 1 ?_;refine rb 5 hm (fun hm=>?_) (fun hm=>?_)
 ·refine rm 11 ?_;refine rt ?_;cases hm;exact⟨_,tR rfl,rfl,(o.t 0)⟩
 ·refine rr 1 ?_;refine l1 ((o.b 0 rfl).box) 1 ?_;refine rr 2 ?_;refine rb 9 hm (fun hm=>?_) (fun hm=>?_)
  ·refine rr 1 ?_;refine lN (At.sub ((o.b 0 rfl).box) 2 3) ?_;refine qt (qb) ?_;refine rm 4 ?_;refine rt ?_;cases hm;exact⟨_,tR rfl,rfl,(o.t 0)⟩
  ·refine rm 7 ?_;refine rt ?_;cases hm;exact⟨_,tR rfl,rfl,(o.t 0)⟩

theorem zua:EN 143:=en Tryz.func143
def z4p (fu:Nat)(x0:Qn):Option (Bool):=((z6v fu x0).bind fun r6=>(if(!r6)=true then some true else(if(!x0.Qa0)=true then some (!(((x0.QU.Qj:Int) == 0) && (((x0.QU.Qi:Int) == 0) && (((x0.QU.Qo:Int) == 0) && true)))) else some false)))

theorem zeB (hE:Ext W w){O:List Value}{x0:Qn}(X:ze7.ro W O x0){fu:Nat}{r:Bool}(hm:z4p fu x0=some r):
  CL 143 ⟨[.agg ⟨O⟩]⟩ w (RB w r):=by
 have e1:=z3d X;subst e1;refine into Tryz.func143 17 _ ?_;unfold z4p at hm;have hS:=St.start w;refine sg<|nw hS (fun g2 w3 e4 H=>?_);refine rm 1 ?_;refine sg<|lN ((H.b 0 rfl).box) ?_;obtain⟨r6,Y,hm⟩:=bS hm;refine ca zu9 (zeD (hE.trans H.ext) X Y) (fun Z a0 q=>?_);obtain⟨rfl,G⟩:=q;have o:=H.join G;refine rr 2 ?_;refine rb 6 hm (fun hm=>?_) (fun hm=>?_)
 ·refine rm 11 ?_;refine rt ?_;cases hm;exact⟨_,tR rfl,rfl,(o.t 0)⟩
 ·refine rr 1 ?_;refine l1 ((o.b 0 rfl).box) 1 ?_;refine rr 2 ?_;refine rb 10 hm (fun hm=>?_) (fun hm=>?_)
  ·refine rr 1 ?_;refine lN (At.sub ((o.b 0 rfl).box) 2 3) ?_;refine qt (qb) ?_;refine rm 4 ?_;refine rt ?_;cases hm;exact⟨_,tR rfl,rfl,(o.t 0)⟩
  ·refine rm 7 ?_;refine rt ?_;cases hm;exact⟨_,tR rfl,rfl,(o.t 0)⟩

theorem zwa:EN 78:=en Tryz.func78
def z2P (fu:Nat)(x0:Qp)(G:Bool):Option Bool:=(if G=true then some false else((zh fu x0.Cells (fun y0=>z6u fu y0)).bind fun o=>(if(!o)=true then((zj fu x0.QJ (fun y0=>z4p fu y0)).bind fun q=>some (!q)) else some false)))
def z74 (fu:Nat)(x0:Qp):Option (Bool):=(if(decide ((x0.Cells.length:Int)>400))=true then z2P fu x0 true else(if(decide ((x0.QJ.length:Int)>400))=true then z2P fu x0 true else z2P fu x0 (decide ((x0.Qs.length:Int)>400))))

theorem zgd (hE:Ext W w){g0:List Value}{x0:Qp}(k0:zed.ro W g0 x0){fu:Nat}{r:Bool}(hm:z74 fu x0=some r):
  CL 78 ⟨[.agg ⟨g0⟩]⟩ w (RB w r):=by
 obtain⟨A1,k2,A4,k5,A7,p0,j0,h3,h6,t0⟩:=z1J k0;subst j0;refine into Tryz.func78 29 _ ?_;unfold z74 at hm;have hS:=St.start w;refine sg<|nw hS (fun i0 q0 r0 o=>?_);refine rm 1 ?_;refine sq<|sq<|ct (fun(f0:Bool) F w9=>z2P fu x0 f0=some r∧Ext q0 w9∧St w w9 [Box i0 [sl A1 x0.Cells k2,sl A4 x0.QJ k5,sl A7 x0.Qs p0] 123]∧F=[(1,.pointer (some ⟨i0,0,none⟩)),(18,.bool f0)]) ?_ ?_
 ·rintro f0 F B0 ⟨hm,o0,q,rfl⟩;unfold z2P at hm;refine ci hm (fun hm=>?_) (fun hm=>?_)
  ·refine sg<|rm 1 ?_;refine rt ?_;cases hm;exact⟨_,tR rfl,rfl,(q.t 0)⟩
  ·refine sp<|sg<|rr 1 ?_;refine l1 ((q.b 0 rfl).box) 0 ?_;obtain⟨u0,b0,hm⟩:=bS hm;refine ca zud (z4x (hE.trans q.ext) h3 ⟨zuc,fun e9=>(fun H e0=>zeC (Ext.refl _) H e0)⟩ b0) (fun y0 C0 O=>?_);obtain⟨rfl,X⟩:=O;have G:=q.join X;refine rr 2 ?_;refine rb 23 hm (fun hm=>?_) (fun hm=>?_)
   ·refine rr 1 ?_;refine l1 ((G.b 0 rfl).box) 1 ?_;obtain⟨v0,c0,hm⟩:=bS hm;refine ca zub (z5k (hE.trans G.ext) h6 ⟨zua,fun e9=>(fun H e0=>zeB (Ext.refl _) H e0)⟩ c0) (fun A0 D0 Y=>?_);obtain⟨rfl,Z⟩:=Y;have a0:=G.join Z;refine rm 3 ?_;refine rt ?_;cases hm;exact⟨_,tR rfl,rfl,(a0.t 0)⟩
   ·refine rm 6 ?_;refine rt ?_;cases hm;exact⟨_,tR rfl,rfl,(G.t 0)⟩
 ·refine rg<|rr 1 ?_;refine l1 ((o.b 0 rfl).box) 0 ?_;refine rr 3 ?_;refine rb 7 hm (fun hm=>?_) (fun hm=>?_)
  ·refine rm 11 ?_;exact⟨true,_,⟨hm,(Ext.refl _),o,rfl⟩,rfl⟩
  ·refine rr 1 ?_;refine l1 ((o.b 0 rfl).box) 1 ?_;refine rr 4 ?_;refine rb 13 hm (fun hm=>?_) (fun hm=>?_)
   ·refine rm 5 ?_;exact⟨true,_,⟨hm,(Ext.refl _),o,rfl⟩,rfl⟩
   ·refine rr 1 ?_;refine l1 ((o.b 0 rfl).box) 2 ?_;refine rm 3 ?_;exact⟨decide ((x0.Qs.length:Int)>400),_,⟨hm,(Ext.refl _),o,rfl⟩,rfl⟩

theorem zu0:EN 159:=en Tryz.func159
def z3X (fu:Nat)(x0:Qp):Option (Bool):=((z74 fu x0).bind fun o=>some (!o))

theorem zd0 (hE:Ext W w){X:List Value}{x0:Qp}(Y:zed.ro W X x0){fu:Nat}{r:Bool}(hm:z3X fu x0=some r):
  CL 159 ⟨[.agg ⟨X⟩]⟩ w (RB w r):=by
 obtain⟨A1,k2,A4,k5,A7,e0,Z,h3,h6,c0⟩:=z1J Y;subst Z;refine into Tryz.func159 6 _ ?_;unfold z3X at hm;have hS:=St.start w;refine sg<|nw hS (fun b0 i0 a0 o=>?_);refine rm 1 ?_;refine sg<|lN ((o.b 0 rfl).box) ?_;obtain⟨f0,O,hm⟩:=bS hm;refine ca zwa (zgd (hE.trans o.ext) Y O) (fun g0 j0 q=>?_);obtain⟨rfl,G⟩:=q;have H:=o.join G;refine rm 2 ?_;refine rt ?_;cases hm;exact⟨_,tR rfl,rfl,(H.t 0)⟩

theorem zoh:EN 102:=en Tryz.func102
def zap (fu:Nat)(t7:LC):Option LC:=some t7
def z12 (fu:Nat)(x0:Qb)(x1:LD)(s6:LC×Int):Option (Rd (LC×Int) LC LC):=(if(decide (s6.2<(x1.length:Int)))=true then((idx x1 s6.2).bind fun q=>((z47 fu x0 (w64 (s6.2+1))).bind fun o=>(if decide ((s6.1.length:Int)+(([(⟨o,(⟨q,0,false⟩:QH)⟩:D.Qc)]:LC).length:Int)≤4294967296)=true then some (.next ((s6.1++([(⟨o,(⟨q,0,false⟩:QH)⟩:D.Qc)]:LC)),w64 (s6.2+1))) else none))) else some (.brk s6.1))
def z1z (fu:Nat)(x0:Qb)(x1:LD):Option LC:=((iter (z12 fu x0 x1) fu ([],0)).bind fun o=>aft o (zap fu))

theorem zbm (hE:Ext W w){J0:List Value}{x0:Qb}{g0:Option Addr}{H0:Nat}{x1:LD}(K0:ty34.ro W J0 x0)(O0:ty82.ro W [sl g0 x1 H0] x1){fu:Nat}{r:LC}(hm:z1z fu x0 x1=some r):
  CL 102 ⟨[.agg ⟨J0⟩,sl g0 x1 H0]⟩ w (Ret fun v w8=>∃ A0 k0,v=sl A0 r k0∧St w w8 [ow ty86 A0 r k0]):=by
 have e1:=z1f K0;subst e1;refine into Tryz.func102 27 _ ?_;unfold z1z at hm;have hS:=St.start w;refine sg<|nw hS (fun g2 w3 e4 P0=>?_);refine rm 1 ?_;refine sg<|rm 1 ?_;refine sq<|sg<|rm 3 ?_;obtain⟨R0,B0,hm⟩:=bS hm;refine ct (fun(t7:LC) F w9=>∃ c0 f0,R0=.inl t7∧St w w9 [ow ty86 c0 t7 f0]∧F=[(5,sl c0 t7 f0)]) ?_ ?_
 ·rintro t7 F d1 ⟨c0,f0,C0,j0,rfl⟩;subst C0;rw[z8] at hm;unfold zap at hm;refine sg<|rm 2 ?_;refine rt ?_;cases hm;exact⟨_,tR rfl,c0,f0,rfl,j0⟩
 ·refine bk ?_;have o0:=P0.nilSl zfK 169;refine wk [2,5,8,9,10] ?_;refine it (fun(s6:LC×Int) F w9=>∃ b0 e0,St w w9 [ow ty86 b0 s6.1 e0,Box g2 [iv x0.Qj,iv x0.Qi,iv x0.Qo] 34]∧F=[(2,.pointer (some ⟨g2,0,none⟩)),(5,sl b0 s6.1 e0),(8,sl g0 x1 H0),(9,iv (x1.length:Int)),(10,iv s6.2)]) B0 ⟨none,0,o0,rfl⟩ ?_;rintro s6 F f1 _ Y0 ⟨b0,e0,H,rfl⟩ q D0;unfold z12 at q;refine sg<|rm 1 ?_;refine sq<|ci q (fun q=>?_) (fun q=>?_)
  ·refine sp<|sq<|bk<|sg<|rr 1 ?_;obtain⟨X,F0,q⟩:=bS q;refine ix (hE.trans H.ext) O0 F0 (fun a1 N0 v0 E0=>?_);have M0:=z1f E0;subst M0;refine lN (ax hE H v0) ?_;refine nw H (fun V0 g1 T0 p0=>?_);refine rr 1 ?_;have q0:=p0.b 0 rfl;refine so (A:=[]) q0 0 (fun i1 O=>?_);refine rn<|dn 512 mixed 11 [([],2047),([],2047),([],2047),([2],2043),([1,3],2037),([],2047),([5],2015),([4,6],1967),([7],1919),([0,8,4],1790),([9,9,0,1,2,3,4,5,6,7,8,9],1534)] O.ext (fun o=>?_);have Z:=O.step (Ext.draw _);refine dr 8 o [0,2,3] ?_;refine dw [2,5,7,8,9,10,15,18] ?_;refine DM.quietS 1936 o 1 rfl ?_ (qN ((O.b 2 rfl).box));refine DM.quietS 1984 o 5 rfl ?_ (qN ((O.b 0 rfl).box));refine dp o 6 rfl (fun _=>qb) ?_;obtain⟨G,G0,q⟩:=bS q;refine o1 o 4 (mc o zgn (zcR (hE.trans Z.ext) K0 G0) (fun b1 j1 i0=>?_));obtain⟨rfl,Y⟩:=i0;refine⟨Y.ext,?_⟩;have r0:=Z.join Y;refine dp o 7 rfl (fun _=>qb) ?_;refine o1 o 8 (mn (r0.flatEls (U:=zfK) (els:=[iv G.at_.Qj,iv G.at_.Qi,iv G.at_.Qo,iv G.slot,.bool G.own,iv X.Qj,iv X.Qi,iv X.Qo,iv 0,.bool false]) (ys:=[(⟨G,(⟨X,0,false⟩:QH)⟩:D.Qc)]) ⟨[iv G.at_.Qj,iv G.at_.Qi,iv G.at_.Qo,iv G.slot,.bool G.own,iv X.Qj,iv X.Qi,iv X.Qo,iv 0,.bool false],_,[],[],rfl,rfl,(zbS (c:=(⟨G,(⟨X,0,false⟩:QH)⟩:D.Qc)) rfl),⟨rfl,rfl⟩⟩) o (fun S0 X0 m1 U0 t0=>?_));have a0:=t0.b 2 rfl;obtain⟨y0,q⟩:=iS q;refine o1 o 9 (mp (Flat.map (Flat.pair (Flat.map (Flat.pair (Flat.map fL0) fL1)) (Flat.pair (Flat.map (Flat.pair (Flat.map fL0) fL1)) Flat.unit))) a0 o ((a0.b 1 rfl).own) y0 (fun L0 Q0 n1 u0=>?_));refine dr 0 o [10] ?_;refine dw [2,5,8,9,10] ?_;refine dd o ?_;refine rg<|rm 2 ?_;cases q;exact⟨_,_,rfl,⟨L0,Q0,(((u0.b 3 rfl).b 1 rfl).t 2),rfl⟩,rfl⟩
  ·refine xt ?_;cases q;exact⟨_,_,⟨b0,e0,D0,(H.t 1),rfl⟩,rfl⟩

theorem zog:EN 103:=en Tryz.func103
def z4z (fu:Nat)(x0:Int)(x1:Int):Option (Qb):=some (⟨x0,2,x1⟩:Qb)

theorem zcP (hE:Ext W w){x0:Int}{x1:Int}  {fu:Nat}{r:Qb}(hm:z4z fu x0 x1=some r):
  CL 103 ⟨[iv x0,iv x1]⟩ w (Ret fun v w8=>v=.agg ⟨[iv r.Qj,iv r.Qi,iv r.Qo]⟩∧St w w8 []):=by
 refine into Tryz.func103 8 _ ?_;unfold z4z at hm;have hS:=St.start w;refine sg<|nw hS (fun g1 w2 e3 q=>?_);refine rn<|sg<|rr 2 ?_;refine qt (qb) ?_;have G:=q.b 0 rfl;refine so (A:=[]) G 0 (fun w6 o=>?_);refine rn<|rt ?_;cases hm;exact⟨_,.cons (ra ((o.b 0 rfl).box)) .nil,rfl,(o.t 0)⟩

theorem zqe:EN 43:=en Tryz.func43
def z9p (fu:Nat)(o:LC):Option LC:=some o
def z9o (fu:Nat)(o:Int×LC)(q:LC):Option (Rd (Int×LC) LC LC):=some (.next (w64 (o.1+1),q))
def z24 (fu:Nat)(q:Int×LC)(o:LC):Option (Rd (Int×LC) LC (Rd (Int×LC) LC LC)):=some (.next (w64 (q.1+1),o))
def z26 (fu:Nat)(O:Int×LC)(H:Qp)(o:Int×LC):Option (Rd (Int×LC) LC (Rd (Int×LC) LC LC)):=(if(decide (o.1<(H.QJ.length:Int)))=true then((idx H.QJ o.1).bind fun q=>(if q.Qa0=true then((z4z fu O.1 o.1).bind fun G=>(if decide ((o.2.length:Int)+(([(⟨(⟨G,0,false⟩:QH),(⟨q.QU,0,false⟩:QH)⟩:D.Qc)]:LC).length:Int)≤4294967296)=true then z24 fu o (o.2++([(⟨(⟨G,0,false⟩:QH),(⟨q.QU,0,false⟩:QH)⟩:D.Qc)]:LC)) else none)) else z24 fu o o.2)) else some (.brk o.2))
def z6e (fu:Nat)(q:Int×LC)(H:Qp)(G:LC):Option (Rd (Int×LC) LC LC):=((iter (z26 fu q H) fu (0,G)).bind fun o=>aft o (z9o fu q))
def z27 (fu:Nat)(G:Qp)(q:Int×LC):Option (Rd (Int×LC) LC (Rd (Int×LC) LC LC)):=(if(decide (q.1<(G.Qs.length:Int)))=true then((idx G.Qs q.1).bind fun o=>(if decide ((q.2.length:Int)+(([(⟨(⟨o.A,0,false⟩:QH),(⟨o.B,0,false⟩:QH)⟩:D.Qc)]:LC).length:Int)≤4294967296)=true then some (.next (w64 (q.1+1),(q.2++([(⟨(⟨o.A,0,false⟩:QH),(⟨o.B,0,false⟩:QH)⟩:D.Qc)]:LC)))) else none)) else some (.brk q.2))
def z6f (fu:Nat)(G:Int×LC)(q:Qp)(H:LC):Option (Rd (Int×LC) LC LC):=((iter (z27 fu q) fu (0,H)).bind fun o=>aft o (z6e fu G q))
def z28 (fu:Nat)(X:Int×LC)(O:Qp)(o:Int×LC):Option (Rd (Int×LC) LC (Rd (Int×LC) LC LC)):=(if(decide (o.1<(O.Cells.length:Int)))=true then((idx O.Cells o.1).bind fun H=>((z1W fu X.1 o.1).bind fun G=>((z1z fu G H.QM).bind fun q=>(if decide ((o.2.length:Int)+(q.length:Int)≤4294967296)=true then some (.next (w64 (o.1+1),(o.2++q))) else none)))) else some (.brk o.2))
def z15 (fu:Nat)(x0:D.Qk)(q:Int×LC):Option (Rd (Int×LC) LC LC):=(if(decide (q.1<(x0.Qf.length:Int)))=true then((idx x0.Qf q.1).bind fun G=>((iter (z28 fu q G) fu (0,q.2)).bind fun o=>aft o (z6f fu q G))) else some (.brk q.2))
def z1X (fu:Nat)(x0:D.Qk):Option LC:=((z47 fu (⟨0,0,0⟩:Qb) 0).bind fun r7=>((iter (z15 fu x0) fu (0,([(⟨r7,(⟨x0.QO,0,false⟩:QH)⟩:D.Qc)]:LC))).bind fun o=>aft o (z9p fu)))

theorem zav (hE:Ext W w){n3:Addr}{f3:List Value}{x0:D.Qk}(H3:ty36.ro W f3 x0)(k3:At W n3 f3){fu:Nat}{r:LC}(hm:z1X fu x0=some r):
  CL 43 ⟨[.pointer (some n3)]⟩ w (Ret fun v w8=>∃ A0 k0,v=sl A0 r k0∧St w w8 [ow ty86 A0 r k0]):=by
 obtain⟨A1,k2,e4,h3⟩:=z4D H3;subst e4;refine into Tryz.func43 90 _ ?_;unfold z1X at hm;have hS:=St.start w;refine sg<|rm 1 ?_;refine sq<|dn 0 mixed 10 [([],1023),([0],1022),([],1023),([2],1019),([3],1015),([4],1007),([5],991),([1,6],957),([7],895),([8,1,0,1,2,3,4,5,6,7,8],767)] hS.ext (fun p0=>?_);have m3:=hS.step (Ext.draw _);refine dr 7 p0 [2,3,4] ?_;refine dp p0 0 rfl (fun _=>qb) ?_;refine dL p0 5 (At.sub (ax hE hS k3) 1 3) ?_;refine dp p0 6 rfl (fun _=>qb) ?_;obtain⟨r7,W2,hm⟩:=bS hm;refine o1 p0 1 (mc p0 zgn (zcR (hE.trans m3.ext) (zM (⟨0,0,0⟩:Qb)) W2) (fun K4 L4 H2=>?_));obtain⟨rfl,T0⟩:=H2;refine⟨T0.ext,?_⟩;have J2:=m3.join T0;refine dp p0 7 rfl (fun _=>qb) ?_;refine o1 p0 8 (mn (J2.flatEls (U:=zfK) (els:=[iv r7.at_.Qj,iv r7.at_.Qi,iv r7.at_.Qo,iv r7.slot,.bool r7.own,iv x0.QO.Qj,iv x0.QO.Qi,iv x0.QO.Qo,iv 0,.bool false]) (ys:=[(⟨r7,(⟨x0.QO,0,false⟩:QH)⟩:D.Qc)]) ⟨[iv r7.at_.Qj,iv r7.at_.Qi,iv r7.at_.Qo,iv r7.slot,.bool r7.own,iv x0.QO.Qj,iv x0.QO.Qi,iv x0.QO.Qo,iv 0,.bool false],_,[],[],rfl,rfl,(zbS (c:=(⟨r7,(⟨x0.QO,0,false⟩:QH)⟩:D.Qc)) rfl),⟨rfl,rfl⟩⟩) p0 (fun p3 O3 M4 F4 n1=>?_));refine dr 0 p0 [9] ?_;refine dw [0,3] ?_;refine dd p0 ?_;refine sq<|sg<|rr 3 ?_;refine l1 (ax hE n1 k3) 0 ?_;refine rm 2 ?_;obtain⟨V3,O2,hm⟩:=bS hm;refine ct (fun(t2:LC) F w9=>∃ d2 m2,V3=.inl t2∧St w w9 [ow ty86 d2 t2 m2]∧F=[(3,sl d2 t2 m2)]) ?_ ?_
 ·rintro t2 F N4 ⟨d2,m2,R2,K2,rfl⟩;subst R2;rw[z8] at hm;unfold z9p at hm;refine sg<|rm 2 ?_;refine rt ?_;cases hm;exact⟨_,tR rfl,d2,m2,rfl,K2⟩
 ·refine bk<|wk [3,24,25,26] ?_;refine it (fun(e0:Int×LC) F w9=>∃ O0 X1,St w w9 [ow ty86 O0 e0.2 X1]∧F=[(3,sl O0 e0.2 X1),(24,sl A1 x0.Qf k2),(25,iv (x0.Qf.length:Int)),(26,iv e0.1)]) O2 ⟨p3,O3,n1,rfl⟩ ?_;rintro e0 F O4 _ H4 ⟨O0,X1,r0,rfl⟩ G S2;unfold z15 at G;refine sg<|rm 1 ?_;refine sq<|ci G (fun G=>?_) (fun G=>?_)
  ·refine sp<|sq<|bk<|sg<|rr 1 ?_;obtain⟨Z,X2,G⟩:=bS G;refine ix (hE.trans r0.ext) h3 X2 (fun J4 D3 N2 V2=>?_);obtain⟨P0,Y1,M0,N0,Q0,a2,C3,K3,L3,M3⟩:=z1J V2;subst C3;refine lN (ax hE r0 N2) ?_;refine nw r0 (fun y0 P4 G4 L2=>?_);refine rr 1 ?_;have M2:=L2.b 0 rfl;refine so (A:=[]) M2 0 (fun Q4 v1=>?_);refine rn<|sq<|sg<|rr 1 ?_;refine l1 ((v1.b 0 rfl).box) 0 ?_;refine rm 2 ?_;obtain⟨W3,P2,G⟩:=bS G;refine ct (fun(u2:LC) F w9=>∃ f2 o2,W3=.inl u2∧St w w9 [Box y0 [sl P0 Z.Cells Y1,sl M0 Z.QJ N0,sl Q0 Z.Qs a2] 123,ow ty86 f2 u2 o2]∧F=[(3,sl f2 u2 o2),(4,iv e0.1),(5,.pointer (some ⟨y0,0,none⟩)),(24,sl A1 x0.Qf k2),(25,iv (x0.Qf.length:Int)),(26,iv e0.1)]) ?_ ?_
   ·rintro u2 F R4 ⟨f2,o2,T2,y1,rfl⟩;subst T2;rw[z8] at G;unfold z6f at G;refine sq<|sg<|rr 1 ?_;refine l1 ((y1.b 0 rfl).box) 2 ?_;refine rm 2 ?_;obtain⟨X3,Q2,G⟩:=bS G;refine ct (fun(v2:LC) F w9=>∃ i2 q2,X3=.inl v2∧St w w9 [Box y0 [sl P0 Z.Cells Y1,sl M0 Z.QJ N0,sl Q0 Z.Qs a2] 123,ow ty86 i2 v2 q2]∧F=[(3,sl i2 v2 q2),(4,iv e0.1),(5,.pointer (some ⟨y0,0,none⟩)),(24,sl A1 x0.Qf k2),(25,iv (x0.Qf.length:Int)),(26,iv e0.1)]) ?_ ?_
    ·rintro v2 F S4 ⟨i2,q2,U2,B1,rfl⟩;subst U2;rw[z8] at G;unfold z6e at G;refine sg<|rr 1 ?_;refine l1 ((B1.b 0 rfl).box) 1 ?_;refine rm 2 ?_;obtain⟨c3,J1,G⟩:=bS G;refine ct (fun(y2:LC) F w9=>∃ j2 t0,c3=.inl y2∧St w w9 [ow ty86 j2 y2 t0]∧F=[(3,sl j2 y2 t0),(24,sl A1 x0.Qf k2),(25,iv (x0.Qf.length:Int)),(26,iv e0.1)]) ?_ ?_
     ·rintro y2 F i4 ⟨j2,t0,K1,X0,rfl⟩;subst K1;rw[z8] at G;unfold z9o at G;refine rg<|rm 2 ?_;cases G;exact⟨_,_,rfl,⟨j2,t0,X0,rfl⟩,rfl⟩
     ·refine bk<|wk [3,4,24,25,26,67,68,69] ?_;refine it (fun(L0:Int×LC) F w9=>∃ R0 b2,St w w9 [ow ty86 R0 L0.2 b2]∧F=[(3,sl R0 L0.2 b2),(4,iv e0.1),(24,sl A1 x0.Qf k2),(25,iv (x0.Qf.length:Int)),(26,iv e0.1),(67,sl M0 Z.QJ N0),(68,iv (Z.QJ.length:Int)),(69,iv L0.1)]) J1 ⟨i2,q2,((B1.b 1 rfl).t 1),rfl⟩ ?_;rintro L0 F j4 _ d3 ⟨R0,b2,f0,rfl⟩ o L1;unfold z26 at o;refine sg<|rm 1 ?_;refine sq<|ci o (fun o=>?_) (fun o=>?_)
      ·refine sp<|sq<|bk<|sg<|rr 1 ?_;obtain⟨b0,R1,o⟩:=bS o;refine ix (hE.trans f0.ext) L3 R1 (fun Y3 g3 C1 O1=>?_);have D2:=z3d O1;subst D2;refine lN (ax hE f0 C1) ?_;refine nw f0 (fun E3 k4 u3 Y0=>?_);refine rr 1 ?_;have a1:=Y0.b 0 rfl;refine so (A:=[]) a1 0 (fun m4 c0=>?_);refine rn<|sg<|rr 1 ?_;refine l1 ((c0.b 0 rfl).box) 1 ?_;refine rn<|ct (fun(v0:LC) F w9=>∃ q0 u0,z24 fu L0 v0=some d3∧St w w9 [ow ty86 q0 v0 u0]∧F=[(3,sl q0 v0 u0),(4,iv e0.1),(24,sl A1 x0.Qf k2),(25,iv (x0.Qf.length:Int)),(26,iv e0.1),(67,sl M0 Z.QJ N0),(68,iv (Z.QJ.length:Int)),(69,iv L0.1)]) ?_ ?_
       ·rintro v0 F n4 ⟨q0,u0,o,b1,rfl⟩;unfold z24 at o;refine rg<|rm 2 ?_;cases o;exact⟨_,_,rfl,⟨q0,u0,b1,rfl⟩,rfl⟩
       ·refine ci o (fun o=>?_) (fun o=>?_)
        ·refine dn 1024 mixed 12 [([],4095),([],4095),([],4095),([1,2],4089),([3],4087),([],4095),([5],4063),([6],4031),([4,7],3951),([8],3839),([0,9,3],3582),([10,10,0,1,2,3,4,5,6,7,8,9,10],3070)] c0.ext (fun H=>?_);have E0:=c0.step (Ext.draw _);refine dr 8 H [0,1,2,5] ?_;refine dw [3,4,24,25,26,67,68,69,76,77,78,81] ?_;refine DM.quietS 3968 H 6 rfl ?_ (qN (At.sub ((c0.b 0 rfl).box) 2 3));refine dp H 7 rfl (fun _=>qb) ?_;obtain⟨a0,S1,o⟩:=bS o;refine o1 H 3 (mc H zog (zcP (hE.trans E0.ext)  S1) (fun d4 o4 S0=>?_));obtain⟨rfl,B0⟩:=S0;refine⟨B0.ext,?_⟩;have d1:=E0.join B0;refine dp H 4 rfl (fun _=>qb) ?_;refine dp H 8 rfl (fun _=>qb) ?_;refine o1 H 9 (mn (d1.flatEls (U:=zfK) (els:=[iv a0.Qj,iv a0.Qi,iv a0.Qo,iv 0,.bool false,iv b0.QU.Qj,iv b0.QU.Qi,iv b0.QU.Qo,iv 0,.bool false]) (ys:=[(⟨(⟨a0,0,false⟩:QH),(⟨b0.QU,0,false⟩:QH)⟩:D.Qc)]) ⟨[iv a0.Qj,iv a0.Qi,iv a0.Qo,iv 0,.bool false,iv b0.QU.Qj,iv b0.QU.Qi,iv b0.QU.Qo,iv 0,.bool false],_,[],[],rfl,rfl,(zbS (c:=(⟨(⟨a0,0,false⟩:QH),(⟨b0.QU,0,false⟩:QH)⟩:D.Qc)) rfl),⟨rfl,rfl⟩⟩) H (fun o3 N3 p4 v3 e1=>?_));have F0:=e1.b 2 rfl;obtain⟨F1,o⟩:=iS o;refine o1 H 10 (mp (Flat.map (Flat.pair (Flat.map (Flat.pair (Flat.map fL0) fL1)) (Flat.pair (Flat.map (Flat.pair (Flat.map fL0) fL1)) Flat.unit))) F0 H ((F0.b 1 rfl).own) F1 (fun A2 Y2 q4 f1=>?_));refine dr 0 H [11] ?_;refine dw [3,4,24,25,26,67,68,69] ?_;refine dd H ?_;exact⟨(L0.2++([(⟨(⟨a0,0,false⟩:QH),(⟨b0.QU,0,false⟩:QH)⟩:D.Qc)]:LC)),_,⟨A2,Y2,o,(f1.t 1),rfl⟩,rfl⟩
        ·refine sp ?_;exact⟨L0.2,_,⟨R0,b2,o,((c0.b 1 rfl).t 1),rfl⟩,rfl⟩
      ·refine xt ?_;cases o;exact⟨_,_,⟨R0,b2,L1,f0,rfl⟩,rfl⟩
    ·refine bk<|wk [3,4,5,24,25,26,49,50,51] ?_;refine it (fun(s2:Int×LC) F w9=>∃ g2 p2,St w w9 [Box y0 [sl P0 Z.Cells Y1,sl M0 Z.QJ N0,sl Q0 Z.Qs a2] 123,ow ty86 g2 s2.2 p2]∧F=[(3,sl g2 s2.2 p2),(4,iv e0.1),(5,.pointer (some ⟨y0,0,none⟩)),(24,sl A1 x0.Qf k2),(25,iv (x0.Qf.length:Int)),(26,iv e0.1),(49,sl Q0 Z.Qs a2),(50,iv (Z.Qs.length:Int)),(51,iv s2.1)]) Q2 ⟨f2,o2,y1,rfl⟩ ?_;rintro s2 F r4 _ T3 ⟨g2,p2,g0,rfl⟩ X M1;unfold z27 at X;refine sg<|rm 1 ?_;refine sq<|ci X (fun X=>?_) (fun X=>?_)
     ·refine sp<|sq<|bk<|sq<|rg ?_;obtain⟨O,T1,X⟩:=bS X;refine ix (hE.trans g0.ext) M3 T1 (fun a4 i3 D1 P1=>?_);have E2:=zaS P1;subst E2;refine lN (ax hE g0 D1) ?_;refine nw g0 (fun F3 s4 y3 g1=>?_);have i1:=g1.b 0 rfl;refine so (A:=[]) i1 0 (fun t4 j0=>?_);refine rn<|rg<|rr 2 ?_;refine lN (At.sub ((j0.b 0 rfl).box) 0 3) ?_;refine qt (qb) ?_;refine rr 1 ?_;refine lN (At.sub ((j0.b 0 rfl).box) 3 3) ?_;refine qt (qb) ?_;refine qt (qb) ?_;refine ns (j0.flatEls (U:=zfK) (els:=[iv O.A.Qj,iv O.A.Qi,iv O.A.Qo,iv 0,.bool false,iv O.B.Qj,iv O.B.Qi,iv O.B.Qo,iv 0,.bool false]) (ys:=[(⟨(⟨O.A,0,false⟩:QH),(⟨O.B,0,false⟩:QH)⟩:D.Qc)]) ⟨[iv O.A.Qj,iv O.A.Qi,iv O.A.Qo,iv 0,.bool false,iv O.B.Qj,iv O.B.Qi,iv O.B.Qo,iv 0,.bool false],_,[],[],rfl,rfl,(zbS (c:=(⟨(⟨O.A,0,false⟩:QH),(⟨O.B,0,false⟩:QH)⟩:D.Qc)) rfl),⟨rfl,rfl⟩⟩) (fun q3 P3 u4 A3 j1=>?_);have G0:=j1.b 3 rfl;obtain⟨G1,X⟩:=iS X;refine ap (Flat.map (Flat.pair (Flat.map (Flat.pair (Flat.map fL0) fL1)) (Flat.pair (Flat.map (Flat.pair (Flat.map fL0) fL1)) Flat.unit))) G0 ((G0.b 1 rfl).own) G1 (fun B2 a3 v4 m1=>?_);refine rm 1 ?_;refine rg<|rm 2 ?_;cases X;exact⟨_,_,rfl,⟨B2,a3,(((m1.b 0 rfl).b 3 rfl).t 2),rfl⟩,rfl⟩
     ·refine xt ?_;cases X;exact⟨_,_,⟨g2,p2,M1,g0,rfl⟩,rfl⟩
   ·refine bk<|wk [3,4,5,24,25,26,32,33,34] ?_;refine it (fun(r2:Int×LC) F w9=>∃ e2 n2,St w w9 [Box y0 [sl P0 Z.Cells Y1,sl M0 Z.QJ N0,sl Q0 Z.Qs a2] 123,ow ty86 e2 r2.2 n2]∧F=[(3,sl e2 r2.2 n2),(4,iv e0.1),(5,.pointer (some ⟨y0,0,none⟩)),(24,sl A1 x0.Qf k2),(25,iv (x0.Qf.length:Int)),(26,iv e0.1),(32,sl P0 Z.Cells Y1),(33,iv (Z.Cells.length:Int)),(34,iv r2.1)]) P2 ⟨O0,X1,v1,rfl⟩ ?_;rintro r2 F x4 _ U3 ⟨e2,n2,i0,rfl⟩ q N1;unfold z28 at q;refine sg<|rm 1 ?_;refine sq<|ci q (fun q=>?_) (fun q=>?_)
    ·refine sp<|sq<|bk<|sg<|rr 1 ?_;obtain⟨E4,U1,q⟩:=bS q;refine ix (hE.trans i0.ext) K3 U1 (fun b4 j3 E1 Q1=>?_);obtain⟨r3,Q3,s3,R3,F2,J3,G2⟩:=zO Q1;subst F2;refine lN (ax hE i0 E1) ?_;refine nw i0 (fun G3 y4 B3 p1=>?_);refine rr 1 ?_;have s1:=p1.b 0 rfl;refine so (A:=[]) s1 0 (fun A4 o0=>?_);refine rn<|dn 128 mixed 9 [([],511),([],511),([],511),([1,2],505),([],511),([4],495),([3,5,3],471),([0,6,6],446),([7,7,0,1,2,3,4,5,6,7],382)] o0.ext (fun Y=>?_);have H0:=o0.step (Ext.draw _);refine dr 5 Y [0,1,2,4] ?_;refine dw [3,4,5,24,25,26,32,33,34,39,40,41,43] ?_;refine DM.quietS 448 Y 5 rfl ?_ (q1 ((o0.b 0 rfl).box) 4);obtain⟨e3,V1,q⟩:=bS q;refine o1 Y 3 (mc Y zmv (z9C (hE.trans H0.ext)  V1) (fun f4 B4 U0=>?_));obtain⟨rfl,C0⟩:=U0;refine⟨C0.ext,?_⟩;have J0:=H0.join C0;obtain⟨c4,W1,q⟩:=bS q;refine o1 Y 6 (mc Y zoh (zbm (hE.trans J0.ext) (zM e3) G2 W1) (fun g4 C4 V0=>?_));obtain⟨t3,S3,rfl,D0⟩:=V0;refine⟨D0.ext,?_⟩;have t1:=J0.join D0;have K0:=t1.b 3 rfl;obtain⟨H1,q⟩:=iS q;refine o1 Y 7 (mp (Flat.map (Flat.pair (Flat.map (Flat.pair (Flat.map fL0) fL1)) (Flat.pair (Flat.map (Flat.pair (Flat.map fL0) fL1)) Flat.unit))) K0 Y ((K0.b 1 rfl).own) H1 (fun C2 b3 D4 u1=>?_));refine dr 0 Y [8] ?_;refine dw [3,4,5,24,25,26,32,33,34] ?_;refine dd Y ?_;refine rg<|rm 2 ?_;cases q;exact⟨_,_,rfl,⟨C2,b3,(((u1.b 0 rfl).b 3 rfl).t 2),rfl⟩,rfl⟩
    ·refine xt ?_;cases q;exact⟨_,_,⟨e2,n2,N1,i0,rfl⟩,rfl⟩
  ·refine xt ?_;cases G;exact⟨_,_,⟨O0,X1,S2,r0,rfl⟩,rfl⟩

theorem zjp:EN 198:=en Tryz.func198
def z2R (fu:Nat)(x0:D.Qk)(x1:Qb)(q:Bool):Option Bool:=(if q=true then some false else((idx x0.Qf x1.Qj).bind fun o=>(if(x1.Qi == 1)=true then(if(decide (x1.Qo<(o.Cells.length:Int)))=true then((idx o.Cells x1.Qo).bind fun G=>some (G.Qi != 0)) else some false) else(if(x1.Qi == 2)=true then(if(decide (x1.Qo<(o.QJ.length:Int)))=true then((idx o.QJ x1.Qo).bind fun H=>some H.QZ) else some false) else some false))))
def z3j (fu:Nat)(x0:D.Qk)(x1:Qb):Option (Bool):=(if(decide (x1.Qj<0))=true then z2R fu x0 x1 true else(if(decide (x1.Qj≥(x0.Qf.length:Int)))=true then z2R fu x0 x1 true else z2R fu x0 x1 (decide (x1.Qo<0))))

theorem zaw (hE:Ext W w){p0:Addr}{r0:List Value}{x0:D.Qk}{t0:List Value}{x1:Qb}(E0:ty36.ro W r0 x0)(u0:At W p0 r0)(F0:ty34.ro W t0 x1){fu:Nat}{r:Bool}(hm:z3j fu x0 x1=some r):
  CL 198 ⟨[.pointer (some p0),.agg ⟨t0⟩]⟩ w (RB w r):=by
 obtain⟨A1,k2,e4,h3⟩:=z4D E0;subst e4;have e5:=z1f F0;subst e5;refine into Tryz.func198 69 _ ?_;unfold z3j at hm;have hS:=St.start w;refine sg<|nw hS (fun g6 w7 P0 O=>?_);refine rm 1 ?_;refine sq<|sq<|ct (fun(q0:Bool) F w9=>z2R fu x0 x1 q0=some r∧Ext w7 w9∧St w w9 [Box g6 [iv x1.Qj,iv x1.Qi,iv x1.Qo] 34]∧F=[(0,.pointer (some p0)),(3,.pointer (some ⟨g6,0,none⟩)),(23,.bool q0)]) ?_ ?_
 ·rintro q0 F g1 ⟨hm,J0,H,rfl⟩;unfold z2R at hm;refine ci hm (fun hm=>?_) (fun hm=>?_)
  ·refine sg<|rm 1 ?_;refine rt ?_;cases hm;exact⟨_,tR rfl,rfl,(H.t 0)⟩
  ·refine sp<|sq<|dn 512 mixed 10 [([],1023),([0],1022),([1],1021),([2],1019),([],1023),([4],1007),([3,5],983),([6],959),([],1023),([8,7,0,1,2,3,4,5,6,7,8],639)] H.ext (fun G=>?_);have Y:=H.step (Ext.draw _);refine dr 6 G [0,1,2,4] ?_;refine dl G 3 (ax hE H u0) 0 ?_;refine dl G 5 ((H.b 0 rfl).box) 0 ?_;obtain⟨m1,j0,hm⟩:=bS hm;refine dx (hE.trans H.ext) G 6 h3 j0 (fun d1 B0 b0 f0=>?_);obtain⟨K0,V0,L0,X0,M0,Y0,v0,G0,H0,S0⟩:=z1J f0;subst v0;refine dL G 7 (ax hE H b0) ?_;refine o1 G 8 (mw G Y (fun R0 i1 Q0 Z=>?_));have a0:=Z.b 0 rfl;refine o1 G 9 (ms (A:=[]) a0 G 0 (fun j1 o=>?_));refine dd G ?_;refine sq<|sg<|rr 1 ?_;refine l1 ((o.b 1 rfl).box) 1 ?_;refine rn<|bk<|sg<|rm 2 ?_;refine ci hm (fun hm=>?_) (fun hm=>?_)
   ·refine sg<|rr 1 ?_;refine l1 ((o.b 1 rfl).box) 2 ?_;refine rr 1 ?_;refine l1 ((o.b 0 rfl).box) 0 ?_;refine rr 3 ?_;refine rb 42 hm (fun hm=>?_) (fun hm=>?_)
    ·refine rr 1 ?_;refine l1 ((o.b 0 rfl).box) 0 ?_;refine rr 1 ?_;refine l1 ((o.b 1 rfl).box) 2 ?_;obtain⟨n1,k0,hm⟩:=bS hm;refine ix (hE.trans o.ext) G0 k0 (fun e1 C0 c0 g0=>?_);obtain⟨N0,a1,O0,b1,y0,T0,U0⟩:=zO g0;subst y0;refine rr 1 ?_;refine l1 (ax hE o c0) 0 ?_;refine rm 3 ?_;refine rt ?_;cases hm;exact⟨_,tR rfl,rfl,(o.t 0)⟩
    ·refine rm 10 ?_;refine rt ?_;cases hm;exact⟨_,tR rfl,rfl,(o.t 0)⟩
   ·refine sg<|rm 2 ?_;refine ci hm (fun hm=>?_) (fun hm=>?_)
    ·refine sg<|rr 1 ?_;refine l1 ((o.b 1 rfl).box) 2 ?_;refine rr 1 ?_;refine l1 ((o.b 0 rfl).box) 1 ?_;refine rr 3 ?_;refine rb 60 hm (fun hm=>?_) (fun hm=>?_)
     ·refine rr 1 ?_;refine l1 ((o.b 0 rfl).box) 1 ?_;refine rr 1 ?_;refine l1 ((o.b 1 rfl).box) 2 ?_;obtain⟨p1,o0,hm⟩:=bS hm;refine ix (hE.trans o.ext) H0 o0 (fun f1 D0 e0 i0=>?_);have A0:=z3d i0;subst A0;refine rr 1 ?_;refine l1 (ax hE o e0) 0 ?_;refine rm 2 ?_;refine rt ?_;cases hm;exact⟨_,tR rfl,rfl,(o.t 0)⟩
     ·refine rm 9 ?_;refine rt ?_;cases hm;exact⟨_,tR rfl,rfl,(o.t 0)⟩
    ·refine sp<|sg<|rm 1 ?_;refine rt ?_;cases hm;exact⟨_,tR rfl,rfl,(o.t 0)⟩
 ·refine dn 0 mixed 18 [([],262143),([0],262142),([1],262141),([2],262139),([3],262135),([4,3],262119),([3],262135),([6,3],262071),([7,3],262007),([8,3],261879),([9,3],261623),([5,10,3],261079),([3,11],260087),([12,3],258047),([13],253951),([14,13],237567),([15,13],221183),([13,16],188415)] O.ext (fun q=>?_);have X:=O.step (Ext.draw _);refine dr 17 q [0] ?_;refine dl q 1 ((O.b 0 rfl).box) 0 ?_;refine dr 14 q [2,3] ?_;refine db 9 hm (fun hm=>?_) (fun hm=>?_)
  ·refine dr 0 q [4,5,6,7,8,9,10,11,12,13,14,15,16,17] ?_;refine dw [0,3,23] ?_;refine dd q ?_;exact⟨true,_,⟨hm,(Ext.draw _),X,rfl⟩,rfl⟩
  ·refine dr 10 q [4,6,7,8] ?_;refine dw [0,3,9,10,14] ?_;refine dl q 5 ((O.b 0 rfl).box) 0 ?_;refine dl q 9 (ax hE O u0) 0 ?_;refine dr 4 q [10,11,12,13] ?_;refine dw [0,3,19] ?_;refine db 19 hm (fun hm=>?_) (fun hm=>?_)
   ·refine dr 0 q [14,15,16,17] ?_;refine dd q ?_;exact⟨true,_,⟨hm,(Ext.draw _),X,rfl⟩,rfl⟩
   ·refine dr 3 q [14] ?_;refine dl q 15 ((O.b 0 rfl).box) 2 ?_;refine dr 0 q [16,17] ?_;refine dd q ?_;exact⟨decide (x1.Qo<0),_,⟨hm,(Ext.draw _),X,rfl⟩,rfl⟩

theorem ztD:EN 199:=en Tryz.func199
def zex (fu:Nat)(t6:(List (Qb×Int))):Option (List (Qb×Int)):=some t6
def zew (fu:Nat)(s5:Int×(List (Qb×Int)))(o:(List (Qb×Int))):Option (Rd (Int×(List (Qb×Int))) ((List (Qb×Int))) ((List (Qb×Int)))):=some (.next (w64 (s5.1+1),o))
def z8N (fu:Nat)(o:Int×(List (Qb×Int)))(q:(List (Qb×Int))):Option (Rd (Int×(List (Qb×Int))) ((List (Qb×Int))) (Rd (Int×(List (Qb×Int))) ((List (Qb×Int))) ((List (Qb×Int))))):=some (.next (w64 (o.1+1),q))
def zao (fu:Nat)(o:Int×(List (Qb×Int)))(q:(List (Qb×Int))):Option (Rd (Int×(List (Qb×Int))) ((List (Qb×Int))) (Rd (Int×(List (Qb×Int))) ((List (Qb×Int))) ((List (Qb×Int))))):=z8N fu o q
def z1Z (fu:Nat)(q:D.Qc)(o:Int×(List (Qb×Int))):Option (Rd (Int×(List (Qb×Int))) ((List (Qb×Int))) (Rd (Int×(List (Qb×Int))) ((List (Qb×Int))) ((List (Qb×Int))))):=(if(decide (o.1<(([q.a,q.b]:LN).length:Int)))=true then((idx ([q.a,q.b]:LN) o.1).bind fun G=>(if(!G.own)=true then zao fu o (mput o.2 G.at_ (w64 (((mget o.2 G.at_).getD (0:Int))+1))) else z8N fu o o.2)) else some (.brk o.2))
def z8O (fu:Nat)(x0:LC)(s5:Int×(List (Qb×Int))):Option (Rd (Int×(List (Qb×Int))) ((List (Qb×Int))) ((List (Qb×Int)))):=(if(decide (s5.1<(x0.length:Int)))=true then((idx x0 s5.1).bind fun q=>((iter (z1Z fu q) fu (0,s5.2)).bind fun o=>aft o (zew fu s5))) else some (.brk s5.2))
def zbh (fu:Nat)(x0:LC):Option ((List (Qb×Int))):=((iter (z8O fu x0) fu (0,([]:(List (Qb×Int))))).bind fun o=>aft o (zex fu))

theorem zmh (hE:Ext W w){a0:Option Addr}{f0:Nat}{x0:LC}(i1:ty86.ro W [sl a0 x0 f0] x0){fu:Nat}{r:(List (Qb×Int))}(hm:zbh fu x0=some r):
  CL 199 ⟨[sl a0 x0 f0]⟩ w (Ret fun v w8=>∃ A0,v=.map (some A0)∧St w w8 [Own zfj [.map (some A0)] r]):=by
 refine into Tryz.func199 38 _ ?_;unfold zbh at hm;have hS:=St.start w;refine sg<|rm 1 ?_;refine sg<|zfZ zmx (Value.int .i64) hS (fun g1 w2 e3 j1=>?_);refine rm 1 ?_;refine sq<|sg<|rm 3 ?_;obtain⟨m1,M0,hm⟩:=bS hm;refine ct (fun(t6:(List (Qb×Int))) F w9=>m1=.inl t6∧St w w9 [Own zfj [.map (some g1)] t6]∧F=[(3,.map (some g1))]) ?_ ?_
 ·rintro t6 F F1 ⟨O0,o0,rfl⟩;subst O0;rw[z8] at hm;unfold zex at hm;refine sg<|rm 2 ?_;refine rt ?_;cases hm;exact⟨_,tR rfl,g1,rfl,o0⟩
 ·refine bk<|wk [3,9,10,11] ?_;refine it (fun(s5:Int×(List (Qb×Int))) F w9=>St w w9 [Own zfj [.map (some g1)] s5.2]∧F=[(3,.map (some g1)),(9,sl a0 x0 f0),(10,iv (x0.length:Int)),(11,iv s5.1)]) M0 ⟨j1,rfl⟩ ?_;rintro s5 F G1 _ C1 ⟨Y,rfl⟩ H P0;unfold z8O at H;refine sg<|rm 1 ?_;refine sq<|ci H (fun H=>?_) (fun H=>?_)
  ·refine sp<|sq<|bk<|sq<|rg ?_;obtain⟨o,U0,H⟩:=bS H;refine ix (hE.trans Y.ext) i1 U0 (fun D1 e1 K0 S0=>?_);have b1:=zd8 S0;subst b1;refine lN (ax hE Y K0) ?_;refine nw Y (fun y1 H1 t1 p0=>?_);have q0:=p0.b 0 rfl;refine so (A:=[]) q0 0 (fun J1 b0=>?_);refine rn<|sg<|rr 1 ?_;refine lN (At.sub ((b0.b 0 rfl).box) 0 5) ?_;refine rr 1 ?_;refine lN (At.sub ((b0.b 0 rfl).box) 5 5) ?_;refine ns (b0.flatEls (U:=zgu) (els:=[iv o.a.at_.Qj,iv o.a.at_.Qi,iv o.a.at_.Qo,iv o.a.slot,.bool o.a.own,iv o.b.at_.Qj,iv o.b.at_.Qi,iv o.b.at_.Qo,iv o.b.slot,.bool o.b.own]) (ys:=[o.a,o.b]) ⟨[iv o.a.at_.Qj,iv o.a.at_.Qi,iv o.a.at_.Qo,iv o.a.slot,.bool o.a.own],_,[],[],rfl,rfl,(zeM (c:=o.a) rfl),⟨[iv o.b.at_.Qj,iv o.b.at_.Qi,iv o.b.at_.Qo,iv o.b.slot,.bool o.b.own],_,[],[],rfl,rfl,(zeM (c:=o.b) rfl),⟨rfl,rfl⟩⟩⟩) (fun g0 i0 K1 u1 r0=>?_);refine rm 2 ?_;obtain⟨n1,N0,H⟩:=bS H;refine ct (fun(X0:(List (Qb×Int))) F w9=>n1=.inl X0∧St w w9 [Own zfj [.map (some g1)] X0]∧F=[(3,.map (some g1)),(9,sl a0 x0 f0),(10,iv (x0.length:Int)),(11,iv s5.1)]) ?_ ?_
   ·rintro X0 F L1 ⟨Q0,t0,rfl⟩;subst Q0;rw[z8] at H;unfold zew at H;refine rg<|rm 2 ?_;cases H;exact⟨_,_,rfl,⟨t0,rfl⟩,rfl⟩
   ·refine bk<|wk [3,9,10,11,19,20,21] ?_;refine it (fun(O:Int×(List (Qb×Int))) F w9=>St w w9 [ow zvb g0 ([o.a,o.b]:LN) i0,Own zfj [.map (some g1)] O.2]∧F=[(3,.map (some g1)),(9,sl a0 x0 f0),(10,iv (x0.length:Int)),(11,iv s5.1),(19,sl g0 ([o.a,o.b]:LN) i0),(20,iv (([o.a,o.b]:LN).length:Int)),(21,iv O.1)]) N0 ⟨(r0.b 1 rfl).drop,rfl⟩ ?_;rintro O F M1 _ a1 ⟨c0,rfl⟩ q R0;unfold z1Z at q;refine sg<|rm 1 ?_;refine sq<|ci q (fun q=>?_) (fun q=>?_)
    ·refine sp<|sq<|bk<|sq<|rg ?_;obtain⟨Z,V0,q⟩:=bS q;refine ix (Ext.refl _) ((c0.b 0 rfl).own) V0 (fun E1 f1 L0 T0=>?_);have d1:=zeN T0;subst d1;refine lN L0 ?_;refine nw c0 (fun A1 N1 v1 u0=>?_);have v0:=u0.b 0 rfl;refine so (A:=[]) v0 0 (fun O1 X=>?_);refine rn<|sg<|rr 1 ?_;refine l1 ((X.b 0 rfl).box) 4 ?_;refine rm 1 ?_;refine ct (fun(Y0:(List (Qb×Int))) F w9=>z8N fu O Y0=some a1∧St w w9 [ow zvb g0 ([o.a,o.b]:LN) i0,Own zfj [.map (some g1)] Y0]∧F=[(3,.map (some g1)),(9,sl a0 x0 f0),(10,iv (x0.length:Int)),(11,iv s5.1),(19,sl g0 ([o.a,o.b]:LN) i0),(20,iv (([o.a,o.b]:LN).length:Int)),(21,iv O.1)]) ?_ ?_
     ·rintro Y0 F P1 ⟨q,y0,rfl⟩;unfold z8N at q;refine rg<|rm 2 ?_;cases q;exact⟨_,_,rfl,⟨y0,rfl⟩,rfl⟩
     ·refine ci q (fun q=>?_) (fun q=>?_)
      ·refine ct (fun(k0:(List (Qb×Int))) F w9=>zao fu O k0=some a1∧St w w9 [ow zvb g0 ([o.a,o.b]:LN) i0,Own zfj [.map (some g1)] k0]∧F=[(3,.map (some g1)),(9,sl a0 x0 f0),(10,iv (x0.length:Int)),(11,iv s5.1),(19,sl g0 ([o.a,o.b]:LN) i0),(20,iv (([o.a,o.b]:LN).length:Int)),(21,iv O.1)]) ?_ ?_
       ·rintro k0 F Q1 ⟨q,B0,rfl⟩;unfold zao at q;exact⟨k0,_,⟨q,B0,rfl⟩,rfl⟩
       ·refine dn 160 mixed 8 [([],255),([],255),([1],253),([0,2],250),([3],247),([0,2,0,1,2],250),([5],223),([0,6,4,5,0,1,2,3,4,5,6],174)] X.ext (fun G=>?_);have e0:=X.step (Ext.draw _);refine dr 6 G [0,1] ?_;refine dw [3,9,10,11,19,20,21,28,29] ?_;refine dL G 2 (At.sub ((X.b 0 rfl).box) 0 3) ?_;refine da G [3,5] (by simp) ?_;intro B1 V1;simp only[List.mem_cons,List.not_mem_nil,or_false] at V1
        rcases V1 with rfl | rfl
        ·refine mq G rfl ((Quiet.lookup zeU (kk:=Z.at_) ((e0.b 2 rfl).own) rfl rfl rfl).later (Ext.refl _)) ?_;refine dr 3 G [4] ?_;have D0:=e0.b 2 rfl;refine o1 G 5 (znC (kk:=Z.at_) zeU D0 G (fun p1 R1 C0=>?_));refine dr 1 G [6] ?_;have F0:=C0.b 0 rfl;refine o1 G 7 (zj6 (v:=(w64 (((mget O.2 Z.at_).getD (0:Int))+1))) F0 G (fun S1 E0=>?_));refine dd G ?_;exact⟨(mput O.2 Z.at_ (w64 (((mget O.2 Z.at_).getD (0:Int))+1))),_,⟨q,(((E0.b 0 rfl).b 2 rfl).t 2),rfl⟩,rfl⟩
        ·have G0:=e0.b 2 rfl;refine znC (kk:=Z.at_) zeU G0 G (fun s1 T1 j0=>?_);refine dr 3 G [6] ?_;refine o1 G 3 (mq G rfl (Quiet.lookupO zeU (j0.b 0 rfl) rfl rfl rfl) ?_);refine dr 1 G [4] ?_;have J0:=j0.b 0 rfl;refine o1 G 7 (zj6 (v:=(w64 (((mget O.2 Z.at_).getD (0:Int))+1))) J0 G (fun U1 H0=>?_));refine dd G ?_;exact⟨(mput O.2 Z.at_ (w64 (((mget O.2 Z.at_).getD (0:Int))+1))),_,⟨q,(((H0.b 0 rfl).b 2 rfl).t 2),rfl⟩,rfl⟩
      ·refine sp ?_;exact⟨O.2,_,⟨q,(X.b 0 rfl).drop,rfl⟩,rfl⟩
    ·refine xt ?_;cases q;exact⟨_,_,⟨R0,((c0.b 1 rfl).t 1),rfl⟩,rfl⟩
  ·refine xt ?_;cases H;exact⟨_,_,⟨P0,Y,rfl⟩,rfl⟩

theorem ztZ:EN 160:=en Tryz.func160
def z9r (fu:Nat)(o:Unit):Option Bool:=some true
def z9q (fu:Nat)(o:Int)(q:Unit):Option (Rd (Int) (Unit) (Bool)):=some (.next (w64 (o+1)))
def z2a (fu:Nat)(o:Int)(q:Bool):Option (Rd (Int) (Unit) (Rd (Int) (Unit) (Bool))):=(if q=true then some (.ret (.ret false)) else some (.next (w64 (o+1))))
def z2b (fu:Nat)(H:(List (Qb×Int)))(O:Int)(G:Qp)(o:Int):Option (Rd (Int) (Unit) (Rd (Int) (Unit) (Bool))):=(if(decide (o<(G.QJ.length:Int)))=true then((idx G.QJ o).bind fun X=>(if X.QZ=true then((z4z fu O o).bind fun q=>z2a fu o (((mget H q).getD (0:Int)) != 2)) else z2a fu o false)) else some (.brk ()))
def z6g (fu:Nat)(G:(List (Qb×Int)))(q:Int)(H:Qp)(O:Unit):Option (Rd (Int) (Unit) (Bool)):=((iter (z2b fu G q H) fu 0).bind fun o=>aft o (z9q fu q))
def z29 (fu:Nat)(q:Int)(o:Bool):Option (Rd (Int) (Unit) (Rd (Int) (Unit) (Bool))):=(if o=true then some (.ret (.ret false)) else some (.next (w64 (q+1))))
def z2c (fu:Nat)(O:(List (Qb×Int)))(X:Int)(H:Qp)(o:Int):Option (Rd (Int) (Unit) (Rd (Int) (Unit) (Bool))):=(if(decide (o<(H.Cells.length:Int)))=true then((idx H.Cells o).bind fun G=>(if(G.Qi != 0)=true then((z1W fu X o).bind fun q=>z29 fu o (((mget O q).getD (0:Int)) != 1)) else z29 fu o false)) else some (.brk ()))
def z2d (fu:Nat)(x0:D.Qk)(G:(List (Qb×Int)))(q:Int):Option (Rd (Int) (Unit) (Bool)):=(if(decide (q<(x0.Qf.length:Int)))=true then((idx x0.Qf q).bind fun H=>((iter (z2c fu G q H) fu 0).bind fun o=>aft o (z6g fu G q H))) else some (.brk ()))
def z6h (fu:Nat)(x0:D.Qk)(x1:LC)(t6:Unit):Option Bool:=((zbh fu x1).bind fun q=>((iter (z2d fu x0 q) fu 0).bind fun o=>aft o (z9r fu)))
def zw (fu:Nat)(s5:Int)(o:Bool):Option (Rd (Int) (Unit) (Bool)):=(if o=true then some (.ret false) else some (.next (w64 (s5+1))))
def z2e (fu:Nat)(x0:D.Qk)(x1:LC)(s5:Int):Option (Rd (Int) (Unit) (Bool)):=(if(decide (s5<(x1.length:Int)))=true then((idx x1 s5).bind fun o=>(if(!o.a.own)=true then((z3j fu x0 o.a.at_).bind fun q=>(if(!q)=true then zw fu s5 true else(if(!o.b.own)=true then((z3j fu x0 o.b.at_).bind fun G=>zw fu s5 (!G)) else zw fu s5 false))) else(if(!o.b.own)=true then((z3j fu x0 o.b.at_).bind fun H=>zw fu s5 (!H)) else zw fu s5 false))) else some (.brk ()))
def z3b (fu:Nat)(x0:D.Qk)(x1:LC):Option (Bool):=((iter (z2e fu x0 x1) fu 0).bind fun o=>aft o (z6h fu x0 x1))

theorem zdO (hE:Ext W w){D1:Addr}{B2:List Value}{x0:D.Qk}{C0:Option Addr}{E0:Nat}{x1:LC}(H1:ty36.ro W B2 x0)(G1:At W D1 B2)(E2:ty86.ro W [sl C0 x1 E0] x1){fu:Nat}{r:Bool}(hm:z3b fu x0 x1=some r):
  CL 160 ⟨[.pointer (some D1),sl C0 x1 E0]⟩ w (RB w r):=by
 obtain⟨A1,k2,e4,h3⟩:=z4D H1;subst e4;refine into Tryz.func160 99 _ ?_;unfold z3b at hm;have hS:=St.start w;refine sg<|rm 1 ?_;refine sq<|sg<|rm 3 ?_;obtain⟨d3,Y1,hm⟩:=bS hm;refine ct (fun(t6:Unit) F w9=>d3=.inl t6∧St w w9 []∧F=[(0,.pointer (some D1)),(1,sl C0 x1 E0)]) ?_ ?_
 ·rintro t6 F R3 ⟨e2,S0,rfl⟩;subst e2;rw[z8] at hm;unfold z6h at hm;refine sg<|rr 1 ?_;obtain⟨k0,n2,hm⟩:=bS hm;refine ca ztD (zmh (hE.trans S0.ext) E2 n2) (fun Q3 S3 O1=>?_);obtain⟨Z,rfl,P1⟩:=O1;have a1:=S0.join P1;refine rm 1 ?_;refine sq<|sg<|rr 3 ?_;refine l1 (ax hE a1 G1) 0 ?_;refine rm 2 ?_;obtain⟨e3,a2,hm⟩:=bS hm;refine ct (fun(H2:Unit) F w9=>e3=.inl H2∧St w w9 []∧F=[]) ?_ ?_
  ·rintro H2 F T3 ⟨f2,Q1,rfl⟩;subst f2;rw[z8] at hm;unfold z9r at hm;refine sg<|rm 1 ?_;refine rt ?_;cases hm;exact⟨_,tR rfl,rfl,Q1⟩
  ·refine bk<|wk [7,52,53,54] ?_;refine it (fun(f0:Int) F w9=>St w w9 [Own zfj [.map (some Z)] k0]∧F=[(7,.map (some Z)),(52,sl A1 x0.Qf k2),(53,iv (x0.Qf.length:Int)),(54,iv f0)]) a2 ⟨a1,rfl⟩ ?_;rintro f0 F U3 _ N3 ⟨g0,rfl⟩ G D0;unfold z2d at G;refine sg<|rm 1 ?_;refine sq<|ci G (fun G=>?_) (fun G=>?_)
   ·refine sp<|sq<|bk<|sg<|rr 1 ?_;obtain⟨Y,o2,G⟩:=bS G;refine ix (hE.trans g0.ext) h3 o2 (fun O3 R2 W1 j2=>?_);obtain⟨K0,B1,L0,C1,L1,q2,P2,X2,Y2,M3⟩:=z1J j2;subst P2;refine lN (ax hE g0 W1) ?_;refine nw g0 (fun J0 V3 J3 R1=>?_);refine rr 1 ?_;have S1:=R1.b 0 rfl;refine so (A:=[]) S1 0 (fun W3 b1=>?_);refine rn<|sq<|sg<|rr 1 ?_;refine l1 ((b1.b 0 rfl).box) 0 ?_;refine rm 2 ?_;obtain⟨f3,b2,G⟩:=bS G;refine ct (fun(J2:Unit) F w9=>f3=.inl J2∧St w w9 [Box J0 [sl K0 Y.Cells B1,sl L0 Y.QJ C1,sl L1 Y.Qs q2] 123,Own zfj [.map (some Z)] k0]∧F=[(7,.map (some Z)),(8,iv f0),(9,.pointer (some ⟨J0,0,none⟩)),(52,sl A1 x0.Qf k2),(53,iv (x0.Qf.length:Int)),(54,iv f0)]) ?_ ?_
    ·rintro J2 F X3 ⟨g2,d1,rfl⟩;subst g2;rw[z8] at G;unfold z6g at G;refine sg<|rr 1 ?_;refine l1 ((d1.b 0 rfl).box) 1 ?_;refine rm 2 ?_;obtain⟨g3,d2,G⟩:=bS G;refine ct (fun(K2:Unit) F w9=>g3=.inl K2∧St w w9 [Own zfj [.map (some Z)] k0]∧F=[(7,.map (some Z)),(52,sl A1 x0.Qf k2),(53,iv (x0.Qf.length:Int)),(54,iv f0)]) ?_ ?_
     ·rintro K2 F Y3 ⟨i2,T1,rfl⟩;subst i2;rw[z8] at G;unfold z9q at G;refine rg<|rm 2 ?_;cases G;exact⟨_,_,rfl,⟨T1,rfl⟩,rfl⟩
     ·refine bk<|wk [7,8,52,53,54,80,81,82] ?_;refine it (fun(K1:Int) F w9=>St w w9 [Own zfj [.map (some Z)] k0]∧F=[(7,.map (some Z)),(8,iv f0),(52,sl A1 x0.Qf k2),(53,iv (x0.Qf.length:Int)),(54,iv f0),(80,sl L0 Y.QJ C1),(81,iv (Y.QJ.length:Int)),(82,iv K1)]) d2 ⟨((d1.b 1 rfl).t 1),rfl⟩ ?_;rintro K1 F a4 _ i3 ⟨i0,rfl⟩ H i1;unfold z2b at H;refine sg<|rm 1 ?_;refine sq<|ci H (fun H=>?_) (fun H=>?_)
      ·refine sp<|sq<|bk<|sg<|rr 1 ?_;obtain⟨d4,p2,H⟩:=bS H;refine ix (hE.trans i0.ext) Y2 p2 (fun P3 S2 X1 m2=>?_);have Q2:=z3d m2;subst Q2;refine lN (ax hE i0 X1) ?_;refine nw i0 (fun L3 b4 K3 U1=>?_);refine rr 1 ?_;have V1:=U1.b 0 rfl;refine so (A:=[]) V1 0 (fun G3 j0=>?_);refine rn<|sq<|ct (fun(v2:Bool) F w9=>z2a fu K1 v2=some i3∧Ext G3 w9∧St w w9 [Own zfj [.map (some Z)] k0]∧F=[(7,.map (some Z)),(8,iv f0),(52,sl A1 x0.Qf k2),(53,iv (x0.Qf.length:Int)),(54,iv f0),(80,sl L0 Y.QJ C1),(81,iv (Y.QJ.length:Int)),(82,iv K1),(96,.bool v2)]) ?_ ?_
       ·rintro v2 F c4 ⟨H,a3,e1,rfl⟩;unfold z2a at H;refine ci H (fun H=>?_) (fun H=>?_)
        ·refine sg<|rm 1 ?_;refine rt ?_;cases H;cases i1;have G:some _=some _:=G;cases G;cases D0;have hm:some _=some _:=hm;cases hm;exact⟨_,tR rfl,rfl,(e1.t 0)⟩
        ·refine sp<|rg<|rm 2 ?_;cases H;exact⟨_,_,rfl,⟨e1,rfl⟩,rfl⟩
       ·refine rg<|rr 1 ?_;refine l1 ((j0.b 0 rfl).box) 0 ?_;refine rr 1 ?_;refine rb 89 H (fun H=>?_) (fun H=>?_)
        ·refine rr 3 ?_;obtain⟨E1,n1,H⟩:=bS H;refine ca zog (zcP (hE.trans j0.ext)  n1) (fun n3 s3 M0=>?_);obtain⟨rfl,o0⟩:=M0;have t0:=j0.join o0;refine qt ((Quiet.lookup zeU (kk:=E1) ((t0.b 1 rfl).own) rfl rfl rfl).later (Ext.refl _)) ?_;refine rm 2 ?_;exact⟨(((mget k0 E1).getD (0:Int)) != 2),_,⟨H,o0.ext,((t0.b 1 rfl).t 1),rfl⟩,rfl⟩
        ·refine rm 7 ?_;exact⟨false,_,⟨H,(Ext.refl _),((j0.b 1 rfl).t 1),rfl⟩,rfl⟩
      ·refine xt ?_;cases H;exact⟨_,_,⟨i1,i0,rfl⟩,rfl⟩
    ·refine bk<|wk [7,8,9,52,53,54,60,61,62] ?_;refine it (fun(J1:Int) F w9=>St w w9 [Box J0 [sl K0 Y.Cells B1,sl L0 Y.QJ C1,sl L1 Y.Qs q2] 123,Own zfj [.map (some Z)] k0]∧F=[(7,.map (some Z)),(8,iv f0),(9,.pointer (some ⟨J0,0,none⟩)),(52,sl A1 x0.Qf k2),(53,iv (x0.Qf.length:Int)),(54,iv f0),(60,sl K0 Y.Cells B1),(61,iv (Y.Cells.length:Int)),(62,iv J1)]) b2 ⟨b1,rfl⟩ ?_;rintro J1 F t3 _ r2 ⟨b0,rfl⟩ q A0;unfold z2c at q;refine sg<|rm 1 ?_;refine sq<|ci q (fun q=>?_) (fun q=>?_)
     ·refine sp<|sq<|bk<|sg<|rr 1 ?_;obtain⟨H3,p1,q⟩:=bS q;refine ix (hE.trans b0.ext) X2 p1 (fun j3 C2 f1 j1=>?_);obtain⟨L2,b3,M2,c3,M1,V2,W2⟩:=zO j1;subst M1;refine lN (ax hE b0 f1) ?_;refine nw b0 (fun T2 u3 N2 R0=>?_);refine rr 1 ?_;have T0:=R0.b 0 rfl;refine so (A:=[]) T0 0 (fun y2 c0=>?_);refine rn<|sq<|ct (fun(F0:Bool) F w9=>z29 fu J1 F0=some r2∧Ext y2 w9∧St w w9 [Box J0 [sl K0 Y.Cells B1,sl L0 Y.QJ C1,sl L1 Y.Qs q2] 123,Own zfj [.map (some Z)] k0]∧F=[(7,.map (some Z)),(8,iv f0),(9,.pointer (some ⟨J0,0,none⟩)),(52,sl A1 x0.Qf k2),(53,iv (x0.Qf.length:Int)),(54,iv f0),(60,sl K0 Y.Cells B1),(61,iv (Y.Cells.length:Int)),(62,iv J1),(77,.bool F0)]) ?_ ?_
      ·rintro F0 F v3 ⟨q,F2,u0,rfl⟩;unfold z29 at q;refine ci q (fun q=>?_) (fun q=>?_)
       ·refine sg<|rm 1 ?_;refine rt ?_;cases q;cases A0;have G:some _=some _:=G;cases G;cases D0;have hm:some _=some _:=hm;cases hm;exact⟨_,tR rfl,rfl,(u0.t 0)⟩
       ·refine sp<|rg<|rm 2 ?_;cases q;exact⟨_,_,rfl,⟨u0,rfl⟩,rfl⟩
      ·refine rg<|rr 1 ?_;refine l1 ((c0.b 0 rfl).box) 0 ?_;refine rr 2 ?_;refine rb 70 q (fun q=>?_) (fun q=>?_)
       ·refine rr 3 ?_;obtain⟨F1,s1,q⟩:=bS q;refine ca zmv (z9C (hE.trans c0.ext)  s1) (fun o3 y3 N0=>?_);obtain⟨rfl,p0⟩:=N0;have v0:=c0.join p0;refine qt ((Quiet.lookup zeU (kk:=F1) ((v0.b 2 rfl).own) rfl rfl rfl).later (Ext.refl _)) ?_;refine rm 2 ?_;exact⟨(((mget k0 F1).getD (0:Int)) != 1),_,⟨q,p0.ext,(v0.b 0 rfl).drop,rfl⟩,rfl⟩
       ·refine rm 7 ?_;exact⟨false,_,⟨q,(Ext.refl _),(c0.b 0 rfl).drop,rfl⟩,rfl⟩
     ·refine xt ?_;cases q;exact⟨_,_,⟨A0,b0,rfl⟩,rfl⟩
   ·refine xt ?_;cases G;exact⟨_,_,⟨D0,(g0.t 0),rfl⟩,rfl⟩
 ·refine bk<|wk [0,1,14,15,16] ?_;refine it (fun(s5:Int) F w9=>St w w9 []∧F=[(0,.pointer (some D1)),(1,sl C0 x1 E0),(14,sl C0 x1 E0),(15,iv (x1.length:Int)),(16,iv s5)]) Y1 ⟨hS,rfl⟩ ?_;rintro s5 F A3 _ s2 ⟨e0,rfl⟩ o B0;unfold z2e at o;refine sg<|rm 1 ?_;refine sq<|ci o (fun o=>?_) (fun o=>?_)
  ·refine sp<|sq<|bk<|sq<|rg ?_;obtain⟨H0,t1,o⟩:=bS o;refine ix (hE.trans e0.ext) E2 t1 (fun k3 D2 g1 m1=>?_);have N1:=zd8 m1;subst N1;refine lN (ax hE e0 g1) ?_;refine nw e0 (fun U2 B3 O2 U0=>?_);have V0:=U0.b 0 rfl;refine so (A:=[]) V0 0 (fun A2 O=>?_);refine rn<|sq<|ct (fun(G0:Bool) F w9=>zw fu s5 G0=some s2∧Ext A2 w9∧St w w9 []∧F=[(0,.pointer (some D1)),(1,sl C0 x1 E0),(14,sl C0 x1 E0),(15,iv (x1.length:Int)),(16,iv s5),(45,.bool G0)]) ?_ ?_
   ·rintro G0 F C3 ⟨o,G2,y0,rfl⟩;unfold zw at o;refine ci o (fun o=>?_) (fun o=>?_)
    ·refine sg<|rm 1 ?_;refine rt ?_;cases o;cases B0;have hm:some _=some _:=hm;cases hm;exact⟨_,tR rfl,rfl,y0⟩
    ·refine sp<|rg<|rm 2 ?_;cases o;exact⟨_,_,rfl,⟨y0,rfl⟩,rfl⟩
   ·refine rg<|rr 2 ?_;refine l1 ((O.b 0 rfl).box) 4 ?_;refine rr 2 ?_;refine rb 24 o (fun o=>?_) (fun o=>?_)
    ·refine rr 3 ?_;refine lN (At.sub ((O.b 0 rfl).box) 0 3) ?_;obtain⟨m3,u1,o⟩:=bS o;refine ca zjp (zaw (hE.trans O.ext) H1 G1 (zM H0.a.at_) u1) (fun p3 D3 O0=>?_);obtain⟨rfl,a0⟩:=O0;have X:=O.join a0;refine rr 3 ?_;refine rb 32 o (fun o=>?_) (fun o=>?_)
     ·refine rm 13 ?_;exact⟨true,_,⟨o,a0.ext,(X.t 0),rfl⟩,rfl⟩
     ·refine rr 2 ?_;refine l1 ((X.b 0 rfl).box) 9 ?_;refine rr 2 ?_;refine rb 37 o (fun o=>?_) (fun o=>?_)
      ·refine rr 3 ?_;refine lN (At.sub ((X.b 0 rfl).box) 5 3) ?_;obtain⟨t2,v1,o⟩:=bS o;refine ca zjp (zaw (hE.trans X.ext) H1 G1 (zM H0.b.at_) v1) (fun q3 E3 P0=>?_);obtain⟨rfl,q0⟩:=P0;have X0:=X.join q0;refine rm 3 ?_;exact⟨!t2,_,⟨o,(a0.ext.trans q0.ext),(X0.t 0),rfl⟩,rfl⟩
      ·refine rm 8 ?_;exact⟨false,_,⟨o,a0.ext,(X.t 0),rfl⟩,rfl⟩
    ·refine rr 10 ?_;refine l1 ((O.b 0 rfl).box) 9 ?_;refine rr 2 ?_;refine rb 37 o (fun o=>?_) (fun o=>?_)
     ·refine rr 3 ?_;refine lN (At.sub ((O.b 0 rfl).box) 5 3) ?_;obtain⟨u2,y1,o⟩:=bS o;refine ca zjp (zaw (hE.trans O.ext) H1 G1 (zM H0.b.at_) y1) (fun r3 F3 Q0=>?_);obtain⟨rfl,r0⟩:=Q0;have Y0:=O.join r0;refine rm 3 ?_;exact⟨!u2,_,⟨o,r0.ext,(Y0.t 0),rfl⟩,rfl⟩
     ·refine rm 8 ?_;exact⟨false,_,⟨o,(Ext.refl _),(O.t 0),rfl⟩,rfl⟩
  ·refine xt ?_;cases o;exact⟨_,_,⟨B0,e0,rfl⟩,rfl⟩

theorem zw2:EN 96:=en Tryz.func96
def z1i (fu:Nat)(x0:D.Qk)(x1:LC)(t5:Bool):Option Bool:=(if t5=true then some false else((z1X fu x0).bind fun o=>(if decide ((o.length:Int)+(x1.length:Int)≤4294967296)=true then((z3b fu x0 (o++x1)).bind fun q=>some q) else none)))
def z2u (fu:Nat)(x0:D.Qk)(x1:LC):Option (Bool):=(if(decide ((x0.Qf.length:Int)<1))=true then z1i fu x0 x1 true else(if(decide ((x0.Qf.length:Int)>4))=true then z1i fu x0 x1 true else((zp fu x0.Qf (fun y0=>z3X fu y0)).bind fun o=>z1i fu x0 x1 o)))

theorem ze9 (hE:Ext W w){t0:Addr}{u0:List Value}{x0:D.Qk}{O:Option Addr}{r0:Nat}{x1:LC}(Y:ty36.ro W u0 x0)(q:At W t0 u0)(v0:ty86.ro W [sl O x1 r0] x1){fu:Nat}{r:Bool}(hm:z2u fu x0 x1=some r):
  CL 96 ⟨[.pointer (some t0),sl O x1 r0]⟩ w (RB w r):=by
 obtain⟨A1,k2,e4,h3⟩:=z4D Y;subst e4;refine into Tryz.func96 32 _ ?_;unfold z2u at hm;have hS:=St.start w;refine sg<|rm 1 ?_;refine sq<|sq<|ct (fun(t5:Bool) F w9=>z1i fu x0 x1 t5=some r∧Ext w w9∧St w w9 []∧F=[(0,.pointer (some t0)),(1,sl O x1 r0),(25,.bool t5)]) ?_ ?_
 ·rintro t5 F M0 ⟨hm,D0,j0,rfl⟩;unfold z1i at hm;refine ci hm (fun hm=>?_) (fun hm=>?_)
  ·refine sg<|rm 1 ?_;refine rt ?_;cases hm;exact⟨_,tR rfl,rfl,j0⟩
  ·refine sp<|sg<|rr 2 ?_;obtain⟨G0,o0,hm⟩:=bS hm;refine ca zqe (zav (hE.trans j0.ext) Y q o0) (fun J0 N0 Z=>?_);obtain⟨B0,E0,rfl,a0⟩:=Z;have f0:=j0.join a0;refine rr 1 ?_;have H:=f0.b 0 rfl;obtain⟨k0,hm⟩:=iS hm;refine ap (Flat.map (Flat.pair (Flat.map (Flat.pair (Flat.map fL0) fL1)) (Flat.pair (Flat.map (Flat.pair (Flat.map fL0) fL1)) Flat.unit))) H (ty86.ext (hE.trans H.ext) v0) k0 (fun C0 F0 O0 o=>?_);obtain⟨H0,p0,hm⟩:=bS hm;refine ca ztZ (zdO (Ext.refl _) (ty36.ext (hE.trans o.ext) Y) (ax hE o q) ((o.b 0 rfl).own) p0) (fun K0 P0 b0=>?_);obtain⟨rfl,c0⟩:=b0;have g0:=o.join c0;refine rm 1 ?_;refine rt ?_;cases hm;exact⟨_,tR rfl,rfl,(g0.t 0)⟩
 ·refine rg<|rr 3 ?_;refine l1 (ax hE hS q) 0 ?_;refine rr 3 ?_;refine rb 11 hm (fun hm=>?_) (fun hm=>?_)
  ·refine rm 14 ?_;exact⟨true,_,⟨hm,(Ext.refl _),hS,rfl⟩,rfl⟩
  ·refine rr 3 ?_;refine l1 (ax hE hS q) 0 ?_;refine rr 4 ?_;refine rb 19 hm (fun hm=>?_) (fun hm=>?_)
   ·refine rm 6 ?_;exact⟨true,_,⟨hm,(Ext.refl _),hS,rfl⟩,rfl⟩
   ·refine rr 3 ?_;refine l1 (ax hE hS q) 0 ?_;obtain⟨A0,q0,hm⟩:=bS hm;refine ca zwb (z7f (hE.trans hS.ext) h3 ⟨zu0,fun e9=>(fun X y0=>zd0 (Ext.refl _) X y0)⟩ q0) (fun L0 Q0 e0=>?_);obtain⟨rfl,G⟩:=e0;have i0:=hS.join G;refine rm 1 ?_;exact⟨A0,_,⟨hm,G.ext,i0,rfl⟩,rfl⟩

end Go.E




