/- Models of functions and proofs that the code runs as they say (written by program). Conditions: the model gives a value. -/
import Derived.Test.YteommboffflkbaaGreatFA
namespace Go.E
open Go.RowKit Go.Proofs
set_option linter.unusedVariables false
set_option linter.unusedSimpArgs false
set_option maxHeartbeats 2000000
set_option maxRecDepth 100000

theorem zfk:EN 62:=en Tryz.func62
def z3D (fu:Nat) (x0:(List Int)) (x1:Int):Option (Int):=(if(decide ((w64 (x1 - (x0.length:Int)))<0))=true then some (-1) else some (w64 (x1 - (x0.length:Int))))

theorem laws_szInt64S_ok {W w:World}(hE:Ext W w){d:Option Addr}{h:Nat}{x0:(List Int)}{x1:Int}(o:ty29.ro W [sl d x0 h] x0){fu:Nat}{r:Int}(hm:z3D fu x0 x1=some r):
  CL 62 ⟨[sl d x0 h,iv x1]⟩ w (RI w r):=by
 refine into Tryz.func62 12 _ ?_;unfold z3D at hm;have hS:=St.start w;refine sq<|rg<|rr 1 ?_;refine rn<|sq<|rg<|rr 5 ?_;refine rn<|sq<|sq<|rg<|rr 2 ?_;refine rn<|ci hm (fun hm=>?_) (fun hm=>?_)
 ·refine sq<|rg<|rr 1 ?_;refine rn<|rt ?_;cases hm;exact⟨_,tR rfl,rfl,hS⟩
 ·refine sp<|sq<|rg<|rr 2 ?_;refine rn<|rt ?_;cases hm;exact⟨_,tR rfl,rfl,hS⟩

theorem zng:EN 247:=en Tryz.func247
def z75 (fu:Nat) (x0:(List D.Qf)) (x1:Int):Option (Int):=(if(decide ((w64 (x1 - (x0.length:Int)))<0))=true then some (-1) else some (w64 (x1 - (x0.length:Int))))

theorem laws_szAddressS_ok {W w:World}(hE:Ext W w){d:Option Addr}{h:Nat}{x0:(List D.Qf)}{x1:Int}(o:zgu.ro W [sl d x0 h] x0){fu:Nat}{r:Int}(hm:z75 fu x0 x1=some r):
  CL 247 ⟨[sl d x0 h,iv x1]⟩ w (RI w r):=by
 refine into Tryz.func247 12 _ ?_;unfold z75 at hm;have hS:=St.start w;refine sq<|rg<|rr 1 ?_;refine rn<|sq<|rg<|rr 5 ?_;refine rn<|sq<|sq<|rg<|rr 2 ?_;refine rn<|ci hm (fun hm=>?_) (fun hm=>?_)
 ·refine sq<|rg<|rr 1 ?_;refine rn<|rt ?_;cases hm;exact⟨_,tR rfl,rfl,hS⟩
 ·refine sp<|sq<|rg<|rr 2 ?_;refine rn<|rt ?_;cases hm;exact⟨_,tR rfl,rfl,hS⟩

theorem ziK:EN 223:=en Tryz.func223
def z41 (fu:Nat) (x0:D.Qb) (x1:Int):Option (Int):=((z3D fu x0.Data x1).bind fun d=>(if(decide (d<0))=true then some (-1) else((z75 fu x0.QX d).bind fun h=>(if(decide (h<0))=true then some (-1) else some h))))

theorem laws_szShardCell_ok {W w:World}(hE:Ext W w){X:List Value}{x0:D.Qb}{x1:Int}(Y:zgt.ro W X x0){fu:Nat}{r:Int}(hm:z41 fu x0 x1=some r):
  CL 223 ⟨[.agg ⟨X⟩,iv x1]⟩ w (RI w r):=by
 obtain⟨A1,k2,A4,k5,e7,h3,h6⟩:=zbT Y;subst e7;refine into Tryz.func223 18 _ ?_;unfold z41 at hm;have hS:=St.start w;refine sq<|rg<|nw hS (fun a0 g0 Z h=>?_);refine rr 1 ?_;refine rn<|sq<|rg<|rr 1 ?_;refine l1 ((h.bring 0 rfl).box) 3 ?_;refine rr 1 ?_;obtain⟨b0,O,hm⟩:=bS hm;refine ca zfk (laws_szInt64S_ok (hE.trans h.ext) h3 O) (fun e0 i0 q=>?_);obtain⟨rfl,G⟩:=q;have d:=h.join G;refine rr 1 ?_;refine rn<|sq<|sq<|rg<|rr 2 ?_;refine rn<|ci hm (fun hm=>?_) (fun hm=>?_)
 ·refine sq<|rg<|rr 1 ?_;refine rn<|rt ?_;cases hm;exact⟨_,tR rfl,rfl,(d.taken 0)⟩
 ·refine sp<|sq<|rg<|rr 1 ?_;refine l1 ((d.bring 0 rfl).box) 4 ?_;refine rr 1 ?_;obtain⟨d0,S,hm⟩:=bS hm;refine ca zng (laws_szAddressS_ok (hE.trans d.ext) h6 S) (fun f0 j0 H=>?_);obtain⟨rfl,M⟩:=H;have o:=d.join M;refine rr 1 ?_;refine rn<|sq<|sq<|rg<|rr 2 ?_;refine rn<|ci hm (fun hm=>?_) (fun hm=>?_)
  ·refine sq<|rg<|rr 1 ?_;refine rn<|rt ?_;cases hm;exact⟨_,tR rfl,rfl,(o.taken 0)⟩
  ·refine sp<|sq<|rg<|rr 2 ?_;refine rn<|rt ?_;cases hm;exact⟨_,tR rfl,rfl,(o.taken 0)⟩

theorem znx:EN 220:=en Tryz.func220
def z9Y (fu:Nat) (t2:Int):Option Int:=some t2
def z5k (fu:Nat) (x0:(List D.Qb)) (s1:Int × Int):Option (Rd (Int × Int) (Int) (Int)):=(if(decide (s1.2<(x0.length:Int)))=true then((idx x0 s1.2).bind fun h=>((z41 fu h s1.1).bind fun d=>(if(decide (d<0))=true then some (.ret (-1)) else some (.next (d,w64 (s1.2+1)))))) else some (.brk s1.1))
def z5c (fu:Nat) (x0:(List D.Qb)) (x1:Int):Option (Int):=(if(decide ((w64 (x1 - (x0.length:Int)))<0))=true then some (-1) else((iter (z5k fu x0) fu (w64 (x1 - (x0.length:Int)),0)).bind fun o=>aft o (z9Y fu)))

theorem laws_szShardCellS_ok {W w:World}(hE:Ext W w){M:Option Addr}{d0:Nat}{x0:(List D.Qb)}{x1:Int}(i0:zi4.ro W [sl M x0 d0] x0){fu:Nat}{r:Int}(hm:z5c fu x0 x1=some r):
  CL 220 ⟨[sl M x0 d0,iv x1]⟩ w (RI w r):=by
 refine into Tryz.func220 27 _ ?_;unfold z5c at hm;have hS:=St.start w;refine sq<|rg<|rr 1 ?_;refine rn<|sq<|rg<|rr 5 ?_;refine rn<|sq<|sq<|rg<|rr 2 ?_;refine rn<|ci hm (fun hm=>?_) (fun hm=>?_)
 ·refine sq<|rg<|rr 1 ?_;refine rn<|rt ?_;cases hm;exact⟨_,tR rfl,rfl,hS⟩
 ·refine sp<|sq<|sq<|rg<|rr 1 ?_;refine rn ?_;obtain⟨j0,Y,hm⟩:=bS hm;refine ct (fun(t2:Int) F w9=>j0=.inl t2∧Ext w w9∧St w w9 []∧F=[(1,iv t2)]) ?_ ?_
  ·rintro t2 F w7 ⟨Z,r0,S,rfl⟩;subst Z;rw [z8] at hm;unfold z9Y at hm;refine sq<|rg<|rr 2 ?_;refine rn<|rt ?_;cases hm;exact⟨_,tR rfl,rfl,S⟩
  ·refine bk<|wk [0,1,5] ?_;refine it (fun(s1:Int × Int) F w9=>Ext w w9∧St w w9 []∧F=[(0,sl M x0 d0),(1,iv s1.1),(5,iv s1.2)]) Y ⟨(Ext.refl _),hS,rfl⟩ ?_;rintro s1 F C0 _ v0 ⟨e0,h,rfl⟩ d G;unfold z5k at d;refine sq<|sq<|rg<|rr 4 ?_;refine rn<|ci d (fun d=>?_) (fun d=>?_)
   ·refine sp<|sq<|bk<|sq<|rg<|rr 2 ?_;obtain⟨E0,a0,d⟩:=bS d;refine ix (hE.trans h.ext) i0 a0 (fun y0 g0 X H=>?_);obtain⟨k0,t0,o0,u0,f0,p0,q0⟩:=zbT H;subst f0;refine lN (ax hE h X) ?_;refine rr 1 ?_;obtain⟨A0,b0,d⟩:=bS d;refine ca ziK (laws_szShardCell_ok (hE.trans h.ext) H b0) (fun B0 D0 O=>?_);obtain⟨rfl,o⟩:=O;have q:=h.join o;refine rr 1 ?_;refine rn<|sq<|rg<|rr 2 ?_;refine rn<|ci d (fun d=>?_) (fun d=>?_)
    ·refine sq<|rg<|rr 1 ?_;refine rn<|rt ?_;cases d;cases G;have hm:some _=some _:=hm;cases hm;exact⟨_,tR rfl,rfl,q⟩
    ·refine sp<|rg<|rr 3 ?_;refine rn ?_;cases d;exact⟨_,_,rfl,⟨(e0.trans o.ext),q,rfl⟩,rfl⟩
   ·refine xt ?_;cases d;exact⟨_,_,⟨G,e0,h,rfl⟩,rfl⟩

theorem znw:EN 221:=en Tryz.func221
def z62 (fu:Nat) (x0:(List D.Qn)) (x1:Int):Option (Int):=(if(decide ((w64 (x1 - (x0.length:Int)))<0))=true then some (-1) else some (w64 (x1 - (x0.length:Int))))

theorem laws_szShardVarS_ok {W w:World}(hE:Ext W w){d:Option Addr}{h:Nat}{x0:(List D.Qn)}{x1:Int}(o:zi3.ro W [sl d x0 h] x0){fu:Nat}{r:Int}(hm:z62 fu x0 x1=some r):
  CL 221 ⟨[sl d x0 h,iv x1]⟩ w (RI w r):=by
 refine into Tryz.func221 12 _ ?_;unfold z62 at hm;have hS:=St.start w;refine sq<|rg<|rr 1 ?_;refine rn<|sq<|rg<|rr 5 ?_;refine rn<|sq<|sq<|rg<|rr 2 ?_;refine rn<|ci hm (fun hm=>?_) (fun hm=>?_)
 ·refine sq<|rg<|rr 1 ?_;refine rn<|rt ?_;cases hm;exact⟨_,tR rfl,rfl,hS⟩
 ·refine sp<|sq<|rg<|rr 2 ?_;refine rn<|rt ?_;cases hm;exact⟨_,tR rfl,rfl,hS⟩

theorem znv:EN 222:=en Tryz.func222
def z4n (fu:Nat) (x0:(List D.Qk)) (x1:Int):Option (Int):=(if(decide ((w64 (x1 - (x0.length:Int)))<0))=true then some (-1) else some (w64 (x1 - (x0.length:Int))))

theorem laws_szShardRedexS_ok {W w:World}(hE:Ext W w){d:Option Addr}{h:Nat}{x0:(List D.Qk)}{x1:Int}(o:zi2.ro W [sl d x0 h] x0){fu:Nat}{r:Int}(hm:z4n fu x0 x1=some r):
  CL 222 ⟨[sl d x0 h,iv x1]⟩ w (RI w r):=by
 refine into Tryz.func222 12 _ ?_;unfold z4n at hm;have hS:=St.start w;refine sq<|rg<|rr 1 ?_;refine rn<|sq<|rg<|rr 5 ?_;refine rn<|sq<|sq<|rg<|rr 2 ?_;refine rn<|ci hm (fun hm=>?_) (fun hm=>?_)
 ·refine sq<|rg<|rr 1 ?_;refine rn<|rt ?_;cases hm;exact⟨_,tR rfl,rfl,hS⟩
 ·refine sp<|sq<|rg<|rr 2 ?_;refine rn<|rt ?_;cases hm;exact⟨_,tR rfl,rfl,hS⟩

theorem zo1:EN 168:=en Tryz.func168
def z8T (fu:Nat) (x0:D.Qp) (x1:Int):Option (Int):=((z5c fu x0.Cells x1).bind fun d=>(if(decide (d<0))=true then some (-1) else((z62 fu x0.QG d).bind fun h=>(if(decide (h<0))=true then some (-1) else((z4n fu x0.Qu h).bind fun o=>(if(decide (o<0))=true then some (-1) else some o))))))

theorem laws_szShard_ok {W w:World}(hE:Ext W w){b0:List Value}{x0:D.Qp}{x1:Int}(e0:zjs.ro W b0 x0){fu:Nat}{r:Int}(hm:z8T fu x0 x1=some r):
  CL 168 ⟨[.agg ⟨b0⟩,iv x1]⟩ w (RI w r):=by
 obtain⟨A1,k2,A4,k5,A7,j0,d0,h3,h6,f0⟩:=zd6 e0;subst d0;refine into Tryz.func168 24 _ ?_;unfold z8T at hm;have hS:=St.start w;refine sq<|rg<|nw hS (fun i0 u0 g0 o=>?_);refine rr 1 ?_;refine rn<|sq<|rg<|rr 1 ?_;refine l1 ((o.bring 0 rfl).box) 0 ?_;refine rr 1 ?_;obtain⟨k0,Y,hm⟩:=bS hm;refine ca znx (laws_szShardCellS_ok (hE.trans o.ext) h3 Y) (fun q0 v0 G=>?_);obtain⟨rfl,H⟩:=G;have d:=o.join H;refine rr 1 ?_;refine rn<|sq<|sq<|rg<|rr 2 ?_;refine rn<|ci hm (fun hm=>?_) (fun hm=>?_)
 ·refine sq<|rg<|rr 1 ?_;refine rn<|rt ?_;cases hm;exact⟨_,tR rfl,rfl,(d.taken 0)⟩
 ·refine sp<|sq<|rg<|rr 1 ?_;refine l1 ((d.bring 0 rfl).box) 1 ?_;refine rr 1 ?_;obtain⟨o0,Z,hm⟩:=bS hm;refine ca znw (laws_szShardVarS_ok (hE.trans d.ext) h6 Z) (fun r0 y0 M=>?_);obtain⟨rfl,O⟩:=M;have h:=d.join O;refine rr 1 ?_;refine rn<|sq<|sq<|rg<|rr 2 ?_;refine rn<|ci hm (fun hm=>?_) (fun hm=>?_)
  ·refine sq<|rg<|rr 1 ?_;refine rn<|rt ?_;cases hm;exact⟨_,tR rfl,rfl,(h.taken 0)⟩
  ·refine sp<|sq<|rg<|rr 1 ?_;refine l1 ((h.bring 0 rfl).box) 2 ?_;refine rr 1 ?_;obtain⟨p0,a0,hm⟩:=bS hm;refine ca znv (laws_szShardRedexS_ok (hE.trans h.ext) f0 a0) (fun t0 A0 S=>?_);obtain⟨rfl,X⟩:=S;have q:=h.join X;refine rr 1 ?_;refine rn<|sq<|sq<|rg<|rr 2 ?_;refine rn<|ci hm (fun hm=>?_) (fun hm=>?_)
   ·refine sq<|rg<|rr 1 ?_;refine rn<|rt ?_;cases hm;exact⟨_,tR rfl,rfl,(q.taken 0)⟩
   ·refine sp<|sq<|rg<|rr 2 ?_;refine rn<|rt ?_;cases hm;exact⟨_,tR rfl,rfl,(q.taken 0)⟩

theorem zj4:EN 120:=en Tryz.func120
def zbE (fu:Nat) (t2:Int):Option Int:=some t2
def z83 (fu:Nat) (x0:(List D.Qp)) (s1:Int × Int):Option (Rd (Int × Int) (Int) (Int)):=(if(decide (s1.2<(x0.length:Int)))=true then((idx x0 s1.2).bind fun h=>((z8T fu h s1.1).bind fun d=>(if(decide (d<0))=true then some (.ret (-1)) else some (.next (d,w64 (s1.2+1)))))) else some (.brk s1.1))
def z74 (fu:Nat) (x0:(List D.Qp)) (x1:Int):Option (Int):=(if(decide ((w64 (x1 - (x0.length:Int)))<0))=true then some (-1) else((iter (z83 fu x0) fu (w64 (x1 - (x0.length:Int)),0)).bind fun o=>aft o (zbE fu)))

theorem laws_szShardS_ok {W w:World}(hE:Ext W w){M:Option Addr}{d0:Nat}{x0:(List D.Qp)}{x1:Int}(i0:ty22.ro W [sl M x0 d0] x0){fu:Nat}{r:Int}(hm:z74 fu x0 x1=some r):
  CL 120 ⟨[sl M x0 d0,iv x1]⟩ w (RI w r):=by
 refine into Tryz.func120 27 _ ?_;unfold z74 at hm;have hS:=St.start w;refine sq<|rg<|rr 1 ?_;refine rn<|sq<|rg<|rr 5 ?_;refine rn<|sq<|sq<|rg<|rr 2 ?_;refine rn<|ci hm (fun hm=>?_) (fun hm=>?_)
 ·refine sq<|rg<|rr 1 ?_;refine rn<|rt ?_;cases hm;exact⟨_,tR rfl,rfl,hS⟩
 ·refine sp<|sq<|sq<|rg<|rr 1 ?_;refine rn ?_;obtain⟨j0,Y,hm⟩:=bS hm;refine ct (fun(t2:Int) F w9=>j0=.inl t2∧Ext w w9∧St w w9 []∧F=[(1,iv t2)]) ?_ ?_
  ·rintro t2 F w7 ⟨Z,u0,S,rfl⟩;subst Z;rw [z8] at hm;unfold zbE at hm;refine sq<|rg<|rr 2 ?_;refine rn<|rt ?_;cases hm;exact⟨_,tR rfl,rfl,S⟩
  ·refine bk<|wk [0,1,5] ?_;refine it (fun(s1:Int × Int) F w9=>Ext w w9∧St w w9 []∧F=[(0,sl M x0 d0),(1,iv s1.1),(5,iv s1.2)]) Y ⟨(Ext.refl _),hS,rfl⟩ ?_;rintro s1 F F0 _ B0 ⟨e0,h,rfl⟩ d G;unfold z83 at d;refine sq<|sq<|rg<|rr 4 ?_;refine rn<|ci d (fun d=>?_) (fun d=>?_)
   ·refine sp<|sq<|bk<|sq<|rg<|rr 2 ?_;obtain⟨H0,a0,d⟩:=bS d;refine ix (hE.trans h.ext) i0 a0 (fun C0 g0 X H=>?_);obtain⟨k0,v0,o0,y0,p0,A0,f0,q0,r0,t0⟩:=zd6 H;subst f0;refine lN (ax hE h X) ?_;refine rr 1 ?_;obtain⟨D0,b0,d⟩:=bS d;refine ca zo1 (laws_szShard_ok (hE.trans h.ext) H b0) (fun E0 G0 O=>?_);obtain⟨rfl,o⟩:=O;have q:=h.join o;refine rr 1 ?_;refine rn<|sq<|rg<|rr 2 ?_;refine rn<|ci d (fun d=>?_) (fun d=>?_)
    ·refine sq<|rg<|rr 1 ?_;refine rn<|rt ?_;cases d;cases G;have hm:some _=some _:=hm;cases hm;exact⟨_,tR rfl,rfl,q⟩
    ·refine sp<|rg<|rr 3 ?_;refine rn ?_;cases d;exact⟨_,_,rfl,⟨(e0.trans o.ext),q,rfl⟩,rfl⟩
   ·refine xt ?_;cases d;exact⟨_,_,⟨G,e0,h,rfl⟩,rfl⟩

theorem zpM:EN 59:=en Tryz.func59
def z9F (fu:Nat) (x0:D.Qi) (x1:Int):Option (Int):=((z74 fu x0.Qc x1).bind fun d=>(if(decide (d<0))=true then some (-1) else some d))

theorem laws_szGrid_ok {W w:World}(hE:Ext W w){H:List Value}{x0:D.Qi}{x1:Int}(M:ty26.ro W H x0){fu:Nat}{r:Int}(hm:z9F fu x0 x1=some r):
  CL 59 ⟨[.agg ⟨H⟩,iv x1]⟩ w (RI w r):=by
 obtain⟨A1,k2,e4,h3⟩:=zfw M;subst e4;refine into Tryz.func59 12 _ ?_;unfold z9F at hm;have hS:=St.start w;refine sq<|rg<|nw hS (fun g5 w6 e7 d=>?_);refine rr 1 ?_;refine rn<|sq<|rg<|rr 1 ?_;refine l1 ((d.bring 0 rfl).box) 0 ?_;refine rr 1 ?_;obtain⟨O,G,hm⟩:=bS hm;refine ca zj4 (laws_szShardS_ok (hE.trans d.ext) h3 G) (fun S X o=>?_);obtain⟨rfl,q⟩:=o;have h:=d.join q;refine rr 1 ?_;refine rn<|sq<|sq<|rg<|rr 2 ?_;refine rn<|ci hm (fun hm=>?_) (fun hm=>?_)
 ·refine sq<|rg<|rr 1 ?_;refine rn<|rt ?_;cases hm;exact⟨_,tR rfl,rfl,(h.taken 0)⟩
 ·refine sp<|sq<|rg<|rr 2 ?_;refine rn<|rt ?_;cases hm;exact⟨_,tR rfl,rfl,(h.taken 0)⟩

theorem zo0:EN 169:=en Tryz.func169
def z8h (fu:Nat) (x0:D.Qe) (x1:Int):Option (Int):=((z41 fu x0.Qz x1).bind fun d=>(if(decide (d<0))=true then some (-1) else some d))

theorem laws_szParcel_ok {W w:World}(hE:Ext W w){H:List Value}{x0:D.Qe}{x1:Int}(M:zjr.ro W H x0){fu:Nat}{r:Int}(hm:z8h fu x0 x1=some r):
  CL 169 ⟨[.agg ⟨H⟩,iv x1]⟩ w (RI w r):=by
 obtain⟨A1,k2,A4,k5,e7,h3,h6⟩:=zd5 M;subst e7;refine into Tryz.func169 12 _ ?_;unfold z8h at hm;have hS:=St.start w;refine sq<|rg<|nw hS (fun S Z O d=>?_);refine rr 1 ?_;refine rn<|sq<|rg<|rr 1 ?_;refine lN (At.sub ((d.bring 0 rfl).box) 1 5) ?_;refine rr 1 ?_;obtain⟨X,G,hm⟩:=bS hm;refine ca ziK (laws_szShardCell_ok (hE.trans d.ext) (zgT x0.Qz h3 h6) G) (fun Y a0 o=>?_);obtain⟨rfl,q⟩:=o;have h:=d.join q;refine rr 1 ?_;refine rn<|sq<|sq<|rg<|rr 2 ?_;refine rn<|ci hm (fun hm=>?_) (fun hm=>?_)
 ·refine sq<|rg<|rr 1 ?_;refine rn<|rt ?_;cases hm;exact⟨_,tR rfl,rfl,(h.taken 0)⟩
 ·refine sp<|sq<|rg<|rr 2 ?_;refine rn<|rt ?_;cases hm;exact⟨_,tR rfl,rfl,(h.taken 0)⟩

theorem zoq:EN 121:=en Tryz.func121
def zbk (fu:Nat) (t2:Int):Option Int:=some t2
def z7m (fu:Nat) (x0:(List D.Qe)) (s1:Int × Int):Option (Rd (Int × Int) (Int) (Int)):=(if(decide (s1.2<(x0.length:Int)))=true then((idx x0 s1.2).bind fun h=>((z8h fu h s1.1).bind fun d=>(if(decide (d<0))=true then some (.ret (-1)) else some (.next (d,w64 (s1.2+1)))))) else some (.brk s1.1))
def z7E (fu:Nat) (x0:(List D.Qe)) (x1:Int):Option (Int):=(if(decide ((w64 (x1 - (x0.length:Int)))<0))=true then some (-1) else((iter (z7m fu x0) fu (w64 (x1 - (x0.length:Int)),0)).bind fun o=>aft o (zbk fu)))

theorem laws_szParcelS_ok {W w:World}(hE:Ext W w){M:Option Addr}{d0:Nat}{x0:(List D.Qe)}{x1:Int}(i0:zjw.ro W [sl M x0 d0] x0){fu:Nat}{r:Int}(hm:z7E fu x0 x1=some r):
  CL 121 ⟨[sl M x0 d0,iv x1]⟩ w (RI w r):=by
 refine into Tryz.func121 27 _ ?_;unfold z7E at hm;have hS:=St.start w;refine sq<|rg<|rr 1 ?_;refine rn<|sq<|rg<|rr 5 ?_;refine rn<|sq<|sq<|rg<|rr 2 ?_;refine rn<|ci hm (fun hm=>?_) (fun hm=>?_)
 ·refine sq<|rg<|rr 1 ?_;refine rn<|rt ?_;cases hm;exact⟨_,tR rfl,rfl,hS⟩
 ·refine sp<|sq<|sq<|rg<|rr 1 ?_;refine rn ?_;obtain⟨j0,Y,hm⟩:=bS hm;refine ct (fun(t2:Int) F w9=>j0=.inl t2∧Ext w w9∧St w w9 []∧F=[(1,iv t2)]) ?_ ?_
  ·rintro t2 F w7 ⟨Z,r0,S,rfl⟩;subst Z;rw [z8] at hm;unfold zbk at hm;refine sq<|rg<|rr 2 ?_;refine rn<|rt ?_;cases hm;exact⟨_,tR rfl,rfl,S⟩
  ·refine bk<|wk [0,1,5] ?_;refine it (fun(s1:Int × Int) F w9=>Ext w w9∧St w w9 []∧F=[(0,sl M x0 d0),(1,iv s1.1),(5,iv s1.2)]) Y ⟨(Ext.refl _),hS,rfl⟩ ?_;rintro s1 F C0 _ v0 ⟨e0,h,rfl⟩ d G;unfold z7m at d;refine sq<|sq<|rg<|rr 4 ?_;refine rn<|ci d (fun d=>?_) (fun d=>?_)
   ·refine sp<|sq<|bk<|sq<|rg<|rr 2 ?_;obtain⟨E0,a0,d⟩:=bS d;refine ix (hE.trans h.ext) i0 a0 (fun y0 g0 X H=>?_);obtain⟨k0,t0,o0,u0,f0,p0,q0⟩:=zd5 H;subst f0;refine lN (ax hE h X) ?_;refine rr 1 ?_;obtain⟨A0,b0,d⟩:=bS d;refine ca zo0 (laws_szParcel_ok (hE.trans h.ext) H b0) (fun B0 D0 O=>?_);obtain⟨rfl,o⟩:=O;have q:=h.join o;refine rr 1 ?_;refine rn<|sq<|rg<|rr 2 ?_;refine rn<|ci d (fun d=>?_) (fun d=>?_)
    ·refine sq<|rg<|rr 1 ?_;refine rn<|rt ?_;cases d;cases G;have hm:some _=some _:=hm;cases hm;exact⟨_,tR rfl,rfl,q⟩
    ·refine sp<|rg<|rr 3 ?_;refine rn ?_;cases d;exact⟨_,_,rfl,⟨(e0.trans o.ext),q,rfl⟩,rfl⟩
   ·refine xt ?_;cases d;exact⟨_,_,⟨G,e0,h,rfl⟩,rfl⟩

theorem zkh:EN 60:=en Tryz.func60
def zaM (fu:Nat) (t2:Int):Option Int:=some t2
def z6y (fu:Nat) (x0:(List (List D.Qe))) (s1:Int × Int):Option (Rd (Int × Int) (Int) (Int)):=(if(decide (s1.2<(x0.length:Int)))=true then((idx x0 s1.2).bind fun h=>((z7E fu h s1.1).bind fun d=>(if(decide (d<0))=true then some (.ret (-1)) else some (.next (d,w64 (s1.2+1)))))) else some (.brk s1.1))
def z4O (fu:Nat) (x0:(List (List D.Qe))) (x1:Int):Option (Int):=(if(decide ((w64 (x1 - (x0.length:Int)))<0))=true then some (-1) else((iter (z6y fu x0) fu (w64 (x1 - (x0.length:Int)),0)).bind fun o=>aft o (zaM fu)))

theorem laws_szParcelSS_ok {W w:World}(hE:Ext W w){M:Option Addr}{d0:Nat}{x0:(List (List D.Qe))}{x1:Int}(i0:ty27.ro W [sl M x0 d0] x0){fu:Nat}{r:Int}(hm:z4O fu x0 x1=some r):
  CL 60 ⟨[sl M x0 d0,iv x1]⟩ w (RI w r):=by
 refine into Tryz.func60 27 _ ?_;unfold z4O at hm;have hS:=St.start w;refine sq<|rg<|rr 1 ?_;refine rn<|sq<|rg<|rr 5 ?_;refine rn<|sq<|sq<|rg<|rr 2 ?_;refine rn<|ci hm (fun hm=>?_) (fun hm=>?_)
 ·refine sq<|rg<|rr 1 ?_;refine rn<|rt ?_;cases hm;exact⟨_,tR rfl,rfl,hS⟩
 ·refine sp<|sq<|sq<|rg<|rr 1 ?_;refine rn ?_;obtain⟨j0,Y,hm⟩:=bS hm;refine ct (fun(t2:Int) F w9=>j0=.inl t2∧Ext w w9∧St w w9 []∧F=[(1,iv t2)]) ?_ ?_
  ·rintro t2 F w7 ⟨Z,o0,S,rfl⟩;subst Z;rw [z8] at hm;unfold zaM at hm;refine sq<|rg<|rr 2 ?_;refine rn<|rt ?_;cases hm;exact⟨_,tR rfl,rfl,S⟩
  ·refine bk<|wk [0,1,5] ?_;refine it (fun(s1:Int × Int) F w9=>Ext w w9∧St w w9 []∧F=[(0,sl M x0 d0),(1,iv s1.1),(5,iv s1.2)]) Y ⟨(Ext.refl _),hS,rfl⟩ ?_;rintro s1 F v0 _ q0 ⟨e0,h,rfl⟩ d G;unfold z6y at d;refine sq<|sq<|rg<|rr 4 ?_;refine rn<|ci d (fun d=>?_) (fun d=>?_)
   ·refine sp<|sq<|bk<|sq<|rg<|rr 2 ?_;obtain⟨A0,a0,d⟩:=bS d;refine ix (hE.trans h.ext) i0 a0 (fun r0 g0 X H=>?_);obtain⟨k0,p0,f0⟩:=zgX H;subst f0;refine l1 (ax hE h X) 0 ?_;refine rr 1 ?_;obtain⟨t0,b0,d⟩:=bS d;refine ca zoq (laws_szParcelS_ok (hE.trans h.ext) H b0) (fun u0 y0 O=>?_);obtain⟨rfl,o⟩:=O;have q:=h.join o;refine rr 1 ?_;refine rn<|sq<|rg<|rr 2 ?_;refine rn<|ci d (fun d=>?_) (fun d=>?_)
    ·refine sq<|rg<|rr 1 ?_;refine rn<|rt ?_;cases d;cases G;have hm:some _=some _:=hm;cases hm;exact⟨_,tR rfl,rfl,q⟩
    ·refine sp<|rg<|rr 3 ?_;refine rn ?_;cases d;exact⟨_,_,rfl,⟨(e0.trans o.ext),q,rfl⟩,rfl⟩
   ·refine xt ?_;cases d;exact⟨_,_,⟨G,e0,h,rfl⟩,rfl⟩

theorem zkg:EN 61:=en Tryz.func61
def zbm (fu:Nat) (t2:Int):Option Int:=some t2
def z7n (fu:Nat) (x0:(List (List Int))) (s1:Int × Int):Option (Rd (Int × Int) (Int) (Int)):=(if(decide (s1.2<(x0.length:Int)))=true then((idx x0 s1.2).bind fun h=>((z3D fu h s1.1).bind fun d=>(if(decide (d<0))=true then some (.ret (-1)) else some (.next (d,w64 (s1.2+1)))))) else some (.brk s1.1))
def z5E (fu:Nat) (x0:(List (List Int))) (x1:Int):Option (Int):=(if(decide ((w64 (x1 - (x0.length:Int)))<0))=true then some (-1) else((iter (z7n fu x0) fu (w64 (x1 - (x0.length:Int)),0)).bind fun o=>aft o (zbm fu)))

theorem laws_szInt64SS_ok {W w:World}(hE:Ext W w){M:Option Addr}{d0:Nat}{x0:(List (List Int))}{x1:Int}(i0:ty28.ro W [sl M x0 d0] x0){fu:Nat}{r:Int}(hm:z5E fu x0 x1=some r):
  CL 61 ⟨[sl M x0 d0,iv x1]⟩ w (RI w r):=by
 refine into Tryz.func61 27 _ ?_;unfold z5E at hm;have hS:=St.start w;refine sq<|rg<|rr 1 ?_;refine rn<|sq<|rg<|rr 5 ?_;refine rn<|sq<|sq<|rg<|rr 2 ?_;refine rn<|ci hm (fun hm=>?_) (fun hm=>?_)
 ·refine sq<|rg<|rr 1 ?_;refine rn<|rt ?_;cases hm;exact⟨_,tR rfl,rfl,hS⟩
 ·refine sp<|sq<|sq<|rg<|rr 1 ?_;refine rn ?_;obtain⟨j0,Y,hm⟩:=bS hm;refine ct (fun(t2:Int) F w9=>j0=.inl t2∧Ext w w9∧St w w9 []∧F=[(1,iv t2)]) ?_ ?_
  ·rintro t2 F w7 ⟨Z,o0,S,rfl⟩;subst Z;rw [z8] at hm;unfold zbm at hm;refine sq<|rg<|rr 2 ?_;refine rn<|rt ?_;cases hm;exact⟨_,tR rfl,rfl,S⟩
  ·refine bk<|wk [0,1,5] ?_;refine it (fun(s1:Int × Int) F w9=>Ext w w9∧St w w9 []∧F=[(0,sl M x0 d0),(1,iv s1.1),(5,iv s1.2)]) Y ⟨(Ext.refl _),hS,rfl⟩ ?_;rintro s1 F v0 _ q0 ⟨e0,h,rfl⟩ d G;unfold z7n at d;refine sq<|sq<|rg<|rr 4 ?_;refine rn<|ci d (fun d=>?_) (fun d=>?_)
   ·refine sp<|sq<|bk<|sq<|rg<|rr 2 ?_;obtain⟨A0,a0,d⟩:=bS d;refine ix (hE.trans h.ext) i0 a0 (fun r0 g0 X H=>?_);obtain⟨k0,p0,f0⟩:=z1z H;subst f0;refine l1 (ax hE h X) 0 ?_;refine rr 1 ?_;obtain⟨t0,b0,d⟩:=bS d;refine ca zfk (laws_szInt64S_ok (hE.trans h.ext) H b0) (fun u0 y0 O=>?_);obtain⟨rfl,o⟩:=O;have q:=h.join o;refine rr 1 ?_;refine rn<|sq<|rg<|rr 2 ?_;refine rn<|ci d (fun d=>?_) (fun d=>?_)
    ·refine sq<|rg<|rr 1 ?_;refine rn<|rt ?_;cases d;cases G;have hm:some _=some _:=hm;cases hm;exact⟨_,tR rfl,rfl,q⟩
    ·refine sp<|rg<|rr 3 ?_;refine rn ?_;cases d;exact⟨_,_,rfl,⟨(e0.trans o.ext),q,rfl⟩,rfl⟩
   ·refine xt ?_;cases d;exact⟨_,_,⟨G,e0,h,rfl⟩,rfl⟩

theorem zpT:EN 15:=en Tryz.func15
def z7F (fu:Nat) (x0:D.Qa) (x1:Int):Option (Int):=((z9F fu x0.Qi x1).bind fun d=>(if(decide (d<0))=true then some (-1) else((z4O fu x0.Qh d).bind fun h=>(if(decide (h<0))=true then some (-1) else((z5E fu x0.Qo h).bind fun o=>(if(decide (o<0))=true then some (-1) else((z3D fu x0.QU o).bind fun q=>(if(decide (q<0))=true then some (-1) else((z3D fu x0.QZ q).bind fun G=>(if(decide (G<0))=true then some (-1) else some G))))))))))

theorem laws_szCluster_ok {W w:World}(hE:Ext W w){o0:List Value}{x0:D.Qa}{x1:Int}(q0:ty31.ro W o0 x0){fu:Nat}{r:Int}(hm:z7F fu x0 x1=some r):
  CL 15 ⟨[.agg ⟨o0⟩,iv x1]⟩ w (RI w r):=by
 obtain⟨A1,k2,A4,k5,A7,C0,v0,D0,y0,E0,p0,h3,h6,r0,t0,u0⟩:=zfu q0;subst p0;refine into Tryz.func15 36 _ ?_;unfold z7F at hm;have hS:=St.start w;refine sq<|rg<|nw hS (fun B0 Q0 A0 G=>?_);refine rr 1 ?_;refine rn<|sq<|rg<|rr 1 ?_;refine lN (At.sub ((G.bring 0 rfl).box) 0 4) ?_;refine rr 1 ?_;obtain⟨F0,f0,hm⟩:=bS hm;refine ca zpM (laws_szGrid_ok (hE.trans G.ext) (zfv x0.Qi h3) f0) (fun L0 R0 M=>?_);obtain⟨rfl,O⟩:=M;have d:=G.join O;refine rr 1 ?_;refine rn<|sq<|sq<|rg<|rr 2 ?_;refine rn<|ci hm (fun hm=>?_) (fun hm=>?_)
 ·refine sq<|rg<|rr 1 ?_;refine rn<|rt ?_;cases hm;exact⟨_,tR rfl,rfl,(d.taken 0)⟩
 ·refine sp<|sq<|rg<|rr 1 ?_;refine l1 ((d.bring 0 rfl).box) 4 ?_;refine rr 1 ?_;obtain⟨G0,g0,hm⟩:=bS hm;refine ca zkh (laws_szParcelSS_ok (hE.trans d.ext) h6 g0) (fun M0 S0 S=>?_);obtain⟨rfl,X⟩:=S;have h:=d.join X;refine rr 1 ?_;refine rn<|sq<|sq<|rg<|rr 2 ?_;refine rn<|ci hm (fun hm=>?_) (fun hm=>?_)
  ·refine sq<|rg<|rr 1 ?_;refine rn<|rt ?_;cases hm;exact⟨_,tR rfl,rfl,(h.taken 0)⟩
  ·refine sp<|sq<|rg<|rr 1 ?_;refine l1 ((h.bring 0 rfl).box) 5 ?_;refine rr 1 ?_;obtain⟨H0,i0,hm⟩:=bS hm;refine ca zkg (laws_szInt64SS_ok (hE.trans h.ext) r0 i0) (fun N0 T0 Y=>?_);obtain⟨rfl,Z⟩:=Y;have o:=h.join Z;refine rr 1 ?_;refine rn<|sq<|sq<|rg<|rr 2 ?_;refine rn<|ci hm (fun hm=>?_) (fun hm=>?_)
   ·refine sq<|rg<|rr 1 ?_;refine rn<|rt ?_;cases hm;exact⟨_,tR rfl,rfl,(o.taken 0)⟩
   ·refine sp<|sq<|rg<|rr 1 ?_;refine l1 ((o.bring 0 rfl).box) 6 ?_;refine rr 1 ?_;obtain⟨J0,j0,hm⟩:=bS hm;refine ca zfk (laws_szInt64S_ok (hE.trans o.ext) t0 j0) (fun O0 U0 a0=>?_);obtain⟨rfl,b0⟩:=a0;have q:=o.join b0;refine rr 1 ?_;refine rn<|sq<|sq<|rg<|rr 2 ?_;refine rn<|ci hm (fun hm=>?_) (fun hm=>?_)
    ·refine sq<|rg<|rr 1 ?_;refine rn<|rt ?_;cases hm;exact⟨_,tR rfl,rfl,(q.taken 0)⟩
    ·refine sp<|sq<|rg<|rr 1 ?_;refine l1 ((q.bring 0 rfl).box) 7 ?_;refine rr 1 ?_;obtain⟨K0,k0,hm⟩:=bS hm;refine ca zfk (laws_szInt64S_ok (hE.trans q.ext) u0 k0) (fun P0 V0 d0=>?_);obtain⟨rfl,e0⟩:=d0;have H:=q.join e0;refine rr 1 ?_;refine rn<|sq<|sq<|rg<|rr 2 ?_;refine rn<|ci hm (fun hm=>?_) (fun hm=>?_)
     ·refine sq<|rg<|rr 1 ?_;refine rn<|rt ?_;cases hm;exact⟨_,tR rfl,rfl,(H.taken 0)⟩
     ·refine sp<|sq<|rg<|rr 2 ?_;refine rn<|rt ?_;cases hm;exact⟨_,tR rfl,rfl,(H.taken 0)⟩

theorem zfj:EN 67:=en Tryz.func67
def zbD (fu:Nat) (d:(List Int)):Option (List Int):=some d
def z82 (fu:Nat) (x0:(List Int)) (d:Int × (List Int)):Option (Rd (Int × (List Int)) ((List Int)) ((List Int))):=(if(decide (d.1<(x0.length:Int)))=true then((idx x0 d.1).bind fun h=>(if decide (0≤d.1∧d.1.toNat<d.2.length)=true then some (.next (w64 (d.1+1),(d.2.set d.1.toNat h))) else none)) else some (.brk d.2))
def z3C (fu:Nat) (x0:(List Int)):Option ((List Int)):=(if decide (0≤(x0.length:Int)∧(x0.length:Int)≤4294967296)=true then((iter (z82 fu x0) fu (0,(List.replicate (x0.length:Int).toNat (0:Int)))).bind fun o=>aft o (zbD fu)) else none)

theorem laws_toInt64S_ok {W w:World}(hE:Ext W w){H:Option Addr}{g0:Nat}{x0:(List Int)}(q0:ty29.ro W [sl H x0 g0] x0){fu:Nat}{r:(List Int)}(hm:z3C fu x0=some r):
  CL 67 ⟨[sl H x0 g0]⟩ w (Ret fun v w8=>∃ A0 k0,v=sl A0 r k0∧St w w8 [ow ty29 A0 r k0]):=by
 refine into Tryz.func67 22 _ ?_;unfold z3C at hm;have hS:=St.start w;refine sq<|rg<|rr 1 ?_;refine rn<|sq<|rg<|rr 2 ?_;obtain⟨t0,hm⟩:=iS hm;have hz7:=of_decide_eq_true t0;refine mS (U:=tInt) (0:Int) hS hz7 (fun _=>⟨rfl,rfl⟩) (fun A2 k3 w4 e5 r0=>?_);refine rr 1 ?_;refine rn<|sq<|sq<|rg<|rr 1 ?_;refine rn ?_;obtain⟨u0,a0,hm⟩:=bS hm;refine ct (fun(j0:(List Int)) F w9=>u0=.inl j0∧St w w9 [Own ty29 [sl A2 (List.replicate (x0.length:Int).toNat (0:Int)) k3] j0]∧F=[(3,sl A2 (List.replicate (x0.length:Int).toNat (0:Int)) k3)]) ?_ ?_
 ·rintro j0 F B0 ⟨b0,q,rfl⟩;subst b0;rw [z8] at hm;unfold zbD at hm;refine sq<|rg<|rr 2 ?_;refine rn<|rt ?_;cases hm;have hn18:=(q.bring 0 rfl).lenEq;have M:=(q.bring 0 rfl).reLen hn18;exact⟨_,tR rfl,A2,k3,(by first | (simp only [sl,hn18];done) | (simp only [sl,hn18];rfl)),M⟩
 ·refine bk<|wk [0,3,4] ?_;refine it (fun(i0:Int × (List Int)) F w9=>St w w9 [Own ty29 [sl A2 (List.replicate (x0.length:Int).toNat (0:Int)) k3] i0.2]∧F=[(0,sl H x0 g0),(3,sl A2 (List.replicate (x0.length:Int).toNat (0:Int)) k3),(4,iv i0.1)]) a0 ⟨r0,rfl⟩ ?_;rintro i0 F C0 _ v0 ⟨h,rfl⟩ d d0;unfold z82 at d;refine sq<|sq<|rg<|rr 4 ?_;refine rn<|ci d (fun d=>?_) (fun d=>?_)
  ·refine sp<|sq<|bk<|rg<|rr 4 ?_;obtain⟨o0,f0,d⟩:=bS d;refine ix (hE.trans h.ext) q0 f0 (fun y0 p0 Y e0=>?_);cases e0;refine l1 (ax hE h Y) 0 ?_;have G:=h.bring 0 rfl;obtain⟨Z,d⟩:=iS d;have o:=of_decide_eq_true Z;refine io G o.1 o.2 (fun q34 hq35=>?_);have O:=G.flat (T:=tInt) (cs:=[iv o0]) (x:=o0) ⟨rfl,rfl⟩;have S:=O.bring 1 rfl;refine se S o.2 hq35 (fun D0 X=>?_);refine rn<|rg<|rr 3 ?_;refine rn ?_;cases d;exact⟨_,_,rfl,⟨X,rfl⟩,rfl⟩
  ·refine xt ?_;cases d;exact⟨_,_,⟨d0,h,rfl⟩,rfl⟩

theorem zbu:EN 126:=en Tryz.func126
def z1F (fu:Nat) (x0:D.Qf):Option (D.Qf):=some x0

theorem laws_toAddress_ok {W w:World}(hE:Ext W w){Y:List Value}{x0:D.Qf}(Z:ty24.ro W Y x0){fu:Nat}{r:D.Qf}(hm:z1F fu x0=some r):
  CL 126 ⟨[.agg ⟨Y⟩]⟩ w (Ret fun v w8=>v=.agg ⟨[iv r.Qg,iv r.Qj,iv r.Qs]⟩∧St w w8 []):=by
 have e1:=zaj Z;subst e1;refine into Tryz.func126 14 _ ?_;unfold z1F at hm;have hS:=St.start w;refine sq<|rg<|nw hS (fun g2 w3 e4 a0=>?_);refine nw a0 (fun g6 w7 b0 H=>?_);refine rn<|sq<|rg<|nw H (fun e0 f0 d0 d=>?_);refine rn<|sq<|rg<|rr 1 ?_;refine l1 ((d.bring 2 rfl).box) 0 ?_;refine rr 1 ?_;have M:=d.bring 0 rfl;refine so (A:=[]) M 0 (fun g0 h=>?_);refine rn<|sq<|rg<|rr 1 ?_;refine l1 ((h.bring 2 rfl).box) 1 ?_;refine rr 1 ?_;have O:=h.bring 0 rfl;refine so (A:=[]) O 1 (fun i0 o=>?_);refine rn<|sq<|rg<|rr 1 ?_;refine l1 ((o.bring 2 rfl).box) 2 ?_;refine rr 1 ?_;have S:=o.bring 0 rfl;refine so (A:=[]) S 2 (fun j0 q=>?_);refine rn<|sq<|rg<|lN ((q.bring 0 rfl).box) ?_;have X:=q.bring 1 rfl;refine so (A:=[]) X 0 (fun k0 G=>?_);refine rn<|rt ?_;cases hm;exact⟨_,.cons (ra ((G.bring 0 rfl).box)) .nil,rfl,(G.taken 0)⟩

theorem zna:EN 254:=en Tryz.func254
def zaL (fu:Nat) (d:(List D.Qf)):Option (List D.Qf):=some d
def z6x (fu:Nat) (x0:(List D.Qf)) (d:Int × (List D.Qf)):Option (Rd (Int × (List D.Qf)) ((List D.Qf)) ((List D.Qf))):=(if(decide (d.1<(x0.length:Int)))=true then((idx x0 d.1).bind fun o=>((z1F fu o).bind fun h=>(if decide (0≤d.1∧d.1.toNat<d.2.length)=true then some (.next (w64 (d.1+1),(d.2.set d.1.toNat h))) else none))) else some (.brk d.2))
def z73 (fu:Nat) (x0:(List D.Qf)):Option ((List D.Qf)):=(if decide (0≤(x0.length:Int)∧(x0.length:Int)≤4294967296)=true then((iter (z6x fu x0) fu (0,(List.replicate (x0.length:Int).toNat (⟨(0:Int),(0:Int),(0:Int)⟩:D.Qf)))).bind fun o=>aft o (zaL fu)) else none)

theorem laws_toAddressS_ok {W w:World}(hE:Ext W w){M:Option Addr}{p0:Nat}{x0:(List D.Qf)}(v0:zgu.ro W [sl M x0 p0] x0){fu:Nat}{r:(List D.Qf)}(hm:z73 fu x0=some r):
  CL 254 ⟨[sl M x0 p0]⟩ w (Ret fun v w8=>∃ A0 k0,v=sl A0 r k0∧St w w8 [ow z3r A0 r k0]):=by
 refine into Tryz.func254 23 _ ?_;unfold z73 at hm;have hS:=St.start w;refine sq<|rg<|rr 1 ?_;refine rn<|sq<|rg<|rr 2 ?_;obtain⟨B0,hm⟩:=iS hm;have hz7:=of_decide_eq_true B0;refine mS (U:=ty35) (⟨(0:Int),(0:Int),(0:Int)⟩:D.Qf) hS hz7 (fun _=>(zah (c:=(⟨(0:Int),(0:Int),(0:Int)⟩:D.Qf)) rfl)) (fun A2 k3 w4 e5 y0=>?_);refine rr 1 ?_;refine rn<|sq<|sq<|rg<|rr 1 ?_;refine rn ?_;obtain⟨C0,f0,hm⟩:=bS hm;refine ct (fun(r0:(List D.Qf)) F w9=>C0=.inl r0∧St w w9 [Own z3r [sl A2 (List.replicate (x0.length:Int).toNat (⟨(0:Int),(0:Int),(0:Int)⟩:D.Qf)) k3] r0]∧F=[(3,sl A2 (List.replicate (x0.length:Int).toNat (⟨(0:Int),(0:Int),(0:Int)⟩:D.Qf)) k3)]) ?_ ?_
 ·rintro r0 F H0 ⟨g0,q,rfl⟩;subst g0;rw [z8] at hm;unfold zaL at hm;refine sq<|rg<|rr 2 ?_;refine rn<|rt ?_;cases hm;have hn18:=(q.bring 0 rfl).lenEq;have X:=(q.bring 0 rfl).reLen hn18;exact⟨_,tR rfl,A2,k3,(by first | (simp only [sl,hn18];done) | (simp only [sl,hn18];rfl)),X⟩
 ·refine bk<|wk [0,3,4] ?_;refine it (fun(q0:Int × (List D.Qf)) F w9=>St w w9 [Own z3r [sl A2 (List.replicate (x0.length:Int).toNat (⟨(0:Int),(0:Int),(0:Int)⟩:D.Qf)) k3] q0.2]∧F=[(0,sl M x0 p0),(3,sl A2 (List.replicate (x0.length:Int).toNat (⟨(0:Int),(0:Int),(0:Int)⟩:D.Qf)) k3),(4,iv q0.1)]) f0 ⟨y0,rfl⟩ ?_;rintro q0 F J0 _ E0 ⟨h,rfl⟩ d i0;unfold z6x at d;refine sq<|sq<|rg<|rr 4 ?_;refine rn<|ci d (fun d=>?_) (fun d=>?_)
  ·refine sp<|sq<|bk<|rg<|rr 4 ?_;obtain⟨M0,j0,d⟩:=bS d;refine ix (hE.trans h.ext) v0 j0 (fun F0 u0 d0 H=>?_);have t0:=zaj H;subst t0;refine lN (ax hE h d0) ?_;obtain⟨D0,o0,d⟩:=bS d;refine ca zbu (laws_toAddress_ok (hE.trans h.ext) H o0) (fun G0 K0 O=>?_);obtain⟨rfl,S⟩:=O;have Y:=h.join S;have G:=Y.bring 0 rfl;obtain⟨e0,d⟩:=iS d;have o:=of_decide_eq_true e0;refine io G o.1 o.2 (fun q42 hq43=>?_);have Z:=zgL (c:=D0) (B:=_) G;have a0:=Z.bring 1 rfl;refine se a0 o.2 hq43 (fun L0 b0=>?_);refine rn<|rg<|rr 3 ?_;refine rn ?_;cases d;exact⟨_,_,rfl,⟨b0,rfl⟩,rfl⟩
  ·refine xt ?_;cases d;exact⟨_,_,⟨i0,h,rfl⟩,rfl⟩

theorem ziF:EN 230:=en Tryz.func230
def z40 (fu:Nat) (x0:D.Qb):Option (D.Qb):=((z3C fu x0.Data).bind fun d=>((z73 fu x0.QX).bind fun h=>some (⟨x0.Qj,x0.QL,x0.Value,d,h⟩:D.Qb)))

theorem laws_toShardCell_ok {W w:World}(hE:Ext W w){r0:List Value}{x0:D.Qb}(v0:zgt.ro W r0 x0){fu:Nat}{r:D.Qb}(hm:z40 fu x0=some r):
  CL 230 ⟨[.agg ⟨r0⟩]⟩ w (Ret fun v w8=>∃ A0 k0 A1 k1,v=.agg ⟨[iv r.Qj,iv r.QL,iv r.Value,sl A0 r.Data k0,sl A1 r.QX k1]⟩∧St w w8 [ow ty29 A0 r.Data k0,ow z3r A1 r.QX k1]):=by
 obtain⟨A1,k2,A4,k5,e7,h3,h6⟩:=zbT v0;subst e7;refine into Tryz.func230 22 _ ?_;unfold z40 at hm;have hS:=St.start w;refine sq<|rg<|nw hS (fun F0 N0 C0 Z=>?_);refine nw Z (fun G0 O0 D0 a0=>?_);refine rn<|sq<|rg<|nw a0 (fun H0 P0 E0 o=>?_);refine rn<|sq<|rg<|rr 1 ?_;refine l1 ((o.bring 2 rfl).box) 0 ?_;refine rr 1 ?_;have b0:=o.bring 0 rfl;refine so (A:=[]) b0 0 (fun Q0 q=>?_);refine rn<|sq<|rg<|rr 1 ?_;refine l1 ((q.bring 2 rfl).box) 1 ?_;refine rr 1 ?_;have d0:=q.bring 0 rfl;refine so (A:=[]) d0 1 (fun R0 G=>?_);refine rn<|sq<|rg<|rr 1 ?_;refine l1 ((G.bring 2 rfl).box) 2 ?_;refine rr 1 ?_;have e0:=G.bring 0 rfl;refine so (A:=[]) e0 2 (fun S0 d=>?_);refine rn<|sq<|rg<|rr 1 ?_;refine l1 ((d.bring 2 rfl).box) 3 ?_;obtain⟨J0,p0,hm⟩:=bS hm;refine ca zfj (laws_toInt64S_ok (hE.trans d.ext) h3 p0) (fun L0 T0 O=>?_);obtain⟨t0,y0,rfl,S⟩:=O;have f0:=d.join S;refine rr 1 ?_;have g0:=f0.bring 1 rfl;refine so (A:=[]) g0 3 (fun U0 h=>?_);refine rn<|sq<|rg<|rr 1 ?_;refine l1 ((h.bring 3 rfl).box) 4 ?_;obtain⟨K0,q0,hm⟩:=bS hm;refine ca zna (laws_toAddressS_ok (hE.trans h.ext) h6 q0) (fun M0 V0 X=>?_);obtain⟨u0,B0,rfl,Y⟩:=X;have i0:=h.join Y;refine rr 1 ?_;have j0:=i0.bring 1 rfl;refine so (A:=[]) j0 4 (fun X0 H=>?_);refine rn<|sq<|rg<|lN ((H.bring 0 rfl).box) ?_;have o0:=H.bring 3 rfl;refine so (A:=[]) o0 0 (fun Y0 M=>?_);refine rn<|rt ?_;cases hm;exact⟨_,.cons (ra ((M.bring 0 rfl).box)) .nil,t0,y0,u0,B0,rfl,(((M.bring 2 rfl).bring 3 rfl).taken 2)⟩

theorem znu:EN 227:=en Tryz.func227
def z9X (fu:Nat) (d:(List D.Qb)):Option (List D.Qb):=some d
def z5j (fu:Nat) (x0:(List D.Qb)) (d:Int × (List D.Qb)):Option (Rd (Int × (List D.Qb)) ((List D.Qb)) ((List D.Qb))):=(if(decide (d.1<(x0.length:Int)))=true then((idx x0 d.1).bind fun o=>((z40 fu o).bind fun h=>(if decide (0≤d.1∧d.1.toNat<d.2.length)=true then some (.next (w64 (d.1+1),(d.2.set d.1.toNat h))) else none))) else some (.brk d.2))
def z5b (fu:Nat) (x0:(List D.Qb)):Option ((List D.Qb)):=(if decide (0≤(x0.length:Int)∧(x0.length:Int)≤4294967296)=true then((iter (z5j fu x0) fu (0,(List.replicate (x0.length:Int).toNat (⟨(0:Int),(0:Int),(0:Int),([]:(List Int)),([]:(List D.Qf))⟩:D.Qb)))).bind fun o=>aft o (z9X fu)) else none)

theorem laws_toShardCellS_ok {W w:World}(hE:Ext W w){M:Option Addr}{r0:Nat}{x0:(List D.Qb)}(B0:zi4.ro W [sl M x0 r0] x0){fu:Nat}{r:(List D.Qb)}(hm:z5b fu x0=some r):
  CL 227 ⟨[sl M x0 r0]⟩ w (Ret fun v w8=>∃ A0 k0,v=sl A0 r k0∧St w w8 [ow z6K A0 r k0]):=by
 refine into Tryz.func227 23 _ ?_;unfold z5b at hm;have hS:=St.start w;refine sq<|rg<|rr 1 ?_;refine rn<|sq<|rg<|rr 2 ?_;obtain⟨D0,hm⟩:=iS hm;have hz7:=of_decide_eq_true D0;refine mS (U:=z2B) (⟨(0:Int),(0:Int),(0:Int),([]:(List Int)),([]:(List D.Qf))⟩:D.Qb) hS hz7 (fun _=>(zeq (c:=(⟨(0:Int),(0:Int),(0:Int),([]:(List Int)),([]:(List D.Qf))⟩:D.Qb)) ⟨[],[],rfl,(slNilOwn tInt 2 _),⟨[],[],rfl,(slNilOwn ty35 35 _),rfl⟩⟩)) (fun A2 k3 w4 e5 C0=>?_);refine rr 1 ?_;refine rn<|sq<|sq<|rg<|rr 1 ?_;refine rn ?_;obtain⟨E0,i0,hm⟩:=bS hm;refine ct (fun(u0:(List D.Qb)) F w9=>E0=.inl u0∧St w w9 [Own z6K [.slice A2 (List.replicate (x0.length:Int).toNat (⟨(0:Int),(0:Int),(0:Int),([]:(List Int)),([]:(List D.Qf))⟩:D.Qb)).length k3] u0]∧F=[(3,.slice A2 (List.replicate (x0.length:Int).toNat (⟨(0:Int),(0:Int),(0:Int),([]:(List Int)),([]:(List D.Qf))⟩:D.Qb)).length k3)]) ?_ ?_
 ·rintro u0 F U0 ⟨j0,q,rfl⟩;subst j0;rw [z8] at hm;unfold z9X at hm;refine sq<|rg<|rr 2 ?_;refine rn<|rt ?_;cases hm;have hn18:=(q.bring 0 rfl).lenEq;have X:=(q.bring 0 rfl).reLen hn18;exact⟨_,tR rfl,A2,k3,(by first | (simp only [sl,hn18];done) | (simp only [sl,hn18];rfl)),X⟩
 ·refine bk<|wk [0,3,4] ?_;refine it (fun(t0:Int × (List D.Qb)) F w9=>St w w9 [Own z6K [.slice A2 (List.replicate (x0.length:Int).toNat (⟨(0:Int),(0:Int),(0:Int),([]:(List Int)),([]:(List D.Qf))⟩:D.Qb)).length k3] t0.2]∧F=[(0,sl M x0 r0),(3,.slice A2 (List.replicate (x0.length:Int).toNat (⟨(0:Int),(0:Int),(0:Int),([]:(List Int)),([]:(List D.Qf))⟩:D.Qb)).length k3),(4,iv t0.1)]) i0 ⟨C0,rfl⟩ ?_;rintro t0 F V0 _ R0 ⟨h,rfl⟩ d o0;unfold z5j at d;refine sq<|sq<|rg<|rr 4 ?_;refine rn<|ci d (fun d=>?_) (fun d=>?_)
  ·refine sp<|sq<|bk<|rg<|rr 4 ?_;obtain⟨a1,p0,d⟩:=bS d;refine ix (hE.trans h.ext) B0 p0 (fun S0 y0 f0 H=>?_);obtain⟨G0,N0,H0,O0,v0,L0,M0⟩:=zbT H;subst v0;refine lN (ax hE h f0) ?_;obtain⟨F0,q0,d⟩:=bS d;refine ca ziF (laws_toShardCell_ok (hE.trans h.ext) H q0) (fun T0 X0 O=>?_);obtain⟨J0,P0,K0,Q0,rfl,S⟩:=O;have Y:=h.join S;have G:=Y.bring 2 rfl;obtain⟨g0,d⟩:=iS d;have o:=of_decide_eq_true g0;refine io G o.1 o.2 (fun q52 hq53=>?_);have Z:=G.bring 2 rfl;have a0:=Z.bring 2 rfl;have b0:=zcg (c:=F0) (B:=_) a0;have d0:=b0.bring 1 rfl;refine se d0 o.2 hq53 (fun Y0 e0=>?_);refine rn<|rg<|rr 3 ?_;refine rn ?_;cases d;exact⟨_,_,rfl,⟨e0,rfl⟩,rfl⟩
  ·refine xt ?_;cases d;exact⟨_,_,⟨o0,h,rfl⟩,rfl⟩

theorem znc:EN 252:=en Tryz.func252
def z71 (fu:Nat) (x0:D.Qn):Option (D.Qn):=((z1F fu x0.QV).bind fun d=>some (⟨x0.Qa0,x0.Qa1,d⟩:D.Qn))

theorem laws_toShardVar_ok {W w:World}(hE:Ext W w){d0:List Value}{x0:D.Qn}(e0:zkz.ro W d0 x0){fu:Nat}{r:D.Qn}(hm:z71 fu x0=some r):
  CL 252 ⟨[.agg ⟨d0⟩]⟩ w (Ret fun v w8=>v=.agg ⟨[.bool r.Qa0,.bool r.Qa1,iv r.QV.Qg,iv r.QV.Qj,iv r.QV.Qs]⟩∧St w w8 []):=by
 have e1:=zgN e0;subst e1;refine into Tryz.func252 15 _ ?_;unfold z71 at hm;have hS:=St.start w;refine sq<|rg<|nw hS (fun g2 w3 e4 f0=>?_);refine nw f0 (fun g6 w7 g0 O=>?_);refine rn<|sq<|rg<|nw O (fun j0 p0 i0 h=>?_);refine rn<|sq<|rg<|rr 1 ?_;refine l1 ((h.bring 2 rfl).box) 0 ?_;refine rr 1 ?_;have S:=h.bring 0 rfl;refine so (A:=[]) S 0 (fun q0 o=>?_);refine rn<|sq<|rg<|rr 1 ?_;refine l1 ((o.bring 2 rfl).box) 1 ?_;refine rr 1 ?_;have X:=o.bring 0 rfl;refine so (A:=[]) X 1 (fun r0 d=>?_);refine rn<|sq<|rg<|rr 1 ?_;refine lN (At.sub ((d.bring 2 rfl).box) 2 3) ?_;obtain⟨k0,b0,hm⟩:=bS hm;refine ca zbu (laws_toAddress_ok (hE.trans d.ext) (zb4 x0.QV) b0) (fun o0 t0 H=>?_);obtain⟨rfl,M⟩:=H;have Y:=d.join M;refine rr 1 ?_;have Z:=Y.bring 0 rfl;refine so (A:=[]) Z 2 (fun u0 q=>?_);refine rn<|sq<|rg<|lN ((q.bring 0 rfl).box) ?_;have a0:=q.bring 1 rfl;refine so (A:=[]) a0 0 (fun v0 G=>?_);refine rn<|rt ?_;cases hm;exact⟨_,.cons (ra ((G.bring 0 rfl).box)) .nil,rfl,(G.taken 0)⟩

theorem znt:EN 228:=en Tryz.func228
def zaq (fu:Nat) (d:(List D.Qn)):Option (List D.Qn):=some d
def z60 (fu:Nat) (x0:(List D.Qn)) (d:Int × (List D.Qn)):Option (Rd (Int × (List D.Qn)) ((List D.Qn)) ((List D.Qn))):=(if(decide (d.1<(x0.length:Int)))=true then((idx x0 d.1).bind fun o=>((z71 fu o).bind fun h=>(if decide (0≤d.1∧d.1.toNat<d.2.length)=true then some (.next (w64 (d.1+1),(d.2.set d.1.toNat h))) else none))) else some (.brk d.2))
def z61 (fu:Nat) (x0:(List D.Qn)):Option ((List D.Qn)):=(if decide (0≤(x0.length:Int)∧(x0.length:Int)≤4294967296)=true then((iter (z60 fu x0) fu (0,(List.replicate (x0.length:Int).toNat (⟨false,false,(⟨(0:Int),(0:Int),(0:Int)⟩:D.Qf)⟩:D.Qn)))).bind fun o=>aft o (zaq fu)) else none)

theorem laws_toShardVarS_ok {W w:World}(hE:Ext W w){M:Option Addr}{p0:Nat}{x0:(List D.Qn)}(v0:zi3.ro W [sl M x0 p0] x0){fu:Nat}{r:(List D.Qn)}(hm:z61 fu x0=some r):
  CL 228 ⟨[sl M x0 p0]⟩ w (Ret fun v w8=>∃ A0 k0,v=sl A0 r k0∧St w w8 [ow z3w A0 r k0]):=by
 refine into Tryz.func228 23 _ ?_;unfold z61 at hm;have hS:=St.start w;refine sq<|rg<|rr 1 ?_;refine rn<|sq<|rg<|rr 2 ?_;obtain⟨B0,hm⟩:=iS hm;have hz7:=of_decide_eq_true B0;refine mS (U:=za8) (⟨false,false,(⟨(0:Int),(0:Int),(0:Int)⟩:D.Qf)⟩:D.Qn) hS hz7 (fun _=>(zgQ (c:=(⟨false,false,(⟨(0:Int),(0:Int),(0:Int)⟩:D.Qf)⟩:D.Qn)) rfl)) (fun A2 k3 w4 e5 y0=>?_);refine rr 1 ?_;refine rn<|sq<|sq<|rg<|rr 1 ?_;refine rn ?_;obtain⟨C0,f0,hm⟩:=bS hm;refine ct (fun(r0:(List D.Qn)) F w9=>C0=.inl r0∧St w w9 [Own z3w [.slice A2 (List.replicate (x0.length:Int).toNat (⟨false,false,(⟨(0:Int),(0:Int),(0:Int)⟩:D.Qf)⟩:D.Qn)).length k3] r0]∧F=[(3,.slice A2 (List.replicate (x0.length:Int).toNat (⟨false,false,(⟨(0:Int),(0:Int),(0:Int)⟩:D.Qf)⟩:D.Qn)).length k3)]) ?_ ?_
 ·rintro r0 F H0 ⟨g0,q,rfl⟩;subst g0;rw [z8] at hm;unfold zaq at hm;refine sq<|rg<|rr 2 ?_;refine rn<|rt ?_;cases hm;have hn18:=(q.bring 0 rfl).lenEq;have X:=(q.bring 0 rfl).reLen hn18;exact⟨_,tR rfl,A2,k3,(by first | (simp only [sl,hn18];done) | (simp only [sl,hn18];rfl)),X⟩
 ·refine bk<|wk [0,3,4] ?_;refine it (fun(q0:Int × (List D.Qn)) F w9=>St w w9 [Own z3w [.slice A2 (List.replicate (x0.length:Int).toNat (⟨false,false,(⟨(0:Int),(0:Int),(0:Int)⟩:D.Qf)⟩:D.Qn)).length k3] q0.2]∧F=[(0,sl M x0 p0),(3,.slice A2 (List.replicate (x0.length:Int).toNat (⟨false,false,(⟨(0:Int),(0:Int),(0:Int)⟩:D.Qf)⟩:D.Qn)).length k3),(4,iv q0.1)]) f0 ⟨y0,rfl⟩ ?_;rintro q0 F J0 _ E0 ⟨h,rfl⟩ d i0;unfold z60 at d;refine sq<|sq<|rg<|rr 4 ?_;refine rn<|ci d (fun d=>?_) (fun d=>?_)
  ·refine sp<|sq<|bk<|rg<|rr 4 ?_;obtain⟨M0,j0,d⟩:=bS d;refine ix (hE.trans h.ext) v0 j0 (fun F0 u0 d0 H=>?_);have t0:=zgN H;subst t0;refine lN (ax hE h d0) ?_;obtain⟨D0,o0,d⟩:=bS d;refine ca znc (laws_toShardVar_ok (hE.trans h.ext) H o0) (fun G0 K0 O=>?_);obtain⟨rfl,S⟩:=O;have Y:=h.join S;have G:=Y.bring 0 rfl;obtain⟨e0,d⟩:=iS d;have o:=of_decide_eq_true e0;refine io G o.1 o.2 (fun q42 hq43=>?_);have Z:=zfz (c:=D0) (B:=_) G;have a0:=Z.bring 1 rfl;refine se a0 o.2 hq43 (fun L0 b0=>?_);refine rn<|rg<|rr 3 ?_;refine rn ?_;cases d;exact⟨_,_,rfl,⟨b0,rfl⟩,rfl⟩
  ·refine xt ?_;cases d;exact⟨_,_,⟨i0,h,rfl⟩,rfl⟩

theorem znb:EN 253:=en Tryz.func253
def z5a (fu:Nat) (x0:D.Qk):Option (D.Qk):=((z1F fu x0.A).bind fun d=>((z1F fu x0.B).bind fun h=>some (⟨d,h⟩:D.Qk)))

theorem laws_toShardRedex_ok {W w:World}(hE:Ext W w){f0:List Value}{x0:D.Qk}(g0:zky.ro W f0 x0){fu:Nat}{r:D.Qk}(hm:z5a fu x0=some r):
  CL 253 ⟨[.agg ⟨f0⟩]⟩ w (Ret fun v w8=>v=.agg ⟨[iv r.A.Qg,iv r.A.Qj,iv r.A.Qs,iv r.B.Qg,iv r.B.Qj,iv r.B.Qs]⟩∧St w w8 []):=by
 have e1:=zgM g0;subst e1;refine into Tryz.func253 13 _ ?_;unfold z5a at hm;have hS:=St.start w;refine sq<|rg<|nw hS (fun g2 w3 e4 i0=>?_);refine nw i0 (fun g6 w7 j0 S=>?_);refine rn<|sq<|rg<|nw S (fun o0 u0 k0 d=>?_);refine rn<|sq<|rg<|rr 1 ?_;refine lN (At.sub ((d.bring 2 rfl).box) 0 3) ?_;obtain⟨p0,d0,hm⟩:=bS hm;refine ca zbu (laws_toAddress_ok (hE.trans d.ext) (zb4 x0.A) d0) (fun r0 v0 G=>?_);obtain⟨rfl,H⟩:=G;have X:=d.join H;refine rr 1 ?_;have Y:=X.bring 0 rfl;refine so (A:=[]) Y 0 (fun y0 h=>?_);refine rn<|sq<|rg<|rr 1 ?_;refine lN (At.sub ((h.bring 2 rfl).box) 3 3) ?_;obtain⟨q0,e0,hm⟩:=bS hm;refine ca zbu (laws_toAddress_ok (hE.trans h.ext) (zb4 x0.B) e0) (fun t0 A0 M=>?_);obtain⟨rfl,O⟩:=M;have Z:=h.join O;refine rr 1 ?_;have a0:=Z.bring 0 rfl;refine so (A:=[]) a0 3 (fun B0 o=>?_);refine rn<|sq<|rg<|lN ((o.bring 0 rfl).box) ?_;have b0:=o.bring 1 rfl;refine so (A:=[]) b0 0 (fun C0 q=>?_);refine rn<|rt ?_;cases hm;exact⟨_,.cons (ra ((q.bring 0 rfl).box)) .nil,rfl,(q.taken 0)⟩

theorem zns:EN 229:=en Tryz.func229
def z9C (fu:Nat) (d:(List D.Qk)):Option (List D.Qk):=some d
def z4D (fu:Nat) (x0:(List D.Qk)) (d:Int × (List D.Qk)):Option (Rd (Int × (List D.Qk)) ((List D.Qk)) ((List D.Qk))):=(if(decide (d.1<(x0.length:Int)))=true then((idx x0 d.1).bind fun o=>((z5a fu o).bind fun h=>(if decide (0≤d.1∧d.1.toNat<d.2.length)=true then some (.next (w64 (d.1+1),(d.2.set d.1.toNat h))) else none))) else some (.brk d.2))
def z4m (fu:Nat) (x0:(List D.Qk)):Option ((List D.Qk)):=(if decide (0≤(x0.length:Int)∧(x0.length:Int)≤4294967296)=true then((iter (z4D fu x0) fu (0,(List.replicate (x0.length:Int).toNat (⟨(⟨(0:Int),(0:Int),(0:Int)⟩:D.Qf),(⟨(0:Int),(0:Int),(0:Int)⟩:D.Qf)⟩:D.Qk)))).bind fun o=>aft o (z9C fu)) else none)

theorem laws_toShardRedexS_ok {W w:World}(hE:Ext W w){M:Option Addr}{p0:Nat}{x0:(List D.Qk)}(v0:zi2.ro W [sl M x0 p0] x0){fu:Nat}{r:(List D.Qk)}(hm:z4m fu x0=some r):
  CL 229 ⟨[sl M x0 p0]⟩ w (Ret fun v w8=>∃ A0 k0,v=sl A0 r k0∧St w w8 [ow z3h A0 r k0]):=by
 refine into Tryz.func229 23 _ ?_;unfold z4m at hm;have hS:=St.start w;refine sq<|rg<|rr 1 ?_;refine rn<|sq<|rg<|rr 2 ?_;obtain⟨B0,hm⟩:=iS hm;have hz7:=of_decide_eq_true B0;refine mS (U:=zak) (⟨(⟨(0:Int),(0:Int),(0:Int)⟩:D.Qf),(⟨(0:Int),(0:Int),(0:Int)⟩:D.Qf)⟩:D.Qk) hS hz7 (fun _=>(zgP (c:=(⟨(⟨(0:Int),(0:Int),(0:Int)⟩:D.Qf),(⟨(0:Int),(0:Int),(0:Int)⟩:D.Qf)⟩:D.Qk)) rfl)) (fun A2 k3 w4 e5 y0=>?_);refine rr 1 ?_;refine rn<|sq<|sq<|rg<|rr 1 ?_;refine rn ?_;obtain⟨C0,f0,hm⟩:=bS hm;refine ct (fun(r0:(List D.Qk)) F w9=>C0=.inl r0∧St w w9 [Own z3h [.slice A2 (List.replicate (x0.length:Int).toNat (⟨(⟨(0:Int),(0:Int),(0:Int)⟩:D.Qf),(⟨(0:Int),(0:Int),(0:Int)⟩:D.Qf)⟩:D.Qk)).length k3] r0]∧F=[(3,.slice A2 (List.replicate (x0.length:Int).toNat (⟨(⟨(0:Int),(0:Int),(0:Int)⟩:D.Qf),(⟨(0:Int),(0:Int),(0:Int)⟩:D.Qf)⟩:D.Qk)).length k3)]) ?_ ?_
 ·rintro r0 F H0 ⟨g0,q,rfl⟩;subst g0;rw [z8] at hm;unfold z9C at hm;refine sq<|rg<|rr 2 ?_;refine rn<|rt ?_;cases hm;have hn18:=(q.bring 0 rfl).lenEq;have X:=(q.bring 0 rfl).reLen hn18;exact⟨_,tR rfl,A2,k3,(by first | (simp only [sl,hn18];done) | (simp only [sl,hn18];rfl)),X⟩
 ·refine bk<|wk [0,3,4] ?_;refine it (fun(q0:Int × (List D.Qk)) F w9=>St w w9 [Own z3h [.slice A2 (List.replicate (x0.length:Int).toNat (⟨(⟨(0:Int),(0:Int),(0:Int)⟩:D.Qf),(⟨(0:Int),(0:Int),(0:Int)⟩:D.Qf)⟩:D.Qk)).length k3] q0.2]∧F=[(0,sl M x0 p0),(3,.slice A2 (List.replicate (x0.length:Int).toNat (⟨(⟨(0:Int),(0:Int),(0:Int)⟩:D.Qf),(⟨(0:Int),(0:Int),(0:Int)⟩:D.Qf)⟩:D.Qk)).length k3),(4,iv q0.1)]) f0 ⟨y0,rfl⟩ ?_;rintro q0 F J0 _ E0 ⟨h,rfl⟩ d i0;unfold z4D at d;refine sq<|sq<|rg<|rr 4 ?_;refine rn<|ci d (fun d=>?_) (fun d=>?_)
  ·refine sp<|sq<|bk<|rg<|rr 4 ?_;obtain⟨M0,j0,d⟩:=bS d;refine ix (hE.trans h.ext) v0 j0 (fun F0 u0 d0 H=>?_);have t0:=zgM H;subst t0;refine lN (ax hE h d0) ?_;obtain⟨D0,o0,d⟩:=bS d;refine ca znb (laws_toShardRedex_ok (hE.trans h.ext) H o0) (fun G0 K0 O=>?_);obtain⟨rfl,S⟩:=O;have Y:=h.join S;have G:=Y.bring 0 rfl;obtain⟨e0,d⟩:=iS d;have o:=of_decide_eq_true e0;refine io G o.1 o.2 (fun q42 hq43=>?_);have Z:=zfy (c:=D0) (B:=_) G;have a0:=Z.bring 1 rfl;refine se a0 o.2 hq43 (fun L0 b0=>?_);refine rn<|rg<|rr 3 ?_;refine rn ?_;cases d;exact⟨_,_,rfl,⟨b0,rfl⟩,rfl⟩
  ·refine xt ?_;cases d;exact⟨_,_,⟨i0,h,rfl⟩,rfl⟩

theorem znX:EN 180:=en Tryz.func180
def z8S (fu:Nat) (x0:D.Qp):Option (D.Qp):=((z5b fu x0.Cells).bind fun d=>((z61 fu x0.QG).bind fun h=>((z4m fu x0.Qu).bind fun o=>some (⟨d,h,o⟩:D.Qp))))

theorem laws_toShard_ok {W w:World}(hE:Ext W w){r0:List Value}{x0:D.Qp}(B0:zjs.ro W r0 x0){fu:Nat}{r:D.Qp}(hm:z8S fu x0=some r):
  CL 180 ⟨[.agg ⟨r0⟩]⟩ w (Ret fun v w8=>∃ A0 k0 A1 k1 A2 k2,v=.agg ⟨[sl A0 r.Cells k0,sl A1 r.QG k1,sl A2 r.Qu k2]⟩∧St w w8 [ow z6K A0 r.Cells k0,ow z3w A1 r.QG k1,ow z3h A2 r.Qu k2]):=by
 obtain⟨A1,k2,A4,k5,A7,N0,y0,h3,h6,C0⟩:=zd6 B0;subst y0;refine into Tryz.func180 17 _ ?_;unfold z8S at hm;have hS:=St.start w;refine sq<|rg<|nw hS (fun K0 U0 G0 Z=>?_);refine nw Z (fun L0 V0 H0 a0=>?_);refine rn<|sq<|rg<|nw a0 (fun M0 X0 J0 d=>?_);refine rn<|sq<|rg<|rr 1 ?_;refine l1 ((d.bring 2 rfl).box) 0 ?_;obtain⟨O0,o0,hm⟩:=bS hm;refine ca znu (laws_toShardCellS_ok (hE.trans d.ext) h3 o0) (fun R0 Y0 H=>?_);obtain⟨t0,D0,rfl,M⟩:=H;have b0:=d.join M;refine rr 1 ?_;have d0:=b0.bring 1 rfl;refine so (A:=[]) d0 0 (fun a1 h=>?_);refine rn<|sq<|rg<|rr 1 ?_;refine l1 ((h.bring 3 rfl).box) 1 ?_;obtain⟨P0,p0,hm⟩:=bS hm;refine ca znt (laws_toShardVarS_ok (hE.trans h.ext) h6 p0) (fun S0 d1 O=>?_);obtain⟨u0,E0,rfl,S⟩:=O;have e0:=h.join S;refine rr 1 ?_;have f0:=e0.bring 1 rfl;refine so (A:=[]) f0 1 (fun e1 o=>?_);refine rn<|sq<|rg<|rr 1 ?_;refine l1 ((o.bring 4 rfl).box) 2 ?_;obtain⟨Q0,q0,hm⟩:=bS hm;refine ca zns (laws_toShardRedexS_ok (hE.trans o.ext) C0 q0) (fun T0 f1 X=>?_);obtain⟨v0,F0,rfl,Y⟩:=X;have g0:=o.join Y;refine rr 1 ?_;have i0:=g0.bring 1 rfl;refine so (A:=[]) i0 2 (fun g1 q=>?_);refine rn<|sq<|rg<|lN ((q.bring 0 rfl).box) ?_;have j0:=q.bring 4 rfl;refine so (A:=[]) j0 0 (fun i1 G=>?_);refine rn<|rt ?_;cases hm;exact⟨_,.cons (ra ((G.bring 0 rfl).box)) .nil,t0,D0,u0,E0,v0,F0,rfl,((((G.bring 2 rfl).bring 3 rfl).bring 4 rfl).taken 3)⟩

theorem zj3:EN 125:=en Tryz.func125
def zbC (fu:Nat) (d:(List D.Qp)):Option (List D.Qp):=some d
def z81 (fu:Nat) (x0:(List D.Qp)) (d:Int × (List D.Qp)):Option (Rd (Int × (List D.Qp)) ((List D.Qp)) ((List D.Qp))):=(if(decide (d.1<(x0.length:Int)))=true then((idx x0 d.1).bind fun o=>((z8S fu o).bind fun h=>(if decide (0≤d.1∧d.1.toNat<d.2.length)=true then some (.next (w64 (d.1+1),(d.2.set d.1.toNat h))) else none))) else some (.brk d.2))
def z72 (fu:Nat) (x0:(List D.Qp)):Option ((List D.Qp)):=(if decide (0≤(x0.length:Int)∧(x0.length:Int)≤4294967296)=true then((iter (z81 fu x0) fu (0,(List.replicate (x0.length:Int).toNat (⟨([]:(List D.Qb)),([]:(List D.Qn)),([]:(List D.Qk))⟩:D.Qp)))).bind fun o=>aft o (zbC fu)) else none)

theorem laws_toShardS_ok {W w:World}(hE:Ext W w){M:Option Addr}{t0:Nat}{x0:(List D.Qp)}(C0:ty22.ro W [sl M x0 t0] x0){fu:Nat}{r:(List D.Qp)}(hm:z72 fu x0=some r):
  CL 125 ⟨[sl M x0 t0]⟩ w (Ret fun v w8=>∃ A0 k0,v=sl A0 r k0∧St w w8 [ow ty34 A0 r k0]):=by
 refine into Tryz.func125 23 _ ?_;unfold z72 at hm;have hS:=St.start w;refine sq<|rg<|rr 1 ?_;refine rn<|sq<|rg<|rr 2 ?_;obtain⟨E0,hm⟩:=iS hm;have hz7:=of_decide_eq_true E0;refine mS (U:=z20) (⟨([]:(List D.Qb)),([]:(List D.Qn)),([]:(List D.Qk))⟩:D.Qp) hS hz7 (fun _=>(zgV (c:=(⟨([]:(List D.Qb)),([]:(List D.Qn)),([]:(List D.Qk))⟩:D.Qp)) ⟨[],[],rfl,(slNilOwn z2B 154 _),⟨[],[],rfl,(slNilOwn za8 223 _),⟨[],[],rfl,(slNilOwn zak 239 _),rfl⟩⟩⟩)) (fun A2 k3 w4 e5 D0=>?_);refine rr 1 ?_;refine rn<|sq<|sq<|rg<|rr 1 ?_;refine rn ?_;obtain⟨F0,j0,hm⟩:=bS hm;refine ct (fun(v0:(List D.Qp)) F w9=>F0=.inl v0∧St w w9 [Own ty34 [.slice A2 (List.replicate (x0.length:Int).toNat (⟨([]:(List D.Qb)),([]:(List D.Qn)),([]:(List D.Qk))⟩:D.Qp)).length k3] v0]∧F=[(3,.slice A2 (List.replicate (x0.length:Int).toNat (⟨([]:(List D.Qb)),([]:(List D.Qn)),([]:(List D.Qk))⟩:D.Qp)).length k3)]) ?_ ?_
 ·rintro v0 F e1 ⟨o0,q,rfl⟩;subst o0;rw [z8] at hm;unfold zbC at hm;refine sq<|rg<|rr 2 ?_;refine rn<|rt ?_;cases hm;have hn18:=(q.bring 0 rfl).lenEq;have X:=(q.bring 0 rfl).reLen hn18;exact⟨_,tR rfl,A2,k3,(by first | (simp only [sl,hn18];done) | (simp only [sl,hn18];rfl)),X⟩
 ·refine bk<|wk [0,3,4] ?_;refine it (fun(u0:Int × (List D.Qp)) F w9=>St w w9 [Own ty34 [.slice A2 (List.replicate (x0.length:Int).toNat (⟨([]:(List D.Qb)),([]:(List D.Qn)),([]:(List D.Qk))⟩:D.Qp)).length k3] u0.2]∧F=[(0,sl M x0 t0),(3,.slice A2 (List.replicate (x0.length:Int).toNat (⟨([]:(List D.Qb)),([]:(List D.Qn)),([]:(List D.Qk))⟩:D.Qp)).length k3),(4,iv u0.1)]) j0 ⟨D0,rfl⟩ ?_;rintro u0 F f1 _ Y0 ⟨h,rfl⟩ d p0;unfold z81 at d;refine sq<|sq<|rg<|rr 4 ?_;refine rn<|ci d (fun d=>?_) (fun d=>?_)
  ·refine sp<|sq<|bk<|rg<|rr 4 ?_;obtain⟨j1,q0,d⟩:=bS d;refine ix (hE.trans h.ext) C0 q0 (fun a1 B0 g0 H=>?_);obtain⟨H0,R0,J0,S0,K0,T0,y0,O0,P0,Q0⟩:=zd6 H;subst y0;refine lN (ax hE h g0) ?_;obtain⟨G0,r0,d⟩:=bS d;refine ca znX (laws_toShard_ok (hE.trans h.ext) H r0) (fun d1 g1 O=>?_);obtain⟨L0,U0,M0,V0,N0,X0,rfl,S⟩:=O;have Y:=h.join S;have G:=Y.bring 3 rfl;obtain⟨i0,d⟩:=iS d;have o:=of_decide_eq_true i0;refine io G o.1 o.2 (fun q57 hq58=>?_);have Z:=G.bring 3 rfl;have a0:=Z.bring 3 rfl;have b0:=a0.bring 3 rfl;have d0:=zb5 (c:=G0) (B:=_) b0;have e0:=d0.bring 1 rfl;refine se e0 o.2 hq58 (fun i1 f0=>?_);refine rn<|rg<|rr 3 ?_;refine rn ?_;cases d;exact⟨_,_,rfl,⟨f0,rfl⟩,rfl⟩
  ·refine xt ?_;cases d;exact⟨_,_,⟨p0,h,rfl⟩,rfl⟩

theorem zpL:EN 64:=en Tryz.func64
def z9D (fu:Nat) (x0:D.Qi):Option (D.Qi):=((z72 fu x0.Qc).bind fun d=>((z1F fu x0.Qy).bind fun h=>some (⟨d,h⟩:D.Qi)))

theorem laws_toGrid_ok {W w:World}(hE:Ext W w){g0:List Value}{x0:D.Qi}(j0:ty26.ro W g0 x0){fu:Nat}{r:D.Qi}(hm:z9D fu x0=some r):
  CL 64 ⟨[.agg ⟨g0⟩]⟩ w (Ret fun v w8=>∃ A0 k0,v=.agg ⟨[sl A0 r.Qc k0,iv r.Qy.Qg,iv r.Qy.Qj,iv r.Qy.Qs]⟩∧St w w8 [ow ty34 A0 r.Qc k0]):=by
 obtain⟨A1,k2,e4,h3⟩:=zfw j0;subst e4;refine into Tryz.func64 13 _ ?_;unfold z9D at hm;have hS:=St.start w;refine sq<|rg<|nw hS (fun g5 w6 e7 S=>?_);refine nw S (fun r0 C0 p0 X=>?_);refine rn<|sq<|rg<|nw X (fun t0 D0 q0 d=>?_);refine rn<|sq<|rg<|rr 1 ?_;refine l1 ((d.bring 2 rfl).box) 0 ?_;obtain⟨u0,e0,hm⟩:=bS hm;refine ca zj3 (laws_toShardS_ok (hE.trans d.ext) h3 e0) (fun y0 E0 G=>?_);obtain⟨i0,o0,rfl,H⟩:=G;have Y:=d.join H;refine rr 1 ?_;have Z:=Y.bring 1 rfl;refine so (A:=[]) Z 0 (fun F0 h=>?_);refine rn<|sq<|rg<|rr 1 ?_;refine lN (At.sub ((h.bring 3 rfl).box) 1 3) ?_;obtain⟨v0,f0,hm⟩:=bS hm;refine ca zbu (laws_toAddress_ok (hE.trans h.ext) (zb4 x0.Qy) f0) (fun B0 G0 M=>?_);obtain⟨rfl,O⟩:=M;have a0:=h.join O;refine rr 1 ?_;have b0:=a0.bring 0 rfl;refine so (A:=[]) b0 1 (fun H0 o=>?_);refine rn<|sq<|rg<|lN ((o.bring 0 rfl).box) ?_;have d0:=o.bring 2 rfl;refine so (A:=[]) d0 0 (fun J0 q=>?_);refine rn<|rt ?_;cases hm;exact⟨_,.cons (ra ((q.bring 0 rfl).box)) .nil,i0,o0,rfl,((q.bring 2 rfl).taken 1)⟩

theorem znW:EN 181:=en Tryz.func181
def z8g (fu:Nat) (x0:D.Qe):Option (D.Qe):=((z40 fu x0.Qz).bind fun d=>((z1F fu x0.A).bind fun h=>((z1F fu x0.B).bind fun o=>some (⟨x0.Qj,d,h,o⟩:D.Qe))))

theorem laws_toParcel_ok {W w:World}(hE:Ext W w){u0:List Value}{x0:D.Qe}(B0:zjr.ro W u0 x0){fu:Nat}{r:D.Qe}(hm:z8g fu x0=some r):
  CL 181 ⟨[.agg ⟨u0⟩]⟩ w (Ret fun v w8=>∃ A0 k0 A1 k1,v=.agg ⟨[iv r.Qj,iv r.Qz.Qj,iv r.Qz.QL,iv r.Qz.Value,sl A0 r.Qz.Data k0,sl A1 r.Qz.QX k1,iv r.A.Qg,iv r.A.Qj,iv r.A.Qs,iv r.B.Qg,iv r.B.Qj,iv r.B.Qs]⟩∧St w w8 [ow ty29 A0 r.Qz.Data k0,ow z3r A1 r.Qz.QX k1]):=by
 obtain⟨A1,k2,A4,k5,e7,h3,h6⟩:=zd5 B0;subst e7;refine into Tryz.func181 20 _ ?_;unfold z8g at hm;have hS:=St.start w;refine sq<|rg<|nw hS (fun H0 R0 E0 a0=>?_);refine nw a0 (fun J0 S0 F0 b0=>?_);refine rn<|sq<|rg<|nw b0 (fun K0 T0 G0 q=>?_);refine rn<|sq<|rg<|rr 1 ?_;refine l1 ((q.bring 2 rfl).box) 0 ?_;refine rr 1 ?_;have d0:=q.bring 0 rfl;refine so (A:=[]) d0 0 (fun U0 d=>?_);refine rn<|sq<|rg<|rr 1 ?_;refine lN (At.sub ((d.bring 2 rfl).box) 1 5) ?_;obtain⟨L0,q0,hm⟩:=bS hm;refine ca ziF (laws_toShardCell_ok (hE.trans d.ext) (zgT x0.Qz h3 h6) q0) (fun O0 V0 M=>?_);obtain⟨v0,C0,y0,D0,rfl,O⟩:=M;have e0:=d.join O;refine rr 1 ?_;have f0:=e0.bring 2 rfl;refine so (A:=[]) f0 1 (fun X0 h=>?_);refine rn<|sq<|rg<|rr 1 ?_;refine lN (At.sub ((h.bring 4 rfl).box) 6 3) ?_;obtain⟨M0,r0,hm⟩:=bS hm;refine ca zbu (laws_toAddress_ok (hE.trans h.ext) (zb4 x0.A) r0) (fun P0 Y0 S=>?_);obtain⟨rfl,X⟩:=S;have g0:=h.join X;refine rr 1 ?_;have i0:=g0.bring 0 rfl;refine so (A:=[]) i0 6 (fun a1 o=>?_);refine rn<|sq<|rg<|rr 1 ?_;refine lN (At.sub ((o.bring 4 rfl).box) 9 3) ?_;obtain⟨N0,t0,hm⟩:=bS hm;refine ca zbu (laws_toAddress_ok (hE.trans o.ext) (zb4 x0.B) t0) (fun Q0 d1 Y=>?_);obtain⟨rfl,Z⟩:=Y;have j0:=o.join Z;refine rr 1 ?_;have o0:=j0.bring 0 rfl;refine so (A:=[]) o0 9 (fun e1 G=>?_);refine rn<|sq<|rg<|lN ((G.bring 0 rfl).box) ?_;have p0:=G.bring 3 rfl;refine so (A:=[]) p0 0 (fun f1 H=>?_);refine rn<|rt ?_;cases hm;exact⟨_,.cons (ra ((H.bring 0 rfl).box)) .nil,v0,C0,y0,D0,rfl,(((H.bring 3 rfl).bring 3 rfl).taken 2)⟩

theorem zom:EN 127:=en Tryz.func127
def zbi (fu:Nat) (d:(List D.Qe)):Option (List D.Qe):=some d
def z7j (fu:Nat) (x0:(List D.Qe)) (d:Int × (List D.Qe)):Option (Rd (Int × (List D.Qe)) ((List D.Qe)) ((List D.Qe))):=(if(decide (d.1<(x0.length:Int)))=true then((idx x0 d.1).bind fun o=>((z8g fu o).bind fun h=>(if decide (0≤d.1∧d.1.toNat<d.2.length)=true then some (.next (w64 (d.1+1),(d.2.set d.1.toNat h))) else none))) else some (.brk d.2))
def z7B (fu:Nat) (x0:(List D.Qe)):Option ((List D.Qe)):=(if decide (0≤(x0.length:Int)∧(x0.length:Int)≤4294967296)=true then((iter (z7j fu x0) fu (0,(List.replicate (x0.length:Int).toNat (⟨(0:Int),(⟨(0:Int),(0:Int),(0:Int),([]:(List Int)),([]:(List D.Qf))⟩:D.Qb),(⟨(0:Int),(0:Int),(0:Int)⟩:D.Qf),(⟨(0:Int),(0:Int),(0:Int)⟩:D.Qf)⟩:D.Qe)))).bind fun o=>aft o (zbi fu)) else none)

theorem laws_toParcelS_ok {W w:World}(hE:Ext W w){M:Option Addr}{r0:Nat}{x0:(List D.Qe)}(B0:zjw.ro W [sl M x0 r0] x0){fu:Nat}{r:(List D.Qe)}(hm:z7B fu x0=some r):
  CL 127 ⟨[sl M x0 r0]⟩ w (Ret fun v w8=>∃ A0 k0,v=sl A0 r k0∧St w w8 [ow z7U A0 r k0]):=by
 refine into Tryz.func127 23 _ ?_;unfold z7B at hm;have hS:=St.start w;refine sq<|rg<|rr 1 ?_;refine rn<|sq<|rg<|rr 2 ?_;obtain⟨D0,hm⟩:=iS hm;have hz7:=of_decide_eq_true D0;refine mS (U:=z8K) (⟨(0:Int),(⟨(0:Int),(0:Int),(0:Int),([]:(List Int)),([]:(List D.Qf))⟩:D.Qb),(⟨(0:Int),(0:Int),(0:Int)⟩:D.Qf),(⟨(0:Int),(0:Int),(0:Int)⟩:D.Qf)⟩:D.Qe) hS hz7 (fun _=>(zgW (c:=(⟨(0:Int),(⟨(0:Int),(0:Int),(0:Int),([]:(List Int)),([]:(List D.Qf))⟩:D.Qb),(⟨(0:Int),(0:Int),(0:Int)⟩:D.Qf),(⟨(0:Int),(0:Int),(0:Int)⟩:D.Qf)⟩:D.Qe)) ⟨[],[],rfl,(slNilOwn tInt 2 _),⟨[],[],rfl,(slNilOwn ty35 35 _),rfl⟩⟩)) (fun A2 k3 w4 e5 C0=>?_);refine rr 1 ?_;refine rn<|sq<|sq<|rg<|rr 1 ?_;refine rn ?_;obtain⟨E0,i0,hm⟩:=bS hm;refine ct (fun(u0:(List D.Qe)) F w9=>E0=.inl u0∧St w w9 [Own z7U [.slice A2 (List.replicate (x0.length:Int).toNat (⟨(0:Int),(⟨(0:Int),(0:Int),(0:Int),([]:(List Int)),([]:(List D.Qf))⟩:D.Qb),(⟨(0:Int),(0:Int),(0:Int)⟩:D.Qf),(⟨(0:Int),(0:Int),(0:Int)⟩:D.Qf)⟩:D.Qe)).length k3] u0]∧F=[(3,.slice A2 (List.replicate (x0.length:Int).toNat (⟨(0:Int),(⟨(0:Int),(0:Int),(0:Int),([]:(List Int)),([]:(List D.Qf))⟩:D.Qb),(⟨(0:Int),(0:Int),(0:Int)⟩:D.Qf),(⟨(0:Int),(0:Int),(0:Int)⟩:D.Qf)⟩:D.Qe)).length k3)]) ?_ ?_
 ·rintro u0 F U0 ⟨j0,q,rfl⟩;subst j0;rw [z8] at hm;unfold zbi at hm;refine sq<|rg<|rr 2 ?_;refine rn<|rt ?_;cases hm;have hn18:=(q.bring 0 rfl).lenEq;have X:=(q.bring 0 rfl).reLen hn18;exact⟨_,tR rfl,A2,k3,(by first | (simp only [sl,hn18];done) | (simp only [sl,hn18];rfl)),X⟩
 ·refine bk<|wk [0,3,4] ?_;refine it (fun(t0:Int × (List D.Qe)) F w9=>St w w9 [Own z7U [.slice A2 (List.replicate (x0.length:Int).toNat (⟨(0:Int),(⟨(0:Int),(0:Int),(0:Int),([]:(List Int)),([]:(List D.Qf))⟩:D.Qb),(⟨(0:Int),(0:Int),(0:Int)⟩:D.Qf),(⟨(0:Int),(0:Int),(0:Int)⟩:D.Qf)⟩:D.Qe)).length k3] t0.2]∧F=[(0,sl M x0 r0),(3,.slice A2 (List.replicate (x0.length:Int).toNat (⟨(0:Int),(⟨(0:Int),(0:Int),(0:Int),([]:(List Int)),([]:(List D.Qf))⟩:D.Qb),(⟨(0:Int),(0:Int),(0:Int)⟩:D.Qf),(⟨(0:Int),(0:Int),(0:Int)⟩:D.Qf)⟩:D.Qe)).length k3),(4,iv t0.1)]) i0 ⟨C0,rfl⟩ ?_;rintro t0 F V0 _ R0 ⟨h,rfl⟩ d o0;unfold z7j at d;refine sq<|sq<|rg<|rr 4 ?_;refine rn<|ci d (fun d=>?_) (fun d=>?_)
  ·refine sp<|sq<|bk<|rg<|rr 4 ?_;obtain⟨a1,p0,d⟩:=bS d;refine ix (hE.trans h.ext) B0 p0 (fun S0 y0 f0 H=>?_);obtain⟨G0,N0,H0,O0,v0,L0,M0⟩:=zd5 H;subst v0;refine lN (ax hE h f0) ?_;obtain⟨F0,q0,d⟩:=bS d;refine ca znW (laws_toParcel_ok (hE.trans h.ext) H q0) (fun T0 X0 O=>?_);obtain⟨J0,P0,K0,Q0,rfl,S⟩:=O;have Y:=h.join S;have G:=Y.bring 2 rfl;obtain⟨g0,d⟩:=iS d;have o:=of_decide_eq_true g0;refine io G o.1 o.2 (fun q52 hq53=>?_);have Z:=G.bring 2 rfl;have a0:=Z.bring 2 rfl;have b0:=za9 (c:=F0) (B:=_) a0;have d0:=b0.bring 1 rfl;refine se d0 o.2 hq53 (fun Y0 e0=>?_);refine rn<|rg<|rr 3 ?_;refine rn ?_;cases d;exact⟨_,_,rfl,⟨e0,rfl⟩,rfl⟩
  ·refine xt ?_;cases d;exact⟨_,_,⟨o0,h,rfl⟩,rfl⟩

theorem zke:EN 65:=en Tryz.func65
def zaK (fu:Nat) (d:(List (List D.Qe))):Option (List (List D.Qe)):=some d
def z6w (fu:Nat) (x0:(List (List D.Qe))) (d:Int × (List (List D.Qe))):Option (Rd (Int × (List (List D.Qe))) ((List (List D.Qe))) ((List (List D.Qe)))):=(if(decide (d.1<(x0.length:Int)))=true then((idx x0 d.1).bind fun o=>((z7B fu o).bind fun h=>(if decide (0≤d.1∧d.1.toNat<d.2.length)=true then some (.next (w64 (d.1+1),(d.2.set d.1.toNat h))) else none))) else some (.brk d.2))
def z4N (fu:Nat) (x0:(List (List D.Qe))):Option ((List (List D.Qe))):=(if decide (0≤(x0.length:Int)∧(x0.length:Int)≤4294967296)=true then((iter (z6w fu x0) fu (0,(List.replicate (x0.length:Int).toNat ([]:(List D.Qe))))).bind fun o=>aft o (zaK fu)) else none)

theorem laws_toParcelSS_ok {W w:World}(hE:Ext W w){M:Option Addr}{p0:Nat}{x0:(List (List D.Qe))}(v0:ty27.ro W [sl M x0 p0] x0){fu:Nat}{r:(List (List D.Qe))}(hm:z4N fu x0=some r):
  CL 65 ⟨[sl M x0 p0]⟩ w (Ret fun v w8=>∃ A0 k0,v=sl A0 r k0∧St w w8 [ow ty38 A0 r k0]):=by
 refine into Tryz.func65 23 _ ?_;unfold z4N at hm;have hS:=St.start w;refine sq<|rg<|rr 1 ?_;refine rn<|sq<|rg<|rr 2 ?_;obtain⟨B0,hm⟩:=iS hm;have hz7:=of_decide_eq_true B0;refine mS (U:=z7U) ([]:(List D.Qe)) hS hz7 (fun _=>(slNilOwn z8K 156 _)) (fun A2 k3 w4 e5 y0=>?_);refine rr 1 ?_;refine rn<|sq<|sq<|rg<|rr 1 ?_;refine rn ?_;obtain⟨C0,f0,hm⟩:=bS hm;refine ct (fun(r0:(List (List D.Qe))) F w9=>C0=.inl r0∧St w w9 [Own ty38 [sl A2 (List.replicate (x0.length:Int).toNat ([]:(List D.Qe))) k3] r0]∧F=[(3,sl A2 (List.replicate (x0.length:Int).toNat ([]:(List D.Qe))) k3)]) ?_ ?_
 ·rintro r0 F M0 ⟨g0,q,rfl⟩;subst g0;rw [z8] at hm;unfold zaK at hm;refine sq<|rg<|rr 2 ?_;refine rn<|rt ?_;cases hm;have hn18:=(q.bring 0 rfl).lenEq;have X:=(q.bring 0 rfl).reLen hn18;exact⟨_,tR rfl,A2,k3,(by first | (simp only [sl,hn18];done) | (simp only [sl,hn18];rfl)),X⟩
 ·refine bk<|wk [0,3,4] ?_;refine it (fun(q0:Int × (List (List D.Qe))) F w9=>St w w9 [Own ty38 [sl A2 (List.replicate (x0.length:Int).toNat ([]:(List D.Qe))) k3] q0.2]∧F=[(0,sl M x0 p0),(3,sl A2 (List.replicate (x0.length:Int).toNat ([]:(List D.Qe))) k3),(4,iv q0.1)]) f0 ⟨y0,rfl⟩ ?_;rintro q0 F N0 _ H0 ⟨h,rfl⟩ d i0;unfold z6w at d;refine sq<|sq<|rg<|rr 4 ?_;refine rn<|ci d (fun d=>?_) (fun d=>?_)
  ·refine sp<|sq<|bk<|rg<|rr 4 ?_;obtain⟨Q0,j0,d⟩:=bS d;refine ix (hE.trans h.ext) v0 j0 (fun J0 u0 d0 H=>?_);obtain⟨D0,F0,t0⟩:=zgX H;subst t0;refine l1 (ax hE h d0) 0 ?_;obtain⟨K0,o0,d⟩:=bS d;refine ca zom (laws_toParcelS_ok (hE.trans h.ext) H o0) (fun L0 O0 O=>?_);obtain⟨E0,G0,rfl,S⟩:=O;have Y:=h.join S;have G:=Y.bring 1 rfl;obtain⟨e0,d⟩:=iS d;have o:=of_decide_eq_true e0;refine io G o.1 o.2 (fun q46 hq47=>?_);have Z:=G.bring 1 rfl;have a0:=Z.bring 1 rfl;refine se a0 o.2 hq47 (fun P0 b0=>?_);refine rn<|rg<|rr 3 ?_;refine rn ?_;cases d;exact⟨_,_,rfl,⟨b0,rfl⟩,rfl⟩
  ·refine xt ?_;cases d;exact⟨_,_,⟨i0,h,rfl⟩,rfl⟩

theorem zkd:EN 66:=en Tryz.func66
def zbj (fu:Nat) (d:(List (List Int))):Option (List (List Int)):=some d
def z7k (fu:Nat) (x0:(List (List Int))) (d:Int × (List (List Int))):Option (Rd (Int × (List (List Int))) ((List (List Int))) ((List (List Int)))):=(if(decide (d.1<(x0.length:Int)))=true then((idx x0 d.1).bind fun o=>((z3C fu o).bind fun h=>(if decide (0≤d.1∧d.1.toNat<d.2.length)=true then some (.next (w64 (d.1+1),(d.2.set d.1.toNat h))) else none))) else some (.brk d.2))
def z5D (fu:Nat) (x0:(List (List Int))):Option ((List (List Int))):=(if decide (0≤(x0.length:Int)∧(x0.length:Int)≤4294967296)=true then((iter (z7k fu x0) fu (0,(List.replicate (x0.length:Int).toNat ([]:(List Int))))).bind fun o=>aft o (zbj fu)) else none)

theorem laws_toInt64SS_ok {W w:World}(hE:Ext W w){M:Option Addr}{p0:Nat}{x0:(List (List Int))}(v0:ty28.ro W [sl M x0 p0] x0){fu:Nat}{r:(List (List Int))}(hm:z5D fu x0=some r):
  CL 66 ⟨[sl M x0 p0]⟩ w (Ret fun v w8=>∃ A0 k0,v=sl A0 r k0∧St w w8 [ow ty28 A0 r k0]):=by
 refine into Tryz.func66 23 _ ?_;unfold z5D at hm;have hS:=St.start w;refine sq<|rg<|rr 1 ?_;refine rn<|sq<|rg<|rr 2 ?_;obtain⟨B0,hm⟩:=iS hm;have hz7:=of_decide_eq_true B0;refine mS (U:=ty29) ([]:(List Int)) hS hz7 (fun _=>(slNilOwn tInt 2 _)) (fun A2 k3 w4 e5 y0=>?_);refine rr 1 ?_;refine rn<|sq<|sq<|rg<|rr 1 ?_;refine rn ?_;obtain⟨C0,f0,hm⟩:=bS hm;refine ct (fun(r0:(List (List Int))) F w9=>C0=.inl r0∧St w w9 [Own ty28 [sl A2 (List.replicate (x0.length:Int).toNat ([]:(List Int))) k3] r0]∧F=[(3,sl A2 (List.replicate (x0.length:Int).toNat ([]:(List Int))) k3)]) ?_ ?_
 ·rintro r0 F M0 ⟨g0,q,rfl⟩;subst g0;rw [z8] at hm;unfold zbj at hm;refine sq<|rg<|rr 2 ?_;refine rn<|rt ?_;cases hm;have hn18:=(q.bring 0 rfl).lenEq;have X:=(q.bring 0 rfl).reLen hn18;exact⟨_,tR rfl,A2,k3,(by first | (simp only [sl,hn18];done) | (simp only [sl,hn18];rfl)),X⟩
 ·refine bk<|wk [0,3,4] ?_;refine it (fun(q0:Int × (List (List Int))) F w9=>St w w9 [Own ty28 [sl A2 (List.replicate (x0.length:Int).toNat ([]:(List Int))) k3] q0.2]∧F=[(0,sl M x0 p0),(3,sl A2 (List.replicate (x0.length:Int).toNat ([]:(List Int))) k3),(4,iv q0.1)]) f0 ⟨y0,rfl⟩ ?_;rintro q0 F N0 _ H0 ⟨h,rfl⟩ d i0;unfold z7k at d;refine sq<|sq<|rg<|rr 4 ?_;refine rn<|ci d (fun d=>?_) (fun d=>?_)
  ·refine sp<|sq<|bk<|rg<|rr 4 ?_;obtain⟨Q0,j0,d⟩:=bS d;refine ix (hE.trans h.ext) v0 j0 (fun J0 u0 d0 H=>?_);obtain⟨D0,F0,t0⟩:=z1z H;subst t0;refine l1 (ax hE h d0) 0 ?_;obtain⟨K0,o0,d⟩:=bS d;refine ca zfj (laws_toInt64S_ok (hE.trans h.ext) H o0) (fun L0 O0 O=>?_);obtain⟨E0,G0,rfl,S⟩:=O;have Y:=h.join S;have G:=Y.bring 1 rfl;obtain⟨e0,d⟩:=iS d;have o:=of_decide_eq_true e0;refine io G o.1 o.2 (fun q46 hq47=>?_);have Z:=G.bring 1 rfl;have a0:=Z.bring 1 rfl;refine se a0 o.2 hq47 (fun P0 b0=>?_);refine rn<|rg<|rr 3 ?_;refine rn ?_;cases d;exact⟨_,_,rfl,⟨b0,rfl⟩,rfl⟩
  ·refine xt ?_;cases d;exact⟨_,_,⟨i0,h,rfl⟩,rfl⟩

theorem zpS:EN 17:=en Tryz.func17
def z7C (fu:Nat) (x0:D.Qa):Option (D.Qa):=((z9D fu x0.Qi).bind fun d=>((z4N fu x0.Qh).bind fun h=>((z5D fu x0.Qo).bind fun o=>((z3C fu x0.QU).bind fun q=>((z3C fu x0.QZ).bind fun G=>some (⟨d,h,o,q,G⟩:D.Qa))))))

theorem laws_toCluster_ok {W w:World}(hE:Ext W w){J0:List Value}{x0:D.Qa}(Q0:ty31.ro W J0 x0){fu:Nat}{r:D.Qa}(hm:z7C fu x0=some r):
  CL 17 ⟨[.agg ⟨J0⟩]⟩ w (Ret fun v w8=>∃ A0 k0 A1 k1 A2 k2 A3 k3 A4 k4,v=.agg ⟨[sl A0 r.Qi.Qc k0,iv r.Qi.Qy.Qg,iv r.Qi.Qy.Qj,iv r.Qi.Qy.Qs,sl A1 r.Qh k1,sl A2 r.Qo k2,sl A3 r.QU k3,sl A4 r.QZ k4]⟩∧St w w8 [ow ty34 A0 r.Qi.Qc k0,ow ty38 A1 r.Qh k1,ow ty28 A2 r.Qo k2,ow ty29 A3 r.QU k3,ow ty29 A4 r.QZ k4]):=by
 obtain⟨A1,k2,A4,k5,A7,p1,d1,t1,e1,u1,P0,h3,h6,R0,S0,T0⟩:=zfu Q0;subst P0;refine into Tryz.func17 25 _ ?_;unfold z7C at hm;have hS:=St.start w;refine sq<|rg<|nw hS (fun j1 K1 f1 g0=>?_);refine nw g0 (fun m1 L1 g1 i0=>?_);refine rn<|sq<|rg<|nw i0 (fun n1 M1 i1 d=>?_);refine rn<|sq<|rg<|rr 1 ?_;refine lN (At.sub ((d.bring 2 rfl).box) 0 4) ?_;obtain⟨v1,D0,hm⟩:=bS hm;refine ca zpL (laws_toGrid_ok (hE.trans d.ext) (zfv x0.Qi h3) D0) (fun E1 N1 O=>?_);obtain⟨K0,U0,rfl,S⟩:=O;have j0:=d.join S;refine rr 1 ?_;have o0:=j0.bring 1 rfl;refine so (A:=[]) o0 0 (fun O1 h=>?_);refine rn<|sq<|rg<|rr 1 ?_;refine l1 ((h.bring 3 rfl).box) 4 ?_;obtain⟨y1,E0,hm⟩:=bS hm;refine ca zke (laws_toParcelSS_ok (hE.trans h.ext) h6 E0) (fun F1 P1 X=>?_);obtain⟨L0,V0,rfl,Y⟩:=X;have p0:=h.join Y;refine rr 1 ?_;have q0:=p0.bring 1 rfl;refine so (A:=[]) q0 4 (fun Q1 o=>?_);refine rn<|sq<|rg<|rr 1 ?_;refine l1 ((o.bring 4 rfl).box) 5 ?_;obtain⟨B1,F0,hm⟩:=bS hm;refine ca zkd (laws_toInt64SS_ok (hE.trans o.ext) R0 F0) (fun G1 R1 Z=>?_);obtain⟨M0,X0,rfl,a0⟩:=Z;have r0:=o.join a0;refine rr 1 ?_;have t0:=r0.bring 1 rfl;refine so (A:=[]) t0 5 (fun S1 q=>?_);refine rn<|sq<|rg<|rr 1 ?_;refine l1 ((q.bring 5 rfl).box) 6 ?_;obtain⟨C1,G0,hm⟩:=bS hm;refine ca zfj (laws_toInt64S_ok (hE.trans q.ext) S0 G0) (fun H1 T1 b0=>?_);obtain⟨N0,Y0,rfl,d0⟩:=b0;have u0:=q.join d0;refine rr 1 ?_;have v0:=u0.bring 1 rfl;refine so (A:=[]) v0 6 (fun U1 G=>?_);refine rn<|sq<|rg<|rr 1 ?_;refine l1 ((G.bring 6 rfl).box) 7 ?_;obtain⟨D1,H0,hm⟩:=bS hm;refine ca zfj (laws_toInt64S_ok (hE.trans G.ext) T0 H0) (fun J1 V1 e0=>?_);obtain⟨O0,a1,rfl,f0⟩:=e0;have y0:=G.join f0;refine rr 1 ?_;have B0:=y0.bring 1 rfl;refine so (A:=[]) B0 7 (fun W1 H=>?_);refine rn<|sq<|rg<|lN ((H.bring 0 rfl).box) ?_;have C0:=H.bring 6 rfl;refine so (A:=[]) C0 0 (fun X1 M=>?_);refine rn<|rt ?_;cases hm;exact⟨_,.cons (ra ((M.bring 0 rfl).box)) .nil,K0,U0,L0,V0,M0,X0,N0,Y0,O0,a1,rfl,((((((M.bring 2 rfl).bring 3 rfl).bring 4 rfl).bring 5 rfl).bring 6 rfl).taken 5)⟩

theorem zcZ:EN 212:=en Tryz.func212
def z5Q (fu:Nat) (x0:(List Int)):Option ((List Int)):=(if decide ((([]:(List Int)).length:Int)+(x0.length:Int)≤4294967296)=true then some (([]:(List Int))++x0) else none)

theorem z8L {W w:World}(hE:Ext W w){h:Option Addr}{q:Nat}{x0:(List Int)}(H:ty29.ro W [sl h x0 q] x0){fu:Nat}{r:(List Int)}(hm:z5Q fu x0=some r):
  CL 212 ⟨[sl h x0 q]⟩ w (Ret fun v w8=>∃ A0 k0,v=sl A0 r k0∧St w w8 [ow ty29 A0 r k0]):=by
 refine into Tryz.func212 6 _ ?_;unfold z5Q at hm;have hS:=St.start w;refine sq<|rg<|rr 1 ?_;refine rn<|sq<|rg<|n0 (U:=tInt) hS (fun A1 k2 w3 e4 M=>?_);refine rr 1 ?_;have o:=M.bring 0 rfl;obtain⟨O,hm⟩:=iS hm;refine ap Flat.int o (ty29.ext (hE.trans o.ext) H) O (fun G S X d=>?_);refine rr 1 ?_;refine rn<|rt ?_;cases hm;exact⟨_,tR rfl,G,S,rfl,d⟩

theorem ziB:EN 248:=en Tryz.func248
def z6S (fu:Nat) (x0:D.Qb):Option (D.QJ):=((z5Q fu x0.Data).bind fun d=>(if decide (0≤(w64 ((x0.QX.length:Int)+1))∧(w64 ((x0.QX.length:Int)+1))≤4294967296)=true then some (⟨x0.Qj,x0.QL,x0.Value,d,(List.replicate (w64 ((x0.QX.length:Int)+1)).toNat (⟨(0:Int),(0:Int)⟩:D.QS))⟩:D.QJ) else none))

theorem zct {W w:World}(hE:Ext W w){j0:Addr}{i0:List Value}{x0:D.Qb}(t0:z2B.ro W i0 x0) (q:At W j0 i0){fu:Nat}{r:D.QJ}(hm:z6S fu x0=some r):
  CL 248 ⟨[.pointer (some j0)]⟩ w (Ret fun v w8=>∃ A0 k0 A1 k1,v=.agg ⟨[iv r.Qj,iv r.QL,iv r.Value,sl A0 r.Data k0,sl A1 r.QY k1]⟩∧St w w8 [ow ty29 A0 r.Data k0,ow z2E A1 r.QY k1]):=by
 obtain⟨A1,k2,A4,k5,e7,h3,h6⟩:=zq t0;subst e7;refine into Tryz.func248 28 _ ?_;unfold z6S at hm;have hS:=St.start w;refine sq<|rg<|nw hS (fun F0 L0 C0 h=>?_);refine rn<|sq<|dn 33554432 mixed 26 [([],67108863),([0],67108862),([1],67108861),([2],67108859),([],67108863),([4],67108847),([5],67108831),([6],67108799),([],67108863),([8],67108607),([9],67108351),([10],67107839),([],67108863),([12],67104767),([13],67100671),([14],67092479),([15],67076095),([],67108863),([17],66977791),([18],66846719),([19],66584575),([20],66060287),([21],65011711),([22,22],62914559),([3,7,11,16,23],58652535),([24,16,0,1,2,3,4,5,6,7,8,9,10,11,12,13,14,15,16,17,18,19,20,21,22,23,24],50331647)] h.ext (fun d=>?_);have o:=h.step (Ext.draw _);refine dr 11 d [0,1,2,4,5,6,8,9,10,12,13,14,17,18,19] ?_;refine dw [2,5,9,13,17,22] ?_;refine dl d 3 (ax hE h q) 0 ?_;refine dl d 7 (ax hE h q) 1 ?_;refine dl d 11 (ax hE h q) 2 ?_;refine dl d 15 (ax hE h q) 3 ?_;refine dl d 20 (ax hE h q) 4 ?_;refine dr 4 d [21,22] ?_;refine dw [2,6,10,14,18,25] ?_;obtain⟨H0,Y,hm⟩:=bS hm;obtain⟨X,hm⟩:=iS hm;refine da d [16,23] (by simp) ?_;intro G0 hi36;simp only [List.mem_cons,List.not_mem_nil,or_false] at hi36
 rcases hi36 with rfl | rfl
 ·refine mc d zcZ (z8L (hE.trans o.ext) h3 Y) (fun J0 M0 Z=>?_);obtain⟨o0,u0,rfl,G⟩:=Z;refine⟨G.ext,?_⟩;have b0:=o.join G;have hz49:=of_decide_eq_true X;refine o1 d 23 (mk (U:=zeT) (⟨(0:Int),(0:Int)⟩:D.QS) b0 d hz49 (fun _=>(za7 (c:=(⟨(0:Int),(0:Int)⟩:D.QS)) rfl)) (fun p0 v0 N0 D0 d0=>?_));refine dp d 24 rfl (fun _=>qb) ?_;have e0:=d0.bring 2 rfl;refine o1 d 25 (ms (A:=[]) e0 d 0 (fun O0 M=>?_));refine dd d ?_;refine rt ?_;cases hm;exact⟨_,.cons (ra ((M.bring 0 rfl).box)) .nil,o0,u0,p0,v0,rfl,(((M.bring 1 rfl).bring 2 rfl).taken 2)⟩
 ·have hz58:=of_decide_eq_true X;refine mk (U:=zeT) (⟨(0:Int),(0:Int)⟩:D.QS) o d hz58 (fun _=>(za7 (c:=(⟨(0:Int),(0:Int)⟩:D.QS)) rfl)) (fun q0 y0 P0 E0 O=>?_);refine o1 d 16 (mc d zcZ (z8L (hE.trans O.ext) h3 Y) (fun K0 Q0 a0=>?_));obtain⟨r0,B0,rfl,H⟩:=a0;refine⟨H.ext,?_⟩;have f0:=O.join H;refine dp d 24 rfl (fun _=>qb) ?_;have g0:=f0.bring 2 rfl;refine o1 d 25 (ms (A:=[]) g0 d 0 (fun R0 S=>?_));refine dd d ?_;refine rt ?_;cases hm;exact⟨_,.cons (ra ((S.bring 0 rfl).box)) .nil,r0,B0,q0,y0,rfl,(S.bring 0 rfl).drop⟩

theorem ziJ:EN 224:=en Tryz.func224
def z5B (fu:Nat) (x0:D.Qb):Option (Bool):=(if(x0.Qj == 0)=true then(if(x0.QL == 0)=true then(if(x0.Value == 0)=true then(if((x0.Data.length:Int) == 0)=true then some ((x0.QX.length:Int) == 0) else some false) else some false) else some false) else(if(decide ((x0.QX.length:Int)>3))=true then some false else((z6S fu x0).bind fun d=>(if(x0.Qj != 1)=true then((z59 fu d).bind fun h=>some h) else some false))))

theorem zbX {W w:World}(hE:Ext W w){d0:Addr}{a0:List Value}{x0:D.Qb}(b0:z2B.ro W a0 x0) (h:At W d0 a0){fu:Nat}{r:Bool}(hm:z5B fu x0=some r):
  CL 224 ⟨[.pointer (some d0)]⟩ w (RB w r):=by
 obtain⟨A1,k2,A4,k5,e7,h3,h6⟩:=zq b0;subst e7;refine into Tryz.func224 53 _ ?_;unfold z5B at hm;have hS:=St.start w;refine sq<|rg<|rr 1 ?_;refine rn<|sq<|sq<|rg<|rr 3 ?_;refine l1 (ax hE hS h) 0 ?_;refine rr 1 ?_;refine rn<|ci hm (fun hm=>?_) (fun hm=>?_)
 ·refine sq<|rg<|rr 3 ?_;refine l1 (ax hE hS h) 1 ?_;refine rr 2 ?_;refine rb 14 hm (fun hm=>?_) (fun hm=>?_)
  ·refine rr 3 ?_;refine l1 (ax hE hS h) 2 ?_;refine rr 3 ?_;refine rb 21 hm (fun hm=>?_) (fun hm=>?_)
   ·refine rr 3 ?_;refine l1 (ax hE hS h) 3 ?_;refine rr 4 ?_;refine rb 29 hm (fun hm=>?_) (fun hm=>?_)
    ·refine rr 3 ?_;refine l1 (ax hE hS h) 4 ?_;refine rr 4 ?_;refine rn<|rt ?_;cases hm;exact⟨_,tR rfl,rfl,hS⟩
    ·refine rr 8 ?_;refine rn<|rt ?_;cases hm;exact⟨_,tR rfl,rfl,hS⟩
   ·refine rr 16 ?_;refine rn<|rt ?_;cases hm;exact⟨_,tR rfl,rfl,hS⟩
  ·refine rr 23 ?_;refine rn<|rt ?_;cases hm;exact⟨_,tR rfl,rfl,hS⟩
 ·refine sp<|sq<|sq<|rg<|rr 3 ?_;refine l1 (ax hE hS h) 4 ?_;refine rr 2 ?_;refine rn<|ci hm (fun hm=>?_) (fun hm=>?_)
  ·refine sq<|rg<|rr 1 ?_;refine rn<|rt ?_;cases hm;exact⟨_,tR rfl,rfl,hS⟩
  ·refine sp<|sq<|rg<|rr 1 ?_;obtain⟨e0,Y,hm⟩:=bS hm;refine ca ziB (zct (hE.trans hS.ext) b0 h Y) (fun q0 t0 o=>?_);obtain⟨f0,k0,g0,o0,rfl,q⟩:=o;have M:=hS.join q;refine nw M (fun j0 u0 i0 O=>?_);have S:=O.bring 0 rfl;refine so (A:=[]) S 0 (fun v0 d=>?_);refine rn<|sq<|rg<|rr 3 ?_;refine l1 (ax hE d h) 0 ?_;refine rr 2 ?_;refine rb 50 hm (fun hm=>?_) (fun hm=>?_)
   ·obtain⟨p0,Z,hm⟩:=bS hm;refine ca znf (zeY (Ext.refl _) (zgO e0 ((d.bring 1 rfl).own) ((d.bring 2 rfl).own)) ((d.bring 0 rfl).box) Z) (fun r0 y0 G=>?_);obtain⟨rfl,H⟩:=G;have X:=d.join H;refine rr 2 ?_;refine rn<|rt ?_;cases hm;exact⟨_,tR rfl,rfl,(X.taken 0)⟩
   ·refine rr 3 ?_;refine rn<|rt ?_;cases hm;exact⟨_,tR rfl,rfl,(d.taken 0)⟩

theorem ziR:EN 170:=en Tryz.func170
def zbf (fu:Nat) (d:Unit):Option Bool:=some true
def zbe (fu:Nat) (d:Int) (h:Unit):Option (Rd (Int) (Unit) (Bool)):=some (.next (w64 (d+1)))
def z1R (fu:Nat) (d:Int) (h:Bool):Option (Rd (Int) (Unit) (Rd (Int) (Unit) (Bool))):=(if h=true then some (.ret (.ret false)) else some (.next (w64 (d+1))))
def z52 (fu:Nat) (o:D.Qp) (h:Int):Option (Rd (Int) (Unit) (Rd (Int) (Unit) (Bool))):=(if(decide (h<(o.QG.length:Int)))=true then((idx o.QG h).bind fun d=>(if d.Qa1=true then(if(!d.Qa0)=true then z1R fu h true else(if(!d.Qa1)=true then z1R fu h (!(((d.QV.Qg:Int) == 0) && (((d.QV.Qj:Int) == 0) && (((d.QV.Qs:Int) == 0) && true)))) else z1R fu h false)) else(if(!d.Qa1)=true then z1R fu h (!(((d.QV.Qg:Int) == 0) && (((d.QV.Qj:Int) == 0) && (((d.QV.Qs:Int) == 0) && true)))) else z1R fu h false))) else some (.brk ()))
def z96 (fu:Nat) (d:Int) (h:D.Qp) (q:Unit):Option (Rd (Int) (Unit) (Bool)):=((iter (z52 fu h) fu 0).bind fun o=>aft o (zbe fu d))
def z53 (fu:Nat) (q:D.Qp) (h:Int):Option (Rd (Int) (Unit) (Rd (Int) (Unit) (Bool))):=(if(decide (h<(q.Cells.length:Int)))=true then((idx q.Cells h).bind fun o=>((z5B fu o).bind fun d=>(if(!d)=true then some (.ret (.ret false)) else some (.next (w64 (h+1)))))) else some (.brk ()))
def z1B (fu:Nat) (h:Int) (d:D.Qp) (q:Bool):Option (Rd (Int) (Unit) (Bool)):=(if q=true then some (.ret false) else((iter (z53 fu d) fu 0).bind fun o=>aft o (z96 fu h d)))
def z54 (fu:Nat) (x0:D.Qi) (h:Int):Option (Rd (Int) (Unit) (Bool)):=(if(decide (h<(x0.Qc.length:Int)))=true then((idx x0.Qc h).bind fun d=>(if(decide ((d.Cells.length:Int)>400))=true then z1B fu h d true else(if(decide ((d.QG.length:Int)>400))=true then z1B fu h d true else z1B fu h d (decide ((d.Qu.length:Int)>400))))) else some (.brk ()))
def z4a (fu:Nat) (x0:D.Qi):Option (Bool):=((z19 fu (x0.Qc.length:Int) 1 4).bind fun r5=>(if(!r5)=true then some false else((iter (z54 fu x0) fu 0).bind fun o=>aft o (zbf fu))))

theorem zbW {W w:World}(hE:Ext W w){Z:Addr}{d1:List Value}{x0:D.Qi}(D1:ty37.ro W d1 x0) (A0:At W Z d1){fu:Nat}{r:Bool}(hm:z4a fu x0=some r):
  CL 170 ⟨[.pointer (some Z)]⟩ w (RB w r):=by
 obtain⟨A1,k2,e4,h3⟩:=z4d D1;subst e4;refine into Tryz.func170 105 _ ?_;unfold z4a at hm;have hS:=St.start w;refine sq<|rg<|rr 1 ?_;refine rn<|sq<|sq<|rg<|rr 3 ?_;refine l1 (ax hE hS A0) 0 ?_;refine rr 1 ?_;obtain⟨r5,M1,hm⟩:=bS hm;refine ca z4B (z1t (hE.trans hS.ext)  M1) (fun v7 u2 B0=>?_);obtain⟨rfl,C0⟩:=B0;have j0:=hS.join C0;refine rr 1 ?_;refine rn<|ci hm (fun hm=>?_) (fun hm=>?_)
 ·refine sq<|rg<|rr 1 ?_;refine rn<|rt ?_;cases hm;exact⟨_,tR rfl,rfl,j0⟩
 ·refine sp<|sq<|rg<|qt (qb) ?_;refine nw j0 (fun M v2 m2 D0=>?_);have E0:=D0.bring 0 rfl;refine so (A:=[]) E0 0 (fun y2 F0=>?_);refine rn<|sq<|sq<|rg<|rr 1 ?_;refine rn ?_;obtain⟨Q1,N0,hm⟩:=bS hm;refine ct (fun(g1:Unit) F w9=>Q1=.inl g1∧St w w9 [Box M [iv 0,iv 0,iv 0] 35]∧F=[]) ?_ ?_
  ·rintro g1 F A2 ⟨Q0,G0,rfl⟩;subst Q0;rw [z8] at hm;unfold zbf at hm;refine sq<|rg<|rr 1 ?_;refine rn<|rt ?_;cases hm;exact⟨_,tR rfl,rfl,(G0.taken 0)⟩
  ·refine bk<|wk [0,3,4] ?_;refine it (fun(a0:Int) F w9=>St w w9 [Box M [iv 0,iv 0,iv 0] 35]∧F=[(0,.pointer (some Z)),(3,.pointer (some ⟨M,0,none⟩)),(4,iv a0)]) N0 ⟨F0,rfl⟩ ?_;rintro a0 F d2 _ R1 ⟨G,rfl⟩ d Y;unfold z54 at d;refine sq<|sq<|rg<|rr 4 ?_;refine l1 (ax hE G A0) 0 ?_;refine rr 2 ?_;refine rn<|ci d (fun d=>?_) (fun d=>?_)
   ·refine sp<|sq<|bk<|sq<|rg<|rr 3 ?_;refine l1 (ax hE G A0) 0 ?_;refine rr 1 ?_;obtain⟨n1,V0,d⟩:=bS d;refine ix (hE.trans G.ext) h3 V0 (fun u0 y1 O T0=>?_);obtain⟨g2,p2,i2,q2,j2,r2,u1,G1,H1,o2⟩:=zw T0;subst u1;refine rr 1 ?_;refine rn<|sq<|sq<|ct (fun(Y0:Bool) F w9=>z1B fu a0 n1 Y0=some R1∧Ext d2 w9∧St w w9 [Box M [iv 0,iv 0,iv 0] 35]∧F=[(0,.pointer (some Z)),(3,.pointer (some ⟨M,0,none⟩)),(4,iv a0),(5,.pointer (some u0)),(53,.bool Y0)]) ?_ ?_
    ·rintro Y0 F m1 ⟨d,J1,k0,rfl⟩;unfold z1B at d;refine ci d (fun d=>?_) (fun d=>?_)
     ·refine sq<|rg<|rr 1 ?_;refine rn<|rt ?_;cases d;cases Y;have hm:some _=some _:=hm;cases hm;exact⟨_,tR rfl,rfl,(k0.taken 0)⟩
     ·refine sp<|sq<|sq<|rg<|rr 1 ?_;refine rn ?_;obtain⟨S1,O0,d⟩:=bS d;refine ct (fun(i1:Unit) F w9=>S1=.inl i1∧Ext m1 w9∧St w w9 [Box M [iv 0,iv 0,iv 0] 35]∧F=[(0,.pointer (some Z)),(3,.pointer (some ⟨M,0,none⟩)),(4,iv a0),(5,.pointer (some u0))]) ?_ ?_
      ·rintro i1 F B2 ⟨R0,K1,H0,rfl⟩;subst R0;rw [z8] at d;unfold z96 at d;refine sq<|rg<|rr 1 ?_;refine rn ?_;obtain⟨T1,P0,d⟩:=bS d;refine ct (fun(j1:Unit) F w9=>T1=.inl j1∧St w w9 [Box M [iv 0,iv 0,iv 0] 35]∧F=[(0,.pointer (some Z)),(3,.pointer (some ⟨M,0,none⟩)),(4,iv a0)]) ?_ ?_
       ·rintro j1 F C2 ⟨S0,J0,rfl⟩;subst S0;rw [z8] at d;unfold zbe at d;refine rg<|rr 3 ?_;refine rn ?_;cases d;exact⟨_,_,rfl,⟨J0,rfl⟩,rfl⟩
       ·refine bk<|wk [0,3,4,5,7] ?_;refine it (fun(v0:Int) F w9=>St w w9 [Box M [iv 0,iv 0,iv 0] 35]∧F=[(0,.pointer (some Z)),(3,.pointer (some ⟨M,0,none⟩)),(4,iv a0),(5,.pointer (some u0)),(7,iv v0)]) P0 ⟨H0,rfl⟩ ?_;rintro v0 F D2 _ U1 ⟨S,rfl⟩ h q0;unfold z52 at h;refine sq<|sq<|rg<|rr 4 ?_;refine l1 (ax hE S O) 1 ?_;refine rr 2 ?_;refine rn<|ci h (fun h=>?_) (fun h=>?_)
        ·refine sp<|sq<|bk<|sq<|rg<|rr 3 ?_;refine l1 (ax hE S O) 1 ?_;refine rr 1 ?_;obtain⟨X,X0,h⟩:=bS h;refine ix (hE.trans S.ext) H1 X0 (fun t2 B1 M0 U0=>?_);have v1:=z1n U0;subst v1;refine lN (ax hE S M0) ?_;refine nw S (fun C1 E2 n2 K0=>?_);have L0:=K0.bring 0 rfl;refine so (A:=[]) L0 0 (fun e2 q=>?_);refine rn<|sq<|ct (fun(a1:Bool) F w9=>z1R fu v0 a1=some U1∧Ext e2 w9∧St w w9 [Box C1 [.bool X.Qa0,.bool X.Qa1,iv X.QV.Qg,iv X.QV.Qj,iv X.QV.Qs] 223,Box M [iv 0,iv 0,iv 0] 35]∧F=[(0,.pointer (some Z)),(3,.pointer (some ⟨M,0,none⟩)),(4,iv a0),(5,.pointer (some u0)),(7,iv v0),(104,.bool a1)]) ?_ ?_
         ·rintro a1 F F2 ⟨h,L1,o0,rfl⟩;unfold z1R at h;refine ci h (fun h=>?_) (fun h=>?_)
          ·refine sq<|rg<|rr 1 ?_;refine rn<|rt ?_;cases h;cases q0;have d:some _=some _:=d;cases d;cases Y;have hm:some _=some _:=hm;cases hm;exact⟨_,tR rfl,rfl,(o0.taken 0)⟩
          ·refine sp<|rg<|rr 3 ?_;refine rn ?_;cases h;exact⟨_,_,rfl,⟨((o0.bring 1 rfl).taken 1),rfl⟩,rfl⟩
         ·refine rg<|rr 1 ?_;refine l1 ((q.bring 0 rfl).box) 1 ?_;refine rr 1 ?_;refine rb 89 h (fun h=>?_) (fun h=>?_)
          ·refine rr 1 ?_;refine l1 ((q.bring 0 rfl).box) 0 ?_;refine rr 3 ?_;refine rb 94 h (fun h=>?_) (fun h=>?_)
           ·refine rr 10 ?_;refine rn ?_;exact⟨true,_,⟨h,(Ext.refl _),q,rfl⟩,rfl⟩
           ·refine rr 1 ?_;refine l1 ((q.bring 0 rfl).box) 1 ?_;refine rr 2 ?_;refine rb 98 h (fun h=>?_) (fun h=>?_)
            ·refine rr 1 ?_;refine lN (At.sub ((q.bring 0 rfl).box) 2 3) ?_;refine lN ((q.bring 1 rfl).box) ?_;refine rr 3 ?_;refine rn ?_;exact⟨!(((X.QV.Qg:Int) == 0) && (((X.QV.Qj:Int) == 0) && (((X.QV.Qs:Int) == 0) && true))),_,⟨h,(Ext.refl _),q,rfl⟩,rfl⟩
            ·refine rr 6 ?_;refine rn ?_;exact⟨false,_,⟨h,(Ext.refl _),q,rfl⟩,rfl⟩
          ·refine rr 6 ?_;refine l1 ((q.bring 0 rfl).box) 1 ?_;refine rr 2 ?_;refine rb 98 h (fun h=>?_) (fun h=>?_)
           ·refine rr 1 ?_;refine lN (At.sub ((q.bring 0 rfl).box) 2 3) ?_;refine lN ((q.bring 1 rfl).box) ?_;refine rr 3 ?_;refine rn ?_;exact⟨!(((X.QV.Qg:Int) == 0) && (((X.QV.Qj:Int) == 0) && (((X.QV.Qs:Int) == 0) && true))),_,⟨h,(Ext.refl _),q,rfl⟩,rfl⟩
           ·refine rr 6 ?_;refine rn ?_;exact⟨false,_,⟨h,(Ext.refl _),q,rfl⟩,rfl⟩
        ·refine xt ?_;cases h;exact⟨_,_,⟨q0,S,rfl⟩,rfl⟩
      ·refine bk<|wk [0,3,4,5,6] ?_;refine it (fun(f1:Int) F w9=>Ext m1 w9∧St w w9 [Box M [iv 0,iv 0,iv 0] 35]∧F=[(0,.pointer (some Z)),(3,.pointer (some ⟨M,0,none⟩)),(4,iv a0),(5,.pointer (some u0)),(6,iv f1)]) O0 ⟨(Ext.refl _),k0,rfl⟩ ?_;rintro f1 F Y1 _ P1 ⟨g0,H,rfl⟩ o e0;unfold z53 at o;refine sq<|sq<|rg<|rr 4 ?_;refine l1 (ax hE H O) 0 ?_;refine rr 2 ?_;refine rn<|ci o (fun o=>?_) (fun o=>?_)
       ·refine sp<|sq<|bk<|sq<|rg<|rr 3 ?_;refine l1 (ax hE H O) 0 ?_;refine rr 1 ?_;obtain⟨f2,r0,o⟩:=bS o;refine ix (hE.trans H.ext) G1 r0 (fun V1 e1 p0 f0=>?_);obtain⟨p1,N1,t1,O1,y0,E1,F1⟩:=zq f0;subst y0;obtain⟨W1,t0,o⟩:=bS o;refine ca ziJ (zbX (hE.trans H.ext) f0 p0 t0) (fun X1 a2 i0=>?_);obtain⟨rfl,b0⟩:=i0;have d0:=H.join b0;refine rr 1 ?_;refine rn<|ci o (fun o=>?_) (fun o=>?_)
        ·refine sq<|rg<|rr 1 ?_;refine rn<|rt ?_;cases o;cases e0;have d:some _=some _:=d;cases d;cases Y;have hm:some _=some _:=hm;cases hm;exact⟨_,tR rfl,rfl,(d0.taken 0)⟩
        ·refine sp<|rg<|rr 3 ?_;refine rn ?_;cases o;exact⟨_,_,rfl,⟨(g0.trans b0.ext),d0,rfl⟩,rfl⟩
       ·refine xt ?_;cases o;exact⟨_,_,⟨e0,g0,H,rfl⟩,rfl⟩
    ·refine rg<|rr 3 ?_;refine l1 (ax hE G O) 0 ?_;refine rr 3 ?_;refine rb 38 d (fun d=>?_) (fun d=>?_)
     ·refine rr 15 ?_;refine rn ?_;exact⟨true,_,⟨d,(Ext.refl _),G,rfl⟩,rfl⟩
     ·refine rr 3 ?_;refine l1 (ax hE G O) 1 ?_;refine rr 4 ?_;refine rb 46 d (fun d=>?_) (fun d=>?_)
      ·refine rr 7 ?_;refine rn ?_;exact⟨true,_,⟨d,(Ext.refl _),G,rfl⟩,rfl⟩
      ·refine rr 3 ?_;refine l1 (ax hE G O) 2 ?_;refine rr 3 ?_;refine rn ?_;exact⟨decide ((n1.Qu.length:Int)>400),_,⟨d,(Ext.refl _),G,rfl⟩,rfl⟩
   ·refine xt ?_;cases d;exact⟨_,_,⟨Y,G,rfl⟩,rfl⟩

theorem zej:EN 171:=en Tryz.func171
def z8G (fu:Nat) (t2:Unit):Option Bool:=some true
def z4j (fu:Nat) (x0:(List Int)) (x1:Int) (s1:Int):Option (Rd (Int) (Unit) (Bool)):=(if(decide (s1<x1))=true then((idx x0 s1).bind fun h=>((z19 fu h 0 1000000000).bind fun d=>(if(!d)=true then some (.ret false) else some (.next (w64 (s1+1)))))) else some (.brk ()))
def z1T (fu:Nat) (x0:(List Int)) (x1:Int):Option (Bool):=(if((x0.length:Int) != x1)=true then some false else((iter (z4j fu x0 x1) fu 0).bind fun o=>aft o (z8G fu)))

theorem z7Y {W w:World}(hE:Ext W w){H:Option Addr}{d0:Nat}{x0:(List Int)}{x1:Int}(g0:ty29.ro W [sl H x0 d0] x0){fu:Nat}{r:Bool}(hm:z1T fu x0 x1=some r):
  CL 171 ⟨[sl H x0 d0,iv x1]⟩ w (RB w r):=by
 refine into Tryz.func171 21 _ ?_;unfold z1T at hm;have hS:=St.start w;refine sq<|rg<|rr 1 ?_;refine rn<|sq<|sq<|rg<|rr 4 ?_;refine rn<|ci hm (fun hm=>?_) (fun hm=>?_)
 ·refine sq<|rg<|rr 1 ?_;refine rn<|rt ?_;cases hm;exact⟨_,tR rfl,rfl,hS⟩
 ·refine sp<|sq<|sq<|rg<|rr 1 ?_;refine rn ?_;obtain⟨i0,X,hm⟩:=bS hm;refine ct (fun(t2:Unit) F w9=>i0=.inl t2∧Ext w w9∧St w w9 []∧F=[]) ?_ ?_
  ·rintro t2 F w7 ⟨Y,j0,O,rfl⟩;subst Y;rw [z8] at hm;unfold z8G at hm;refine sq<|rg<|rr 1 ?_;refine rn<|rt ?_;cases hm;exact⟨_,tR rfl,rfl,O⟩
  ·refine bk<|wk [0,1,5] ?_;refine it (fun(s1:Int) F w9=>Ext w w9∧St w w9 []∧F=[(0,sl H x0 d0),(1,iv x1),(5,iv s1)]) X ⟨(Ext.refl _),hS,rfl⟩ ?_;rintro s1 F r0 _ k0 ⟨e0,h,rfl⟩ d G;unfold z4j at d;refine sq<|sq<|rg<|rr 3 ?_;refine rn<|ci d (fun d=>?_) (fun d=>?_)
   ·refine sp<|sq<|bk<|sq<|rg<|rr 2 ?_;obtain⟨u0,a0,d⟩:=bS d;refine ix (hE.trans h.ext) g0 a0 (fun o0 f0 S Z=>?_);cases Z;refine l1 (ax hE h S) 0 ?_;obtain⟨p0,b0,d⟩:=bS d;refine ca z4B (z1t (hE.trans h.ext)  b0) (fun q0 t0 M=>?_);obtain⟨rfl,o⟩:=M;have q:=h.join o;refine rr 1 ?_;refine rn<|ci d (fun d=>?_) (fun d=>?_)
    ·refine sq<|rg<|rr 1 ?_;refine rn<|rt ?_;cases d;cases G;have hm:some _=some _:=hm;cases hm;exact⟨_,tR rfl,rfl,q⟩
    ·refine sp<|rg<|rr 3 ?_;refine rn ?_;cases d;exact⟨_,_,rfl,⟨(e0.trans o.ext),q,rfl⟩,rfl⟩
   ·refine xt ?_;cases d;exact⟨_,_,⟨G,e0,h,rfl⟩,rfl⟩

theorem zne:EN 250:=en Tryz.func250
def zc3 (fu:Nat) (t2:Unit):Option Bool:=some true
def z8A (fu:Nat) (x0:(List Int)) (x1:(List Int)) (s1:Int):Option (Rd (Int) (Unit) (Bool)):=(if(decide (s1<(x0.length:Int)))=true then((idx x0 s1).bind fun d=>((idx x1 s1).bind fun h=>(if(d != h)=true then some (.ret false) else some (.next (w64 (s1+1)))))) else some (.brk ()))
def z8R (fu:Nat) (x0:(List Int)) (x1:(List Int)):Option (Bool):=(if((x0.length:Int) != (x1.length:Int))=true then some false else((iter (z8A fu x0 x1) fu 0).bind fun o=>aft o (zc3 fu)))

theorem zfJ {W w:World}(hE:Ext W w){H:Option Addr}{f0:Nat}{x0:(List Int)}{M:Option Addr}{g0:Nat}{x1:(List Int)}(o0:ty29.ro W [sl H x0 f0] x0) (p0:ty29.ro W [sl M x1 g0] x1){fu:Nat}{r:Bool}(hm:z8R fu x0 x1=some r):
  CL 250 ⟨[sl H x0 f0,sl M x1 g0]⟩ w (RB w r):=by
 refine into Tryz.func250 26 _ ?_;unfold z8R at hm;have hS:=St.start w;refine sq<|rg<|rr 1 ?_;refine rn<|sq<|sq<|rg<|rr 5 ?_;refine rn<|ci hm (fun hm=>?_) (fun hm=>?_)
 ·refine sq<|rg<|rr 1 ?_;refine rn<|rt ?_;cases hm;exact⟨_,tR rfl,rfl,hS⟩
 ·refine sp<|sq<|sq<|rg<|rr 1 ?_;refine rn ?_;obtain⟨q0,Y,hm⟩:=bS hm;refine ct (fun(t2:Unit) F w9=>q0=.inl t2∧Ext w w9∧St w w9 []∧F=[]) ?_ ?_
  ·rintro t2 F w7 ⟨Z,r0,O,rfl⟩;subst Z;rw [z8] at hm;unfold zc3 at hm;refine sq<|rg<|rr 1 ?_;refine rn<|rt ?_;cases hm;exact⟨_,tR rfl,rfl,O⟩
  ·refine bk<|wk [0,1,5] ?_;refine it (fun(s1:Int) F w9=>Ext w w9∧St w w9 []∧F=[(0,sl H x0 f0),(1,sl M x1 g0),(5,iv s1)]) Y ⟨(Ext.refl _),hS,rfl⟩ ?_;rintro s1 F y0 _ t0 ⟨i0,h,rfl⟩ d G;unfold z8A at d;refine sq<|sq<|rg<|rr 4 ?_;refine rn<|ci d (fun d=>?_) (fun d=>?_)
   ·refine sp<|sq<|bk<|sq<|dn 0 mixed 9 [([],511),([],511),([0,1],508),([2],507),([],511),([],511),([4,5],463),([6],447),([3,7],375)] h.ext (fun o=>?_);have q:=h.step (Ext.draw _);refine dr 5 o [0,1,4,5] ?_;obtain⟨A0,d0,d⟩:=bS d;refine dx (hE.trans h.ext) o 2 o0 d0 (fun u0 j0 S a0=>?_);cases a0;refine dl o 3 (ax hE h S) 0 ?_;obtain⟨B0,e0,d⟩:=bS d;refine dx (hE.trans h.ext) o 6 p0 e0 (fun v0 k0 X b0=>?_);cases b0;refine dl o 7 (ax hE h X) 0 ?_;refine dr 0 o [8] ?_;refine dw [0,1,5,25] ?_;refine dd o ?_;refine ci d (fun d=>?_) (fun d=>?_)
    ·refine sq<|rg<|rr 1 ?_;refine rn<|rt ?_;cases d;cases G;have hm:some _=some _:=hm;cases hm;exact⟨_,tR rfl,rfl,q⟩
    ·refine sp<|rg<|rr 3 ?_;refine rn ?_;cases d;exact⟨_,_,rfl,⟨(i0.trans (Ext.draw _)),q,rfl⟩,rfl⟩
   ·refine xt ?_;cases d;exact⟨_,_,⟨G,i0,h,rfl⟩,rfl⟩

theorem znd:EN 251:=en Tryz.func251
def z8D (fu:Nat) (t2:Unit):Option Bool:=some true
def z37 (fu:Nat) (x0:(List D.Qf)) (x1:(List D.Qf)) (s1:Int):Option (Rd (Int) (Unit) (Bool)):=(if(decide (s1<(x0.length:Int)))=true then((idx x0 s1).bind fun d=>((idx x1 s1).bind fun h=>(if(!(((d.Qg:Int) == h.Qg) && (((d.Qj:Int) == h.Qj) && (((d.Qs:Int) == h.Qs) && true))))=true then some (.ret false) else some (.next (w64 (s1+1)))))) else some (.brk ()))
def z2K (fu:Nat) (x0:(List D.Qf)) (x1:(List D.Qf)):Option (Bool):=(if((x0.length:Int) != (x1.length:Int))=true then some false else((iter (z37 fu x0 x1) fu 0).bind fun o=>aft o (z8D fu)))

theorem zbV {W w:World}(hE:Ext W w){H:Option Addr}{f0:Nat}{x0:(List D.Qf)}{M:Option Addr}{g0:Nat}{x1:(List D.Qf)}(q0:z3r.ro W [sl H x0 f0] x0) (r0:z3r.ro W [sl M x1 g0] x1){fu:Nat}{r:Bool}(hm:z2K fu x0 x1=some r):
  CL 251 ⟨[sl H x0 f0,sl M x1 g0]⟩ w (RB w r):=by
 refine into Tryz.func251 26 _ ?_;unfold z2K at hm;have hS:=St.start w;refine sq<|rg<|rr 1 ?_;refine rn<|sq<|sq<|rg<|rr 5 ?_;refine rn<|ci hm (fun hm=>?_) (fun hm=>?_)
 ·refine sq<|rg<|rr 1 ?_;refine rn<|rt ?_;cases hm;exact⟨_,tR rfl,rfl,hS⟩
 ·refine sp<|sq<|sq<|rg<|rr 1 ?_;refine rn ?_;obtain⟨t0,Y,hm⟩:=bS hm;refine ct (fun(t2:Unit) F w9=>t0=.inl t2∧Ext w w9∧St w w9 []∧F=[]) ?_ ?_
  ·rintro t2 F w7 ⟨Z,u0,O,rfl⟩;subst Z;rw [z8] at hm;unfold z8D at hm;refine sq<|rg<|rr 1 ?_;refine rn<|rt ?_;cases hm;exact⟨_,tR rfl,rfl,O⟩
  ·refine bk<|wk [0,1,5] ?_;refine it (fun(s1:Int) F w9=>Ext w w9∧St w w9 []∧F=[(0,sl H x0 f0),(1,sl M x1 g0),(5,iv s1)]) Y ⟨(Ext.refl _),hS,rfl⟩ ?_;rintro s1 F B0 _ v0 ⟨i0,h,rfl⟩ d G;unfold z37 at d;refine sq<|sq<|rg<|rr 4 ?_;refine rn<|ci d (fun d=>?_) (fun d=>?_)
   ·refine sp<|sq<|bk<|sq<|dn 0 mixed 9 [([],511),([],511),([0,1],508),([2],507),([],511),([],511),([4,5],463),([6],447),([3,7],375)] h.ext (fun o=>?_);have q:=h.step (Ext.draw _);refine dr 5 o [0,1,4,5] ?_;obtain⟨C0,d0,d⟩:=bS d;refine dx (hE.trans h.ext) o 2 q0 d0 (fun y0 o0 S a0=>?_);have j0:=z1p a0;subst j0;refine dL o 3 (ax hE h S) ?_;obtain⟨D0,e0,d⟩:=bS d;refine dx (hE.trans h.ext) o 6 r0 e0 (fun A0 p0 X b0=>?_);have k0:=z1p b0;subst k0;refine dL o 7 (ax hE h X) ?_;refine dr 0 o [8] ?_;refine dw [0,1,5,25] ?_;refine dd o ?_;refine ci d (fun d=>?_) (fun d=>?_)
    ·refine sq<|rg<|rr 1 ?_;refine rn<|rt ?_;cases d;cases G;have hm:some _=some _:=hm;cases hm;exact⟨_,tR rfl,rfl,q⟩
    ·refine sp<|rg<|rr 3 ?_;refine rn ?_;cases d;exact⟨_,_,rfl,⟨(i0.trans (Ext.draw _)),q,rfl⟩,rfl⟩
   ·refine xt ?_;cases d;exact⟨_,_,⟨G,i0,h,rfl⟩,rfl⟩

theorem ziH:EN 225:=en Tryz.func225
def z3T (fu:Nat) (x0:D.Qb) (x1:D.Qb):Option (Bool):=(if(x0.Qj == x1.Qj)=true then(if(x0.QL == x1.QL)=true then(if(x0.Value == x1.Value)=true then((z8R fu x0.Data x1.Data).bind fun d=>(if d=true then((z2K fu x0.QX x1.QX).bind fun h=>some h) else some false)) else some false) else some false) else some false)

theorem zb7 {W w:World}(hE:Ext W w){d0:Addr}{a0:List Value}{x0:D.Qb}{e0:Addr}{b0:List Value}{x1:D.Qb}(g0:z2B.ro W a0 x0) (q:At W d0 a0) (k0:z2B.ro W b0 x1) (G:At W e0 b0){fu:Nat}{r:Bool}(hm:z3T fu x0 x1=some r):
  CL 225 ⟨[.pointer (some d0),.pointer (some e0)]⟩ w (RB w r):=by
 obtain⟨A1,k2,A4,k5,e7,h3,h6⟩:=zq g0;subst e7;obtain⟨o0,q0,p0,r0,f0,i0,j0⟩:=zq k0;subst f0;refine into Tryz.func225 58 _ ?_;unfold z3T at hm;have hS:=St.start w;refine sq<|rg<|rr 1 ?_;refine rn<|sq<|dn 0 mixed 54 [([],18014398509481983),([0],18014398509481982),([1],18014398509481981),([2],18014398509481979),([],18014398509481983),([4],18014398509481967),([5],18014398509481951),([6],18014398509481919),([3,7],18014398509481847),([8],18014398509481727),([9],18014398509481471),([10,9],18014398509480447),([11,9],18014398509479423),([12,9],18014398509477375),([9],18014398509481471),([14,9],18014398509465087),([15,9],18014398509448703),([16,9],18014398509415935),([13,17,9],18014398509342207),([9,18],18014398509219327),([19,9],18014398508957695),([20],18014398508433407),([21,20],18014398506336255),([22,20],18014398504239103),([23,20],18014398500044799),([20],18014398508433407),([25,20],18014398474878975),([26,20],18014398441324543),([27,20],18014398374215679),([24,28,20],18014398223220735),([20,29],18014397971562495),([30,20],18014397435740159),([31],18014396361998335),([32,31],18014392067031039),([33,31],18014387772063743),([34,31],18014379182129151),([31],18014396361998335),([36,31],18014327642521599),([37,31],18014258923044863),([38,31],18014121484091391),([35,39,31,31],18013812246446079),([31,40],18013296850370559),([41,40],18012199486226431),([42],18010000462970879),([43,42],18001204369948671),([44,42],17992408276926463),([45,42],17974816090882047),([42],18010000462970879),([47,42],17869262974615551),([48,42],17728525486260223),([49,42],17447050509549567),([46,50,42,42],16813731811950591),([42,51],15758200649285631),([52,51,0,1,2,3,4,5,6,7,8,9,10,11,12,13,14,15,16,17,18,19,20,21,22,23,24,25,26,27,28,29,30,31,32,33,34,35,36,37,38,39,40,41,42,43,44,45,46,47,48,49,50,51,52],13510798882111487)] hS.ext (fun d=>?_);have h:=hS.step (Ext.draw _);refine dr 48 d [0,1,2,4,5,6] ?_;refine dl d 3 (ax hE hS q) 0 ?_;refine dl d 7 (ax hE hS G) 0 ?_;refine dr 44 d [8,9] ?_;refine dw [0,1,4,14] ?_;refine db 14 hm (fun hm=>?_) (fun hm=>?_)
 ·refine dr 38 d [10,11,12,14,15,16] ?_;refine dl d 13 (ax hE hS q) 1 ?_;refine dl d 17 (ax hE hS G) 1 ?_;refine dr 33 d [18,19,20] ?_;refine dw [0,1,4,25] ?_;refine db 25 hm (fun hm=>?_) (fun hm=>?_)
  ·refine dr 27 d [21,22,23,25,26,27] ?_;refine dl d 24 (ax hE hS q) 2 ?_;refine dl d 28 (ax hE hS G) 2 ?_;refine dr 22 d [29,30,31] ?_;refine dw [0,1,4,36] ?_;refine db 36 hm (fun hm=>?_) (fun hm=>?_)
   ·refine dr 16 d [32,33,34,36,37,38] ?_;refine dl d 35 (ax hE hS q) 3 ?_;refine dl d 39 (ax hE hS G) 3 ?_;obtain⟨t0,Y,hm⟩:=bS hm;refine o1 d 40 (mc d zne (zfJ (hE.trans h.ext) h3 i0 Y) (fun v0 A0 O=>?_));obtain⟨rfl,H⟩:=O;refine⟨H.ext,?_⟩;have o:=h.join H;refine dr 11 d [41,42] ?_;refine dw [0,1,4,47] ?_;refine db 47 hm (fun hm=>?_) (fun hm=>?_)
    ·refine dr 5 d [43,44,45,47,48,49] ?_;refine dw [4,47,50,54] ?_;refine dl d 46 (ax hE hS q) 4 ?_;refine dl d 50 (ax hE hS G) 4 ?_;obtain⟨u0,Z,hm⟩:=bS hm;refine o1 d 51 (mc d znd (zbV (hE.trans o.ext) h6 j0 Z) (fun y0 B0 S=>?_));obtain⟨rfl,M⟩:=S;refine⟨M.ext,?_⟩;have X:=o.join M;refine dr 0 d [52,53] ?_;refine dw [4] ?_;refine dd d ?_;refine rt ?_;cases hm;exact⟨_,tR rfl,rfl,X⟩
    ·refine dr 0 d [43,44,45,46,47,48,49,50,51,52,53] ?_;refine dw [4] ?_;refine dd d ?_;refine rt ?_;cases hm;exact⟨_,tR rfl,rfl,o⟩
   ·refine dr 0 d [32,33,34,35,36,37,38,39,40,41,42,43,44,45,46,47,48,49,50,51,52,53] ?_;refine dw [4] ?_;refine dd d ?_;refine rt ?_;cases hm;exact⟨_,tR rfl,rfl,h⟩
  ·refine dr 0 d [21,22,23,24,25,26,27,28,29,30,31,32,33,34,35,36,37,38,39,40,41,42,43,44,45,46,47,48,49,50,51,52,53] ?_;refine dw [4] ?_;refine dd d ?_;refine rt ?_;cases hm;exact⟨_,tR rfl,rfl,h⟩
 ·refine dr 0 d [10,11,12,13,14,15,16,17,18,19,20,21,22,23,24,25,26,27,28,29,30,31,32,33,34,35,36,37,38,39,40,41,42,43,44,45,46,47,48,49,50,51,52,53] ?_;refine dw [4] ?_;refine dd d ?_;refine rt ?_;cases hm;exact⟨_,tR rfl,rfl,h⟩

theorem ziQ:EN 172:=en Tryz.func172
def z5z (fu:Nat) (x0:D.Qe) (x1:Int):Option (Bool):=((z3T fu x0.Qz (⟨0,0,0,[],[]⟩:D.Qb)).bind fun d=>(if(x0.Qj == 1)=true then(if d=true then some (x0.A.Qg == x1) else some false) else(if(x0.Qj == 2)=true then(if d=true then(if(x0.A.Qg == x1)=true then some (x0.A.Qj == 2) else some false) else some false) else(if(x0.Qj == 3)=true then(if(x0.Qz.Qj != 0)=true then((z5B fu x0.Qz).bind fun h=>(if h=true then(if(((x0.A.Qg:Int) == 0) && (((x0.A.Qj:Int) == 0) && (((x0.A.Qs:Int) == 0) && true)))=true then some (x0.B.Qg == x1) else some false) else some false)) else some false) else(if(x0.Qj == 4)=true then(if d=true then(if(((x0.A.Qg:Int) == 0) && (((x0.A.Qj:Int) == 0) && (((x0.A.Qs:Int) == 0) && true)))=true then some (((x0.B.Qg:Int) == 0) && (((x0.B.Qj:Int) == 0) && (((x0.B.Qs:Int) == 0) && true))) else some false) else some false) else some false)))))

theorem zbU {W w:World}(hE:Ext W w){k0:Addr}{j0:List Value}{x0:D.Qe}{x1:Int}(o0:z8K.ro W j0 x0) (q:At W k0 j0){fu:Nat}{r:Bool}(hm:z5z fu x0 x1=some r):
  CL 172 ⟨[.pointer (some k0),iv x1]⟩ w (RB w r):=by
 obtain⟨A1,k2,A4,k5,e7,h3,h6⟩:=zC o0;subst e7;refine into Tryz.func172 100 _ ?_;unfold z5z at hm;have hS:=St.start w;refine sq<|rg<|rr 1 ?_;refine rn<|sq<|rg<|qt (qb) ?_;refine nw hS (fun r0 B0 p0 a0=>?_);have b0:=a0.bring 0 rfl;refine so (A:=[]) b0 0 (fun C0 d0=>?_);refine rn<|sq<|rg<|qt (qb) ?_;refine nw d0 (fun t0 D0 q0 e0=>?_);have f0:=e0.bring 0 rfl;refine so (A:=[]) f0 0 (fun E0 G=>?_);refine rn<|sq<|rg<|rr 3 ?_;obtain⟨u0,g0,hm⟩:=bS hm;refine ca ziH (zb7 (Ext.refl _) (z4H x0.Qz (ty29.ext (hE.trans G.ext) h3) (z3r.ext (hE.trans G.ext) h6)) (At.sub (ax hE G q) 1 5) (z4H (⟨0,0,0,[],[]⟩:D.Qb) (slNil tInt 2 _) (slNil ty35 35 _)) ((G.bring 0 rfl).box) g0) (fun y0 F0 X=>?_);obtain⟨rfl,Y⟩:=X;have d:=G.join Y;refine rr 1 ?_;refine rn<|sq<|sq<|rg<|rr 3 ?_;refine l1 (ax hE d q) 0 ?_;refine rn<|bk<|sq<|rg<|rr 2 ?_;refine rn<|ci hm (fun hm=>?_) (fun hm=>?_)
 ·refine sq<|rg<|rr 2 ?_;refine rb 21 hm (fun hm=>?_) (fun hm=>?_)
  ·refine rr 4 ?_;refine l1 (ax hE d q) 6 ?_;refine rr 4 ?_;refine rn<|rt ?_;cases hm;exact⟨_,tR rfl,rfl,(d.taken 0)⟩
  ·refine rr 9 ?_;refine rn<|rt ?_;cases hm;exact⟨_,tR rfl,rfl,(d.taken 0)⟩
 ·refine sq<|rg<|rr 2 ?_;refine rn<|ci hm (fun hm=>?_) (fun hm=>?_)
  ·refine sq<|rg<|rr 2 ?_;refine rb 33 hm (fun hm=>?_) (fun hm=>?_)
   ·refine rr 4 ?_;refine l1 (ax hE d q) 6 ?_;refine rr 4 ?_;refine rb 42 hm (fun hm=>?_) (fun hm=>?_)
    ·refine rr 4 ?_;refine l1 (ax hE d q) 7 ?_;refine rr 3 ?_;refine rn<|rt ?_;cases hm;exact⟨_,tR rfl,rfl,(d.taken 0)⟩
    ·refine rr 8 ?_;refine rn<|rt ?_;cases hm;exact⟨_,tR rfl,rfl,(d.taken 0)⟩
   ·refine rr 17 ?_;refine rn<|rt ?_;cases hm;exact⟨_,tR rfl,rfl,(d.taken 0)⟩
  ·refine sq<|rg<|rr 2 ?_;refine rn<|ci hm (fun hm=>?_) (fun hm=>?_)
   ·refine sq<|dn 0 mixed 30 [([],1073741823),([0],1073741822),([1],1073741821),([2],1073741819),([3],1073741815),([4],1073741807),([5],1073741791),([6],1073741759),([7,6],1073741631),([8,6],1073741503),([9,6,6],1073741247),([6,10],1073740735),([11,10],1073739775),([12],1073737727),([13,12],1073729535),([14,12],1073721343),([15,12],1073704959),([12],1073737727),([16,17,12],1073541119),([12,18],1073475583),([19,12],1073217535),([20],1072693247),([21,20],1070596095),([22,20],1068498943),([23,20],1064304639),([24,20],1055916031),([20],1072693247),([25,26,20],972029951),([20,27],938475519),([28,20,0,1,2,3,4,5,6,7,8,9,10,11,12,13,14,15,16,17,18,19,20,21,22,23,24,25,26,27,28],805306367)] d.ext (fun h=>?_);have H:=d.step (Ext.draw _);refine dr 26 h [0,1,2,3] ?_;refine dw [0,1,4,5,55] ?_;refine dl h 4 (ax hE d q) 1 ?_;refine dr 23 h [5,6] ?_;refine db 58 hm (fun hm=>?_) (fun hm=>?_)
    ·refine dr 20 h [7,8,9] ?_;obtain⟨v0,i0,hm⟩:=bS hm;refine o1 h 10 (mc h ziJ (zbX (hE.trans H.ext) (z4H x0.Qz h3 h6) (At.sub q 1 5) i0) (fun A0 G0 Z=>?_));obtain⟨rfl,S⟩:=Z;refine⟨S.ext,?_⟩;have M:=H.join S;refine dr 17 h [11,12] ?_;refine dw [0,1,4,5,64] ?_;refine db 64 hm (fun hm=>?_) (fun hm=>?_)
     ·refine dr 14 h [13,14,15] ?_;refine dL h 16 (At.sub (ax hE d q) 6 3) ?_;refine dL h 17 ((d.bring 1 rfl).box) ?_;refine dr 9 h [18,19,20] ?_;refine dw [0,1,4,72] ?_;refine db 72 hm (fun hm=>?_) (fun hm=>?_)
      ·refine dr 4 h [21,22,23,24,26] ?_;refine dl h 25 (ax hE d q) 9 ?_;refine dr 0 h [27,28,29] ?_;refine dw [4] ?_;refine dd h ?_;refine rt ?_;cases hm;exact⟨_,tR rfl,rfl,(M.taken 0)⟩
      ·refine dr 0 h [21,22,23,24,25,26,27,28,29] ?_;refine dw [4] ?_;refine dd h ?_;refine rt ?_;cases hm;exact⟨_,tR rfl,rfl,(M.taken 0)⟩
     ·refine dr 0 h [13,14,15,16,17,18,19,20,21,22,23,24,25,26,27,28,29] ?_;refine dw [4] ?_;refine dd h ?_;refine rt ?_;cases hm;exact⟨_,tR rfl,rfl,(M.taken 0)⟩
    ·refine dr 0 h [7,8,9,10,11,12,13,14,15,16,17,18,19,20,21,22,23,24,25,26,27,28,29] ?_;refine dw [4] ?_;refine dd h ?_;refine rt ?_;cases hm;exact⟨_,tR rfl,rfl,(H.taken 0)⟩
   ·refine sq<|rg<|rr 2 ?_;refine rn<|ci hm (fun hm=>?_) (fun hm=>?_)
    ·refine sq<|dn 0 mixed 18 [([],262143),([0],262142),([1],262141),([2,1],262137),([3,1],262133),([4,1],262125),([1],262141),([5,6,1],262045),([1,7],262013),([8,1],261887),([9],261631),([10,9],260607),([11,9],259583),([12,9],257535),([9],261631),([13,14,9],237055),([9,15],228863),([16,9,0,1,2,3,4,5,6,7,8,9,10,11,12,13,14,15,16],196607)] d.ext (fun o=>?_);have O:=d.step (Ext.draw _);refine dr 16 o [0,1] ?_;refine dw [0,4,5,84] ?_;refine db 84 hm (fun hm=>?_) (fun hm=>?_)
     ·refine dr 13 o [2,3,4] ?_;refine dL o 5 (At.sub (ax hE d q) 6 3) ?_;refine dL o 6 ((d.bring 1 rfl).box) ?_;refine dr 8 o [7,8,9] ?_;refine dw [0,4,5,92] ?_;refine db 92 hm (fun hm=>?_) (fun hm=>?_)
      ·refine dr 5 o [10,11,12] ?_;refine dL o 13 (At.sub (ax hE d q) 9 3) ?_;refine dL o 14 ((d.bring 1 rfl).box) ?_;refine dr 0 o [15,16,17] ?_;refine dw [4] ?_;refine dd o ?_;refine rt ?_;cases hm;exact⟨_,tR rfl,rfl,(O.taken 0)⟩
      ·refine dr 0 o [10,11,12,13,14,15,16,17] ?_;refine dw [4] ?_;refine dd o ?_;refine rt ?_;cases hm;exact⟨_,tR rfl,rfl,(O.taken 0)⟩
     ·refine dr 0 o [2,3,4,5,6,7,8,9,10,11,12,13,14,15,16,17] ?_;refine dw [4] ?_;refine dd o ?_;refine rt ?_;cases hm;exact⟨_,tR rfl,rfl,(O.taken 0)⟩
    ·refine sp<|sq<|rg<|rr 1 ?_;refine rn<|rt ?_;cases hm;exact⟨_,tR rfl,rfl,(d.taken 0)⟩

end Go.E


