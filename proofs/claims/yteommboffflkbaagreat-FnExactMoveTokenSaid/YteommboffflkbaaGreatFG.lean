/- Models of functions and proofs that the code runs as they say (written by program). Conditions: the model gives a value. -/
import Derived.Test.YteommboffflkbaaGreatFA
namespace Go.E
open Go.RowKit Go.Proofs
set_option linter.unusedVariables false
set_option linter.unusedSimpArgs false
set_option maxHeartbeats 2000000
set_option maxRecDepth 100000

theorem zeb:Enters Tryz.prog 62:=⟨_,_,Tryz.func62,rfl,by kernel_rfl⟩
def z38 (fuel:Nat) (x0:(List Int)) (x1:Int):Option (Int):=(if(decide ((w64 (x1 - (x0.length:Int)))<0))=true then some (-1) else some (w64 (x1 - (x0.length:Int))))

theorem laws_szInt64S_ok {W w:World}(hE:Ext W w){d:Option Addr}{h:Nat}{x0:(List Int)}{x1:Int}(o:ty29.ro W [sl d x0 h] x0){fuel:Nat}{r:Int}(hm:z38 fuel x0 x1=some r):
  Calls Tryz.prog 62 ⟨[sl d x0 h,.int .i64 x1]⟩ w (Ret fun v w8=>v=.int .i64 r∧St w w8 []):=by
 refine into Tryz.func62 12 _ ?_;unfold z38 at hm;have hS:=St.start w;refine sq<|rg<|rr 1 ?_;refine rn<|sq<|rg<|rr 5 ?_;refine rn<|sq<|sq<|rg<|rr 2 ?_;refine rn<|ci hm (fun hm=>?_) (fun hm=>?_)
 ·refine sq<|rg<|rr 1 ?_;refine rn<|rt ?_;cases hm;exact⟨_,.cons (.tmp rfl) .nil,rfl,hS⟩
 ·refine sp<|sq<|rg<|rr 2 ?_;refine rn<|rt ?_;cases hm;exact⟨_,.cons (.tmp rfl) .nil,rfl,hS⟩

theorem zkL:Enters Tryz.prog 247:=⟨_,_,Tryz.func247,rfl,by kernel_rfl⟩
def z6k (fuel:Nat) (x0:(List D.Qc)) (x1:Int):Option (Int):=(if(decide ((w64 (x1 - (x0.length:Int)))<0))=true then some (-1) else some (w64 (x1 - (x0.length:Int))))

theorem laws_szAddressS_ok {W w:World}(hE:Ext W w){d:Option Addr}{h:Nat}{x0:(List D.Qc)}{x1:Int}(o:zfo.ro W [sl d x0 h] x0){fuel:Nat}{r:Int}(hm:z6k fuel x0 x1=some r):
  Calls Tryz.prog 247 ⟨[sl d x0 h,.int .i64 x1]⟩ w (Ret fun v w8=>v=.int .i64 r∧St w w8 []):=by
 refine into Tryz.func247 12 _ ?_;unfold z6k at hm;have hS:=St.start w;refine sq<|rg<|rr 1 ?_;refine rn<|sq<|rg<|rr 5 ?_;refine rn<|sq<|sq<|rg<|rr 2 ?_;refine rn<|ci hm (fun hm=>?_) (fun hm=>?_)
 ·refine sq<|rg<|rr 1 ?_;refine rn<|rt ?_;cases hm;exact⟨_,.cons (.tmp rfl) .nil,rfl,hS⟩
 ·refine sp<|sq<|rg<|rr 2 ?_;refine rn<|rt ?_;cases hm;exact⟨_,.cons (.tmp rfl) .nil,rfl,hS⟩

theorem zhF:Enters Tryz.prog 223:=⟨_,_,Tryz.func223,rfl,by kernel_rfl⟩
def z3v (fuel:Nat) (x0:D.Qd) (x1:Int):Option (Int):=((z38 fuel x0.Data x1).bind fun d=>(if(decide (d<0))=true then some (-1) else((z6k fuel x0.QY d).bind fun h=>(if(decide (h<0))=true then some (-1) else some h))))

theorem laws_szShardCell_ok {W w:World}(hE:Ext W w){S:List Value}{x0:D.Qd}{x1:Int}(X:zfn.ro W S x0){fuel:Nat}{r:Int}(hm:z3v fuel x0 x1=some r):
  Calls Tryz.prog 223 ⟨[.agg ⟨S⟩,.int .i64 x1]⟩ w (Ret fun v w8=>v=.int .i64 r∧St w w8 []):=by
 obtain⟨A1,k2,A4,k5,e7,h3,h6⟩:=zb4 X;subst e7;refine into Tryz.func223 18 _ ?_;unfold z3v at hm;have hS:=St.start w;refine sq<|rg<|nw hS (fun Z f0 Y h=>?_);refine rr 1 ?_;refine rn<|sq<|rg<|rr 1 ?_;refine l1 ((h.bring 0 rfl).box) 3 ?_;refine rr 1 ?_;obtain⟨a0,M,hm⟩:=bS hm;refine ca zeb (laws_szInt64S_ok (hE.trans h.ext) h3 M) (fun d0 g0 q=>?_);obtain⟨rfl,y⟩:=q;have d:=h.join y;refine rr 1 ?_;refine rn<|sq<|sq<|rg<|rr 2 ?_;refine rn<|ci hm (fun hm=>?_) (fun hm=>?_)
 ·refine sq<|rg<|rr 1 ?_;refine rn<|rt ?_;cases hm;exact⟨_,.cons (.tmp rfl) .nil,rfl,(d.taken 0)⟩
 ·refine sp<|sq<|rg<|rr 1 ?_;refine l1 ((d.bring 0 rfl).box) 4 ?_;refine rr 1 ?_;obtain⟨b0,O,hm⟩:=bS hm;refine ca zkL (laws_szAddressS_ok (hE.trans d.ext) h6 O) (fun e0 i0 G=>?_);obtain⟨rfl,H⟩:=G;have o:=d.join H;refine rr 1 ?_;refine rn<|sq<|sq<|rg<|rr 2 ?_;refine rn<|ci hm (fun hm=>?_) (fun hm=>?_)
  ·refine sq<|rg<|rr 1 ?_;refine rn<|rt ?_;cases hm;exact⟨_,.cons (.tmp rfl) .nil,rfl,(o.taken 0)⟩
  ·refine sp<|sq<|rg<|rr 2 ?_;refine rn<|rt ?_;cases hm;exact⟨_,.cons (.tmp rfl) .nil,rfl,(o.taken 0)⟩

theorem zm3:Enters Tryz.prog 220:=⟨_,_,Tryz.func220,rfl,by kernel_rfl⟩
def z9h (fuel:Nat) (t2:Int):Option Int:=some t2
def z4M (fuel:Nat) (x0:(List D.Qd)) (s1:Int × Int):Option (Rd (Int × Int) (Int) (Int)):=(if(decide (s1.2<(x0.length:Int)))=true then((idx x0 s1.2).bind fun h=>((z3v fuel h s1.1).bind fun d=>(if(decide (d<0))=true then some (.ret (-1)) else some (.next (d,w64 (s1.2+1)))))) else some (.brk s1.1))
def z4A (fuel:Nat) (x0:(List D.Qd)) (x1:Int):Option (Int):=(if(decide ((w64 (x1 - (x0.length:Int)))<0))=true then some (-1) else((iter (z4M fuel x0) fuel (w64 (x1 - (x0.length:Int)),0)).bind fun o=>aft o (z9h fuel)))

theorem laws_szShardCellS_ok {W w:World}(hE:Ext W w){H:Option Addr}{b0:Nat}{x0:(List D.Qd)}{x1:Int}(g0:zgY.ro W [sl H x0 b0] x0){fuel:Nat}{r:Int}(hm:z4A fuel x0 x1=some r):
  Calls Tryz.prog 220 ⟨[sl H x0 b0,.int .i64 x1]⟩ w (Ret fun v w8=>v=.int .i64 r∧St w w8 []):=by
 refine into Tryz.func220 27 _ ?_;unfold z4A at hm;have hS:=St.start w;refine sq<|rg<|rr 1 ?_;refine rn<|sq<|rg<|rr 5 ?_;refine rn<|sq<|sq<|rg<|rr 2 ?_;refine rn<|ci hm (fun hm=>?_) (fun hm=>?_)
 ·refine sq<|rg<|rr 1 ?_;refine rn<|rt ?_;cases hm;exact⟨_,.cons (.tmp rfl) .nil,rfl,hS⟩
 ·refine sp<|sq<|sq<|rg<|rr 1 ?_;refine rn ?_;obtain⟨i0,X,hm⟩:=bS hm;refine ct (fun(t2:Int) F w9=>i0=.inl t2∧Ext w w9∧St w w9 []∧F=[(1,.int .i64 t2)]) ?_ ?_
  ·rintro t2 F w7 ⟨Y,q0,O,rfl⟩;subst Y;rw [z8] at hm;unfold z9h at hm;refine sq<|rg<|rr 2 ?_;refine rn<|rt ?_;cases hm;exact⟨_,.cons (.tmp rfl) .nil,rfl,O⟩
  ·refine bk<|wk [0,1,5] ?_;refine it (fun(s1:Int × Int) F w9=>Ext w w9∧St w w9 []∧F=[(0,sl H x0 b0),(1,.int .i64 s1.1),(5,.int .i64 s1.2)]) X ⟨(Ext.refl _),hS,rfl⟩ ?_;rintro s1 F B0 _ u0 ⟨d0,h,rfl⟩ d y;unfold z4M at d;refine sq<|sq<|rg<|rr 4 ?_;refine rn<|ci d (fun d=>?_) (fun d=>?_)
   ·refine sp<|sq<|bk<|sq<|rg<|rr 2 ?_;obtain⟨D0,Z,d⟩:=bS d;refine ix (hE.trans h.ext) g0 Z (fun v0 f0 S G=>?_);obtain⟨j0,r0,k0,t0,e0,o0,p0⟩:=zb4 G;subst e0;refine lN (At.ext (hE.trans h.ext) S) ?_;refine rr 1 ?_;obtain⟨y0,a0,d⟩:=bS d;refine ca zhF (laws_szShardCell_ok (hE.trans h.ext) G a0) (fun A0 C0 M=>?_);obtain⟨rfl,o⟩:=M;have q:=h.join o;refine rr 1 ?_;refine rn<|sq<|rg<|rr 2 ?_;refine rn<|ci d (fun d=>?_) (fun d=>?_)
    ·refine sq<|rg<|rr 1 ?_;refine rn<|rt ?_;cases d;cases y;have hm:some _=some _:=hm;cases hm;exact⟨_,.cons (.tmp rfl) .nil,rfl,q⟩
    ·refine sp<|rg<|rr 3 ?_;refine rn ?_;cases d;exact⟨_,_,rfl,⟨(d0.trans o.ext),q,rfl⟩,rfl⟩
   ·refine xt ?_;cases d;exact⟨_,_,⟨y,d0,h,rfl⟩,rfl⟩

theorem zm2:Enters Tryz.prog 221:=⟨_,_,Tryz.func221,rfl,by kernel_rfl⟩
def z5o (fuel:Nat) (x0:(List D.Qp)) (x1:Int):Option (Int):=(if(decide ((w64 (x1 - (x0.length:Int)))<0))=true then some (-1) else some (w64 (x1 - (x0.length:Int))))

theorem laws_szShardVarS_ok {W w:World}(hE:Ext W w){d:Option Addr}{h:Nat}{x0:(List D.Qp)}{x1:Int}(o:zgX.ro W [sl d x0 h] x0){fuel:Nat}{r:Int}(hm:z5o fuel x0 x1=some r):
  Calls Tryz.prog 221 ⟨[sl d x0 h,.int .i64 x1]⟩ w (Ret fun v w8=>v=.int .i64 r∧St w w8 []):=by
 refine into Tryz.func221 12 _ ?_;unfold z5o at hm;have hS:=St.start w;refine sq<|rg<|rr 1 ?_;refine rn<|sq<|rg<|rr 5 ?_;refine rn<|sq<|sq<|rg<|rr 2 ?_;refine rn<|ci hm (fun hm=>?_) (fun hm=>?_)
 ·refine sq<|rg<|rr 1 ?_;refine rn<|rt ?_;cases hm;exact⟨_,.cons (.tmp rfl) .nil,rfl,hS⟩
 ·refine sp<|sq<|rg<|rr 2 ?_;refine rn<|rt ?_;cases hm;exact⟨_,.cons (.tmp rfl) .nil,rfl,hS⟩

theorem zm1:Enters Tryz.prog 222:=⟨_,_,Tryz.func222,rfl,by kernel_rfl⟩
def z3L (fuel:Nat) (x0:(List D.Qn)) (x1:Int):Option (Int):=(if(decide ((w64 (x1 - (x0.length:Int)))<0))=true then some (-1) else some (w64 (x1 - (x0.length:Int))))

theorem laws_szShardRedexS_ok {W w:World}(hE:Ext W w){d:Option Addr}{h:Nat}{x0:(List D.Qn)}{x1:Int}(o:zgW.ro W [sl d x0 h] x0){fuel:Nat}{r:Int}(hm:z3L fuel x0 x1=some r):
  Calls Tryz.prog 222 ⟨[sl d x0 h,.int .i64 x1]⟩ w (Ret fun v w8=>v=.int .i64 r∧St w w8 []):=by
 refine into Tryz.func222 12 _ ?_;unfold z3L at hm;have hS:=St.start w;refine sq<|rg<|rr 1 ?_;refine rn<|sq<|rg<|rr 5 ?_;refine rn<|sq<|sq<|rg<|rr 2 ?_;refine rn<|ci hm (fun hm=>?_) (fun hm=>?_)
 ·refine sq<|rg<|rr 1 ?_;refine rn<|rt ?_;cases hm;exact⟨_,.cons (.tmp rfl) .nil,rfl,hS⟩
 ·refine sp<|sq<|rg<|rr 2 ?_;refine rn<|rt ?_;cases hm;exact⟨_,.cons (.tmp rfl) .nil,rfl,hS⟩

theorem zmC:Enters Tryz.prog 168:=⟨_,_,Tryz.func168,rfl,by kernel_rfl⟩
def z8d (fuel:Nat) (x0:D.Qv) (x1:Int):Option (Int):=((z4A fuel x0.Cells x1).bind fun d=>(if(decide (d<0))=true then some (-1) else((z5o fuel x0.QM d).bind fun h=>(if(decide (h<0))=true then some (-1) else((z3L fuel x0.Qu h).bind fun o=>(if(decide (o<0))=true then some (-1) else some o))))))

theorem laws_szShard_ok {W w:World}(hE:Ext W w){a0:List Value}{x0:D.Qv}{x1:Int}(d0:zib.ro W a0 x0){fuel:Nat}{r:Int}(hm:z8d fuel x0 x1=some r):
  Calls Tryz.prog 168 ⟨[.agg ⟨a0⟩,.int .i64 x1]⟩ w (Ret fun v w8=>v=.int .i64 r∧St w w8 []):=by
 obtain⟨A1,k2,A4,k5,A7,i0,b0,h3,h6,e0⟩:=zcg d0;subst b0;refine into Tryz.func168 24 _ ?_;unfold z8d at hm;have hS:=St.start w;refine sq<|rg<|nw hS (fun g0 t0 f0 o=>?_);refine rr 1 ?_;refine rn<|sq<|rg<|rr 1 ?_;refine l1 ((o.bring 0 rfl).box) 0 ?_;refine rr 1 ?_;obtain⟨j0,X,hm⟩:=bS hm;refine ca zm3 (laws_szShardCellS_ok (hE.trans o.ext) h3 X) (fun p0 u0 y=>?_);obtain⟨rfl,G⟩:=y;have d:=o.join G;refine rr 1 ?_;refine rn<|sq<|sq<|rg<|rr 2 ?_;refine rn<|ci hm (fun hm=>?_) (fun hm=>?_)
 ·refine sq<|rg<|rr 1 ?_;refine rn<|rt ?_;cases hm;exact⟨_,.cons (.tmp rfl) .nil,rfl,(d.taken 0)⟩
 ·refine sp<|sq<|rg<|rr 1 ?_;refine l1 ((d.bring 0 rfl).box) 1 ?_;refine rr 1 ?_;obtain⟨k0,Y,hm⟩:=bS hm;refine ca zm2 (laws_szShardVarS_ok (hE.trans d.ext) h6 Y) (fun q0 v0 H=>?_);obtain⟨rfl,M⟩:=H;have h:=d.join M;refine rr 1 ?_;refine rn<|sq<|sq<|rg<|rr 2 ?_;refine rn<|ci hm (fun hm=>?_) (fun hm=>?_)
  ·refine sq<|rg<|rr 1 ?_;refine rn<|rt ?_;cases hm;exact⟨_,.cons (.tmp rfl) .nil,rfl,(h.taken 0)⟩
  ·refine sp<|sq<|rg<|rr 1 ?_;refine l1 ((h.bring 0 rfl).box) 2 ?_;refine rr 1 ?_;obtain⟨o0,Z,hm⟩:=bS hm;refine ca zm1 (laws_szShardRedexS_ok (hE.trans h.ext) e0 Z) (fun r0 y0 O=>?_);obtain⟨rfl,S⟩:=O;have q:=h.join S;refine rr 1 ?_;refine rn<|sq<|sq<|rg<|rr 2 ?_;refine rn<|ci hm (fun hm=>?_) (fun hm=>?_)
   ·refine sq<|rg<|rr 1 ?_;refine rn<|rt ?_;cases hm;exact⟨_,.cons (.tmp rfl) .nil,rfl,(q.taken 0)⟩
   ·refine sp<|sq<|rg<|rr 2 ?_;refine rn<|rt ?_;cases hm;exact⟨_,.cons (.tmp rfl) .nil,rfl,(q.taken 0)⟩

theorem zn6:Enters Tryz.prog 120:=⟨_,_,Tryz.func120,rfl,by kernel_rfl⟩
def zaS (fuel:Nat) (t2:Int):Option Int:=some t2
def z7n (fuel:Nat) (x0:(List D.Qv)) (s1:Int × Int):Option (Rd (Int × Int) (Int) (Int)):=(if(decide (s1.2<(x0.length:Int)))=true then((idx x0 s1.2).bind fun h=>((z8d fuel h s1.1).bind fun d=>(if(decide (d<0))=true then some (.ret (-1)) else some (.next (d,w64 (s1.2+1)))))) else some (.brk s1.1))
def z7C (fuel:Nat) (x0:(List D.Qv)) (x1:Int):Option (Int):=(if(decide ((w64 (x1 - (x0.length:Int)))<0))=true then some (-1) else((iter (z7n fuel x0) fuel (w64 (x1 - (x0.length:Int)),0)).bind fun o=>aft o (zaS fuel)))

theorem laws_szShardS_ok {W w:World}(hE:Ext W w){H:Option Addr}{b0:Nat}{x0:(List D.Qv)}{x1:Int}(g0:ty22.ro W [sl H x0 b0] x0){fuel:Nat}{r:Int}(hm:z7C fuel x0 x1=some r):
  Calls Tryz.prog 120 ⟨[sl H x0 b0,.int .i64 x1]⟩ w (Ret fun v w8=>v=.int .i64 r∧St w w8 []):=by
 refine into Tryz.func120 27 _ ?_;unfold z7C at hm;have hS:=St.start w;refine sq<|rg<|rr 1 ?_;refine rn<|sq<|rg<|rr 5 ?_;refine rn<|sq<|sq<|rg<|rr 2 ?_;refine rn<|ci hm (fun hm=>?_) (fun hm=>?_)
 ·refine sq<|rg<|rr 1 ?_;refine rn<|rt ?_;cases hm;exact⟨_,.cons (.tmp rfl) .nil,rfl,hS⟩
 ·refine sp<|sq<|sq<|rg<|rr 1 ?_;refine rn ?_;obtain⟨i0,X,hm⟩:=bS hm;refine ct (fun(t2:Int) F w9=>i0=.inl t2∧Ext w w9∧St w w9 []∧F=[(1,.int .i64 t2)]) ?_ ?_
  ·rintro t2 F w7 ⟨Y,t0,O,rfl⟩;subst Y;rw [z8] at hm;unfold zaS at hm;refine sq<|rg<|rr 2 ?_;refine rn<|rt ?_;cases hm;exact⟨_,.cons (.tmp rfl) .nil,rfl,O⟩
  ·refine bk<|wk [0,1,5] ?_;refine it (fun(s1:Int × Int) F w9=>Ext w w9∧St w w9 []∧F=[(0,sl H x0 b0),(1,.int .i64 s1.1),(5,.int .i64 s1.2)]) X ⟨(Ext.refl _),hS,rfl⟩ ?_;rintro s1 F E0 _ A0 ⟨d0,h,rfl⟩ d y;unfold z7n at d;refine sq<|sq<|rg<|rr 4 ?_;refine rn<|ci d (fun d=>?_) (fun d=>?_)
   ·refine sp<|sq<|bk<|sq<|rg<|rr 2 ?_;obtain⟨G0,Z,d⟩:=bS d;refine ix (hE.trans h.ext) g0 Z (fun B0 f0 S G=>?_);obtain⟨j0,u0,k0,v0,o0,y0,e0,p0,q0,r0⟩:=zcg G;subst e0;refine lN (At.ext (hE.trans h.ext) S) ?_;refine rr 1 ?_;obtain⟨C0,a0,d⟩:=bS d;refine ca zmC (laws_szShard_ok (hE.trans h.ext) G a0) (fun D0 F0 M=>?_);obtain⟨rfl,o⟩:=M;have q:=h.join o;refine rr 1 ?_;refine rn<|sq<|rg<|rr 2 ?_;refine rn<|ci d (fun d=>?_) (fun d=>?_)
    ·refine sq<|rg<|rr 1 ?_;refine rn<|rt ?_;cases d;cases y;have hm:some _=some _:=hm;cases hm;exact⟨_,.cons (.tmp rfl) .nil,rfl,q⟩
    ·refine sp<|rg<|rr 3 ?_;refine rn ?_;cases d;exact⟨_,_,rfl,⟨(d0.trans o.ext),q,rfl⟩,rfl⟩
   ·refine xt ?_;cases d;exact⟨_,_,⟨y,d0,h,rfl⟩,rfl⟩

theorem zoJ:Enters Tryz.prog 59:=⟨_,_,Tryz.func59,rfl,by kernel_rfl⟩
def z90 (fuel:Nat) (x0:D.Qe) (x1:Int):Option (Int):=((z7C fuel x0.Qg x1).bind fun d=>(if(decide (d<0))=true then some (-1) else some d))

theorem laws_szGrid_ok {W w:World}(hE:Ext W w){G:List Value}{x0:D.Qe}{x1:Int}(H:ty26.ro W G x0){fuel:Nat}{r:Int}(hm:z90 fuel x0 x1=some r):
  Calls Tryz.prog 59 ⟨[.agg ⟨G⟩,.int .i64 x1]⟩ w (Ret fun v w8=>v=.int .i64 r∧St w w8 []):=by
 obtain⟨A1,k2,e4,h3⟩:=zek H;subst e4;refine into Tryz.func59 12 _ ?_;unfold z90 at hm;have hS:=St.start w;refine sq<|rg<|nw hS (fun g5 w6 e7 d=>?_);refine rr 1 ?_;refine rn<|sq<|rg<|rr 1 ?_;refine l1 ((d.bring 0 rfl).box) 0 ?_;refine rr 1 ?_;obtain⟨M,y,hm⟩:=bS hm;refine ca zn6 (laws_szShardS_ok (hE.trans d.ext) h3 y) (fun O S o=>?_);obtain⟨rfl,q⟩:=o;have h:=d.join q;refine rr 1 ?_;refine rn<|sq<|sq<|rg<|rr 2 ?_;refine rn<|ci hm (fun hm=>?_) (fun hm=>?_)
 ·refine sq<|rg<|rr 1 ?_;refine rn<|rt ?_;cases hm;exact⟨_,.cons (.tmp rfl) .nil,rfl,(h.taken 0)⟩
 ·refine sp<|sq<|rg<|rr 2 ?_;refine rn<|rt ?_;cases hm;exact⟨_,.cons (.tmp rfl) .nil,rfl,(h.taken 0)⟩

theorem zmB:Enters Tryz.prog 169:=⟨_,_,Tryz.func169,rfl,by kernel_rfl⟩
def z7D (fuel:Nat) (x0:D.Qi) (x1:Int):Option (Int):=((z3v fuel x0.Qz x1).bind fun d=>(if(decide (d<0))=true then some (-1) else some d))

theorem laws_szParcel_ok {W w:World}(hE:Ext W w){G:List Value}{x0:D.Qi}{x1:Int}(H:zia.ro W G x0){fuel:Nat}{r:Int}(hm:z7D fuel x0 x1=some r):
  Calls Tryz.prog 169 ⟨[.agg ⟨G⟩,.int .i64 x1]⟩ w (Ret fun v w8=>v=.int .i64 r∧St w w8 []):=by
 obtain⟨A1,k2,A4,k5,e7,h3,h6⟩:=zcf H;subst e7;refine into Tryz.func169 12 _ ?_;unfold z7D at hm;have hS:=St.start w;refine sq<|rg<|nw hS (fun O Y M d=>?_);refine rr 1 ?_;refine rn<|sq<|rg<|rr 1 ?_;refine lN (At.sub ((d.bring 0 rfl).box) 1 5) ?_;refine rr 1 ?_;obtain⟨S,y,hm⟩:=bS hm;refine ca zhF (laws_szShardCell_ok (hE.trans d.ext) (zfT x0.Qz h3 h6) y) (fun X Z o=>?_);obtain⟨rfl,q⟩:=o;have h:=d.join q;refine rr 1 ?_;refine rn<|sq<|sq<|rg<|rr 2 ?_;refine rn<|ci hm (fun hm=>?_) (fun hm=>?_)
 ·refine sq<|rg<|rr 1 ?_;refine rn<|rt ?_;cases hm;exact⟨_,.cons (.tmp rfl) .nil,rfl,(h.taken 0)⟩
 ·refine sp<|sq<|rg<|rr 2 ?_;refine rn<|rt ?_;cases hm;exact⟨_,.cons (.tmp rfl) .nil,rfl,(h.taken 0)⟩

theorem zn5:Enters Tryz.prog 121:=⟨_,_,Tryz.func121,rfl,by kernel_rfl⟩
def zav (fuel:Nat) (t2:Int):Option Int:=some t2
def z6C (fuel:Nat) (x0:(List D.Qi)) (s1:Int × Int):Option (Rd (Int × Int) (Int) (Int)):=(if(decide (s1.2<(x0.length:Int)))=true then((idx x0 s1.2).bind fun h=>((z7D fuel h s1.1).bind fun d=>(if(decide (d<0))=true then some (.ret (-1)) else some (.next (d,w64 (s1.2+1)))))) else some (.brk s1.1))
def z6Y (fuel:Nat) (x0:(List D.Qi)) (x1:Int):Option (Int):=(if(decide ((w64 (x1 - (x0.length:Int)))<0))=true then some (-1) else((iter (z6C fuel x0) fuel (w64 (x1 - (x0.length:Int)),0)).bind fun o=>aft o (zav fuel)))

theorem laws_szParcelS_ok {W w:World}(hE:Ext W w){H:Option Addr}{b0:Nat}{x0:(List D.Qi)}{x1:Int}(g0:zif.ro W [sl H x0 b0] x0){fuel:Nat}{r:Int}(hm:z6Y fuel x0 x1=some r):
  Calls Tryz.prog 121 ⟨[sl H x0 b0,.int .i64 x1]⟩ w (Ret fun v w8=>v=.int .i64 r∧St w w8 []):=by
 refine into Tryz.func121 27 _ ?_;unfold z6Y at hm;have hS:=St.start w;refine sq<|rg<|rr 1 ?_;refine rn<|sq<|rg<|rr 5 ?_;refine rn<|sq<|sq<|rg<|rr 2 ?_;refine rn<|ci hm (fun hm=>?_) (fun hm=>?_)
 ·refine sq<|rg<|rr 1 ?_;refine rn<|rt ?_;cases hm;exact⟨_,.cons (.tmp rfl) .nil,rfl,hS⟩
 ·refine sp<|sq<|sq<|rg<|rr 1 ?_;refine rn ?_;obtain⟨i0,X,hm⟩:=bS hm;refine ct (fun(t2:Int) F w9=>i0=.inl t2∧Ext w w9∧St w w9 []∧F=[(1,.int .i64 t2)]) ?_ ?_
  ·rintro t2 F w7 ⟨Y,q0,O,rfl⟩;subst Y;rw [z8] at hm;unfold zav at hm;refine sq<|rg<|rr 2 ?_;refine rn<|rt ?_;cases hm;exact⟨_,.cons (.tmp rfl) .nil,rfl,O⟩
  ·refine bk<|wk [0,1,5] ?_;refine it (fun(s1:Int × Int) F w9=>Ext w w9∧St w w9 []∧F=[(0,sl H x0 b0),(1,.int .i64 s1.1),(5,.int .i64 s1.2)]) X ⟨(Ext.refl _),hS,rfl⟩ ?_;rintro s1 F B0 _ u0 ⟨d0,h,rfl⟩ d y;unfold z6C at d;refine sq<|sq<|rg<|rr 4 ?_;refine rn<|ci d (fun d=>?_) (fun d=>?_)
   ·refine sp<|sq<|bk<|sq<|rg<|rr 2 ?_;obtain⟨D0,Z,d⟩:=bS d;refine ix (hE.trans h.ext) g0 Z (fun v0 f0 S G=>?_);obtain⟨j0,r0,k0,t0,e0,o0,p0⟩:=zcf G;subst e0;refine lN (At.ext (hE.trans h.ext) S) ?_;refine rr 1 ?_;obtain⟨y0,a0,d⟩:=bS d;refine ca zmB (laws_szParcel_ok (hE.trans h.ext) G a0) (fun A0 C0 M=>?_);obtain⟨rfl,o⟩:=M;have q:=h.join o;refine rr 1 ?_;refine rn<|sq<|rg<|rr 2 ?_;refine rn<|ci d (fun d=>?_) (fun d=>?_)
    ·refine sq<|rg<|rr 1 ?_;refine rn<|rt ?_;cases d;cases y;have hm:some _=some _:=hm;cases hm;exact⟨_,.cons (.tmp rfl) .nil,rfl,q⟩
    ·refine sp<|rg<|rr 3 ?_;refine rn ?_;cases d;exact⟨_,_,rfl,⟨(d0.trans o.ext),q,rfl⟩,rfl⟩
   ·refine xt ?_;cases d;exact⟨_,_,⟨y,d0,h,rfl⟩,rfl⟩

theorem zoH:Enters Tryz.prog 60:=⟨_,_,Tryz.func60,rfl,by kernel_rfl⟩
def za3 (fuel:Nat) (t2:Int):Option Int:=some t2
def z5P (fuel:Nat) (x0:(List (List D.Qi))) (s1:Int × Int):Option (Rd (Int × Int) (Int) (Int)):=(if(decide (s1.2<(x0.length:Int)))=true then((idx x0 s1.2).bind fun h=>((z6Y fuel h s1.1).bind fun d=>(if(decide (d<0))=true then some (.ret (-1)) else some (.next (d,w64 (s1.2+1)))))) else some (.brk s1.1))
def z6i (fuel:Nat) (x0:(List (List D.Qi))) (x1:Int):Option (Int):=(if(decide ((w64 (x1 - (x0.length:Int)))<0))=true then some (-1) else((iter (z5P fuel x0) fuel (w64 (x1 - (x0.length:Int)),0)).bind fun o=>aft o (za3 fuel)))

theorem laws_szParcelSS_ok {W w:World}(hE:Ext W w){H:Option Addr}{b0:Nat}{x0:(List (List D.Qi))}{x1:Int}(g0:ty27.ro W [sl H x0 b0] x0){fuel:Nat}{r:Int}(hm:z6i fuel x0 x1=some r):
  Calls Tryz.prog 60 ⟨[sl H x0 b0,.int .i64 x1]⟩ w (Ret fun v w8=>v=.int .i64 r∧St w w8 []):=by
 refine into Tryz.func60 27 _ ?_;unfold z6i at hm;have hS:=St.start w;refine sq<|rg<|rr 1 ?_;refine rn<|sq<|rg<|rr 5 ?_;refine rn<|sq<|sq<|rg<|rr 2 ?_;refine rn<|ci hm (fun hm=>?_) (fun hm=>?_)
 ·refine sq<|rg<|rr 1 ?_;refine rn<|rt ?_;cases hm;exact⟨_,.cons (.tmp rfl) .nil,rfl,hS⟩
 ·refine sp<|sq<|sq<|rg<|rr 1 ?_;refine rn ?_;obtain⟨i0,X,hm⟩:=bS hm;refine ct (fun(t2:Int) F w9=>i0=.inl t2∧Ext w w9∧St w w9 []∧F=[(1,.int .i64 t2)]) ?_ ?_
  ·rintro t2 F w7 ⟨Y,k0,O,rfl⟩;subst Y;rw [z8] at hm;unfold za3 at hm;refine sq<|rg<|rr 2 ?_;refine rn<|rt ?_;cases hm;exact⟨_,.cons (.tmp rfl) .nil,rfl,O⟩
  ·refine bk<|wk [0,1,5] ?_;refine it (fun(s1:Int × Int) F w9=>Ext w w9∧St w w9 []∧F=[(0,sl H x0 b0),(1,.int .i64 s1.1),(5,.int .i64 s1.2)]) X ⟨(Ext.refl _),hS,rfl⟩ ?_;rintro s1 F u0 _ p0 ⟨d0,h,rfl⟩ d y;unfold z5P at d;refine sq<|sq<|rg<|rr 4 ?_;refine rn<|ci d (fun d=>?_) (fun d=>?_)
   ·refine sp<|sq<|bk<|sq<|rg<|rr 2 ?_;obtain⟨y0,Z,d⟩:=bS d;refine ix (hE.trans h.ext) g0 Z (fun q0 f0 S G=>?_);obtain⟨j0,o0,e0⟩:=zfX G;subst e0;refine l1 (At.ext (hE.trans h.ext) S) 0 ?_;refine rr 1 ?_;obtain⟨r0,a0,d⟩:=bS d;refine ca zn5 (laws_szParcelS_ok (hE.trans h.ext) G a0) (fun t0 v0 M=>?_);obtain⟨rfl,o⟩:=M;have q:=h.join o;refine rr 1 ?_;refine rn<|sq<|rg<|rr 2 ?_;refine rn<|ci d (fun d=>?_) (fun d=>?_)
    ·refine sq<|rg<|rr 1 ?_;refine rn<|rt ?_;cases d;cases y;have hm:some _=some _:=hm;cases hm;exact⟨_,.cons (.tmp rfl) .nil,rfl,q⟩
    ·refine sp<|rg<|rr 3 ?_;refine rn ?_;cases d;exact⟨_,_,rfl,⟨(d0.trans o.ext),q,rfl⟩,rfl⟩
   ·refine xt ?_;cases d;exact⟨_,_,⟨y,d0,h,rfl⟩,rfl⟩

theorem zoG:Enters Tryz.prog 61:=⟨_,_,Tryz.func61,rfl,by kernel_rfl⟩
def zaw (fuel:Nat) (t2:Int):Option Int:=some t2
def z6D (fuel:Nat) (x0:(List (List Int))) (s1:Int × Int):Option (Rd (Int × Int) (Int) (Int)):=(if(decide (s1.2<(x0.length:Int)))=true then((idx x0 s1.2).bind fun h=>((z38 fuel h s1.1).bind fun d=>(if(decide (d<0))=true then some (.ret (-1)) else some (.next (d,w64 (s1.2+1)))))) else some (.brk s1.1))
def z6Z (fuel:Nat) (x0:(List (List Int))) (x1:Int):Option (Int):=(if(decide ((w64 (x1 - (x0.length:Int)))<0))=true then some (-1) else((iter (z6D fuel x0) fuel (w64 (x1 - (x0.length:Int)),0)).bind fun o=>aft o (zaw fuel)))

theorem laws_szInt64SS_ok {W w:World}(hE:Ext W w){H:Option Addr}{b0:Nat}{x0:(List (List Int))}{x1:Int}(g0:ty28.ro W [sl H x0 b0] x0){fuel:Nat}{r:Int}(hm:z6Z fuel x0 x1=some r):
  Calls Tryz.prog 61 ⟨[sl H x0 b0,.int .i64 x1]⟩ w (Ret fun v w8=>v=.int .i64 r∧St w w8 []):=by
 refine into Tryz.func61 27 _ ?_;unfold z6Z at hm;have hS:=St.start w;refine sq<|rg<|rr 1 ?_;refine rn<|sq<|rg<|rr 5 ?_;refine rn<|sq<|sq<|rg<|rr 2 ?_;refine rn<|ci hm (fun hm=>?_) (fun hm=>?_)
 ·refine sq<|rg<|rr 1 ?_;refine rn<|rt ?_;cases hm;exact⟨_,.cons (.tmp rfl) .nil,rfl,hS⟩
 ·refine sp<|sq<|sq<|rg<|rr 1 ?_;refine rn ?_;obtain⟨i0,X,hm⟩:=bS hm;refine ct (fun(t2:Int) F w9=>i0=.inl t2∧Ext w w9∧St w w9 []∧F=[(1,.int .i64 t2)]) ?_ ?_
  ·rintro t2 F w7 ⟨Y,k0,O,rfl⟩;subst Y;rw [z8] at hm;unfold zaw at hm;refine sq<|rg<|rr 2 ?_;refine rn<|rt ?_;cases hm;exact⟨_,.cons (.tmp rfl) .nil,rfl,O⟩
  ·refine bk<|wk [0,1,5] ?_;refine it (fun(s1:Int × Int) F w9=>Ext w w9∧St w w9 []∧F=[(0,sl H x0 b0),(1,.int .i64 s1.1),(5,.int .i64 s1.2)]) X ⟨(Ext.refl _),hS,rfl⟩ ?_;rintro s1 F u0 _ p0 ⟨d0,h,rfl⟩ d y;unfold z6D at d;refine sq<|sq<|rg<|rr 4 ?_;refine rn<|ci d (fun d=>?_) (fun d=>?_)
   ·refine sp<|sq<|bk<|sq<|rg<|rr 2 ?_;obtain⟨y0,Z,d⟩:=bS d;refine ix (hE.trans h.ext) g0 Z (fun q0 f0 S G=>?_);obtain⟨j0,o0,e0⟩:=z1F G;subst e0;refine l1 (At.ext (hE.trans h.ext) S) 0 ?_;refine rr 1 ?_;obtain⟨r0,a0,d⟩:=bS d;refine ca zeb (laws_szInt64S_ok (hE.trans h.ext) G a0) (fun t0 v0 M=>?_);obtain⟨rfl,o⟩:=M;have q:=h.join o;refine rr 1 ?_;refine rn<|sq<|rg<|rr 2 ?_;refine rn<|ci d (fun d=>?_) (fun d=>?_)
    ·refine sq<|rg<|rr 1 ?_;refine rn<|rt ?_;cases d;cases y;have hm:some _=some _:=hm;cases hm;exact⟨_,.cons (.tmp rfl) .nil,rfl,q⟩
    ·refine sp<|rg<|rr 3 ?_;refine rn ?_;cases d;exact⟨_,_,rfl,⟨(d0.trans o.ext),q,rfl⟩,rfl⟩
   ·refine xt ?_;cases d;exact⟨_,_,⟨y,d0,h,rfl⟩,rfl⟩

theorem zoS:Enters Tryz.prog 15:=⟨_,_,Tryz.func15,rfl,by kernel_rfl⟩
def z70 (fuel:Nat) (x0:D.Qa) (x1:Int):Option (Int):=((z90 fuel x0.Qe x1).bind fun d=>(if(decide (d<0))=true then some (-1) else((z6i fuel x0.Qf d).bind fun h=>(if(decide (h<0))=true then some (-1) else((z6Z fuel x0.Qt h).bind fun o=>(if(decide (o<0))=true then some (-1) else((z38 fuel x0.QK o).bind fun q=>(if(decide (q<0))=true then some (-1) else((z38 fuel x0.QZ q).bind fun y=>(if(decide (y<0))=true then some (-1) else some y))))))))))

theorem laws_szCluster_ok {W w:World}(hE:Ext W w){k0:List Value}{x0:D.Qa}{x1:Int}(p0:ty31.ro W k0 x0){fuel:Nat}{r:Int}(hm:z70 fuel x0 x1=some r):
  Calls Tryz.prog 15 ⟨[.agg ⟨k0⟩,.int .i64 x1]⟩ w (Ret fun v w8=>v=.int .i64 r∧St w w8 []):=by
 obtain⟨A1,k2,A4,k5,A7,B0,u0,C0,v0,D0,o0,h3,h6,q0,r0,t0⟩:=zei p0;subst o0;refine into Tryz.func15 36 _ ?_;unfold z70 at hm;have hS:=St.start w;refine sq<|rg<|nw hS (fun A0 P0 y0 y=>?_);refine rr 1 ?_;refine rn<|sq<|rg<|rr 1 ?_;refine lN (At.sub ((y.bring 0 rfl).box) 0 4) ?_;refine rr 1 ?_;obtain⟨E0,e0,hm⟩:=bS hm;refine ca zoJ (laws_szGrid_ok (hE.trans y.ext) (zej x0.Qe h3) e0) (fun K0 Q0 H=>?_);obtain⟨rfl,M⟩:=H;have d:=y.join M;refine rr 1 ?_;refine rn<|sq<|sq<|rg<|rr 2 ?_;refine rn<|ci hm (fun hm=>?_) (fun hm=>?_)
 ·refine sq<|rg<|rr 1 ?_;refine rn<|rt ?_;cases hm;exact⟨_,.cons (.tmp rfl) .nil,rfl,(d.taken 0)⟩
 ·refine sp<|sq<|rg<|rr 1 ?_;refine l1 ((d.bring 0 rfl).box) 4 ?_;refine rr 1 ?_;obtain⟨F0,f0,hm⟩:=bS hm;refine ca zoH (laws_szParcelSS_ok (hE.trans d.ext) h6 f0) (fun L0 R0 O=>?_);obtain⟨rfl,S⟩:=O;have h:=d.join S;refine rr 1 ?_;refine rn<|sq<|sq<|rg<|rr 2 ?_;refine rn<|ci hm (fun hm=>?_) (fun hm=>?_)
  ·refine sq<|rg<|rr 1 ?_;refine rn<|rt ?_;cases hm;exact⟨_,.cons (.tmp rfl) .nil,rfl,(h.taken 0)⟩
  ·refine sp<|sq<|rg<|rr 1 ?_;refine l1 ((h.bring 0 rfl).box) 5 ?_;refine rr 1 ?_;obtain⟨G0,g0,hm⟩:=bS hm;refine ca zoG (laws_szInt64SS_ok (hE.trans h.ext) q0 g0) (fun M0 S0 X=>?_);obtain⟨rfl,Y⟩:=X;have o:=h.join Y;refine rr 1 ?_;refine rn<|sq<|sq<|rg<|rr 2 ?_;refine rn<|ci hm (fun hm=>?_) (fun hm=>?_)
   ·refine sq<|rg<|rr 1 ?_;refine rn<|rt ?_;cases hm;exact⟨_,.cons (.tmp rfl) .nil,rfl,(o.taken 0)⟩
   ·refine sp<|sq<|rg<|rr 1 ?_;refine l1 ((o.bring 0 rfl).box) 6 ?_;refine rr 1 ?_;obtain⟨H0,i0,hm⟩:=bS hm;refine ca zeb (laws_szInt64S_ok (hE.trans o.ext) r0 i0) (fun N0 T0 Z=>?_);obtain⟨rfl,a0⟩:=Z;have q:=o.join a0;refine rr 1 ?_;refine rn<|sq<|sq<|rg<|rr 2 ?_;refine rn<|ci hm (fun hm=>?_) (fun hm=>?_)
    ·refine sq<|rg<|rr 1 ?_;refine rn<|rt ?_;cases hm;exact⟨_,.cons (.tmp rfl) .nil,rfl,(q.taken 0)⟩
    ·refine sp<|sq<|rg<|rr 1 ?_;refine l1 ((q.bring 0 rfl).box) 7 ?_;refine rr 1 ?_;obtain⟨J0,j0,hm⟩:=bS hm;refine ca zeb (laws_szInt64S_ok (hE.trans q.ext) t0 j0) (fun O0 U0 b0=>?_);obtain⟨rfl,d0⟩:=b0;have G:=q.join d0;refine rr 1 ?_;refine rn<|sq<|sq<|rg<|rr 2 ?_;refine rn<|ci hm (fun hm=>?_) (fun hm=>?_)
     ·refine sq<|rg<|rr 1 ?_;refine rn<|rt ?_;cases hm;exact⟨_,.cons (.tmp rfl) .nil,rfl,(G.taken 0)⟩
     ·refine sp<|sq<|rg<|rr 2 ?_;refine rn<|rt ?_;cases hm;exact⟨_,.cons (.tmp rfl) .nil,rfl,(G.taken 0)⟩

theorem zea:Enters Tryz.prog 67:=⟨_,_,Tryz.func67,rfl,by kernel_rfl⟩
def zaR (fuel:Nat) (d:(List Int)):Option (List Int):=some d
def z7m (fuel:Nat) (x0:(List Int)) (d:Int × (List Int)):Option (Rd (Int × (List Int)) ((List Int)) ((List Int))):=(if(decide (d.1<(x0.length:Int)))=true then((idx x0 d.1).bind fun h=>(if decide (0≤d.1∧d.1.toNat<d.2.length)=true then some (.next (w64 (d.1+1),(d.2.set d.1.toNat h))) else none)) else some (.brk d.2))
def z37 (fuel:Nat) (x0:(List Int)):Option ((List Int)):=(if decide (0≤(x0.length:Int)∧(x0.length:Int)≤4294967296)=true then((iter (z7m fuel x0) fuel (0,(List.replicate (x0.length:Int).toNat (0:Int)))).bind fun o=>aft o (zaR fuel)) else none)

theorem laws_toInt64S_ok {W w:World}(hE:Ext W w){G:Option Addr}{f0:Nat}{x0:(List Int)}(p0:ty29.ro W [sl G x0 f0] x0){fuel:Nat}{r:(List Int)}(hm:z37 fuel x0=some r):
  Calls Tryz.prog 67 ⟨[sl G x0 f0]⟩ w (Ret fun v w8=>∃ A0 k0,v=sl A0 r k0∧St w w8 [ow ty29 A0 r k0]):=by
 refine into Tryz.func67 22 _ ?_;unfold z37 at hm;have hS:=St.start w;refine sq<|rg<|rr 1 ?_;refine rn<|sq<|rg<|rr 2 ?_;obtain⟨r0,hm⟩:=iS hm;have hz7:=of_decide_eq_true r0;refine mS (U:=tInt) (0:Int) hS hz7 (fun _=>⟨rfl,rfl⟩) (fun A2 k3 w4 e5 q0=>?_);refine rr 1 ?_;refine rn<|sq<|sq<|rg<|rr 1 ?_;refine rn ?_;obtain⟨t0,Z,hm⟩:=bS hm;refine ct (fun(i0:(List Int)) F w9=>t0=.inl i0∧St w w9 [Own ty29 [sl A2 (List.replicate (x0.length:Int).toNat (0:Int)) k3] i0]∧F=[(3,sl A2 (List.replicate (x0.length:Int).toNat (0:Int)) k3)]) ?_ ?_
 ·rintro i0 F y0 ⟨a0,q,rfl⟩;subst a0;rw [z8] at hm;unfold zaR at hm;refine sq<|rg<|rr 2 ?_;refine rn<|rt ?_;cases hm;have hn18:=(q.bring 0 rfl).lenEq;have H:=(q.bring 0 rfl).reLen hn18;exact⟨_,.cons (.tmp rfl) .nil,A2,k3,(by first | (simp only [sl,hn18];done) | (simp only [sl,hn18];rfl)),H⟩
 ·refine bk<|wk [0,3,4] ?_;refine it (fun(g0:Int × (List Int)) F w9=>St w w9 [Own ty29 [sl A2 (List.replicate (x0.length:Int).toNat (0:Int)) k3] g0.2]∧F=[(0,sl G x0 f0),(3,sl A2 (List.replicate (x0.length:Int).toNat (0:Int)) k3),(4,.int .i64 g0.1)]) Z ⟨q0,rfl⟩ ?_;rintro g0 F B0 _ u0 ⟨h,rfl⟩ d b0;unfold z7m at d;refine sq<|sq<|rg<|rr 4 ?_;refine rn<|ci d (fun d=>?_) (fun d=>?_)
  ·refine sp<|sq<|bk<|rg<|rr 4 ?_;obtain⟨j0,e0,d⟩:=bS d;refine ix (hE.trans h.ext) p0 e0 (fun v0 o0 X d0=>?_);cases d0;refine l1 (At.ext (hE.trans h.ext) X) 0 ?_;have y:=h.bring 0 rfl;obtain⟨Y,d⟩:=iS d;have o:=of_decide_eq_true Y;refine io y o.1 o.2 (fun q34 hq35=>?_);have M:=y.flat (T:=tInt) (cs:=[.int .i64 j0]) (x:=j0) ⟨rfl,rfl⟩;have O:=M.bring 1 rfl;refine se O o.2 hq35 (fun C0 S=>?_);refine rn<|rg<|rr 3 ?_;refine rn ?_;cases d;exact⟨_,_,rfl,⟨S,rfl⟩,rfl⟩
  ·refine xt ?_;cases d;exact⟨_,_,⟨b0,h,rfl⟩,rfl⟩

theorem zaF:Enters Tryz.prog 126:=⟨_,_,Tryz.func126,rfl,by kernel_rfl⟩
def z1q (fuel:Nat) (x0:D.Qc):Option (D.Qc):=some (⟨x0.Qb,x0.Qj,x0.Qk⟩:D.Qc)

theorem laws_toAddress_ok {W w:World}(hE:Ext W w){X:List Value}{x0:D.Qc}(Y:ty24.ro W X x0){fuel:Nat}{r:D.Qc}(hm:z1q fuel x0=some r):
  Calls Tryz.prog 126 ⟨[.agg ⟨X⟩]⟩ w (Ret fun v w8=>v=.agg ⟨[.int .i64 r.Qb,.int .i64 r.Qj,.int .i64 r.Qk]⟩∧St w w8 []):=by
 have e1:=z9z Y;subst e1;refine into Tryz.func126 14 _ ?_;unfold z1q at hm;have hS:=St.start w;refine sq<|rg<|nw hS (fun g2 w3 e4 Z=>?_);refine nw Z (fun g6 w7 a0 G=>?_);refine rn<|sq<|rg<|nw G (fun d0 e0 b0 d=>?_);refine rn<|sq<|rg<|rr 1 ?_;refine l1 ((d.bring 2 rfl).box) 0 ?_;refine rr 1 ?_;have H:=d.bring 0 rfl;refine so (A:=[]) H 0 (fun f0 h=>?_);refine rn<|sq<|rg<|rr 1 ?_;refine l1 ((h.bring 2 rfl).box) 1 ?_;refine rr 1 ?_;have M:=h.bring 0 rfl;refine so (A:=[]) M 1 (fun g0 o=>?_);refine rn<|sq<|rg<|rr 1 ?_;refine l1 ((o.bring 2 rfl).box) 2 ?_;refine rr 1 ?_;have O:=o.bring 0 rfl;refine so (A:=[]) O 2 (fun i0 q=>?_);refine rn<|sq<|rg<|lN ((q.bring 0 rfl).box) ?_;have S:=q.bring 1 rfl;refine so (A:=[]) S 0 (fun j0 y=>?_);refine rn<|rt ?_;cases hm;exact⟨_,.cons (ra ((y.bring 0 rfl).box)) .nil,rfl,(y.taken 0)⟩

theorem zkE:Enters Tryz.prog 254:=⟨_,_,Tryz.func254,rfl,by kernel_rfl⟩
def za2 (fuel:Nat) (d:(List D.Qc)):Option (List D.Qc):=some d
def z5O (fuel:Nat) (x0:(List D.Qc)) (d:Int × (List D.Qc)):Option (Rd (Int × (List D.Qc)) ((List D.Qc)) ((List D.Qc))):=(if(decide (d.1<(x0.length:Int)))=true then((idx x0 d.1).bind fun o=>((z1q fuel o).bind fun h=>(if decide (0≤d.1∧d.1.toNat<d.2.length)=true then some (.next (w64 (d.1+1),(d.2.set d.1.toNat h))) else none))) else some (.brk d.2))
def z6h (fuel:Nat) (x0:(List D.Qc)):Option ((List D.Qc)):=(if decide (0≤(x0.length:Int)∧(x0.length:Int)≤4294967296)=true then((iter (z5O fuel x0) fuel (0,(List.replicate (x0.length:Int).toNat (⟨(0:Int),(0:Int),(0:Int)⟩:D.Qc)))).bind fun o=>aft o (za2 fuel)) else none)

theorem laws_toAddressS_ok {W w:World}(hE:Ext W w){H:Option Addr}{o0:Nat}{x0:(List D.Qc)}(u0:zfo.ro W [sl H x0 o0] x0){fuel:Nat}{r:(List D.Qc)}(hm:z6h fuel x0=some r):
  Calls Tryz.prog 254 ⟨[sl H x0 o0]⟩ w (Ret fun v w8=>∃ A0 k0,v=sl A0 r k0∧St w w8 [ow z3h A0 r k0]):=by
 refine into Tryz.func254 23 _ ?_;unfold z6h at hm;have hS:=St.start w;refine sq<|rg<|rr 1 ?_;refine rn<|sq<|rg<|rr 2 ?_;obtain⟨y0,hm⟩:=iS hm;have hz7:=of_decide_eq_true y0;refine mS (U:=ty35) (⟨(0:Int),(0:Int),(0:Int)⟩:D.Qc) hS hz7 (fun _=>(z9y (c:=(⟨(0:Int),(0:Int),(0:Int)⟩:D.Qc)) rfl)) (fun A2 k3 w4 e5 v0=>?_);refine rr 1 ?_;refine rn<|sq<|sq<|rg<|rr 1 ?_;refine rn ?_;obtain⟨B0,e0,hm⟩:=bS hm;refine ct (fun(q0:(List D.Qc)) F w9=>B0=.inl q0∧St w w9 [Own z3h [sl A2 (List.replicate (x0.length:Int).toNat (⟨(0:Int),(0:Int),(0:Int)⟩:D.Qc)) k3] q0]∧F=[(3,sl A2 (List.replicate (x0.length:Int).toNat (⟨(0:Int),(0:Int),(0:Int)⟩:D.Qc)) k3)]) ?_ ?_
 ·rintro q0 F G0 ⟨f0,q,rfl⟩;subst f0;rw [z8] at hm;unfold za2 at hm;refine sq<|rg<|rr 2 ?_;refine rn<|rt ?_;cases hm;have hn18:=(q.bring 0 rfl).lenEq;have S:=(q.bring 0 rfl).reLen hn18;exact⟨_,.cons (.tmp rfl) .nil,A2,k3,(by first | (simp only [sl,hn18];done) | (simp only [sl,hn18];rfl)),S⟩
 ·refine bk<|wk [0,3,4] ?_;refine it (fun(p0:Int × (List D.Qc)) F w9=>St w w9 [Own z3h [sl A2 (List.replicate (x0.length:Int).toNat (⟨(0:Int),(0:Int),(0:Int)⟩:D.Qc)) k3] p0.2]∧F=[(0,sl H x0 o0),(3,sl A2 (List.replicate (x0.length:Int).toNat (⟨(0:Int),(0:Int),(0:Int)⟩:D.Qc)) k3),(4,.int .i64 p0.1)]) e0 ⟨v0,rfl⟩ ?_;rintro p0 F H0 _ D0 ⟨h,rfl⟩ d g0;unfold z5O at d;refine sq<|sq<|rg<|rr 4 ?_;refine rn<|ci d (fun d=>?_) (fun d=>?_)
  ·refine sp<|sq<|bk<|rg<|rr 4 ?_;obtain⟨L0,i0,d⟩:=bS d;refine ix (hE.trans h.ext) u0 i0 (fun E0 t0 b0 G=>?_);have r0:=z9z G;subst r0;refine lN (At.ext (hE.trans h.ext) b0) ?_;obtain⟨C0,j0,d⟩:=bS d;refine ca zaF (laws_toAddress_ok (hE.trans h.ext) G j0) (fun F0 J0 M=>?_);obtain⟨rfl,O⟩:=M;have X:=h.join O;have y:=X.bring 0 rfl;obtain⟨d0,d⟩:=iS d;have o:=of_decide_eq_true d0;refine io y o.1 o.2 (fun q42 hq43=>?_);have Y:=zfL (c:=C0) (B:=_) y;have Z:=Y.bring 1 rfl;refine se Z o.2 hq43 (fun K0 a0=>?_);refine rn<|rg<|rr 3 ?_;refine rn ?_;cases d;exact⟨_,_,rfl,⟨a0,rfl⟩,rfl⟩
  ·refine xt ?_;cases d;exact⟨_,_,⟨g0,h,rfl⟩,rfl⟩

theorem zhC:Enters Tryz.prog 230:=⟨_,_,Tryz.func230,rfl,by kernel_rfl⟩
def z3u (fuel:Nat) (x0:D.Qd):Option (D.Qd):=((z37 fuel x0.Data).bind fun d=>((z6h fuel x0.QY).bind fun h=>some (⟨x0.Qj,x0.QO,x0.Value,d,h⟩:D.Qd)))

theorem laws_toShardCell_ok {W w:World}(hE:Ext W w){q0:List Value}{x0:D.Qd}(u0:zfn.ro W q0 x0){fuel:Nat}{r:D.Qd}(hm:z3u fuel x0=some r):
  Calls Tryz.prog 230 ⟨[.agg ⟨q0⟩]⟩ w (Ret fun v w8=>∃ A0 k0 A1 k1,v=.agg ⟨[.int .i64 r.Qj,.int .i64 r.QO,.int .i64 r.Value,sl A0 r.Data k0,sl A1 r.QY k1]⟩∧St w w8 [ow ty29 A0 r.Data k0,ow z3h A1 r.QY k1]):=by
 obtain⟨A1,k2,A4,k5,e7,h3,h6⟩:=zb4 u0;subst e7;refine into Tryz.func230 22 _ ?_;unfold z3u at hm;have hS:=St.start w;refine sq<|rg<|nw hS (fun E0 M0 B0 Y=>?_);refine nw Y (fun F0 N0 C0 Z=>?_);refine rn<|sq<|rg<|nw Z (fun G0 O0 D0 o=>?_);refine rn<|sq<|rg<|rr 1 ?_;refine l1 ((o.bring 2 rfl).box) 0 ?_;refine rr 1 ?_;have a0:=o.bring 0 rfl;refine so (A:=[]) a0 0 (fun P0 q=>?_);refine rn<|sq<|rg<|rr 1 ?_;refine l1 ((q.bring 2 rfl).box) 1 ?_;refine rr 1 ?_;have b0:=q.bring 0 rfl;refine so (A:=[]) b0 1 (fun Q0 y=>?_);refine rn<|sq<|rg<|rr 1 ?_;refine l1 ((y.bring 2 rfl).box) 2 ?_;refine rr 1 ?_;have d0:=y.bring 0 rfl;refine so (A:=[]) d0 2 (fun R0 d=>?_);refine rn<|sq<|rg<|rr 1 ?_;refine l1 ((d.bring 2 rfl).box) 3 ?_;obtain⟨H0,o0,hm⟩:=bS hm;refine ca zea (laws_toInt64S_ok (hE.trans d.ext) h3 o0) (fun K0 S0 M=>?_);obtain⟨r0,v0,rfl,O⟩:=M;have e0:=d.join O;refine rr 1 ?_;have f0:=e0.bring 1 rfl;refine so (A:=[]) f0 3 (fun T0 h=>?_);refine rn<|sq<|rg<|rr 1 ?_;refine l1 ((h.bring 3 rfl).box) 4 ?_;obtain⟨J0,p0,hm⟩:=bS hm;refine ca zkE (laws_toAddressS_ok (hE.trans h.ext) h6 p0) (fun L0 U0 S=>?_);obtain⟨t0,y0,rfl,X⟩:=S;have g0:=h.join X;refine rr 1 ?_;have i0:=g0.bring 1 rfl;refine so (A:=[]) i0 4 (fun V0 G=>?_);refine rn<|sq<|rg<|lN ((G.bring 0 rfl).box) ?_;have j0:=G.bring 3 rfl;refine so (A:=[]) j0 0 (fun X0 H=>?_);refine rn<|rt ?_;cases hm;exact⟨_,.cons (ra ((H.bring 0 rfl).box)) .nil,r0,v0,t0,y0,rfl,(((H.bring 2 rfl).bring 3 rfl).taken 2)⟩

theorem zkZ:Enters Tryz.prog 227:=⟨_,_,Tryz.func227,rfl,by kernel_rfl⟩
def z9g (fuel:Nat) (d:(List D.Qd)):Option (List D.Qd):=some d
def z4L (fuel:Nat) (x0:(List D.Qd)) (d:Int × (List D.Qd)):Option (Rd (Int × (List D.Qd)) ((List D.Qd)) ((List D.Qd))):=(if(decide (d.1<(x0.length:Int)))=true then((idx x0 d.1).bind fun o=>((z3u fuel o).bind fun h=>(if decide (0≤d.1∧d.1.toNat<d.2.length)=true then some (.next (w64 (d.1+1),(d.2.set d.1.toNat h))) else none))) else some (.brk d.2))
def z4z (fuel:Nat) (x0:(List D.Qd)):Option ((List D.Qd)):=(if decide (0≤(x0.length:Int)∧(x0.length:Int)≤4294967296)=true then((iter (z4L fuel x0) fuel (0,(List.replicate (x0.length:Int).toNat (⟨(0:Int),(0:Int),(0:Int),([]:(List Int)),([]:(List D.Qc))⟩:D.Qd)))).bind fun o=>aft o (z9g fuel)) else none)

theorem laws_toShardCellS_ok {W w:World}(hE:Ext W w){H:Option Addr}{q0:Nat}{x0:(List D.Qd)}(y0:zgY.ro W [sl H x0 q0] x0){fuel:Nat}{r:(List D.Qd)}(hm:z4z fuel x0=some r):
  Calls Tryz.prog 227 ⟨[sl H x0 q0]⟩ w (Ret fun v w8=>∃ A0 k0,v=sl A0 r k0∧St w w8 [ow z7T A0 r k0]):=by
 refine into Tryz.func227 23 _ ?_;unfold z4z at hm;have hS:=St.start w;refine sq<|rg<|rr 1 ?_;refine rn<|sq<|rg<|rr 2 ?_;obtain⟨C0,hm⟩:=iS hm;have hz7:=of_decide_eq_true C0;refine mS (U:=z2C) (⟨(0:Int),(0:Int),(0:Int),([]:(List Int)),([]:(List D.Qc))⟩:D.Qd) hS hz7 (fun _=>(zdj (c:=(⟨(0:Int),(0:Int),(0:Int),([]:(List Int)),([]:(List D.Qc))⟩:D.Qd)) ⟨[],[],rfl,(slNilOwn tInt 2 _),⟨[],[],rfl,(slNilOwn ty35 35 _),rfl⟩⟩)) (fun A2 k3 w4 e5 B0=>?_);refine rr 1 ?_;refine rn<|sq<|sq<|rg<|rr 1 ?_;refine rn ?_;obtain⟨D0,g0,hm⟩:=bS hm;refine ct (fun(t0:(List D.Qd)) F w9=>D0=.inl t0∧St w w9 [Own z7T [.slice A2 (List.replicate (x0.length:Int).toNat (⟨(0:Int),(0:Int),(0:Int),([]:(List Int)),([]:(List D.Qc))⟩:D.Qd)).length k3] t0]∧F=[(3,.slice A2 (List.replicate (x0.length:Int).toNat (⟨(0:Int),(0:Int),(0:Int),([]:(List Int)),([]:(List D.Qc))⟩:D.Qd)).length k3)]) ?_ ?_
 ·rintro t0 F T0 ⟨i0,q,rfl⟩;subst i0;rw [z8] at hm;unfold z9g at hm;refine sq<|rg<|rr 2 ?_;refine rn<|rt ?_;cases hm;have hn18:=(q.bring 0 rfl).lenEq;have S:=(q.bring 0 rfl).reLen hn18;exact⟨_,.cons (.tmp rfl) .nil,A2,k3,(by first | (simp only [sl,hn18];done) | (simp only [sl,hn18];rfl)),S⟩
 ·refine bk<|wk [0,3,4] ?_;refine it (fun(r0:Int × (List D.Qd)) F w9=>St w w9 [Own z7T [.slice A2 (List.replicate (x0.length:Int).toNat (⟨(0:Int),(0:Int),(0:Int),([]:(List Int)),([]:(List D.Qc))⟩:D.Qd)).length k3] r0.2]∧F=[(0,sl H x0 q0),(3,.slice A2 (List.replicate (x0.length:Int).toNat (⟨(0:Int),(0:Int),(0:Int),([]:(List Int)),([]:(List D.Qc))⟩:D.Qd)).length k3),(4,.int .i64 r0.1)]) g0 ⟨B0,rfl⟩ ?_;rintro r0 F U0 _ Q0 ⟨h,rfl⟩ d j0;unfold z4L at d;refine sq<|sq<|rg<|rr 4 ?_;refine rn<|ci d (fun d=>?_) (fun d=>?_)
  ·refine sp<|sq<|bk<|rg<|rr 4 ?_;obtain⟨Y0,o0,d⟩:=bS d;refine ix (hE.trans h.ext) y0 o0 (fun R0 v0 e0 G=>?_);obtain⟨F0,M0,G0,N0,u0,K0,L0⟩:=zb4 G;subst u0;refine lN (At.ext (hE.trans h.ext) e0) ?_;obtain⟨E0,p0,d⟩:=bS d;refine ca zhC (laws_toShardCell_ok (hE.trans h.ext) G p0) (fun S0 V0 M=>?_);obtain⟨H0,O0,J0,P0,rfl,O⟩:=M;have X:=h.join O;have y:=X.bring 2 rfl;obtain⟨f0,d⟩:=iS d;have o:=of_decide_eq_true f0;refine io y o.1 o.2 (fun q52 hq53=>?_);have Y:=y.bring 2 rfl;have Z:=Y.bring 2 rfl;have a0:=zbt (c:=E0) (B:=_) Z;have b0:=a0.bring 1 rfl;refine se b0 o.2 hq53 (fun X0 d0=>?_);refine rn<|rg<|rr 3 ?_;refine rn ?_;cases d;exact⟨_,_,rfl,⟨d0,rfl⟩,rfl⟩
  ·refine xt ?_;cases d;exact⟨_,_,⟨j0,h,rfl⟩,rfl⟩

theorem zkG:Enters Tryz.prog 252:=⟨_,_,Tryz.func252,rfl,by kernel_rfl⟩
def z6f (fuel:Nat) (x0:D.Qp):Option (D.Qp):=((z1q fuel x0.QX).bind fun d=>some (⟨x0.Qa2,x0.Qa3,(⟨d.Qb,d.Qj,d.Qk⟩:D.Qc)⟩:D.Qp))

theorem laws_toShardVar_ok {W w:World}(hE:Ext W w){b0:List Value}{x0:D.Qp}(d0:zj7.ro W b0 x0){fuel:Nat}{r:D.Qp}(hm:z6f fuel x0=some r):
  Calls Tryz.prog 252 ⟨[.agg ⟨b0⟩]⟩ w (Ret fun v w8=>v=.agg ⟨[.bool r.Qa2,.bool r.Qa3,.int .i64 r.QX.Qb,.int .i64 r.QX.Qj,.int .i64 r.QX.Qk]⟩∧St w w8 []):=by
 have e1:=zfN d0;subst e1;refine into Tryz.func252 15 _ ?_;unfold z6f at hm;have hS:=St.start w;refine sq<|rg<|nw hS (fun g2 w3 e4 e0=>?_);refine nw e0 (fun g6 w7 f0 M=>?_);refine rn<|sq<|rg<|nw M (fun i0 o0 g0 h=>?_);refine rn<|sq<|rg<|rr 1 ?_;refine l1 ((h.bring 2 rfl).box) 0 ?_;refine rr 1 ?_;have O:=h.bring 0 rfl;refine so (A:=[]) O 0 (fun p0 o=>?_);refine rn<|sq<|rg<|rr 1 ?_;refine l1 ((o.bring 2 rfl).box) 1 ?_;refine rr 1 ?_;have S:=o.bring 0 rfl;refine so (A:=[]) S 1 (fun q0 d=>?_);refine rn<|sq<|rg<|rr 1 ?_;refine lN (At.sub ((d.bring 2 rfl).box) 2 3) ?_;obtain⟨j0,a0,hm⟩:=bS hm;refine ca zaF (laws_toAddress_ok (hE.trans d.ext) (zai x0.QX) a0) (fun k0 r0 G=>?_);obtain⟨rfl,H⟩:=G;have X:=d.join H;refine rr 1 ?_;have Y:=X.bring 0 rfl;refine so (A:=[]) Y 2 (fun t0 q=>?_);refine rn<|sq<|rg<|lN ((q.bring 0 rfl).box) ?_;have Z:=q.bring 1 rfl;refine so (A:=[]) Z 0 (fun u0 y=>?_);refine rn<|rt ?_;cases hm;exact⟨_,.cons (ra ((y.bring 0 rfl).box)) .nil,rfl,(y.taken 0)⟩

theorem zkY:Enters Tryz.prog 228:=⟨_,_,Tryz.func228,rfl,by kernel_rfl⟩
def z9G (fuel:Nat) (d:(List D.Qp)):Option (List D.Qp):=some d
def z5m (fuel:Nat) (x0:(List D.Qp)) (d:Int × (List D.Qp)):Option (Rd (Int × (List D.Qp)) ((List D.Qp)) ((List D.Qp))):=(if(decide (d.1<(x0.length:Int)))=true then((idx x0 d.1).bind fun o=>((z6f fuel o).bind fun h=>(if decide (0≤d.1∧d.1.toNat<d.2.length)=true then some (.next (w64 (d.1+1),(d.2.set d.1.toNat h))) else none))) else some (.brk d.2))
def z5n (fuel:Nat) (x0:(List D.Qp)):Option ((List D.Qp)):=(if decide (0≤(x0.length:Int)∧(x0.length:Int)≤4294967296)=true then((iter (z5m fuel x0) fuel (0,(List.replicate (x0.length:Int).toNat (⟨false,false,(⟨(0:Int),(0:Int),(0:Int)⟩:D.Qc)⟩:D.Qp)))).bind fun o=>aft o (z9G fuel)) else none)

theorem laws_toShardVarS_ok {W w:World}(hE:Ext W w){H:Option Addr}{o0:Nat}{x0:(List D.Qp)}(u0:zgX.ro W [sl H x0 o0] x0){fuel:Nat}{r:(List D.Qp)}(hm:z5n fuel x0=some r):
  Calls Tryz.prog 228 ⟨[sl H x0 o0]⟩ w (Ret fun v w8=>∃ A0 k0,v=sl A0 r k0∧St w w8 [ow z4S A0 r k0]):=by
 refine into Tryz.func228 23 _ ?_;unfold z5n at hm;have hS:=St.start w;refine sq<|rg<|rr 1 ?_;refine rn<|sq<|rg<|rr 2 ?_;obtain⟨y0,hm⟩:=iS hm;have hz7:=of_decide_eq_true y0;refine mS (U:=z9R) (⟨false,false,(⟨(0:Int),(0:Int),(0:Int)⟩:D.Qc)⟩:D.Qp) hS hz7 (fun _=>(zfQ (c:=(⟨false,false,(⟨(0:Int),(0:Int),(0:Int)⟩:D.Qc)⟩:D.Qp)) rfl)) (fun A2 k3 w4 e5 v0=>?_);refine rr 1 ?_;refine rn<|sq<|sq<|rg<|rr 1 ?_;refine rn ?_;obtain⟨B0,e0,hm⟩:=bS hm;refine ct (fun(q0:(List D.Qp)) F w9=>B0=.inl q0∧St w w9 [Own z4S [.slice A2 (List.replicate (x0.length:Int).toNat (⟨false,false,(⟨(0:Int),(0:Int),(0:Int)⟩:D.Qc)⟩:D.Qp)).length k3] q0]∧F=[(3,.slice A2 (List.replicate (x0.length:Int).toNat (⟨false,false,(⟨(0:Int),(0:Int),(0:Int)⟩:D.Qc)⟩:D.Qp)).length k3)]) ?_ ?_
 ·rintro q0 F G0 ⟨f0,q,rfl⟩;subst f0;rw [z8] at hm;unfold z9G at hm;refine sq<|rg<|rr 2 ?_;refine rn<|rt ?_;cases hm;have hn18:=(q.bring 0 rfl).lenEq;have S:=(q.bring 0 rfl).reLen hn18;exact⟨_,.cons (.tmp rfl) .nil,A2,k3,(by first | (simp only [sl,hn18];done) | (simp only [sl,hn18];rfl)),S⟩
 ·refine bk<|wk [0,3,4] ?_;refine it (fun(p0:Int × (List D.Qp)) F w9=>St w w9 [Own z4S [.slice A2 (List.replicate (x0.length:Int).toNat (⟨false,false,(⟨(0:Int),(0:Int),(0:Int)⟩:D.Qc)⟩:D.Qp)).length k3] p0.2]∧F=[(0,sl H x0 o0),(3,.slice A2 (List.replicate (x0.length:Int).toNat (⟨false,false,(⟨(0:Int),(0:Int),(0:Int)⟩:D.Qc)⟩:D.Qp)).length k3),(4,.int .i64 p0.1)]) e0 ⟨v0,rfl⟩ ?_;rintro p0 F H0 _ D0 ⟨h,rfl⟩ d g0;unfold z5m at d;refine sq<|sq<|rg<|rr 4 ?_;refine rn<|ci d (fun d=>?_) (fun d=>?_)
  ·refine sp<|sq<|bk<|rg<|rr 4 ?_;obtain⟨L0,i0,d⟩:=bS d;refine ix (hE.trans h.ext) u0 i0 (fun E0 t0 b0 G=>?_);have r0:=zfN G;subst r0;refine lN (At.ext (hE.trans h.ext) b0) ?_;obtain⟨C0,j0,d⟩:=bS d;refine ca zkG (laws_toShardVar_ok (hE.trans h.ext) G j0) (fun F0 J0 M=>?_);obtain⟨rfl,O⟩:=M;have X:=h.join O;have y:=X.bring 0 rfl;obtain⟨d0,d⟩:=iS d;have o:=of_decide_eq_true d0;refine io y o.1 o.2 (fun q42 hq43=>?_);have Y:=zeo (c:=C0) (B:=_) y;have Z:=Y.bring 1 rfl;refine se Z o.2 hq43 (fun K0 a0=>?_);refine rn<|rg<|rr 3 ?_;refine rn ?_;cases d;exact⟨_,_,rfl,⟨a0,rfl⟩,rfl⟩
  ·refine xt ?_;cases d;exact⟨_,_,⟨g0,h,rfl⟩,rfl⟩

theorem zkF:Enters Tryz.prog 253:=⟨_,_,Tryz.func253,rfl,by kernel_rfl⟩
def z4y (fuel:Nat) (x0:D.Qn):Option (D.Qn):=((z1q fuel x0.A).bind fun d=>((z1q fuel x0.B).bind fun h=>some (⟨(⟨d.Qb,d.Qj,d.Qk⟩:D.Qc),(⟨h.Qb,h.Qj,h.Qk⟩:D.Qc)⟩:D.Qn)))

theorem laws_toShardRedex_ok {W w:World}(hE:Ext W w){e0:List Value}{x0:D.Qn}(f0:zj6.ro W e0 x0){fuel:Nat}{r:D.Qn}(hm:z4y fuel x0=some r):
  Calls Tryz.prog 253 ⟨[.agg ⟨e0⟩]⟩ w (Ret fun v w8=>v=.agg ⟨[.int .i64 r.A.Qb,.int .i64 r.A.Qj,.int .i64 r.A.Qk,.int .i64 r.B.Qb,.int .i64 r.B.Qj,.int .i64 r.B.Qk]⟩∧St w w8 []):=by
 have e1:=zfM f0;subst e1;refine into Tryz.func253 13 _ ?_;unfold z4y at hm;have hS:=St.start w;refine sq<|rg<|nw hS (fun g2 w3 e4 g0=>?_);refine nw g0 (fun g6 w7 i0 O=>?_);refine rn<|sq<|rg<|nw O (fun k0 t0 j0 d=>?_);refine rn<|sq<|rg<|rr 1 ?_;refine lN (At.sub ((d.bring 2 rfl).box) 0 3) ?_;obtain⟨o0,b0,hm⟩:=bS hm;refine ca zaF (laws_toAddress_ok (hE.trans d.ext) (zai x0.A) b0) (fun q0 u0 y=>?_);obtain⟨rfl,G⟩:=y;have S:=d.join G;refine rr 1 ?_;have X:=S.bring 0 rfl;refine so (A:=[]) X 0 (fun v0 h=>?_);refine rn<|sq<|rg<|rr 1 ?_;refine lN (At.sub ((h.bring 2 rfl).box) 3 3) ?_;obtain⟨p0,d0,hm⟩:=bS hm;refine ca zaF (laws_toAddress_ok (hE.trans h.ext) (zai x0.B) d0) (fun r0 y0 H=>?_);obtain⟨rfl,M⟩:=H;have Y:=h.join M;refine rr 1 ?_;have Z:=Y.bring 0 rfl;refine so (A:=[]) Z 3 (fun A0 o=>?_);refine rn<|sq<|rg<|lN ((o.bring 0 rfl).box) ?_;have a0:=o.bring 1 rfl;refine so (A:=[]) a0 0 (fun B0 q=>?_);refine rn<|rt ?_;cases hm;exact⟨_,.cons (ra ((q.bring 0 rfl).box)) .nil,rfl,(q.taken 0)⟩

theorem zkX:Enters Tryz.prog 229:=⟨_,_,Tryz.func229,rfl,by kernel_rfl⟩
def z8Y (fuel:Nat) (d:(List D.Qn)):Option (List D.Qn):=some d
def z44 (fuel:Nat) (x0:(List D.Qn)) (d:Int × (List D.Qn)):Option (Rd (Int × (List D.Qn)) ((List D.Qn)) ((List D.Qn))):=(if(decide (d.1<(x0.length:Int)))=true then((idx x0 d.1).bind fun o=>((z4y fuel o).bind fun h=>(if decide (0≤d.1∧d.1.toNat<d.2.length)=true then some (.next (w64 (d.1+1),(d.2.set d.1.toNat h))) else none))) else some (.brk d.2))
def z3K (fuel:Nat) (x0:(List D.Qn)):Option ((List D.Qn)):=(if decide (0≤(x0.length:Int)∧(x0.length:Int)≤4294967296)=true then((iter (z44 fuel x0) fuel (0,(List.replicate (x0.length:Int).toNat (⟨(⟨(0:Int),(0:Int),(0:Int)⟩:D.Qc),(⟨(0:Int),(0:Int),(0:Int)⟩:D.Qc)⟩:D.Qn)))).bind fun o=>aft o (z8Y fuel)) else none)

theorem laws_toShardRedexS_ok {W w:World}(hE:Ext W w){H:Option Addr}{o0:Nat}{x0:(List D.Qn)}(u0:zgW.ro W [sl H x0 o0] x0){fuel:Nat}{r:(List D.Qn)}(hm:z3K fuel x0=some r):
  Calls Tryz.prog 229 ⟨[sl H x0 o0]⟩ w (Ret fun v w8=>∃ A0 k0,v=sl A0 r k0∧St w w8 [ow z4a A0 r k0]):=by
 refine into Tryz.func229 23 _ ?_;unfold z3K at hm;have hS:=St.start w;refine sq<|rg<|rr 1 ?_;refine rn<|sq<|rg<|rr 2 ?_;obtain⟨y0,hm⟩:=iS hm;have hz7:=of_decide_eq_true y0;refine mS (U:=zad) (⟨(⟨(0:Int),(0:Int),(0:Int)⟩:D.Qc),(⟨(0:Int),(0:Int),(0:Int)⟩:D.Qc)⟩:D.Qn) hS hz7 (fun _=>(zfP (c:=(⟨(⟨(0:Int),(0:Int),(0:Int)⟩:D.Qc),(⟨(0:Int),(0:Int),(0:Int)⟩:D.Qc)⟩:D.Qn)) rfl)) (fun A2 k3 w4 e5 v0=>?_);refine rr 1 ?_;refine rn<|sq<|sq<|rg<|rr 1 ?_;refine rn ?_;obtain⟨B0,e0,hm⟩:=bS hm;refine ct (fun(q0:(List D.Qn)) F w9=>B0=.inl q0∧St w w9 [Own z4a [.slice A2 (List.replicate (x0.length:Int).toNat (⟨(⟨(0:Int),(0:Int),(0:Int)⟩:D.Qc),(⟨(0:Int),(0:Int),(0:Int)⟩:D.Qc)⟩:D.Qn)).length k3] q0]∧F=[(3,.slice A2 (List.replicate (x0.length:Int).toNat (⟨(⟨(0:Int),(0:Int),(0:Int)⟩:D.Qc),(⟨(0:Int),(0:Int),(0:Int)⟩:D.Qc)⟩:D.Qn)).length k3)]) ?_ ?_
 ·rintro q0 F G0 ⟨f0,q,rfl⟩;subst f0;rw [z8] at hm;unfold z8Y at hm;refine sq<|rg<|rr 2 ?_;refine rn<|rt ?_;cases hm;have hn18:=(q.bring 0 rfl).lenEq;have S:=(q.bring 0 rfl).reLen hn18;exact⟨_,.cons (.tmp rfl) .nil,A2,k3,(by first | (simp only [sl,hn18];done) | (simp only [sl,hn18];rfl)),S⟩
 ·refine bk<|wk [0,3,4] ?_;refine it (fun(p0:Int × (List D.Qn)) F w9=>St w w9 [Own z4a [.slice A2 (List.replicate (x0.length:Int).toNat (⟨(⟨(0:Int),(0:Int),(0:Int)⟩:D.Qc),(⟨(0:Int),(0:Int),(0:Int)⟩:D.Qc)⟩:D.Qn)).length k3] p0.2]∧F=[(0,sl H x0 o0),(3,.slice A2 (List.replicate (x0.length:Int).toNat (⟨(⟨(0:Int),(0:Int),(0:Int)⟩:D.Qc),(⟨(0:Int),(0:Int),(0:Int)⟩:D.Qc)⟩:D.Qn)).length k3),(4,.int .i64 p0.1)]) e0 ⟨v0,rfl⟩ ?_;rintro p0 F H0 _ D0 ⟨h,rfl⟩ d g0;unfold z44 at d;refine sq<|sq<|rg<|rr 4 ?_;refine rn<|ci d (fun d=>?_) (fun d=>?_)
  ·refine sp<|sq<|bk<|rg<|rr 4 ?_;obtain⟨L0,i0,d⟩:=bS d;refine ix (hE.trans h.ext) u0 i0 (fun E0 t0 b0 G=>?_);have r0:=zfM G;subst r0;refine lN (At.ext (hE.trans h.ext) b0) ?_;obtain⟨C0,j0,d⟩:=bS d;refine ca zkF (laws_toShardRedex_ok (hE.trans h.ext) G j0) (fun F0 J0 M=>?_);obtain⟨rfl,O⟩:=M;have X:=h.join O;have y:=X.bring 0 rfl;obtain⟨d0,d⟩:=iS d;have o:=of_decide_eq_true d0;refine io y o.1 o.2 (fun q42 hq43=>?_);have Y:=zen (c:=C0) (B:=_) y;have Z:=Y.bring 1 rfl;refine se Z o.2 hq43 (fun K0 a0=>?_);refine rn<|rg<|rr 3 ?_;refine rn ?_;cases d;exact⟨_,_,rfl,⟨a0,rfl⟩,rfl⟩
  ·refine xt ?_;cases d;exact⟨_,_,⟨g0,h,rfl⟩,rfl⟩

theorem zmw:Enters Tryz.prog 180:=⟨_,_,Tryz.func180,rfl,by kernel_rfl⟩
def z8b (fuel:Nat) (x0:D.Qv):Option (D.Qv):=((z4z fuel x0.Cells).bind fun d=>((z5n fuel x0.QM).bind fun h=>((z3K fuel x0.Qu).bind fun o=>some (⟨d,h,o⟩:D.Qv))))

theorem laws_toShard_ok {W w:World}(hE:Ext W w){q0:List Value}{x0:D.Qv}(y0:zib.ro W q0 x0){fuel:Nat}{r:D.Qv}(hm:z8b fuel x0=some r):
  Calls Tryz.prog 180 ⟨[.agg ⟨q0⟩]⟩ w (Ret fun v w8=>∃ A0 k0 A1 k1 A2 k2,v=.agg ⟨[sl A0 r.Cells k0,sl A1 r.QM k1,sl A2 r.Qu k2]⟩∧St w w8 [ow z7T A0 r.Cells k0,ow z4S A1 r.QM k1,ow z4a A2 r.Qu k2]):=by
 obtain⟨A1,k2,A4,k5,A7,M0,v0,h3,h6,B0⟩:=zcg y0;subst v0;refine into Tryz.func180 17 _ ?_;unfold z8b at hm;have hS:=St.start w;refine sq<|rg<|nw hS (fun J0 T0 F0 Y=>?_);refine nw Y (fun K0 U0 G0 Z=>?_);refine rn<|sq<|rg<|nw Z (fun L0 V0 H0 d=>?_);refine rn<|sq<|rg<|rr 1 ?_;refine l1 ((d.bring 2 rfl).box) 0 ?_;obtain⟨N0,j0,hm⟩:=bS hm;refine ca zkZ (laws_toShardCellS_ok (hE.trans d.ext) h3 j0) (fun Q0 X0 G=>?_);obtain⟨r0,C0,rfl,H⟩:=G;have a0:=d.join H;refine rr 1 ?_;have b0:=a0.bring 1 rfl;refine so (A:=[]) b0 0 (fun Y0 h=>?_);refine rn<|sq<|rg<|rr 1 ?_;refine l1 ((h.bring 3 rfl).box) 1 ?_;obtain⟨O0,o0,hm⟩:=bS hm;refine ca zkY (laws_toShardVarS_ok (hE.trans h.ext) h6 o0) (fun R0 a1 M=>?_);obtain⟨t0,D0,rfl,O⟩:=M;have d0:=h.join O;refine rr 1 ?_;have e0:=d0.bring 1 rfl;refine so (A:=[]) e0 1 (fun b1 o=>?_);refine rn<|sq<|rg<|rr 1 ?_;refine l1 ((o.bring 4 rfl).box) 2 ?_;obtain⟨P0,p0,hm⟩:=bS hm;refine ca zkX (laws_toShardRedexS_ok (hE.trans o.ext) B0 p0) (fun S0 d1 S=>?_);obtain⟨u0,E0,rfl,X⟩:=S;have f0:=o.join X;refine rr 1 ?_;have g0:=f0.bring 1 rfl;refine so (A:=[]) g0 2 (fun e1 q=>?_);refine rn<|sq<|rg<|lN ((q.bring 0 rfl).box) ?_;have i0:=q.bring 4 rfl;refine so (A:=[]) i0 0 (fun f1 y=>?_);refine rn<|rt ?_;cases hm;exact⟨_,.cons (ra ((y.bring 0 rfl).box)) .nil,r0,C0,t0,D0,u0,E0,rfl,((((y.bring 2 rfl).bring 3 rfl).bring 4 rfl).taken 3)⟩

theorem zn1:Enters Tryz.prog 125:=⟨_,_,Tryz.func125,rfl,by kernel_rfl⟩
def zaQ (fuel:Nat) (d:(List D.Qv)):Option (List D.Qv):=some d
def z7k (fuel:Nat) (x0:(List D.Qv)) (d:Int × (List D.Qv)):Option (Rd (Int × (List D.Qv)) ((List D.Qv)) ((List D.Qv))):=(if(decide (d.1<(x0.length:Int)))=true then((idx x0 d.1).bind fun o=>((z8b fuel o).bind fun h=>(if decide (0≤d.1∧d.1.toNat<d.2.length)=true then some (.next (w64 (d.1+1),(d.2.set d.1.toNat h))) else none))) else some (.brk d.2))
def z7A (fuel:Nat) (x0:(List D.Qv)):Option ((List D.Qv)):=(if decide (0≤(x0.length:Int)∧(x0.length:Int)≤4294967296)=true then((iter (z7k fuel x0) fuel (0,(List.replicate (x0.length:Int).toNat (⟨([]:(List D.Qd)),([]:(List D.Qp)),([]:(List D.Qn))⟩:D.Qv)))).bind fun o=>aft o (zaQ fuel)) else none)

theorem laws_toShardS_ok {W w:World}(hE:Ext W w){H:Option Addr}{r0:Nat}{x0:(List D.Qv)}(B0:ty22.ro W [sl H x0 r0] x0){fuel:Nat}{r:(List D.Qv)}(hm:z7A fuel x0=some r):
  Calls Tryz.prog 125 ⟨[sl H x0 r0]⟩ w (Ret fun v w8=>∃ A0 k0,v=sl A0 r k0∧St w w8 [ow ty34 A0 r k0]):=by
 refine into Tryz.func125 23 _ ?_;unfold z7A at hm;have hS:=St.start w;refine sq<|rg<|rr 1 ?_;refine rn<|sq<|rg<|rr 2 ?_;obtain⟨D0,hm⟩:=iS hm;have hz7:=of_decide_eq_true D0;refine mS (U:=z84) (⟨([]:(List D.Qd)),([]:(List D.Qp)),([]:(List D.Qn))⟩:D.Qv) hS hz7 (fun _=>(zfV (c:=(⟨([]:(List D.Qd)),([]:(List D.Qp)),([]:(List D.Qn))⟩:D.Qv)) ⟨[],[],rfl,(slNilOwn z2C 154 _),⟨[],[],rfl,(slNilOwn z9R 223 _),⟨[],[],rfl,(slNilOwn zad 239 _),rfl⟩⟩⟩)) (fun A2 k3 w4 e5 C0=>?_);refine rr 1 ?_;refine rn<|sq<|sq<|rg<|rr 1 ?_;refine rn ?_;obtain⟨E0,i0,hm⟩:=bS hm;refine ct (fun(u0:(List D.Qv)) F w9=>E0=.inl u0∧St w w9 [Own ty34 [.slice A2 (List.replicate (x0.length:Int).toNat (⟨([]:(List D.Qd)),([]:(List D.Qp)),([]:(List D.Qn))⟩:D.Qv)).length k3] u0]∧F=[(3,.slice A2 (List.replicate (x0.length:Int).toNat (⟨([]:(List D.Qd)),([]:(List D.Qp)),([]:(List D.Qn))⟩:D.Qv)).length k3)]) ?_ ?_
 ·rintro u0 F b1 ⟨j0,q,rfl⟩;subst j0;rw [z8] at hm;unfold zaQ at hm;refine sq<|rg<|rr 2 ?_;refine rn<|rt ?_;cases hm;have hn18:=(q.bring 0 rfl).lenEq;have S:=(q.bring 0 rfl).reLen hn18;exact⟨_,.cons (.tmp rfl) .nil,A2,k3,(by first | (simp only [sl,hn18];done) | (simp only [sl,hn18];rfl)),S⟩
 ·refine bk<|wk [0,3,4] ?_;refine it (fun(t0:Int × (List D.Qv)) F w9=>St w w9 [Own ty34 [.slice A2 (List.replicate (x0.length:Int).toNat (⟨([]:(List D.Qd)),([]:(List D.Qp)),([]:(List D.Qn))⟩:D.Qv)).length k3] t0.2]∧F=[(0,sl H x0 r0),(3,.slice A2 (List.replicate (x0.length:Int).toNat (⟨([]:(List D.Qd)),([]:(List D.Qp)),([]:(List D.Qn))⟩:D.Qv)).length k3),(4,.int .i64 t0.1)]) i0 ⟨C0,rfl⟩ ?_;rintro t0 F d1 _ X0 ⟨h,rfl⟩ d o0;unfold z7k at d;refine sq<|sq<|rg<|rr 4 ?_;refine rn<|ci d (fun d=>?_) (fun d=>?_)
  ·refine sp<|sq<|bk<|rg<|rr 4 ?_;obtain⟨g1,p0,d⟩:=bS d;refine ix (hE.trans h.ext) B0 p0 (fun Y0 y0 f0 G=>?_);obtain⟨G0,Q0,H0,R0,J0,S0,v0,N0,O0,P0⟩:=zcg G;subst v0;refine lN (At.ext (hE.trans h.ext) f0) ?_;obtain⟨F0,q0,d⟩:=bS d;refine ca zmw (laws_toShard_ok (hE.trans h.ext) G q0) (fun a1 e1 M=>?_);obtain⟨K0,T0,L0,U0,M0,V0,rfl,O⟩:=M;have X:=h.join O;have y:=X.bring 3 rfl;obtain⟨g0,d⟩:=iS d;have o:=of_decide_eq_true g0;refine io y o.1 o.2 (fun q57 hq58=>?_);have Y:=y.bring 3 rfl;have Z:=Y.bring 3 rfl;have a0:=Z.bring 3 rfl;have b0:=zbs (c:=F0) (B:=_) a0;have d0:=b0.bring 1 rfl;refine se d0 o.2 hq58 (fun f1 e0=>?_);refine rn<|rg<|rr 3 ?_;refine rn ?_;cases d;exact⟨_,_,rfl,⟨e0,rfl⟩,rfl⟩
  ·refine xt ?_;cases d;exact⟨_,_,⟨o0,h,rfl⟩,rfl⟩

theorem zoE:Enters Tryz.prog 64:=⟨_,_,Tryz.func64,rfl,by kernel_rfl⟩
def z8Z (fuel:Nat) (x0:D.Qe):Option (D.Qe):=((z7A fuel x0.Qg).bind fun h=>((z1q fuel x0.Qo).bind fun d=>some (⟨h,(⟨d.Qb,d.Qj,d.Qk⟩:D.Qc)⟩:D.Qe)))

theorem laws_toGrid_ok {W w:World}(hE:Ext W w){f0:List Value}{x0:D.Qe}(i0:ty26.ro W f0 x0){fuel:Nat}{r:D.Qe}(hm:z8Z fuel x0=some r):
  Calls Tryz.prog 64 ⟨[.agg ⟨f0⟩]⟩ w (Ret fun v w8=>∃ A0 k0,v=.agg ⟨[sl A0 r.Qg k0,.int .i64 r.Qo.Qb,.int .i64 r.Qo.Qj,.int .i64 r.Qo.Qk]⟩∧St w w8 [ow ty34 A0 r.Qg k0]):=by
 obtain⟨A1,k2,e4,h3⟩:=zek i0;subst e4;refine into Tryz.func64 13 _ ?_;unfold z8Z at hm;have hS:=St.start w;refine sq<|rg<|nw hS (fun g5 w6 e7 O=>?_);refine nw O (fun q0 B0 o0 S=>?_);refine rn<|sq<|rg<|nw S (fun r0 C0 p0 d=>?_);refine rn<|sq<|rg<|rr 1 ?_;refine l1 ((d.bring 2 rfl).box) 0 ?_;obtain⟨t0,d0,hm⟩:=bS hm;refine ca zn1 (laws_toShardS_ok (hE.trans d.ext) h3 d0) (fun v0 D0 y=>?_);obtain⟨g0,j0,rfl,G⟩:=y;have X:=d.join G;refine rr 1 ?_;have Y:=X.bring 1 rfl;refine so (A:=[]) Y 0 (fun E0 h=>?_);refine rn<|sq<|rg<|rr 1 ?_;refine lN (At.sub ((h.bring 3 rfl).box) 1 3) ?_;obtain⟨u0,e0,hm⟩:=bS hm;refine ca zaF (laws_toAddress_ok (hE.trans h.ext) (zai x0.Qo) e0) (fun y0 F0 H=>?_);obtain⟨rfl,M⟩:=H;have Z:=h.join M;refine rr 1 ?_;have a0:=Z.bring 0 rfl;refine so (A:=[]) a0 1 (fun G0 o=>?_);refine rn<|sq<|rg<|lN ((o.bring 0 rfl).box) ?_;have b0:=o.bring 2 rfl;refine so (A:=[]) b0 0 (fun H0 q=>?_);refine rn<|rt ?_;cases hm;exact⟨_,.cons (ra ((q.bring 0 rfl).box)) .nil,g0,j0,rfl,((q.bring 2 rfl).taken 1)⟩

theorem zmv:Enters Tryz.prog 181:=⟨_,_,Tryz.func181,rfl,by kernel_rfl⟩
def z7B (fuel:Nat) (x0:D.Qi):Option (D.Qi):=((z3u fuel x0.Qz).bind fun d=>((z1q fuel x0.A).bind fun h=>((z1q fuel x0.B).bind fun o=>some (⟨x0.Qj,(⟨d.Qj,d.QO,d.Value,d.Data,d.QY⟩:D.Qd),(⟨h.Qb,h.Qj,h.Qk⟩:D.Qc),(⟨o.Qb,o.Qj,o.Qk⟩:D.Qc)⟩:D.Qi))))

theorem laws_toParcel_ok {W w:World}(hE:Ext W w){t0:List Value}{x0:D.Qi}(y0:zia.ro W t0 x0){fuel:Nat}{r:D.Qi}(hm:z7B fuel x0=some r):
  Calls Tryz.prog 181 ⟨[.agg ⟨t0⟩]⟩ w (Ret fun v w8=>∃ A0 k0 A1 k1,v=.agg ⟨[.int .i64 r.Qj,.int .i64 r.Qz.Qj,.int .i64 r.Qz.QO,.int .i64 r.Qz.Value,sl A0 r.Qz.Data k0,sl A1 r.Qz.QY k1,.int .i64 r.A.Qb,.int .i64 r.A.Qj,.int .i64 r.A.Qk,.int .i64 r.B.Qb,.int .i64 r.B.Qj,.int .i64 r.B.Qk]⟩∧St w w8 [ow ty29 A0 r.Qz.Data k0,ow z3h A1 r.Qz.QY k1]):=by
 obtain⟨A1,k2,A4,k5,e7,h3,h6⟩:=zcf y0;subst e7;refine into Tryz.func181 20 _ ?_;unfold z7B at hm;have hS:=St.start w;refine sq<|rg<|nw hS (fun G0 Q0 D0 Z=>?_);refine nw Z (fun H0 R0 E0 a0=>?_);refine rn<|sq<|rg<|nw a0 (fun J0 S0 F0 q=>?_);refine rn<|sq<|rg<|rr 1 ?_;refine l1 ((q.bring 2 rfl).box) 0 ?_;refine rr 1 ?_;have b0:=q.bring 0 rfl;refine so (A:=[]) b0 0 (fun T0 d=>?_);refine rn<|sq<|rg<|rr 1 ?_;refine lN (At.sub ((d.bring 2 rfl).box) 1 5) ?_;obtain⟨K0,p0,hm⟩:=bS hm;refine ca zhC (laws_toShardCell_ok (hE.trans d.ext) (zfT x0.Qz h3 h6) p0) (fun N0 U0 H=>?_);obtain⟨u0,B0,v0,C0,rfl,M⟩:=H;have d0:=d.join M;refine rr 1 ?_;have e0:=d0.bring 2 rfl;refine so (A:=[]) e0 1 (fun V0 h=>?_);refine rn<|sq<|rg<|rr 1 ?_;refine lN (At.sub ((h.bring 4 rfl).box) 6 3) ?_;obtain⟨L0,q0,hm⟩:=bS hm;refine ca zaF (laws_toAddress_ok (hE.trans h.ext) (zai x0.A) q0) (fun O0 X0 O=>?_);obtain⟨rfl,S⟩:=O;have f0:=h.join S;refine rr 1 ?_;have g0:=f0.bring 0 rfl;refine so (A:=[]) g0 6 (fun Y0 o=>?_);refine rn<|sq<|rg<|rr 1 ?_;refine lN (At.sub ((o.bring 4 rfl).box) 9 3) ?_;obtain⟨M0,r0,hm⟩:=bS hm;refine ca zaF (laws_toAddress_ok (hE.trans o.ext) (zai x0.B) r0) (fun P0 a1 X=>?_);obtain⟨rfl,Y⟩:=X;have i0:=o.join Y;refine rr 1 ?_;have j0:=i0.bring 0 rfl;refine so (A:=[]) j0 9 (fun b1 y=>?_);refine rn<|sq<|rg<|lN ((y.bring 0 rfl).box) ?_;have o0:=y.bring 3 rfl;refine so (A:=[]) o0 0 (fun d1 G=>?_);refine rn<|rt ?_;cases hm;exact⟨_,.cons (ra ((G.bring 0 rfl).box)) .nil,u0,B0,v0,C0,rfl,(((G.bring 3 rfl).bring 3 rfl).taken 2)⟩

theorem zn0:Enters Tryz.prog 127:=⟨_,_,Tryz.func127,rfl,by kernel_rfl⟩
def zat (fuel:Nat) (d:(List D.Qi)):Option (List D.Qi):=some d
def z6A (fuel:Nat) (x0:(List D.Qi)) (d:Int × (List D.Qi)):Option (Rd (Int × (List D.Qi)) ((List D.Qi)) ((List D.Qi))):=(if(decide (d.1<(x0.length:Int)))=true then((idx x0 d.1).bind fun o=>((z7B fuel o).bind fun h=>(if decide (0≤d.1∧d.1.toNat<d.2.length)=true then some (.next (w64 (d.1+1),(d.2.set d.1.toNat h))) else none))) else some (.brk d.2))
def z6V (fuel:Nat) (x0:(List D.Qi)):Option ((List D.Qi)):=(if decide (0≤(x0.length:Int)∧(x0.length:Int)≤4294967296)=true then((iter (z6A fuel x0) fuel (0,(List.replicate (x0.length:Int).toNat (⟨(0:Int),(⟨(0:Int),(0:Int),(0:Int),([]:(List Int)),([]:(List D.Qc))⟩:D.Qd),(⟨(0:Int),(0:Int),(0:Int)⟩:D.Qc),(⟨(0:Int),(0:Int),(0:Int)⟩:D.Qc)⟩:D.Qi)))).bind fun o=>aft o (zat fuel)) else none)

theorem laws_toParcelS_ok {W w:World}(hE:Ext W w){H:Option Addr}{q0:Nat}{x0:(List D.Qi)}(y0:zif.ro W [sl H x0 q0] x0){fuel:Nat}{r:(List D.Qi)}(hm:z6V fuel x0=some r):
  Calls Tryz.prog 127 ⟨[sl H x0 q0]⟩ w (Ret fun v w8=>∃ A0 k0,v=sl A0 r k0∧St w w8 [ow z62 A0 r k0]):=by
 refine into Tryz.func127 23 _ ?_;unfold z6V at hm;have hS:=St.start w;refine sq<|rg<|rr 1 ?_;refine rn<|sq<|rg<|rr 2 ?_;obtain⟨C0,hm⟩:=iS hm;have hz7:=of_decide_eq_true C0;refine mS (U:=z85) (⟨(0:Int),(⟨(0:Int),(0:Int),(0:Int),([]:(List Int)),([]:(List D.Qc))⟩:D.Qd),(⟨(0:Int),(0:Int),(0:Int)⟩:D.Qc),(⟨(0:Int),(0:Int),(0:Int)⟩:D.Qc)⟩:D.Qi) hS hz7 (fun _=>(zfW (c:=(⟨(0:Int),(⟨(0:Int),(0:Int),(0:Int),([]:(List Int)),([]:(List D.Qc))⟩:D.Qd),(⟨(0:Int),(0:Int),(0:Int)⟩:D.Qc),(⟨(0:Int),(0:Int),(0:Int)⟩:D.Qc)⟩:D.Qi)) ⟨[],[],rfl,(slNilOwn tInt 2 _),⟨[],[],rfl,(slNilOwn ty35 35 _),rfl⟩⟩)) (fun A2 k3 w4 e5 B0=>?_);refine rr 1 ?_;refine rn<|sq<|sq<|rg<|rr 1 ?_;refine rn ?_;obtain⟨D0,g0,hm⟩:=bS hm;refine ct (fun(t0:(List D.Qi)) F w9=>D0=.inl t0∧St w w9 [Own z62 [.slice A2 (List.replicate (x0.length:Int).toNat (⟨(0:Int),(⟨(0:Int),(0:Int),(0:Int),([]:(List Int)),([]:(List D.Qc))⟩:D.Qd),(⟨(0:Int),(0:Int),(0:Int)⟩:D.Qc),(⟨(0:Int),(0:Int),(0:Int)⟩:D.Qc)⟩:D.Qi)).length k3] t0]∧F=[(3,.slice A2 (List.replicate (x0.length:Int).toNat (⟨(0:Int),(⟨(0:Int),(0:Int),(0:Int),([]:(List Int)),([]:(List D.Qc))⟩:D.Qd),(⟨(0:Int),(0:Int),(0:Int)⟩:D.Qc),(⟨(0:Int),(0:Int),(0:Int)⟩:D.Qc)⟩:D.Qi)).length k3)]) ?_ ?_
 ·rintro t0 F T0 ⟨i0,q,rfl⟩;subst i0;rw [z8] at hm;unfold zat at hm;refine sq<|rg<|rr 2 ?_;refine rn<|rt ?_;cases hm;have hn18:=(q.bring 0 rfl).lenEq;have S:=(q.bring 0 rfl).reLen hn18;exact⟨_,.cons (.tmp rfl) .nil,A2,k3,(by first | (simp only [sl,hn18];done) | (simp only [sl,hn18];rfl)),S⟩
 ·refine bk<|wk [0,3,4] ?_;refine it (fun(r0:Int × (List D.Qi)) F w9=>St w w9 [Own z62 [.slice A2 (List.replicate (x0.length:Int).toNat (⟨(0:Int),(⟨(0:Int),(0:Int),(0:Int),([]:(List Int)),([]:(List D.Qc))⟩:D.Qd),(⟨(0:Int),(0:Int),(0:Int)⟩:D.Qc),(⟨(0:Int),(0:Int),(0:Int)⟩:D.Qc)⟩:D.Qi)).length k3] r0.2]∧F=[(0,sl H x0 q0),(3,.slice A2 (List.replicate (x0.length:Int).toNat (⟨(0:Int),(⟨(0:Int),(0:Int),(0:Int),([]:(List Int)),([]:(List D.Qc))⟩:D.Qd),(⟨(0:Int),(0:Int),(0:Int)⟩:D.Qc),(⟨(0:Int),(0:Int),(0:Int)⟩:D.Qc)⟩:D.Qi)).length k3),(4,.int .i64 r0.1)]) g0 ⟨B0,rfl⟩ ?_;rintro r0 F U0 _ Q0 ⟨h,rfl⟩ d j0;unfold z6A at d;refine sq<|sq<|rg<|rr 4 ?_;refine rn<|ci d (fun d=>?_) (fun d=>?_)
  ·refine sp<|sq<|bk<|rg<|rr 4 ?_;obtain⟨Y0,o0,d⟩:=bS d;refine ix (hE.trans h.ext) y0 o0 (fun R0 v0 e0 G=>?_);obtain⟨F0,M0,G0,N0,u0,K0,L0⟩:=zcf G;subst u0;refine lN (At.ext (hE.trans h.ext) e0) ?_;obtain⟨E0,p0,d⟩:=bS d;refine ca zmv (laws_toParcel_ok (hE.trans h.ext) G p0) (fun S0 V0 M=>?_);obtain⟨H0,O0,J0,P0,rfl,O⟩:=M;have X:=h.join O;have y:=X.bring 2 rfl;obtain⟨f0,d⟩:=iS d;have o:=of_decide_eq_true f0;refine io y o.1 o.2 (fun q52 hq53=>?_);have Y:=y.bring 2 rfl;have Z:=Y.bring 2 rfl;have a0:=z9r (c:=E0) (B:=_) Z;have b0:=a0.bring 1 rfl;refine se b0 o.2 hq53 (fun X0 d0=>?_);refine rn<|rg<|rr 3 ?_;refine rn ?_;cases d;exact⟨_,_,rfl,⟨d0,rfl⟩,rfl⟩
  ·refine xt ?_;cases d;exact⟨_,_,⟨j0,h,rfl⟩,rfl⟩

theorem zoD:Enters Tryz.prog 65:=⟨_,_,Tryz.func65,rfl,by kernel_rfl⟩
def za1 (fuel:Nat) (d:(List (List D.Qi))):Option (List (List D.Qi)):=some d
def z5N (fuel:Nat) (x0:(List (List D.Qi))) (d:Int × (List (List D.Qi))):Option (Rd (Int × (List (List D.Qi))) ((List (List D.Qi))) ((List (List D.Qi)))):=(if(decide (d.1<(x0.length:Int)))=true then((idx x0 d.1).bind fun o=>((z6V fuel o).bind fun h=>(if decide (0≤d.1∧d.1.toNat<d.2.length)=true then some (.next (w64 (d.1+1),(d.2.set d.1.toNat h))) else none))) else some (.brk d.2))
def z6g (fuel:Nat) (x0:(List (List D.Qi))):Option ((List (List D.Qi))):=(if decide (0≤(x0.length:Int)∧(x0.length:Int)≤4294967296)=true then((iter (z5N fuel x0) fuel (0,(List.replicate (x0.length:Int).toNat ([]:(List D.Qi))))).bind fun o=>aft o (za1 fuel)) else none)

theorem laws_toParcelSS_ok {W w:World}(hE:Ext W w){H:Option Addr}{o0:Nat}{x0:(List (List D.Qi))}(u0:ty27.ro W [sl H x0 o0] x0){fuel:Nat}{r:(List (List D.Qi))}(hm:z6g fuel x0=some r):
  Calls Tryz.prog 65 ⟨[sl H x0 o0]⟩ w (Ret fun v w8=>∃ A0 k0,v=sl A0 r k0∧St w w8 [ow ty38 A0 r k0]):=by
 refine into Tryz.func65 23 _ ?_;unfold z6g at hm;have hS:=St.start w;refine sq<|rg<|rr 1 ?_;refine rn<|sq<|rg<|rr 2 ?_;obtain⟨y0,hm⟩:=iS hm;have hz7:=of_decide_eq_true y0;refine mS (U:=z62) ([]:(List D.Qi)) hS hz7 (fun _=>(slNilOwn z85 156 _)) (fun A2 k3 w4 e5 v0=>?_);refine rr 1 ?_;refine rn<|sq<|sq<|rg<|rr 1 ?_;refine rn ?_;obtain⟨B0,e0,hm⟩:=bS hm;refine ct (fun(q0:(List (List D.Qi))) F w9=>B0=.inl q0∧St w w9 [Own ty38 [sl A2 (List.replicate (x0.length:Int).toNat ([]:(List D.Qi))) k3] q0]∧F=[(3,sl A2 (List.replicate (x0.length:Int).toNat ([]:(List D.Qi))) k3)]) ?_ ?_
 ·rintro q0 F L0 ⟨f0,q,rfl⟩;subst f0;rw [z8] at hm;unfold za1 at hm;refine sq<|rg<|rr 2 ?_;refine rn<|rt ?_;cases hm;have hn18:=(q.bring 0 rfl).lenEq;have S:=(q.bring 0 rfl).reLen hn18;exact⟨_,.cons (.tmp rfl) .nil,A2,k3,(by first | (simp only [sl,hn18];done) | (simp only [sl,hn18];rfl)),S⟩
 ·refine bk<|wk [0,3,4] ?_;refine it (fun(p0:Int × (List (List D.Qi))) F w9=>St w w9 [Own ty38 [sl A2 (List.replicate (x0.length:Int).toNat ([]:(List D.Qi))) k3] p0.2]∧F=[(0,sl H x0 o0),(3,sl A2 (List.replicate (x0.length:Int).toNat ([]:(List D.Qi))) k3),(4,.int .i64 p0.1)]) e0 ⟨v0,rfl⟩ ?_;rintro p0 F M0 _ G0 ⟨h,rfl⟩ d g0;unfold z5N at d;refine sq<|sq<|rg<|rr 4 ?_;refine rn<|ci d (fun d=>?_) (fun d=>?_)
  ·refine sp<|sq<|bk<|rg<|rr 4 ?_;obtain⟨P0,i0,d⟩:=bS d;refine ix (hE.trans h.ext) u0 i0 (fun H0 t0 b0 G=>?_);obtain⟨C0,E0,r0⟩:=zfX G;subst r0;refine l1 (At.ext (hE.trans h.ext) b0) 0 ?_;obtain⟨J0,j0,d⟩:=bS d;refine ca zn0 (laws_toParcelS_ok (hE.trans h.ext) G j0) (fun K0 N0 M=>?_);obtain⟨D0,F0,rfl,O⟩:=M;have X:=h.join O;have y:=X.bring 1 rfl;obtain⟨d0,d⟩:=iS d;have o:=of_decide_eq_true d0;refine io y o.1 o.2 (fun q46 hq47=>?_);have Y:=y.bring 1 rfl;have Z:=Y.bring 1 rfl;refine se Z o.2 hq47 (fun O0 a0=>?_);refine rn<|rg<|rr 3 ?_;refine rn ?_;cases d;exact⟨_,_,rfl,⟨a0,rfl⟩,rfl⟩
  ·refine xt ?_;cases d;exact⟨_,_,⟨g0,h,rfl⟩,rfl⟩

theorem zoC:Enters Tryz.prog 66:=⟨_,_,Tryz.func66,rfl,by kernel_rfl⟩
def zau (fuel:Nat) (d:(List (List Int))):Option (List (List Int)):=some d
def z6B (fuel:Nat) (x0:(List (List Int))) (d:Int × (List (List Int))):Option (Rd (Int × (List (List Int))) ((List (List Int))) ((List (List Int)))):=(if(decide (d.1<(x0.length:Int)))=true then((idx x0 d.1).bind fun o=>((z37 fuel o).bind fun h=>(if decide (0≤d.1∧d.1.toNat<d.2.length)=true then some (.next (w64 (d.1+1),(d.2.set d.1.toNat h))) else none))) else some (.brk d.2))
def z6W (fuel:Nat) (x0:(List (List Int))):Option ((List (List Int))):=(if decide (0≤(x0.length:Int)∧(x0.length:Int)≤4294967296)=true then((iter (z6B fuel x0) fuel (0,(List.replicate (x0.length:Int).toNat ([]:(List Int))))).bind fun o=>aft o (zau fuel)) else none)

theorem laws_toInt64SS_ok {W w:World}(hE:Ext W w){H:Option Addr}{o0:Nat}{x0:(List (List Int))}(u0:ty28.ro W [sl H x0 o0] x0){fuel:Nat}{r:(List (List Int))}(hm:z6W fuel x0=some r):
  Calls Tryz.prog 66 ⟨[sl H x0 o0]⟩ w (Ret fun v w8=>∃ A0 k0,v=sl A0 r k0∧St w w8 [ow ty28 A0 r k0]):=by
 refine into Tryz.func66 23 _ ?_;unfold z6W at hm;have hS:=St.start w;refine sq<|rg<|rr 1 ?_;refine rn<|sq<|rg<|rr 2 ?_;obtain⟨y0,hm⟩:=iS hm;have hz7:=of_decide_eq_true y0;refine mS (U:=ty29) ([]:(List Int)) hS hz7 (fun _=>(slNilOwn tInt 2 _)) (fun A2 k3 w4 e5 v0=>?_);refine rr 1 ?_;refine rn<|sq<|sq<|rg<|rr 1 ?_;refine rn ?_;obtain⟨B0,e0,hm⟩:=bS hm;refine ct (fun(q0:(List (List Int))) F w9=>B0=.inl q0∧St w w9 [Own ty28 [sl A2 (List.replicate (x0.length:Int).toNat ([]:(List Int))) k3] q0]∧F=[(3,sl A2 (List.replicate (x0.length:Int).toNat ([]:(List Int))) k3)]) ?_ ?_
 ·rintro q0 F L0 ⟨f0,q,rfl⟩;subst f0;rw [z8] at hm;unfold zau at hm;refine sq<|rg<|rr 2 ?_;refine rn<|rt ?_;cases hm;have hn18:=(q.bring 0 rfl).lenEq;have S:=(q.bring 0 rfl).reLen hn18;exact⟨_,.cons (.tmp rfl) .nil,A2,k3,(by first | (simp only [sl,hn18];done) | (simp only [sl,hn18];rfl)),S⟩
 ·refine bk<|wk [0,3,4] ?_;refine it (fun(p0:Int × (List (List Int))) F w9=>St w w9 [Own ty28 [sl A2 (List.replicate (x0.length:Int).toNat ([]:(List Int))) k3] p0.2]∧F=[(0,sl H x0 o0),(3,sl A2 (List.replicate (x0.length:Int).toNat ([]:(List Int))) k3),(4,.int .i64 p0.1)]) e0 ⟨v0,rfl⟩ ?_;rintro p0 F M0 _ G0 ⟨h,rfl⟩ d g0;unfold z6B at d;refine sq<|sq<|rg<|rr 4 ?_;refine rn<|ci d (fun d=>?_) (fun d=>?_)
  ·refine sp<|sq<|bk<|rg<|rr 4 ?_;obtain⟨P0,i0,d⟩:=bS d;refine ix (hE.trans h.ext) u0 i0 (fun H0 t0 b0 G=>?_);obtain⟨C0,E0,r0⟩:=z1F G;subst r0;refine l1 (At.ext (hE.trans h.ext) b0) 0 ?_;obtain⟨J0,j0,d⟩:=bS d;refine ca zea (laws_toInt64S_ok (hE.trans h.ext) G j0) (fun K0 N0 M=>?_);obtain⟨D0,F0,rfl,O⟩:=M;have X:=h.join O;have y:=X.bring 1 rfl;obtain⟨d0,d⟩:=iS d;have o:=of_decide_eq_true d0;refine io y o.1 o.2 (fun q46 hq47=>?_);have Y:=y.bring 1 rfl;have Z:=Y.bring 1 rfl;refine se Z o.2 hq47 (fun O0 a0=>?_);refine rn<|rg<|rr 3 ?_;refine rn ?_;cases d;exact⟨_,_,rfl,⟨a0,rfl⟩,rfl⟩
  ·refine xt ?_;cases d;exact⟨_,_,⟨g0,h,rfl⟩,rfl⟩

theorem zoR:Enters Tryz.prog 17:=⟨_,_,Tryz.func17,rfl,by kernel_rfl⟩
def z6X (fuel:Nat) (x0:D.Qa):Option (D.Qa):=((z8Z fuel x0.Qe).bind fun d=>((z6g fuel x0.Qf).bind fun h=>((z6W fuel x0.Qt).bind fun o=>((z37 fuel x0.QK).bind fun q=>((z37 fuel x0.QZ).bind fun y=>some (⟨(⟨d.Qg,(⟨d.Qo.Qb,d.Qo.Qj,d.Qo.Qk⟩:D.Qc)⟩:D.Qe),h,o,q,y⟩:D.Qa))))))

theorem laws_toCluster_ok {W w:World}(hE:Ext W w){H0:List Value}{x0:D.Qa}(P0:ty31.ro W H0 x0){fuel:Nat}{r:D.Qa}(hm:z6X fuel x0=some r):
  Calls Tryz.prog 17 ⟨[.agg ⟨H0⟩]⟩ w (Ret fun v w8=>∃ A0 k0 A1 k1 A2 k2 A3 k3 A4 k4,v=.agg ⟨[sl A0 r.Qe.Qg k0,.int .i64 r.Qe.Qo.Qb,.int .i64 r.Qe.Qo.Qj,.int .i64 r.Qe.Qo.Qk,sl A1 r.Qf k1,sl A2 r.Qt k2,sl A3 r.QK k3,sl A4 r.QZ k4]⟩∧St w w8 [ow ty34 A0 r.Qe.Qg k0,ow ty38 A1 r.Qf k1,ow ty28 A2 r.Qt k2,ow ty29 A3 r.QK k3,ow ty29 A4 r.QZ k4]):=by
 obtain⟨A1,k2,A4,k5,A7,m1,a1,n1,b1,p1,O0,h3,h6,Q0,R0,S0⟩:=zei P0;subst O0;refine into Tryz.func17 25 _ ?_;unfold z6X at hm;have hS:=St.start w;refine sq<|rg<|nw hS (fun g1 G1 d1 f0=>?_);refine nw f0 (fun i1 H1 e1 g0=>?_);refine rn<|sq<|rg<|nw g0 (fun j1 J1 f1 d=>?_);refine rn<|sq<|rg<|rr 1 ?_;refine lN (At.sub ((d.bring 2 rfl).box) 0 4) ?_;obtain⟨s1,C0,hm⟩:=bS hm;refine ca zoE (laws_toGrid_ok (hE.trans d.ext) (zej x0.Qe h3) C0) (fun B1 K1 M=>?_);obtain⟨J0,T0,rfl,O⟩:=M;have i0:=d.join O;refine rr 1 ?_;have j0:=i0.bring 1 rfl;refine so (A:=[]) j0 0 (fun L1 h=>?_);refine rn<|sq<|rg<|rr 1 ?_;refine l1 ((h.bring 3 rfl).box) 4 ?_;obtain⟨t1,D0,hm⟩:=bS hm;refine ca zoD (laws_toParcelSS_ok (hE.trans h.ext) h6 D0) (fun C1 M1 S=>?_);obtain⟨K0,U0,rfl,X⟩:=S;have o0:=h.join X;refine rr 1 ?_;have p0:=o0.bring 1 rfl;refine so (A:=[]) p0 4 (fun N1 o=>?_);refine rn<|sq<|rg<|rr 1 ?_;refine l1 ((o.bring 4 rfl).box) 5 ?_;obtain⟨u1,E0,hm⟩:=bS hm;refine ca zoC (laws_toInt64SS_ok (hE.trans o.ext) Q0 E0) (fun D1 O1 Y=>?_);obtain⟨L0,V0,rfl,Z⟩:=Y;have q0:=o.join Z;refine rr 1 ?_;have r0:=q0.bring 1 rfl;refine so (A:=[]) r0 5 (fun P1 q=>?_);refine rn<|sq<|rg<|rr 1 ?_;refine l1 ((q.bring 5 rfl).box) 6 ?_;obtain⟨v1,F0,hm⟩:=bS hm;refine ca zea (laws_toInt64S_ok (hE.trans q.ext) R0 F0) (fun E1 Q1 a0=>?_);obtain⟨M0,X0,rfl,b0⟩:=a0;have t0:=q.join b0;refine rr 1 ?_;have u0:=t0.bring 1 rfl;refine so (A:=[]) u0 6 (fun R1 y=>?_);refine rn<|sq<|rg<|rr 1 ?_;refine l1 ((y.bring 6 rfl).box) 7 ?_;obtain⟨y1,G0,hm⟩:=bS hm;refine ca zea (laws_toInt64S_ok (hE.trans y.ext) S0 G0) (fun F1 S1 d0=>?_);obtain⟨N0,Y0,rfl,e0⟩:=d0;have v0:=y.join e0;refine rr 1 ?_;have y0:=v0.bring 1 rfl;refine so (A:=[]) y0 7 (fun T1 G=>?_);refine rn<|sq<|rg<|lN ((G.bring 0 rfl).box) ?_;have B0:=G.bring 6 rfl;refine so (A:=[]) B0 0 (fun U1 H=>?_);refine rn<|rt ?_;cases hm;exact⟨_,.cons (ra ((H.bring 0 rfl).box)) .nil,J0,T0,K0,U0,L0,V0,M0,X0,N0,Y0,rfl,((((((H.bring 2 rfl).bring 3 rfl).bring 4 rfl).bring 5 rfl).bring 6 rfl).taken 5)⟩

theorem zaC:Enters Tryz.prog 212:=⟨_,_,Tryz.func212,rfl,by kernel_rfl⟩
def z2Y (fuel:Nat) (x0:(List Int)):Option ((List Int)):=(if decide ((([]:(List Int)).length:Int)+(x0.length:Int)≤4294967296)=true then some (([]:(List Int))++x0) else none)

theorem z5D {W w:World}(hE:Ext W w){h:Option Addr}{q:Nat}{x0:(List Int)}(G:ty29.ro W [sl h x0 q] x0){fuel:Nat}{r:(List Int)}(hm:z2Y fuel x0=some r):
  Calls Tryz.prog 212 ⟨[sl h x0 q]⟩ w (Ret fun v w8=>∃ A0 k0,v=sl A0 r k0∧St w w8 [ow ty29 A0 r k0]):=by
 refine into Tryz.func212 6 _ ?_;unfold z2Y at hm;have hS:=St.start w;refine sq<|rg<|rr 1 ?_;refine rn<|sq<|rg<|n0 (U:=tInt) hS (fun A1 k2 w3 e4 H=>?_);refine rr 1 ?_;have o:=H.bring 0 rfl;obtain⟨M,hm⟩:=iS hm;refine ap Flat.int o (ty29.ext (hE.trans o.ext) G) M (fun y O S d=>?_);refine rr 1 ?_;refine rn<|rt ?_;cases hm;exact⟨_,.cons (.tmp rfl) .nil,y,O,rfl,d⟩

theorem zhy:Enters Tryz.prog 248:=⟨_,_,Tryz.func248,rfl,by kernel_rfl⟩
def z66 (fuel:Nat) (x0:D.Qd):Option (D.QJ):=((z2Y fuel x0.Data).bind fun d=>(if decide (0≤(w64 ((x0.QY.length:Int)+1))∧(w64 ((x0.QY.length:Int)+1))≤4294967296)=true then some (⟨x0.Qj,x0.QO,x0.Value,d,(List.replicate (w64 ((x0.QY.length:Int)+1)).toNat (⟨(0:Int),(0:Int)⟩:D.QV))⟩:D.QJ) else none))

theorem zbE {W w:World}(hE:Ext W w){i0:Addr}{g0:List Value}{x0:D.Qd}(r0:z2C.ro W g0 x0) (q:At W i0 g0){fuel:Nat}{r:D.QJ}(hm:z66 fuel x0=some r):
  Calls Tryz.prog 248 ⟨[.pointer (some i0)]⟩ w (Ret fun v w8=>∃ A0 k0 A1 k1,v=.agg ⟨[.int .i64 r.Qj,.int .i64 r.QO,.int .i64 r.Value,sl A0 r.Data k0,sl A1 r.Qa0 k1]⟩∧St w w8 [ow ty29 A0 r.Data k0,ow z2h A1 r.Qa0 k1]):=by
 obtain⟨A1,k2,A4,k5,e7,h3,h6⟩:=zt r0;subst e7;refine into Tryz.func248 28 _ ?_;unfold z66 at hm;have hS:=St.start w;refine sq<|rg<|nw hS (fun E0 K0 B0 h=>?_);refine rn<|sq<|dn 33554432 mixed 26 [([],67108863),([0],67108862),([1],67108861),([2],67108859),([],67108863),([4],67108847),([5],67108831),([6],67108799),([],67108863),([8],67108607),([9],67108351),([10],67107839),([],67108863),([12],67104767),([13],67100671),([14],67092479),([15],67076095),([],67108863),([17],66977791),([18],66846719),([19],66584575),([20],66060287),([21],65011711),([22,22],62914559),([3,7,11,16,23],58652535),([24,16,0,1,2,3,4,5,6,7,8,9,10,11,12,13,14,15,16,17,18,19,20,21,22,23,24],50331647)] h.ext (fun d=>?_);have o:=h.step (Ext.draw _);refine dr 11 d [0,1,2,4,5,6,8,9,10,12,13,14,17,18,19] ?_;refine dw [2,5,9,13,17,22] ?_;refine dl d 3 (At.ext (hE.trans h.ext) q) 0 ?_;refine dl d 7 (At.ext (hE.trans h.ext) q) 1 ?_;refine dl d 11 (At.ext (hE.trans h.ext) q) 2 ?_;refine dl d 15 (At.ext (hE.trans h.ext) q) 3 ?_;refine dl d 20 (At.ext (hE.trans h.ext) q) 4 ?_;refine dr 4 d [21,22] ?_;refine dw [2,6,10,14,18,25] ?_;obtain⟨G0,X,hm⟩:=bS hm;obtain⟨S,hm⟩:=iS hm;refine da d [16,23] (by simp) ?_;intro F0 hi36;simp only [List.mem_cons,List.not_mem_nil,or_false] at hi36
 rcases hi36 with rfl | rfl
 ·refine mc d zaC (z5D (hE.trans o.ext) h3 X) (fun H0 L0 Y=>?_);obtain⟨j0,t0,rfl,y⟩:=Y;refine⟨y.ext,?_⟩;have a0:=o.join y;have hz49:=of_decide_eq_true S;refine o1 d 23 (mk (U:=zdM) (⟨(0:Int),(0:Int)⟩:D.QV) a0 d hz49 (fun _=>(z9q (c:=(⟨(0:Int),(0:Int)⟩:D.QV)) rfl)) (fun o0 u0 M0 C0 b0=>?_));refine dp d 24 rfl (fun _=>qb) ?_;have d0:=b0.bring 2 rfl;refine o1 d 25 (ms (A:=[]) d0 d 0 (fun N0 H=>?_));refine dd d ?_;refine rt ?_;cases hm;exact⟨_,.cons (ra ((H.bring 0 rfl).box)) .nil,j0,t0,o0,u0,rfl,(((H.bring 1 rfl).bring 2 rfl).taken 2)⟩
 ·have hz58:=of_decide_eq_true S;refine mk (U:=zdM) (⟨(0:Int),(0:Int)⟩:D.QV) o d hz58 (fun _=>(z9q (c:=(⟨(0:Int),(0:Int)⟩:D.QV)) rfl)) (fun p0 v0 O0 D0 M=>?_);refine o1 d 16 (mc d zaC (z5D (hE.trans M.ext) h3 X) (fun J0 P0 Z=>?_));obtain⟨q0,y0,rfl,G⟩:=Z;refine⟨G.ext,?_⟩;have e0:=M.join G;refine dp d 24 rfl (fun _=>qb) ?_;have f0:=e0.bring 2 rfl;refine o1 d 25 (ms (A:=[]) f0 d 0 (fun Q0 O=>?_));refine dd d ?_;refine rt ?_;cases hm;exact⟨_,.cons (ra ((O.bring 0 rfl).box)) .nil,q0,y0,p0,v0,rfl,(O.bring 0 rfl).drop⟩

theorem zhE:Enters Tryz.prog 224:=⟨_,_,Tryz.func224,rfl,by kernel_rfl⟩
def z50 (fuel:Nat) (x0:D.Qd):Option (Bool):=(if(x0.Qj == 0)=true then(if(x0.QO == 0)=true then(if(x0.Value == 0)=true then(if((x0.Data.length:Int) == 0)=true then some ((x0.QY.length:Int) == 0) else some false) else some false) else some false) else(if(decide ((x0.QY.length:Int)>3))=true then some false else((z66 fuel x0).bind fun d=>(if(x0.Qj != 1)=true then((z4x fuel (⟨d.Qj,d.QO,d.Value,d.Data,d.Qa0⟩:D.QJ)).bind fun h=>some h) else some false))))

theorem zb7 {W w:World}(hE:Ext W w){d0:Addr}{a0:List Value}{x0:D.Qd}(b0:z2C.ro W a0 x0) (h:At W d0 a0){fuel:Nat}{r:Bool}(hm:z50 fuel x0=some r):
  Calls Tryz.prog 224 ⟨[.pointer (some d0)]⟩ w (Ret fun v w8=>v=.bool r∧St w w8 []):=by
 obtain⟨A1,k2,A4,k5,e7,h3,h6⟩:=zt b0;subst e7;refine into Tryz.func224 53 _ ?_;unfold z50 at hm;have hS:=St.start w;refine sq<|rg<|rr 1 ?_;refine rn<|sq<|sq<|rg<|rr 3 ?_;refine l1 (At.ext (hE.trans hS.ext) h) 0 ?_;refine rr 1 ?_;refine rn<|ci hm (fun hm=>?_) (fun hm=>?_)
 ·refine sq<|rg<|rr 3 ?_;refine l1 (At.ext (hE.trans hS.ext) h) 1 ?_;refine rr 2 ?_;refine rb 14 hm (fun hm=>?_) (fun hm=>?_)
  ·refine rr 3 ?_;refine l1 (At.ext (hE.trans hS.ext) h) 2 ?_;refine rr 3 ?_;refine rb 21 hm (fun hm=>?_) (fun hm=>?_)
   ·refine rr 3 ?_;refine l1 (At.ext (hE.trans hS.ext) h) 3 ?_;refine rr 4 ?_;refine rb 29 hm (fun hm=>?_) (fun hm=>?_)
    ·refine rr 3 ?_;refine l1 (At.ext (hE.trans hS.ext) h) 4 ?_;refine rr 4 ?_;refine rn<|rt ?_;cases hm;exact⟨_,.cons (.tmp rfl) .nil,rfl,hS⟩
    ·refine rr 8 ?_;refine rn<|rt ?_;cases hm;exact⟨_,.cons (.tmp rfl) .nil,rfl,hS⟩
   ·refine rr 16 ?_;refine rn<|rt ?_;cases hm;exact⟨_,.cons (.tmp rfl) .nil,rfl,hS⟩
  ·refine rr 23 ?_;refine rn<|rt ?_;cases hm;exact⟨_,.cons (.tmp rfl) .nil,rfl,hS⟩
 ·refine sp<|sq<|sq<|rg<|rr 3 ?_;refine l1 (At.ext (hE.trans hS.ext) h) 4 ?_;refine rr 2 ?_;refine rn<|ci hm (fun hm=>?_) (fun hm=>?_)
  ·refine sq<|rg<|rr 1 ?_;refine rn<|rt ?_;cases hm;exact⟨_,.cons (.tmp rfl) .nil,rfl,hS⟩
  ·refine sp<|sq<|rg<|rr 1 ?_;obtain⟨o,Y,hm⟩:=bS hm;refine ca zhy (zbE (hE.trans hS.ext) b0 h Y) (fun p0 r0 q=>?_);obtain⟨e0,j0,f0,k0,rfl,y⟩:=q;have M:=hS.join y;refine nw M (fun i0 t0 g0 O=>?_);have S:=O.bring 0 rfl;refine so (A:=[]) S 0 (fun u0 d=>?_);refine rn<|sq<|rg<|rr 3 ?_;refine l1 (At.ext (hE.trans d.ext) h) 0 ?_;refine rr 2 ?_;refine rb 50 hm (fun hm=>?_) (fun hm=>?_)
   ·obtain⟨o0,Z,hm⟩:=bS hm;refine ca zkK (zdR (Ext.refl _) (zfO (⟨o.Qj,o.QO,o.Value,o.Data,o.Qa0⟩:D.QJ) ((d.bring 1 rfl).own) ((d.bring 2 rfl).own)) ((d.bring 0 rfl).box) Z) (fun q0 v0 G=>?_);obtain⟨rfl,H⟩:=G;have X:=d.join H;refine rr 2 ?_;refine rn<|rt ?_;cases hm;exact⟨_,.cons (.tmp rfl) .nil,rfl,(X.taken 0)⟩
   ·refine rr 3 ?_;refine rn<|rt ?_;cases hm;exact⟨_,.cons (.tmp rfl) .nil,rfl,(d.taken 0)⟩

theorem zmA:Enters Tryz.prog 170:=⟨_,_,Tryz.func170,rfl,by kernel_rfl⟩
def zaq (fuel:Nat) (d:Unit):Option Bool:=some true
def zap (fuel:Nat) (d:Int) (h:Unit):Option (Rd (Int) (Unit) (Bool)):=some (.next (w64 (d+1)))
def z1x (fuel:Nat) (d:Int) (h:Bool):Option (Rd (Int) (Unit) (Rd (Int) (Unit) (Bool))):=(if h=true then some (.ret (.ret false)) else some (.next (w64 (d+1))))
def z4q (fuel:Nat) (o:D.Qv) (h:Int):Option (Rd (Int) (Unit) (Rd (Int) (Unit) (Bool))):=(if(decide (h<(o.QM.length:Int)))=true then((idx o.QM h).bind fun d=>(if d.Qa3=true then(if(!d.Qa2)=true then z1x fuel h true else(if(!d.Qa3)=true then z1x fuel h (!(((d.QX.Qb:Int) == 0) && (((d.QX.Qj:Int) == 0) && (((d.QX.Qk:Int) == 0) && true)))) else z1x fuel h false)) else(if(!d.Qa3)=true then z1x fuel h (!(((d.QX.Qb:Int) == 0) && (((d.QX.Qj:Int) == 0) && (((d.QX.Qk:Int) == 0) && true)))) else z1x fuel h false))) else some (.brk ()))
def z8y (fuel:Nat) (d:Int) (h:D.Qv) (q:Unit):Option (Rd (Int) (Unit) (Bool)):=((iter (z4q fuel h) fuel 0).bind fun o=>aft o (zap fuel d))
def z4r (fuel:Nat) (q:D.Qv) (h:Int):Option (Rd (Int) (Unit) (Rd (Int) (Unit) (Bool))):=(if(decide (h<(q.Cells.length:Int)))=true then((idx q.Cells h).bind fun o=>((z50 fuel o).bind fun d=>(if(!d)=true then some (.ret (.ret false)) else some (.next (w64 (h+1)))))) else some (.brk ()))
def z1m (fuel:Nat) (h:Int) (d:D.Qv) (q:Bool):Option (Rd (Int) (Unit) (Bool)):=(if q=true then some (.ret false) else((iter (z4r fuel d) fuel 0).bind fun o=>aft o (z8y fuel h d)))
def z4s (fuel:Nat) (x0:D.Qe) (h:Int):Option (Rd (Int) (Unit) (Bool)):=(if(decide (h<(x0.Qg.length:Int)))=true then((idx x0.Qg h).bind fun d=>(if(decide ((d.Cells.length:Int)>400))=true then z1m fuel h d true else(if(decide ((d.QM.length:Int)>400))=true then z1m fuel h d true else z1m fuel h d (decide ((d.Qu.length:Int)>400))))) else some (.brk ()))
def z6S (fuel:Nat) (x0:D.Qe):Option (Bool):=((zw fuel (x0.Qg.length:Int) 1 4).bind fun r5=>(if(!r5)=true then some false else((iter (z4s fuel x0) fuel 0).bind fun o=>aft o (zaq fuel))))

theorem zdr {W w:World}(hE:Ext W w){Y:Addr}{a1:List Value}{x0:D.Qe}(y1:ty37.ro W a1 x0) (y0:At W Y a1){fuel:Nat}{r:Bool}(hm:z6S fuel x0=some r):
  Calls Tryz.prog 170 ⟨[.pointer (some Y)]⟩ w (Ret fun v w8=>v=.bool r∧St w w8 []):=by
 obtain⟨A1,k2,e4,h3⟩:=z33 y1;subst e4;refine into Tryz.func170 105 _ ?_;unfold z6S at hm;have hS:=St.start w;refine sq<|rg<|rr 1 ?_;refine rn<|sq<|sq<|rg<|rr 3 ?_;refine l1 (At.ext (hE.trans hS.ext) y0) 0 ?_;refine rr 1 ?_;obtain⟨r5,J1,hm⟩:=bS hm;refine ca z2e (zJ (hE.trans hS.ext)  J1) (fun v7 p2 A0=>?_);obtain⟨rfl,B0⟩:=A0;have i0:=hS.join B0;refine rr 1 ?_;refine rn<|ci hm (fun hm=>?_) (fun hm=>?_)
 ·refine sq<|rg<|rr 1 ?_;refine rn<|rt ?_;cases hm;exact⟨_,.cons (.tmp rfl) .nil,rfl,i0⟩
 ·refine sp<|sq<|rg<|qt (qb) ?_;refine nw i0 (fun H q2 f2 C0=>?_);have D0:=C0.bring 0 rfl;refine so (A:=[]) D0 0 (fun r2 E0=>?_);refine rn<|sq<|sq<|rg<|rr 1 ?_;refine rn ?_;obtain⟨N1,M0,hm⟩:=bS hm;refine ct (fun(e1:Unit) F w9=>N1=.inl e1∧St w w9 [Box H [.int .i64 0,.int .i64 0,.int .i64 0] 35]∧F=[]) ?_ ?_
  ·rintro e1 F s2 ⟨P0,F0,rfl⟩;subst P0;rw [z8] at hm;unfold zaq at hm;refine sq<|rg<|rr 1 ?_;refine rn<|rt ?_;cases hm;exact⟨_,.cons (.tmp rfl) .nil,rfl,(F0.taken 0)⟩
  ·refine bk<|wk [0,3,4] ?_;refine it (fun(Z:Int) F w9=>St w w9 [Box H [.int .i64 0,.int .i64 0,.int .i64 0] 35]∧F=[(0,.pointer (some Y)),(3,.pointer (some ⟨H,0,none⟩)),(4,.int .i64 Z)]) M0 ⟨E0,rfl⟩ ?_;rintro Z F X1 _ O1 ⟨y,rfl⟩ d X;unfold z4s at d;refine sq<|sq<|rg<|rr 4 ?_;refine l1 (At.ext (hE.trans y.ext) y0) 0 ?_;refine rr 2 ?_;refine rn<|ci d (fun d=>?_) (fun d=>?_)
   ·refine sp<|sq<|bk<|sq<|rg<|rr 3 ?_;refine l1 (At.ext (hE.trans y.ext) y0) 0 ?_;refine rr 1 ?_;obtain⟨j1,U0,d⟩:=bS d;refine ix (hE.trans y.ext) h3 U0 (fun t0 t1 M S0=>?_);obtain⟨b2,j2,d2,m2,e2,n2,p1,D1,E1,i2⟩:=zR S0;subst p1;refine rr 1 ?_;refine rn<|sq<|sq<|ct (fun(X0:Bool) F w9=>z1m fuel Z j1 X0=some O1∧Ext X1 w9∧St w w9 [Box H [.int .i64 0,.int .i64 0,.int .i64 0] 35]∧F=[(0,.pointer (some Y)),(3,.pointer (some ⟨H,0,none⟩)),(4,.int .i64 Z),(5,.pointer (some t0)),(53,.bool X0)]) ?_ ?_
    ·rintro X0 F i1 ⟨d,F1,j0,rfl⟩;unfold z1m at d;refine ci d (fun d=>?_) (fun d=>?_)
     ·refine sq<|rg<|rr 1 ?_;refine rn<|rt ?_;cases d;cases X;have hm:some _=some _:=hm;cases hm;exact⟨_,.cons (.tmp rfl) .nil,rfl,(j0.taken 0)⟩
     ·refine sp<|sq<|sq<|rg<|rr 1 ?_;refine rn ?_;obtain⟨P1,N0,d⟩:=bS d;refine ct (fun(f1:Unit) F w9=>P1=.inl f1∧Ext i1 w9∧St w w9 [Box H [.int .i64 0,.int .i64 0,.int .i64 0] 35]∧F=[(0,.pointer (some Y)),(3,.pointer (some ⟨H,0,none⟩)),(4,.int .i64 Z),(5,.pointer (some t0))]) ?_ ?_
      ·rintro f1 F t2 ⟨Q0,G1,G0,rfl⟩;subst Q0;rw [z8] at d;unfold z8y at d;refine sq<|rg<|rr 1 ?_;refine rn ?_;obtain⟨Q1,O0,d⟩:=bS d;refine ct (fun(g1:Unit) F w9=>Q1=.inl g1∧St w w9 [Box H [.int .i64 0,.int .i64 0,.int .i64 0] 35]∧F=[(0,.pointer (some Y)),(3,.pointer (some ⟨H,0,none⟩)),(4,.int .i64 Z)]) ?_ ?_
       ·rintro g1 F u2 ⟨R0,H0,rfl⟩;subst R0;rw [z8] at d;unfold zap at d;refine rg<|rr 3 ?_;refine rn ?_;cases d;exact⟨_,_,rfl,⟨H0,rfl⟩,rfl⟩
       ·refine bk<|wk [0,3,4,5,7] ?_;refine it (fun(u0:Int) F w9=>St w w9 [Box H [.int .i64 0,.int .i64 0,.int .i64 0] 35]∧F=[(0,.pointer (some Y)),(3,.pointer (some ⟨H,0,none⟩)),(4,.int .i64 Z),(5,.pointer (some t0)),(7,.int .i64 u0)]) O0 ⟨G0,rfl⟩ ?_;rintro u0 F v2 _ R1 ⟨O,rfl⟩ h p0;unfold z4q at h;refine sq<|sq<|rg<|rr 4 ?_;refine l1 (At.ext (hE.trans O.ext) M) 1 ?_;refine rr 2 ?_;refine rn<|ci h (fun h=>?_) (fun h=>?_)
        ·refine sp<|sq<|bk<|sq<|rg<|rr 3 ?_;refine l1 (At.ext (hE.trans O.ext) M) 1 ?_;refine rr 1 ?_;obtain⟨S,V0,h⟩:=bS h;refine ix (hE.trans O.ext) E1 V0 (fun o2 u1 L0 T0=>?_);have s1:=z1v T0;subst s1;refine lN (At.ext (hE.trans O.ext) L0) ?_;refine nw O (fun v1 y2 g2 J0=>?_);have K0:=J0.bring 0 rfl;refine so (A:=[]) K0 0 (fun Y1 q=>?_);refine rn<|sq<|ct (fun(Y0:Bool) F w9=>z1x fuel u0 Y0=some R1∧Ext Y1 w9∧St w w9 [Box v1 [.bool S.Qa2,.bool S.Qa3,.int .i64 S.QX.Qb,.int .i64 S.QX.Qj,.int .i64 S.QX.Qk] 223,Box H [.int .i64 0,.int .i64 0,.int .i64 0] 35]∧F=[(0,.pointer (some Y)),(3,.pointer (some ⟨H,0,none⟩)),(4,.int .i64 Z),(5,.pointer (some t0)),(7,.int .i64 u0),(104,.bool Y0)]) ?_ ?_
         ·rintro Y0 F A2 ⟨h,H1,k0,rfl⟩;unfold z1x at h;refine ci h (fun h=>?_) (fun h=>?_)
          ·refine sq<|rg<|rr 1 ?_;refine rn<|rt ?_;cases h;cases p0;have d:some _=some _:=d;cases d;cases X;have hm:some _=some _:=hm;cases hm;exact⟨_,.cons (.tmp rfl) .nil,rfl,(k0.taken 0)⟩
          ·refine sp<|rg<|rr 3 ?_;refine rn ?_;cases h;exact⟨_,_,rfl,⟨((k0.bring 1 rfl).taken 1),rfl⟩,rfl⟩
         ·refine rg<|rr 1 ?_;refine l1 ((q.bring 0 rfl).box) 1 ?_;refine rr 1 ?_;refine rb 89 h (fun h=>?_) (fun h=>?_)
          ·refine rr 1 ?_;refine l1 ((q.bring 0 rfl).box) 0 ?_;refine rr 3 ?_;refine rb 94 h (fun h=>?_) (fun h=>?_)
           ·refine rr 10 ?_;refine rn ?_;exact⟨true,_,⟨h,(Ext.refl _),q,rfl⟩,rfl⟩
           ·refine rr 1 ?_;refine l1 ((q.bring 0 rfl).box) 1 ?_;refine rr 2 ?_;refine rb 98 h (fun h=>?_) (fun h=>?_)
            ·refine rr 1 ?_;refine lN (At.sub ((q.bring 0 rfl).box) 2 3) ?_;refine lN ((q.bring 1 rfl).box) ?_;refine rr 3 ?_;refine rn ?_;exact⟨!(((S.QX.Qb:Int) == 0) && (((S.QX.Qj:Int) == 0) && (((S.QX.Qk:Int) == 0) && true))),_,⟨h,(Ext.refl _),q,rfl⟩,rfl⟩
            ·refine rr 6 ?_;refine rn ?_;exact⟨false,_,⟨h,(Ext.refl _),q,rfl⟩,rfl⟩
          ·refine rr 6 ?_;refine l1 ((q.bring 0 rfl).box) 1 ?_;refine rr 2 ?_;refine rb 98 h (fun h=>?_) (fun h=>?_)
           ·refine rr 1 ?_;refine lN (At.sub ((q.bring 0 rfl).box) 2 3) ?_;refine lN ((q.bring 1 rfl).box) ?_;refine rr 3 ?_;refine rn ?_;exact⟨!(((S.QX.Qb:Int) == 0) && (((S.QX.Qj:Int) == 0) && (((S.QX.Qk:Int) == 0) && true))),_,⟨h,(Ext.refl _),q,rfl⟩,rfl⟩
           ·refine rr 6 ?_;refine rn ?_;exact⟨false,_,⟨h,(Ext.refl _),q,rfl⟩,rfl⟩
        ·refine xt ?_;cases h;exact⟨_,_,⟨p0,O,rfl⟩,rfl⟩
      ·refine bk<|wk [0,3,4,5,6] ?_;refine it (fun(d1:Int) F w9=>Ext i1 w9∧St w w9 [Box H [.int .i64 0,.int .i64 0,.int .i64 0] 35]∧F=[(0,.pointer (some Y)),(3,.pointer (some ⟨H,0,none⟩)),(4,.int .i64 Z),(5,.pointer (some t0)),(6,.int .i64 d1)]) N0 ⟨(Ext.refl _),j0,rfl⟩ ?_;rintro d1 F V1 _ M1 ⟨f0,G,rfl⟩ o d0;unfold z4r at o;refine sq<|sq<|rg<|rr 4 ?_;refine l1 (At.ext (hE.trans G.ext) M) 0 ?_;refine rr 2 ?_;refine rn<|ci o (fun o=>?_) (fun o=>?_)
       ·refine sp<|sq<|bk<|sq<|rg<|rr 3 ?_;refine l1 (At.ext (hE.trans G.ext) M) 0 ?_;refine rr 1 ?_;obtain⟨a2,q0,o⟩:=bS o;refine ix (hE.trans G.ext) D1 q0 (fun S1 b1 o0 e0=>?_);obtain⟨m1,K1,n1,L1,v0,B1,C1⟩:=zt e0;subst v0;obtain⟨T1,r0,o⟩:=bS o;refine ca zhE (zb7 (hE.trans G.ext) e0 o0 r0) (fun U1 W1 g0=>?_);obtain⟨rfl,a0⟩:=g0;have b0:=G.join a0;refine rr 1 ?_;refine rn<|ci o (fun o=>?_) (fun o=>?_)
        ·refine sq<|rg<|rr 1 ?_;refine rn<|rt ?_;cases o;cases d0;have d:some _=some _:=d;cases d;cases X;have hm:some _=some _:=hm;cases hm;exact⟨_,.cons (.tmp rfl) .nil,rfl,(b0.taken 0)⟩
        ·refine sp<|rg<|rr 3 ?_;refine rn ?_;cases o;exact⟨_,_,rfl,⟨(f0.trans a0.ext),b0,rfl⟩,rfl⟩
       ·refine xt ?_;cases o;exact⟨_,_,⟨d0,f0,G,rfl⟩,rfl⟩
    ·refine rg<|rr 3 ?_;refine l1 (At.ext (hE.trans y.ext) M) 0 ?_;refine rr 3 ?_;refine rb 38 d (fun d=>?_) (fun d=>?_)
     ·refine rr 15 ?_;refine rn ?_;exact⟨true,_,⟨d,(Ext.refl _),y,rfl⟩,rfl⟩
     ·refine rr 3 ?_;refine l1 (At.ext (hE.trans y.ext) M) 1 ?_;refine rr 4 ?_;refine rb 46 d (fun d=>?_) (fun d=>?_)
      ·refine rr 7 ?_;refine rn ?_;exact⟨true,_,⟨d,(Ext.refl _),y,rfl⟩,rfl⟩
      ·refine rr 3 ?_;refine l1 (At.ext (hE.trans y.ext) M) 2 ?_;refine rr 3 ?_;refine rn ?_;exact⟨decide ((j1.Qu.length:Int)>400),_,⟨d,(Ext.refl _),y,rfl⟩,rfl⟩
   ·refine xt ?_;cases d;exact⟨_,_,⟨X,y,rfl⟩,rfl⟩

theorem zf9:Enters Tryz.prog 171:=⟨_,_,Tryz.func171,rfl,by kernel_rfl⟩
def z82 (fuel:Nat) (t2:Unit):Option Bool:=some true
def z3G (fuel:Nat) (x0:(List Int)) (x1:Int) (s1:Int):Option (Rd (Int) (Unit) (Bool)):=(if(decide (s1<x1))=true then((idx x0 s1).bind fun h=>((zw fuel h 0 1000000000).bind fun d=>(if(!d)=true then some (.ret false) else some (.next (w64 (s1+1)))))) else some (.brk ()))
def z2Q (fuel:Nat) (x0:(List Int)) (x1:Int):Option (Bool):=(if((x0.length:Int) != x1)=true then some false else((iter (z3G fuel x0 x1) fuel 0).bind fun o=>aft o (z82 fuel)))

theorem z8L {W w:World}(hE:Ext W w){G:Option Addr}{b0:Nat}{x0:(List Int)}{x1:Int}(f0:ty29.ro W [sl G x0 b0] x0){fuel:Nat}{r:Bool}(hm:z2Q fuel x0 x1=some r):
  Calls Tryz.prog 171 ⟨[sl G x0 b0,.int .i64 x1]⟩ w (Ret fun v w8=>v=.bool r∧St w w8 []):=by
 refine into Tryz.func171 21 _ ?_;unfold z2Q at hm;have hS:=St.start w;refine sq<|rg<|rr 1 ?_;refine rn<|sq<|sq<|rg<|rr 4 ?_;refine rn<|ci hm (fun hm=>?_) (fun hm=>?_)
 ·refine sq<|rg<|rr 1 ?_;refine rn<|rt ?_;cases hm;exact⟨_,.cons (.tmp rfl) .nil,rfl,hS⟩
 ·refine sp<|sq<|sq<|rg<|rr 1 ?_;refine rn ?_;obtain⟨g0,S,hm⟩:=bS hm;refine ct (fun(t2:Unit) F w9=>g0=.inl t2∧Ext w w9∧St w w9 []∧F=[]) ?_ ?_
  ·rintro t2 F w7 ⟨X,i0,M,rfl⟩;subst X;rw [z8] at hm;unfold z82 at hm;refine sq<|rg<|rr 1 ?_;refine rn<|rt ?_;cases hm;exact⟨_,.cons (.tmp rfl) .nil,rfl,M⟩
  ·refine bk<|wk [0,1,5] ?_;refine it (fun(s1:Int) F w9=>Ext w w9∧St w w9 []∧F=[(0,sl G x0 b0),(1,.int .i64 x1),(5,.int .i64 s1)]) S ⟨(Ext.refl _),hS,rfl⟩ ?_;rintro s1 F q0 _ j0 ⟨d0,h,rfl⟩ d y;unfold z3G at d;refine sq<|sq<|rg<|rr 3 ?_;refine rn<|ci d (fun d=>?_) (fun d=>?_)
   ·refine sp<|sq<|bk<|sq<|rg<|rr 2 ?_;obtain⟨t0,Z,d⟩:=bS d;refine ix (hE.trans h.ext) f0 Z (fun k0 e0 O Y=>?_);cases Y;refine l1 (At.ext (hE.trans h.ext) O) 0 ?_;obtain⟨o0,a0,d⟩:=bS d;refine ca z2e (zJ (hE.trans h.ext)  a0) (fun p0 r0 H=>?_);obtain⟨rfl,o⟩:=H;have q:=h.join o;refine rr 1 ?_;refine rn<|ci d (fun d=>?_) (fun d=>?_)
    ·refine sq<|rg<|rr 1 ?_;refine rn<|rt ?_;cases d;cases y;have hm:some _=some _:=hm;cases hm;exact⟨_,.cons (.tmp rfl) .nil,rfl,q⟩
    ·refine sp<|rg<|rr 3 ?_;refine rn ?_;cases d;exact⟨_,_,rfl,⟨(d0.trans o.ext),q,rfl⟩,rfl⟩
   ·refine xt ?_;cases d;exact⟨_,_,⟨y,d0,h,rfl⟩,rfl⟩

theorem zkJ:Enters Tryz.prog 250:=⟨_,_,Tryz.func250,rfl,by kernel_rfl⟩
def zbd (fuel:Nat) (t2:Unit):Option Bool:=some true
def z7W (fuel:Nat) (x0:(List Int)) (x1:(List Int)) (s1:Int):Option (Rd (Int) (Unit) (Bool)):=(if(decide (s1<(x0.length:Int)))=true then((idx x0 s1).bind fun d=>((idx x1 s1).bind fun h=>(if(d != h)=true then some (.ret false) else some (.next (w64 (s1+1)))))) else some (.brk ()))
def z8a (fuel:Nat) (x0:(List Int)) (x1:(List Int)):Option (Bool):=(if((x0.length:Int) != (x1.length:Int))=true then some false else((iter (z7W fuel x0 x1) fuel 0).bind fun o=>aft o (zbd fuel)))

theorem zeF {W w:World}(hE:Ext W w){G:Option Addr}{e0:Nat}{x0:(List Int)}{H:Option Addr}{f0:Nat}{x1:(List Int)}(k0:ty29.ro W [sl G x0 e0] x0) (o0:ty29.ro W [sl H x1 f0] x1){fuel:Nat}{r:Bool}(hm:z8a fuel x0 x1=some r):
  Calls Tryz.prog 250 ⟨[sl G x0 e0,sl H x1 f0]⟩ w (Ret fun v w8=>v=.bool r∧St w w8 []):=by
 refine into Tryz.func250 26 _ ?_;unfold z8a at hm;have hS:=St.start w;refine sq<|rg<|rr 1 ?_;refine rn<|sq<|sq<|rg<|rr 5 ?_;refine rn<|ci hm (fun hm=>?_) (fun hm=>?_)
 ·refine sq<|rg<|rr 1 ?_;refine rn<|rt ?_;cases hm;exact⟨_,.cons (.tmp rfl) .nil,rfl,hS⟩
 ·refine sp<|sq<|sq<|rg<|rr 1 ?_;refine rn ?_;obtain⟨p0,X,hm⟩:=bS hm;refine ct (fun(t2:Unit) F w9=>p0=.inl t2∧Ext w w9∧St w w9 []∧F=[]) ?_ ?_
  ·rintro t2 F w7 ⟨Y,q0,M,rfl⟩;subst Y;rw [z8] at hm;unfold zbd at hm;refine sq<|rg<|rr 1 ?_;refine rn<|rt ?_;cases hm;exact⟨_,.cons (.tmp rfl) .nil,rfl,M⟩
  ·refine bk<|wk [0,1,5] ?_;refine it (fun(s1:Int) F w9=>Ext w w9∧St w w9 []∧F=[(0,sl G x0 e0),(1,sl H x1 f0),(5,.int .i64 s1)]) X ⟨(Ext.refl _),hS,rfl⟩ ?_;rintro s1 F v0 _ r0 ⟨g0,h,rfl⟩ d y;unfold z7W at d;refine sq<|sq<|rg<|rr 4 ?_;refine rn<|ci d (fun d=>?_) (fun d=>?_)
   ·refine sp<|sq<|bk<|sq<|dn 0 mixed 9 [([],511),([],511),([0,1],508),([2],507),([],511),([],511),([4,5],463),([6],447),([3,7],375)] h.ext (fun o=>?_);have q:=h.step (Ext.draw _);refine dr 5 o [0,1,4,5] ?_;obtain⟨y0,b0,d⟩:=bS d;refine dx (hE.trans h.ext) o 2 k0 b0 (fun t0 i0 O Z=>?_);cases Z;refine dl o 3 (At.ext (hE.trans h.ext) O) 0 ?_;obtain⟨A0,d0,d⟩:=bS d;refine dx (hE.trans h.ext) o 6 o0 d0 (fun u0 j0 S a0=>?_);cases a0;refine dl o 7 (At.ext (hE.trans h.ext) S) 0 ?_;refine dr 0 o [8] ?_;refine dw [0,1,5,25] ?_;refine dd o ?_;refine ci d (fun d=>?_) (fun d=>?_)
    ·refine sq<|rg<|rr 1 ?_;refine rn<|rt ?_;cases d;cases y;have hm:some _=some _:=hm;cases hm;exact⟨_,.cons (.tmp rfl) .nil,rfl,q⟩
    ·refine sp<|rg<|rr 3 ?_;refine rn ?_;cases d;exact⟨_,_,rfl,⟨(g0.trans (Ext.draw _)),q,rfl⟩,rfl⟩
   ·refine xt ?_;cases d;exact⟨_,_,⟨y,g0,h,rfl⟩,rfl⟩

theorem zkH:Enters Tryz.prog 251:=⟨_,_,Tryz.func251,rfl,by kernel_rfl⟩
def z80 (fuel:Nat) (t2:Unit):Option Bool:=some true
def z2D (fuel:Nat) (x0:(List D.Qc)) (x1:(List D.Qc)) (s1:Int):Option (Rd (Int) (Unit) (Bool)):=(if(decide (s1<(x0.length:Int)))=true then((idx x0 s1).bind fun d=>((idx x1 s1).bind fun h=>(if(!(((d.Qb:Int) == h.Qb) && (((d.Qj:Int) == h.Qj) && (((d.Qk:Int) == h.Qk) && true))))=true then some (.ret false) else some (.next (w64 (s1+1)))))) else some (.brk ()))
def z2m (fuel:Nat) (x0:(List D.Qc)) (x1:(List D.Qc)):Option (Bool):=(if((x0.length:Int) != (x1.length:Int))=true then some false else((iter (z2D fuel x0 x1) fuel 0).bind fun o=>aft o (z80 fuel)))

theorem zb6 {W w:World}(hE:Ext W w){G:Option Addr}{e0:Nat}{x0:(List D.Qc)}{H:Option Addr}{f0:Nat}{x1:(List D.Qc)}(p0:z3h.ro W [sl G x0 e0] x0) (q0:z3h.ro W [sl H x1 f0] x1){fuel:Nat}{r:Bool}(hm:z2m fuel x0 x1=some r):
  Calls Tryz.prog 251 ⟨[sl G x0 e0,sl H x1 f0]⟩ w (Ret fun v w8=>v=.bool r∧St w w8 []):=by
 refine into Tryz.func251 26 _ ?_;unfold z2m at hm;have hS:=St.start w;refine sq<|rg<|rr 1 ?_;refine rn<|sq<|sq<|rg<|rr 5 ?_;refine rn<|ci hm (fun hm=>?_) (fun hm=>?_)
 ·refine sq<|rg<|rr 1 ?_;refine rn<|rt ?_;cases hm;exact⟨_,.cons (.tmp rfl) .nil,rfl,hS⟩
 ·refine sp<|sq<|sq<|rg<|rr 1 ?_;refine rn ?_;obtain⟨r0,X,hm⟩:=bS hm;refine ct (fun(t2:Unit) F w9=>r0=.inl t2∧Ext w w9∧St w w9 []∧F=[]) ?_ ?_
  ·rintro t2 F w7 ⟨Y,t0,M,rfl⟩;subst Y;rw [z8] at hm;unfold z80 at hm;refine sq<|rg<|rr 1 ?_;refine rn<|rt ?_;cases hm;exact⟨_,.cons (.tmp rfl) .nil,rfl,M⟩
  ·refine bk<|wk [0,1,5] ?_;refine it (fun(s1:Int) F w9=>Ext w w9∧St w w9 []∧F=[(0,sl G x0 e0),(1,sl H x1 f0),(5,.int .i64 s1)]) X ⟨(Ext.refl _),hS,rfl⟩ ?_;rintro s1 F A0 _ u0 ⟨g0,h,rfl⟩ d y;unfold z2D at d;refine sq<|sq<|rg<|rr 4 ?_;refine rn<|ci d (fun d=>?_) (fun d=>?_)
   ·refine sp<|sq<|bk<|sq<|dn 0 mixed 9 [([],511),([],511),([0,1],508),([2],507),([],511),([],511),([4,5],463),([6],447),([3,7],375)] h.ext (fun o=>?_);have q:=h.step (Ext.draw _);refine dr 5 o [0,1,4,5] ?_;obtain⟨B0,b0,d⟩:=bS d;refine dx (hE.trans h.ext) o 2 p0 b0 (fun v0 k0 O Z=>?_);have i0:=z1a Z;subst i0;refine dL o 3 (At.ext (hE.trans h.ext) O) ?_;obtain⟨C0,d0,d⟩:=bS d;refine dx (hE.trans h.ext) o 6 q0 d0 (fun y0 o0 S a0=>?_);have j0:=z1a a0;subst j0;refine dL o 7 (At.ext (hE.trans h.ext) S) ?_;refine dr 0 o [8] ?_;refine dw [0,1,5,25] ?_;refine dd o ?_;refine ci d (fun d=>?_) (fun d=>?_)
    ·refine sq<|rg<|rr 1 ?_;refine rn<|rt ?_;cases d;cases y;have hm:some _=some _:=hm;cases hm;exact⟨_,.cons (.tmp rfl) .nil,rfl,q⟩
    ·refine sp<|rg<|rr 3 ?_;refine rn ?_;cases d;exact⟨_,_,rfl,⟨(g0.trans (Ext.draw _)),q,rfl⟩,rfl⟩
   ·refine xt ?_;cases d;exact⟨_,_,⟨y,g0,h,rfl⟩,rfl⟩

theorem zm0:Enters Tryz.prog 225:=⟨_,_,Tryz.func225,rfl,by kernel_rfl⟩
def z5a (fuel:Nat) (x0:D.Qd) (x1:D.Qd):Option (Bool):=(if(x0.Qj == x1.Qj)=true then(if(x0.QO == x1.QO)=true then(if(x0.Value == x1.Value)=true then((z8a fuel x0.Data x1.Data).bind fun d=>(if d=true then((z2m fuel x0.QY x1.QY).bind fun h=>some h) else some false)) else some false) else some false) else some false)

theorem zcB {W w:World}(hE:Ext W w){b0:Addr}{Z:List Value}{x0:D.Qd}{d0:Addr}{a0:List Value}{x1:D.Qd}(f0:z2C.ro W Z x0) (q:At W b0 Z) (j0:z2C.ro W a0 x1) (y:At W d0 a0){fuel:Nat}{r:Bool}(hm:z5a fuel x0 x1=some r):
  Calls Tryz.prog 225 ⟨[.pointer (some b0),.pointer (some d0)]⟩ w (Ret fun v w8=>v=.bool r∧St w w8 []):=by
 obtain⟨A1,k2,A4,k5,e7,h3,h6⟩:=zt f0;subst e7;obtain⟨k0,p0,o0,q0,e0,g0,i0⟩:=zt j0;subst e0;refine into Tryz.func225 58 _ ?_;unfold z5a at hm;have hS:=St.start w;refine sq<|rg<|rr 1 ?_;refine rn<|sq<|dn 0 mixed 54 [([],18014398509481983),([0],18014398509481982),([1],18014398509481981),([2],18014398509481979),([],18014398509481983),([4],18014398509481967),([5],18014398509481951),([6],18014398509481919),([3,7],18014398509481847),([8],18014398509481727),([9],18014398509481471),([10,9],18014398509480447),([11,9],18014398509479423),([12,9],18014398509477375),([9],18014398509481471),([14,9],18014398509465087),([15,9],18014398509448703),([16,9],18014398509415935),([13,17,9],18014398509342207),([9,18],18014398509219327),([19,9],18014398508957695),([20],18014398508433407),([21,20],18014398506336255),([22,20],18014398504239103),([23,20],18014398500044799),([20],18014398508433407),([25,20],18014398474878975),([26,20],18014398441324543),([27,20],18014398374215679),([24,28,20],18014398223220735),([20,29],18014397971562495),([30,20],18014397435740159),([31],18014396361998335),([32,31],18014392067031039),([33,31],18014387772063743),([34,31],18014379182129151),([31],18014396361998335),([36,31],18014327642521599),([37,31],18014258923044863),([38,31],18014121484091391),([35,39,31,31],18013812246446079),([31,40],18013296850370559),([41,40],18012199486226431),([42],18010000462970879),([43,42],18001204369948671),([44,42],17992408276926463),([45,42],17974816090882047),([42],18010000462970879),([47,42],17869262974615551),([48,42],17728525486260223),([49,42],17447050509549567),([46,50,42,42],16813731811950591),([42,51],15758200649285631),([52,51,0,1,2,3,4,5,6,7,8,9,10,11,12,13,14,15,16,17,18,19,20,21,22,23,24,25,26,27,28,29,30,31,32,33,34,35,36,37,38,39,40,41,42,43,44,45,46,47,48,49,50,51,52],13510798882111487)] hS.ext (fun d=>?_);have h:=hS.step (Ext.draw _);refine dr 48 d [0,1,2,4,5,6] ?_;refine dl d 3 (At.ext (hE.trans hS.ext) q) 0 ?_;refine dl d 7 (At.ext (hE.trans hS.ext) y) 0 ?_;refine dr 44 d [8,9] ?_;refine dw [0,1,4,14] ?_;refine db 14 hm (fun hm=>?_) (fun hm=>?_)
 ·refine dr 38 d [10,11,12,14,15,16] ?_;refine dl d 13 (At.ext (hE.trans hS.ext) q) 1 ?_;refine dl d 17 (At.ext (hE.trans hS.ext) y) 1 ?_;refine dr 33 d [18,19,20] ?_;refine dw [0,1,4,25] ?_;refine db 25 hm (fun hm=>?_) (fun hm=>?_)
  ·refine dr 27 d [21,22,23,25,26,27] ?_;refine dl d 24 (At.ext (hE.trans hS.ext) q) 2 ?_;refine dl d 28 (At.ext (hE.trans hS.ext) y) 2 ?_;refine dr 22 d [29,30,31] ?_;refine dw [0,1,4,36] ?_;refine db 36 hm (fun hm=>?_) (fun hm=>?_)
   ·refine dr 16 d [32,33,34,36,37,38] ?_;refine dl d 35 (At.ext (hE.trans hS.ext) q) 3 ?_;refine dl d 39 (At.ext (hE.trans hS.ext) y) 3 ?_;obtain⟨r0,X,hm⟩:=bS hm;refine o1 d 40 (mc d zkJ (zeF (hE.trans h.ext) h3 g0 X) (fun u0 y0 M=>?_));obtain⟨rfl,G⟩:=M;refine⟨G.ext,?_⟩;have o:=h.join G;refine dr 11 d [41,42] ?_;refine dw [0,1,4,47] ?_;refine db 47 hm (fun hm=>?_) (fun hm=>?_)
    ·refine dr 5 d [43,44,45,47,48,49] ?_;refine dw [4,47,50,54] ?_;refine dl d 46 (At.ext (hE.trans hS.ext) q) 4 ?_;refine dl d 50 (At.ext (hE.trans hS.ext) y) 4 ?_;obtain⟨t0,Y,hm⟩:=bS hm;refine o1 d 51 (mc d zkH (zb6 (hE.trans o.ext) h6 i0 Y) (fun v0 A0 O=>?_));obtain⟨rfl,H⟩:=O;refine⟨H.ext,?_⟩;have S:=o.join H;refine dr 0 d [52,53] ?_;refine dw [4] ?_;refine dd d ?_;refine rt ?_;cases hm;exact⟨_,.cons (.tmp rfl) .nil,rfl,S⟩
    ·refine dr 0 d [43,44,45,46,47,48,49,50,51,52,53] ?_;refine dw [4] ?_;refine dd d ?_;refine rt ?_;cases hm;exact⟨_,.cons (.tmp rfl) .nil,rfl,o⟩
   ·refine dr 0 d [32,33,34,35,36,37,38,39,40,41,42,43,44,45,46,47,48,49,50,51,52,53] ?_;refine dw [4] ?_;refine dd d ?_;refine rt ?_;cases hm;exact⟨_,.cons (.tmp rfl) .nil,rfl,h⟩
  ·refine dr 0 d [21,22,23,24,25,26,27,28,29,30,31,32,33,34,35,36,37,38,39,40,41,42,43,44,45,46,47,48,49,50,51,52,53] ?_;refine dw [4] ?_;refine dd d ?_;refine rt ?_;cases hm;exact⟨_,.cons (.tmp rfl) .nil,rfl,h⟩
 ·refine dr 0 d [10,11,12,13,14,15,16,17,18,19,20,21,22,23,24,25,26,27,28,29,30,31,32,33,34,35,36,37,38,39,40,41,42,43,44,45,46,47,48,49,50,51,52,53] ?_;refine dw [4] ?_;refine dd d ?_;refine rt ?_;cases hm;exact⟨_,.cons (.tmp rfl) .nil,rfl,h⟩

theorem zmz:Enters Tryz.prog 172:=⟨_,_,Tryz.func172,rfl,by kernel_rfl⟩
def z6R (fuel:Nat) (x0:D.Qi) (x1:Int):Option (Bool):=((z5a fuel (⟨x0.Qz.Qj,x0.Qz.QO,x0.Qz.Value,x0.Qz.Data,x0.Qz.QY⟩:D.Qd) (⟨0,0,0,[],[]⟩:D.Qd)).bind fun d=>(if(x0.Qj == 1)=true then(if d=true then some (x0.A.Qb == x1) else some false) else(if(x0.Qj == 2)=true then(if d=true then(if(x0.A.Qb == x1)=true then some (x0.A.Qj == 2) else some false) else some false) else(if(x0.Qj == 3)=true then(if(x0.Qz.Qj != 0)=true then((z50 fuel (⟨x0.Qz.Qj,x0.Qz.QO,x0.Qz.Value,x0.Qz.Data,x0.Qz.QY⟩:D.Qd)).bind fun h=>(if h=true then(if(((x0.A.Qb:Int) == 0) && (((x0.A.Qj:Int) == 0) && (((x0.A.Qk:Int) == 0) && true)))=true then some (x0.B.Qb == x1) else some false) else some false)) else some false) else(if(x0.Qj == 4)=true then(if d=true then(if(((x0.A.Qb:Int) == 0) && (((x0.A.Qj:Int) == 0) && (((x0.A.Qk:Int) == 0) && true)))=true then some (((x0.B.Qb:Int) == 0) && (((x0.B.Qj:Int) == 0) && (((x0.B.Qk:Int) == 0) && true))) else some false) else some false) else some false)))))

theorem zdq {W w:World}(hE:Ext W w){j0:Addr}{i0:List Value}{x0:D.Qi}{x1:Int}(k0:z85.ro W i0 x0) (q:At W j0 i0){fuel:Nat}{r:Bool}(hm:z6R fuel x0 x1=some r):
  Calls Tryz.prog 172 ⟨[.pointer (some j0),.int .i64 x1]⟩ w (Ret fun v w8=>v=.bool r∧St w w8 []):=by
 obtain⟨A1,k2,A4,k5,e7,h3,h6⟩:=zv k0;subst e7;refine into Tryz.func172 100 _ ?_;unfold z6R at hm;have hS:=St.start w;refine sq<|rg<|rr 1 ?_;refine rn<|sq<|rg<|qt (qb) ?_;refine nw hS (fun q0 A0 o0 Z=>?_);have a0:=Z.bring 0 rfl;refine so (A:=[]) a0 0 (fun B0 b0=>?_);refine rn<|sq<|rg<|qt (qb) ?_;refine nw b0 (fun r0 C0 p0 d0=>?_);have e0:=d0.bring 0 rfl;refine so (A:=[]) e0 0 (fun D0 y=>?_);refine rn<|sq<|rg<|rr 3 ?_;obtain⟨t0,f0,hm⟩:=bS hm;refine ca zm0 (zcB (Ext.refl _) (z61 (⟨x0.Qz.Qj,x0.Qz.QO,x0.Qz.Value,x0.Qz.Data,x0.Qz.QY⟩:D.Qd) (ty29.ext (hE.trans y.ext) h3) (z3h.ext (hE.trans y.ext) h6)) (At.sub (At.ext (hE.trans y.ext) q) 1 5) (z61 (⟨0,0,0,[],[]⟩:D.Qd) (slNil tInt 2 _) (slNil ty35 35 _)) ((y.bring 0 rfl).box) f0) (fun v0 E0 S=>?_);obtain⟨rfl,X⟩:=S;have d:=y.join X;refine rr 1 ?_;refine rn<|sq<|sq<|rg<|rr 3 ?_;refine l1 (At.ext (hE.trans d.ext) q) 0 ?_;refine rn<|bk<|sq<|rg<|rr 2 ?_;refine rn<|ci hm (fun hm=>?_) (fun hm=>?_)
 ·refine sq<|rg<|rr 2 ?_;refine rb 21 hm (fun hm=>?_) (fun hm=>?_)
  ·refine rr 4 ?_;refine l1 (At.ext (hE.trans d.ext) q) 6 ?_;refine rr 4 ?_;refine rn<|rt ?_;cases hm;exact⟨_,.cons (.tmp rfl) .nil,rfl,(d.taken 0)⟩
  ·refine rr 9 ?_;refine rn<|rt ?_;cases hm;exact⟨_,.cons (.tmp rfl) .nil,rfl,(d.taken 0)⟩
 ·refine sq<|rg<|rr 2 ?_;refine rn<|ci hm (fun hm=>?_) (fun hm=>?_)
  ·refine sq<|rg<|rr 2 ?_;refine rb 33 hm (fun hm=>?_) (fun hm=>?_)
   ·refine rr 4 ?_;refine l1 (At.ext (hE.trans d.ext) q) 6 ?_;refine rr 4 ?_;refine rb 42 hm (fun hm=>?_) (fun hm=>?_)
    ·refine rr 4 ?_;refine l1 (At.ext (hE.trans d.ext) q) 7 ?_;refine rr 3 ?_;refine rn<|rt ?_;cases hm;exact⟨_,.cons (.tmp rfl) .nil,rfl,(d.taken 0)⟩
    ·refine rr 8 ?_;refine rn<|rt ?_;cases hm;exact⟨_,.cons (.tmp rfl) .nil,rfl,(d.taken 0)⟩
   ·refine rr 17 ?_;refine rn<|rt ?_;cases hm;exact⟨_,.cons (.tmp rfl) .nil,rfl,(d.taken 0)⟩
  ·refine sq<|rg<|rr 2 ?_;refine rn<|ci hm (fun hm=>?_) (fun hm=>?_)
   ·refine sq<|dn 0 mixed 30 [([],1073741823),([0],1073741822),([1],1073741821),([2],1073741819),([3],1073741815),([4],1073741807),([5],1073741791),([6],1073741759),([7,6],1073741631),([8,6],1073741503),([9,6,6],1073741247),([6,10],1073740735),([11,10],1073739775),([12],1073737727),([13,12],1073729535),([14,12],1073721343),([15,12],1073704959),([12],1073737727),([16,17,12],1073541119),([12,18],1073475583),([19,12],1073217535),([20],1072693247),([21,20],1070596095),([22,20],1068498943),([23,20],1064304639),([24,20],1055916031),([20],1072693247),([25,26,20],972029951),([20,27],938475519),([28,20,0,1,2,3,4,5,6,7,8,9,10,11,12,13,14,15,16,17,18,19,20,21,22,23,24,25,26,27,28],805306367)] d.ext (fun h=>?_);have G:=d.step (Ext.draw _);refine dr 26 h [0,1,2,3] ?_;refine dw [0,1,4,5,55] ?_;refine dl h 4 (At.ext (hE.trans d.ext) q) 1 ?_;refine dr 23 h [5,6] ?_;refine db 58 hm (fun hm=>?_) (fun hm=>?_)
    ·refine dr 20 h [7,8,9] ?_;obtain⟨u0,g0,hm⟩:=bS hm;refine o1 h 10 (mc h zhE (zb7 (hE.trans G.ext) (z61 (⟨x0.Qz.Qj,x0.Qz.QO,x0.Qz.Value,x0.Qz.Data,x0.Qz.QY⟩:D.Qd) h3 h6) (At.sub q 1 5) g0) (fun y0 F0 Y=>?_));obtain⟨rfl,O⟩:=Y;refine⟨O.ext,?_⟩;have H:=G.join O;refine dr 17 h [11,12] ?_;refine dw [0,1,4,5,64] ?_;refine db 64 hm (fun hm=>?_) (fun hm=>?_)
     ·refine dr 14 h [13,14,15] ?_;refine dL h 16 (At.sub (At.ext (hE.trans d.ext) q) 6 3) ?_;refine dL h 17 ((d.bring 1 rfl).box) ?_;refine dr 9 h [18,19,20] ?_;refine dw [0,1,4,72] ?_;refine db 72 hm (fun hm=>?_) (fun hm=>?_)
      ·refine dr 4 h [21,22,23,24,26] ?_;refine dl h 25 (At.ext (hE.trans d.ext) q) 9 ?_;refine dr 0 h [27,28,29] ?_;refine dw [4] ?_;refine dd h ?_;refine rt ?_;cases hm;exact⟨_,.cons (.tmp rfl) .nil,rfl,(H.taken 0)⟩
      ·refine dr 0 h [21,22,23,24,25,26,27,28,29] ?_;refine dw [4] ?_;refine dd h ?_;refine rt ?_;cases hm;exact⟨_,.cons (.tmp rfl) .nil,rfl,(H.taken 0)⟩
     ·refine dr 0 h [13,14,15,16,17,18,19,20,21,22,23,24,25,26,27,28,29] ?_;refine dw [4] ?_;refine dd h ?_;refine rt ?_;cases hm;exact⟨_,.cons (.tmp rfl) .nil,rfl,(H.taken 0)⟩
    ·refine dr 0 h [7,8,9,10,11,12,13,14,15,16,17,18,19,20,21,22,23,24,25,26,27,28,29] ?_;refine dw [4] ?_;refine dd h ?_;refine rt ?_;cases hm;exact⟨_,.cons (.tmp rfl) .nil,rfl,(G.taken 0)⟩
   ·refine sq<|rg<|rr 2 ?_;refine rn<|ci hm (fun hm=>?_) (fun hm=>?_)
    ·refine sq<|dn 0 mixed 18 [([],262143),([0],262142),([1],262141),([2,1],262137),([3,1],262133),([4,1],262125),([1],262141),([5,6,1],262045),([1,7],262013),([8,1],261887),([9],261631),([10,9],260607),([11,9],259583),([12,9],257535),([9],261631),([13,14,9],237055),([9,15],228863),([16,9,0,1,2,3,4,5,6,7,8,9,10,11,12,13,14,15,16],196607)] d.ext (fun o=>?_);have M:=d.step (Ext.draw _);refine dr 16 o [0,1] ?_;refine dw [0,4,5,84] ?_;refine db 84 hm (fun hm=>?_) (fun hm=>?_)
     ·refine dr 13 o [2,3,4] ?_;refine dL o 5 (At.sub (At.ext (hE.trans d.ext) q) 6 3) ?_;refine dL o 6 ((d.bring 1 rfl).box) ?_;refine dr 8 o [7,8,9] ?_;refine dw [0,4,5,92] ?_;refine db 92 hm (fun hm=>?_) (fun hm=>?_)
      ·refine dr 5 o [10,11,12] ?_;refine dL o 13 (At.sub (At.ext (hE.trans d.ext) q) 9 3) ?_;refine dL o 14 ((d.bring 1 rfl).box) ?_;refine dr 0 o [15,16,17] ?_;refine dw [4] ?_;refine dd o ?_;refine rt ?_;cases hm;exact⟨_,.cons (.tmp rfl) .nil,rfl,(M.taken 0)⟩
      ·refine dr 0 o [10,11,12,13,14,15,16,17] ?_;refine dw [4] ?_;refine dd o ?_;refine rt ?_;cases hm;exact⟨_,.cons (.tmp rfl) .nil,rfl,(M.taken 0)⟩
     ·refine dr 0 o [2,3,4,5,6,7,8,9,10,11,12,13,14,15,16,17] ?_;refine dw [4] ?_;refine dd o ?_;refine rt ?_;cases hm;exact⟨_,.cons (.tmp rfl) .nil,rfl,(M.taken 0)⟩
    ·refine sp<|sq<|rg<|rr 1 ?_;refine rn<|rt ?_;cases hm;exact⟨_,.cons (.tmp rfl) .nil,rfl,(d.taken 0)⟩

end Go.E


