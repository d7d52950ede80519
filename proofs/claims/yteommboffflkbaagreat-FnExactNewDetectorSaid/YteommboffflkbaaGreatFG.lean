/- Models of functions and proofs that the code runs as they say (written by program). Conditions: the model gives a value. -/
import Derived.Test.YteommboffflkbaaGreatFA
namespace Go.E
open Go.RowKit Go.Proofs
set_option linter.unusedVariables false
set_option linter.unusedSimpArgs false
set_option maxHeartbeats 2000000
set_option maxRecDepth 100000

theorem zdJ:Enters Tryz.prog 62:=⟨_,_,Tryz.func62,rfl,by kernel_rfl⟩
def z32 (fuel:Nat) (x0:(List Int)) (x1:Int):Option (Int):=(if(decide ((w64 (x1 - (x0.length:Int)))<0))=true then some (-1) else some (w64 (x1 - (x0.length:Int))))

theorem laws_szInt64S_ok {W w:World}(hE:Ext W w){d:Option Addr}{h:Nat}{x0:(List Int)}{x1:Int}(o:ty29.ro W [sl d x0 h] x0){fuel:Nat}{r:Int}(hm:z32 fuel x0 x1=some r):
  Calls Tryz.prog 62 ⟨[sl d x0 h,.int .i64 x1]⟩ w (Ret fun v w8=>v=.int .i64 r∧St w w8 []):=by
 refine into Tryz.func62 12 _ ?_;unfold z32 at hm;have hS:=St.start w;refine sq<|rg<|rr 1 ?_;refine rn<|sq<|rg<|rr 5 ?_;refine rn<|sq<|sq<|rg<|rr 2 ?_;refine rn<|ci hm (fun hm=>?_) (fun hm=>?_)
 ·refine sq<|rg<|rr 1 ?_;refine rn<|rt ?_;cases hm;exact⟨_,.cons (.tmp rfl) .nil,rfl,hS⟩
 ·refine sp<|sq<|rg<|rr 2 ?_;refine rn<|rt ?_;cases hm;exact⟨_,.cons (.tmp rfl) .nil,rfl,hS⟩

theorem zk8:Enters Tryz.prog 247:=⟨_,_,Tryz.func247,rfl,by kernel_rfl⟩
def z68 (fuel:Nat) (x0:(List D.Address)) (x1:Int):Option (Int):=(if(decide ((w64 (x1 - (x0.length:Int)))<0))=true then some (-1) else some (w64 (x1 - (x0.length:Int))))

theorem laws_szAddressS_ok {W w:World}(hE:Ext W w){d:Option Addr}{h:Nat}{x0:(List D.Address)}{x1:Int}(o:zeS.ro W [sl d x0 h] x0){fuel:Nat}{r:Int}(hm:z68 fuel x0 x1=some r):
  Calls Tryz.prog 247 ⟨[sl d x0 h,.int .i64 x1]⟩ w (Ret fun v w8=>v=.int .i64 r∧St w w8 []):=by
 refine into Tryz.func247 12 _ ?_;unfold z68 at hm;have hS:=St.start w;refine sq<|rg<|rr 1 ?_;refine rn<|sq<|rg<|rr 5 ?_;refine rn<|sq<|sq<|rg<|rr 2 ?_;refine rn<|ci hm (fun hm=>?_) (fun hm=>?_)
 ·refine sq<|rg<|rr 1 ?_;refine rn<|rt ?_;cases hm;exact⟨_,.cons (.tmp rfl) .nil,rfl,hS⟩
 ·refine sp<|sq<|rg<|rr 2 ?_;refine rn<|rt ?_;cases hm;exact⟨_,.cons (.tmp rfl) .nil,rfl,hS⟩

theorem zh3:Enters Tryz.prog 223:=⟨_,_,Tryz.func223,rfl,by kernel_rfl⟩
def z3o (fuel:Nat) (x0:D.ShardCell) (x1:Int):Option (Int):=((z32 fuel x0.Data x1).bind fun d=>(if(decide (d<0))=true then some (-1) else((z68 fuel x0.Aux d).bind fun h=>(if(decide (h<0))=true then some (-1) else some h))))

theorem laws_szShardCell_ok {W w:World}(hE:Ext W w){S:List Value}{x0:D.ShardCell}{x1:Int}(X:zeR.ro W S x0){fuel:Nat}{r:Int}(hm:z3o fuel x0 x1=some r):
  Calls Tryz.prog 223 ⟨[.agg ⟨S⟩,.int .i64 x1]⟩ w (Ret fun v w8=>v=.int .i64 r∧St w w8 []):=by
 obtain⟨A1,k2,A4,k5,e7,h3,h6⟩:=zaF X;subst e7;refine into Tryz.func223 18 _ ?_;unfold z3o at hm;have hS:=St.start w;refine sq<|rg<|nw hS (fun Z f0 Y h=>?_);refine rr 1 ?_;refine rn<|sq<|rg<|rr 1 ?_;refine l1 ((h.bring 0 rfl).box) 3 ?_;refine rr 1 ?_;obtain⟨a0,M,hm⟩:=bS hm;refine ca zdJ (laws_szInt64S_ok (hE.trans h.ext) h3 M) (fun d0 g0 q=>?_);obtain⟨rfl,y⟩:=q;have d:=h.join y;refine rr 1 ?_;refine rn<|sq<|sq<|rg<|rr 2 ?_;refine rn<|ci hm (fun hm=>?_) (fun hm=>?_)
 ·refine sq<|rg<|rr 1 ?_;refine rn<|rt ?_;cases hm;exact⟨_,.cons (.tmp rfl) .nil,rfl,(d.taken 0)⟩
 ·refine sp<|sq<|rg<|rr 1 ?_;refine l1 ((d.bring 0 rfl).box) 4 ?_;refine rr 1 ?_;obtain⟨b0,O,hm⟩:=bS hm;refine ca zk8 (laws_szAddressS_ok (hE.trans d.ext) h6 O) (fun e0 i0 G=>?_);obtain⟨rfl,H⟩:=G;have o:=d.join H;refine rr 1 ?_;refine rn<|sq<|sq<|rg<|rr 2 ?_;refine rn<|ci hm (fun hm=>?_) (fun hm=>?_)
  ·refine sq<|rg<|rr 1 ?_;refine rn<|rt ?_;cases hm;exact⟨_,.cons (.tmp rfl) .nil,rfl,(o.taken 0)⟩
  ·refine sp<|sq<|rg<|rr 2 ?_;refine rn<|rt ?_;cases hm;exact⟨_,.cons (.tmp rfl) .nil,rfl,(o.taken 0)⟩

theorem zkr:Enters Tryz.prog 220:=⟨_,_,Tryz.func220,rfl,by kernel_rfl⟩
def z8U (fuel:Nat) (t2:Int):Option Int:=some t2
def z4B (fuel:Nat) (x0:(List D.ShardCell)) (s1:Int × Int):Option (Rd (Int × Int) (Int) (Int)):=(if(decide (s1.2<(x0.length:Int)))=true then((idx x0 s1.2).bind fun h=>((z3o fuel h s1.1).bind fun d=>(if(decide (d<0))=true then some (.ret (-1)) else some (.next (d,w64 (s1.2+1)))))) else some (.brk s1.1))
def z4q (fuel:Nat) (x0:(List D.ShardCell)) (x1:Int):Option (Int):=(if(decide ((w64 (x1 - (x0.length:Int)))<0))=true then some (-1) else((iter (z4B fuel x0) fuel (w64 (x1 - (x0.length:Int)),0)).bind fun o=>aft o (z8U fuel)))

theorem laws_szShardCellS_ok {W w:World}(hE:Ext W w){H:Option Addr}{b0:Nat}{x0:(List D.ShardCell)}{x1:Int}(g0:zgn.ro W [sl H x0 b0] x0){fuel:Nat}{r:Int}(hm:z4q fuel x0 x1=some r):
  Calls Tryz.prog 220 ⟨[sl H x0 b0,.int .i64 x1]⟩ w (Ret fun v w8=>v=.int .i64 r∧St w w8 []):=by
 refine into Tryz.func220 27 _ ?_;unfold z4q at hm;have hS:=St.start w;refine sq<|rg<|rr 1 ?_;refine rn<|sq<|rg<|rr 5 ?_;refine rn<|sq<|sq<|rg<|rr 2 ?_;refine rn<|ci hm (fun hm=>?_) (fun hm=>?_)
 ·refine sq<|rg<|rr 1 ?_;refine rn<|rt ?_;cases hm;exact⟨_,.cons (.tmp rfl) .nil,rfl,hS⟩
 ·refine sp<|sq<|sq<|rg<|rr 1 ?_;refine rn ?_;obtain⟨i0,X,hm⟩:=bS hm;refine ct (fun(t2:Int) F w9=>i0=.inl t2∧Ext w w9∧St w w9 []∧F=[(1,.int .i64 t2)]) ?_ ?_
  ·rintro t2 F w7 ⟨Y,q0,O,rfl⟩;subst Y;rw [z8] at hm;unfold z8U at hm;refine sq<|rg<|rr 2 ?_;refine rn<|rt ?_;cases hm;exact⟨_,.cons (.tmp rfl) .nil,rfl,O⟩
  ·refine bk<|wk [0,1,5] ?_;refine it (fun(s1:Int × Int) F w9=>Ext w w9∧St w w9 []∧F=[(0,sl H x0 b0),(1,.int .i64 s1.1),(5,.int .i64 s1.2)]) X ⟨(Ext.refl _),hS,rfl⟩ ?_;rintro s1 F B0 _ u0 ⟨d0,h,rfl⟩ d y;unfold z4B at d;refine sq<|sq<|rg<|rr 4 ?_;refine rn<|ci d (fun d=>?_) (fun d=>?_)
   ·refine sp<|sq<|bk<|sq<|rg<|rr 2 ?_;obtain⟨D0,Z,d⟩:=bS d;refine ix (hE.trans h.ext) g0 Z (fun v0 f0 S G=>?_);obtain⟨j0,r0,k0,t0,e0,o0,p0⟩:=zaF G;subst e0;refine lN (At.ext (hE.trans h.ext) S) ?_;refine rr 1 ?_;obtain⟨y0,a0,d⟩:=bS d;refine ca zh3 (laws_szShardCell_ok (hE.trans h.ext) G a0) (fun A0 C0 M=>?_);obtain⟨rfl,o⟩:=M;have q:=h.join o;refine rr 1 ?_;refine rn<|sq<|rg<|rr 2 ?_;refine rn<|ci d (fun d=>?_) (fun d=>?_)
    ·refine sq<|rg<|rr 1 ?_;refine rn<|rt ?_;cases d;cases y;have hm:some _=some _:=hm;cases hm;exact⟨_,.cons (.tmp rfl) .nil,rfl,q⟩
    ·refine sp<|rg<|rr 3 ?_;refine rn ?_;cases d;exact⟨_,_,rfl,⟨(d0.trans o.ext),q,rfl⟩,rfl⟩
   ·refine xt ?_;cases d;exact⟨_,_,⟨y,d0,h,rfl⟩,rfl⟩

theorem zkq:Enters Tryz.prog 221:=⟨_,_,Tryz.func221,rfl,by kernel_rfl⟩
def z5e (fuel:Nat) (x0:(List D.ShardVar)) (x1:Int):Option (Int):=(if(decide ((w64 (x1 - (x0.length:Int)))<0))=true then some (-1) else some (w64 (x1 - (x0.length:Int))))

theorem laws_szShardVarS_ok {W w:World}(hE:Ext W w){d:Option Addr}{h:Nat}{x0:(List D.ShardVar)}{x1:Int}(o:zgm.ro W [sl d x0 h] x0){fuel:Nat}{r:Int}(hm:z5e fuel x0 x1=some r):
  Calls Tryz.prog 221 ⟨[sl d x0 h,.int .i64 x1]⟩ w (Ret fun v w8=>v=.int .i64 r∧St w w8 []):=by
 refine into Tryz.func221 12 _ ?_;unfold z5e at hm;have hS:=St.start w;refine sq<|rg<|rr 1 ?_;refine rn<|sq<|rg<|rr 5 ?_;refine rn<|sq<|sq<|rg<|rr 2 ?_;refine rn<|ci hm (fun hm=>?_) (fun hm=>?_)
 ·refine sq<|rg<|rr 1 ?_;refine rn<|rt ?_;cases hm;exact⟨_,.cons (.tmp rfl) .nil,rfl,hS⟩
 ·refine sp<|sq<|rg<|rr 2 ?_;refine rn<|rt ?_;cases hm;exact⟨_,.cons (.tmp rfl) .nil,rfl,hS⟩

theorem zkp:Enters Tryz.prog 222:=⟨_,_,Tryz.func222,rfl,by kernel_rfl⟩
def z3E (fuel:Nat) (x0:(List D.ShardRedex)) (x1:Int):Option (Int):=(if(decide ((w64 (x1 - (x0.length:Int)))<0))=true then some (-1) else some (w64 (x1 - (x0.length:Int))))

theorem laws_szShardRedexS_ok {W w:World}(hE:Ext W w){d:Option Addr}{h:Nat}{x0:(List D.ShardRedex)}{x1:Int}(o:zgk.ro W [sl d x0 h] x0){fuel:Nat}{r:Int}(hm:z3E fuel x0 x1=some r):
  Calls Tryz.prog 222 ⟨[sl d x0 h,.int .i64 x1]⟩ w (Ret fun v w8=>v=.int .i64 r∧St w w8 []):=by
 refine into Tryz.func222 12 _ ?_;unfold z3E at hm;have hS:=St.start w;refine sq<|rg<|rr 1 ?_;refine rn<|sq<|rg<|rr 5 ?_;refine rn<|sq<|sq<|rg<|rr 2 ?_;refine rn<|ci hm (fun hm=>?_) (fun hm=>?_)
 ·refine sq<|rg<|rr 1 ?_;refine rn<|rt ?_;cases hm;exact⟨_,.cons (.tmp rfl) .nil,rfl,hS⟩
 ·refine sp<|sq<|rg<|rr 2 ?_;refine rn<|rt ?_;cases hm;exact⟨_,.cons (.tmp rfl) .nil,rfl,hS⟩

theorem zm0:Enters Tryz.prog 168:=⟨_,_,Tryz.func168,rfl,by kernel_rfl⟩
def z7R (fuel:Nat) (x0:D.Shard) (x1:Int):Option (Int):=((z4q fuel x0.Cells x1).bind fun d=>(if(decide (d<0))=true then some (-1) else((z5e fuel x0.Vars d).bind fun h=>(if(decide (h<0))=true then some (-1) else((z3E fuel x0.Redexes h).bind fun o=>(if(decide (o<0))=true then some (-1) else some o))))))

theorem laws_szShard_ok {W w:World}(hE:Ext W w){a0:List Value}{x0:D.Shard}{x1:Int}(d0:zhz.ro W a0 x0){fuel:Nat}{r:Int}(hm:z7R fuel x0 x1=some r):
  Calls Tryz.prog 168 ⟨[.agg ⟨a0⟩,.int .i64 x1]⟩ w (Ret fun v w8=>v=.int .i64 r∧St w w8 []):=by
 obtain⟨A1,k2,A4,k5,A7,i0,b0,h3,h6,e0⟩:=zbL d0;subst b0;refine into Tryz.func168 24 _ ?_;unfold z7R at hm;have hS:=St.start w;refine sq<|rg<|nw hS (fun g0 t0 f0 o=>?_);refine rr 1 ?_;refine rn<|sq<|rg<|rr 1 ?_;refine l1 ((o.bring 0 rfl).box) 0 ?_;refine rr 1 ?_;obtain⟨j0,X,hm⟩:=bS hm;refine ca zkr (laws_szShardCellS_ok (hE.trans o.ext) h3 X) (fun p0 u0 y=>?_);obtain⟨rfl,G⟩:=y;have d:=o.join G;refine rr 1 ?_;refine rn<|sq<|sq<|rg<|rr 2 ?_;refine rn<|ci hm (fun hm=>?_) (fun hm=>?_)
 ·refine sq<|rg<|rr 1 ?_;refine rn<|rt ?_;cases hm;exact⟨_,.cons (.tmp rfl) .nil,rfl,(d.taken 0)⟩
 ·refine sp<|sq<|rg<|rr 1 ?_;refine l1 ((d.bring 0 rfl).box) 1 ?_;refine rr 1 ?_;obtain⟨k0,Y,hm⟩:=bS hm;refine ca zkq (laws_szShardVarS_ok (hE.trans d.ext) h6 Y) (fun q0 v0 H=>?_);obtain⟨rfl,M⟩:=H;have h:=d.join M;refine rr 1 ?_;refine rn<|sq<|sq<|rg<|rr 2 ?_;refine rn<|ci hm (fun hm=>?_) (fun hm=>?_)
  ·refine sq<|rg<|rr 1 ?_;refine rn<|rt ?_;cases hm;exact⟨_,.cons (.tmp rfl) .nil,rfl,(h.taken 0)⟩
  ·refine sp<|sq<|rg<|rr 1 ?_;refine l1 ((h.bring 0 rfl).box) 2 ?_;refine rr 1 ?_;obtain⟨o0,Z,hm⟩:=bS hm;refine ca zkp (laws_szShardRedexS_ok (hE.trans h.ext) e0 Z) (fun r0 y0 O=>?_);obtain⟨rfl,S⟩:=O;have q:=h.join S;refine rr 1 ?_;refine rn<|sq<|sq<|rg<|rr 2 ?_;refine rn<|ci hm (fun hm=>?_) (fun hm=>?_)
   ·refine sq<|rg<|rr 1 ?_;refine rn<|rt ?_;cases hm;exact⟨_,.cons (.tmp rfl) .nil,rfl,(q.taken 0)⟩
   ·refine sp<|sq<|rg<|rr 2 ?_;refine rn<|rt ?_;cases hm;exact⟨_,.cons (.tmp rfl) .nil,rfl,(q.taken 0)⟩

theorem zmt:Enters Tryz.prog 120:=⟨_,_,Tryz.func120,rfl,by kernel_rfl⟩
def zat (fuel:Nat) (t2:Int):Option Int:=some t2
def z75 (fuel:Nat) (x0:(List D.Shard)) (s1:Int × Int):Option (Rd (Int × Int) (Int) (Int)):=(if(decide (s1.2<(x0.length:Int)))=true then((idx x0 s1.2).bind fun h=>((z7R fuel h s1.1).bind fun d=>(if(decide (d<0))=true then some (.ret (-1)) else some (.next (d,w64 (s1.2+1)))))) else some (.brk s1.1))
def z7h (fuel:Nat) (x0:(List D.Shard)) (x1:Int):Option (Int):=(if(decide ((w64 (x1 - (x0.length:Int)))<0))=true then some (-1) else((iter (z75 fuel x0) fuel (w64 (x1 - (x0.length:Int)),0)).bind fun o=>aft o (zat fuel)))

theorem laws_szShardS_ok {W w:World}(hE:Ext W w){H:Option Addr}{b0:Nat}{x0:(List D.Shard)}{x1:Int}(g0:ty22.ro W [sl H x0 b0] x0){fuel:Nat}{r:Int}(hm:z7h fuel x0 x1=some r):
  Calls Tryz.prog 120 ⟨[sl H x0 b0,.int .i64 x1]⟩ w (Ret fun v w8=>v=.int .i64 r∧St w w8 []):=by
 refine into Tryz.func120 27 _ ?_;unfold z7h at hm;have hS:=St.start w;refine sq<|rg<|rr 1 ?_;refine rn<|sq<|rg<|rr 5 ?_;refine rn<|sq<|sq<|rg<|rr 2 ?_;refine rn<|ci hm (fun hm=>?_) (fun hm=>?_)
 ·refine sq<|rg<|rr 1 ?_;refine rn<|rt ?_;cases hm;exact⟨_,.cons (.tmp rfl) .nil,rfl,hS⟩
 ·refine sp<|sq<|sq<|rg<|rr 1 ?_;refine rn ?_;obtain⟨i0,X,hm⟩:=bS hm;refine ct (fun(t2:Int) F w9=>i0=.inl t2∧Ext w w9∧St w w9 []∧F=[(1,.int .i64 t2)]) ?_ ?_
  ·rintro t2 F w7 ⟨Y,t0,O,rfl⟩;subst Y;rw [z8] at hm;unfold zat at hm;refine sq<|rg<|rr 2 ?_;refine rn<|rt ?_;cases hm;exact⟨_,.cons (.tmp rfl) .nil,rfl,O⟩
  ·refine bk<|wk [0,1,5] ?_;refine it (fun(s1:Int × Int) F w9=>Ext w w9∧St w w9 []∧F=[(0,sl H x0 b0),(1,.int .i64 s1.1),(5,.int .i64 s1.2)]) X ⟨(Ext.refl _),hS,rfl⟩ ?_;rintro s1 F E0 _ A0 ⟨d0,h,rfl⟩ d y;unfold z75 at d;refine sq<|sq<|rg<|rr 4 ?_;refine rn<|ci d (fun d=>?_) (fun d=>?_)
   ·refine sp<|sq<|bk<|sq<|rg<|rr 2 ?_;obtain⟨G0,Z,d⟩:=bS d;refine ix (hE.trans h.ext) g0 Z (fun B0 f0 S G=>?_);obtain⟨j0,u0,k0,v0,o0,y0,e0,p0,q0,r0⟩:=zbL G;subst e0;refine lN (At.ext (hE.trans h.ext) S) ?_;refine rr 1 ?_;obtain⟨C0,a0,d⟩:=bS d;refine ca zm0 (laws_szShard_ok (hE.trans h.ext) G a0) (fun D0 F0 M=>?_);obtain⟨rfl,o⟩:=M;have q:=h.join o;refine rr 1 ?_;refine rn<|sq<|rg<|rr 2 ?_;refine rn<|ci d (fun d=>?_) (fun d=>?_)
    ·refine sq<|rg<|rr 1 ?_;refine rn<|rt ?_;cases d;cases y;have hm:some _=some _:=hm;cases hm;exact⟨_,.cons (.tmp rfl) .nil,rfl,q⟩
    ·refine sp<|rg<|rr 3 ?_;refine rn ?_;cases d;exact⟨_,_,rfl,⟨(d0.trans o.ext),q,rfl⟩,rfl⟩
   ·refine xt ?_;cases d;exact⟨_,_,⟨y,d0,h,rfl⟩,rfl⟩

theorem znW:Enters Tryz.prog 59:=⟨_,_,Tryz.func59,rfl,by kernel_rfl⟩
def z8E (fuel:Nat) (x0:D.Grid) (x1:Int):Option (Int):=((z7h fuel x0.Shards x1).bind fun d=>(if(decide (d<0))=true then some (-1) else some d))

theorem laws_szGrid_ok {W w:World}(hE:Ext W w){G:List Value}{x0:D.Grid}{x1:Int}(H:ty26.ro W G x0){fuel:Nat}{r:Int}(hm:z8E fuel x0 x1=some r):
  Calls Tryz.prog 59 ⟨[.agg ⟨G⟩,.int .i64 x1]⟩ w (Ret fun v w8=>v=.int .i64 r∧St w w8 []):=by
 obtain⟨A1,k2,e4,h3⟩:=zdQ H;subst e4;refine into Tryz.func59 12 _ ?_;unfold z8E at hm;have hS:=St.start w;refine sq<|rg<|nw hS (fun g5 w6 e7 d=>?_);refine rr 1 ?_;refine rn<|sq<|rg<|rr 1 ?_;refine l1 ((d.bring 0 rfl).box) 0 ?_;refine rr 1 ?_;obtain⟨M,y,hm⟩:=bS hm;refine ca zmt (laws_szShardS_ok (hE.trans d.ext) h3 y) (fun O S o=>?_);obtain⟨rfl,q⟩:=o;have h:=d.join q;refine rr 1 ?_;refine rn<|sq<|sq<|rg<|rr 2 ?_;refine rn<|ci hm (fun hm=>?_) (fun hm=>?_)
 ·refine sq<|rg<|rr 1 ?_;refine rn<|rt ?_;cases hm;exact⟨_,.cons (.tmp rfl) .nil,rfl,(h.taken 0)⟩
 ·refine sp<|sq<|rg<|rr 2 ?_;refine rn<|rt ?_;cases hm;exact⟨_,.cons (.tmp rfl) .nil,rfl,(h.taken 0)⟩

theorem zkZ:Enters Tryz.prog 169:=⟨_,_,Tryz.func169,rfl,by kernel_rfl⟩
def z7i (fuel:Nat) (x0:D.Parcel) (x1:Int):Option (Int):=((z3o fuel x0.Cell x1).bind fun d=>(if(decide (d<0))=true then some (-1) else some d))

theorem laws_szParcel_ok {W w:World}(hE:Ext W w){G:List Value}{x0:D.Parcel}{x1:Int}(H:zhy.ro W G x0){fuel:Nat}{r:Int}(hm:z7i fuel x0 x1=some r):
  Calls Tryz.prog 169 ⟨[.agg ⟨G⟩,.int .i64 x1]⟩ w (Ret fun v w8=>v=.int .i64 r∧St w w8 []):=by
 obtain⟨A1,k2,A4,k5,e7,h3,h6⟩:=zbK H;subst e7;refine into Tryz.func169 12 _ ?_;unfold z7i at hm;have hS:=St.start w;refine sq<|rg<|nw hS (fun O Y M d=>?_);refine rr 1 ?_;refine rn<|sq<|rg<|rr 1 ?_;refine lN (At.sub ((d.bring 0 rfl).box) 1 5) ?_;refine rr 1 ?_;obtain⟨S,y,hm⟩:=bS hm;refine ca zh3 (laws_szShardCell_ok (hE.trans d.ext) (zfi x0.Cell h3 h6) y) (fun X Z o=>?_);obtain⟨rfl,q⟩:=o;have h:=d.join q;refine rr 1 ?_;refine rn<|sq<|sq<|rg<|rr 2 ?_;refine rn<|ci hm (fun hm=>?_) (fun hm=>?_)
 ·refine sq<|rg<|rr 1 ?_;refine rn<|rt ?_;cases hm;exact⟨_,.cons (.tmp rfl) .nil,rfl,(h.taken 0)⟩
 ·refine sp<|sq<|rg<|rr 2 ?_;refine rn<|rt ?_;cases hm;exact⟨_,.cons (.tmp rfl) .nil,rfl,(h.taken 0)⟩

theorem zms:Enters Tryz.prog 121:=⟨_,_,Tryz.func121,rfl,by kernel_rfl⟩
def za7 (fuel:Nat) (t2:Int):Option Int:=some t2
def z6q (fuel:Nat) (x0:(List D.Parcel)) (s1:Int × Int):Option (Rd (Int × Int) (Int) (Int)):=(if(decide (s1.2<(x0.length:Int)))=true then((idx x0 s1.2).bind fun h=>((z7i fuel h s1.1).bind fun d=>(if(decide (d<0))=true then some (.ret (-1)) else some (.next (d,w64 (s1.2+1)))))) else some (.brk s1.1))
def z6J (fuel:Nat) (x0:(List D.Parcel)) (x1:Int):Option (Int):=(if(decide ((w64 (x1 - (x0.length:Int)))<0))=true then some (-1) else((iter (z6q fuel x0) fuel (w64 (x1 - (x0.length:Int)),0)).bind fun o=>aft o (za7 fuel)))

theorem laws_szParcelS_ok {W w:World}(hE:Ext W w){H:Option Addr}{b0:Nat}{x0:(List D.Parcel)}{x1:Int}(g0:zhD.ro W [sl H x0 b0] x0){fuel:Nat}{r:Int}(hm:z6J fuel x0 x1=some r):
  Calls Tryz.prog 121 ⟨[sl H x0 b0,.int .i64 x1]⟩ w (Ret fun v w8=>v=.int .i64 r∧St w w8 []):=by
 refine into Tryz.func121 27 _ ?_;unfold z6J at hm;have hS:=St.start w;refine sq<|rg<|rr 1 ?_;refine rn<|sq<|rg<|rr 5 ?_;refine rn<|sq<|sq<|rg<|rr 2 ?_;refine rn<|ci hm (fun hm=>?_) (fun hm=>?_)
 ·refine sq<|rg<|rr 1 ?_;refine rn<|rt ?_;cases hm;exact⟨_,.cons (.tmp rfl) .nil,rfl,hS⟩
 ·refine sp<|sq<|sq<|rg<|rr 1 ?_;refine rn ?_;obtain⟨i0,X,hm⟩:=bS hm;refine ct (fun(t2:Int) F w9=>i0=.inl t2∧Ext w w9∧St w w9 []∧F=[(1,.int .i64 t2)]) ?_ ?_
  ·rintro t2 F w7 ⟨Y,q0,O,rfl⟩;subst Y;rw [z8] at hm;unfold za7 at hm;refine sq<|rg<|rr 2 ?_;refine rn<|rt ?_;cases hm;exact⟨_,.cons (.tmp rfl) .nil,rfl,O⟩
  ·refine bk<|wk [0,1,5] ?_;refine it (fun(s1:Int × Int) F w9=>Ext w w9∧St w w9 []∧F=[(0,sl H x0 b0),(1,.int .i64 s1.1),(5,.int .i64 s1.2)]) X ⟨(Ext.refl _),hS,rfl⟩ ?_;rintro s1 F B0 _ u0 ⟨d0,h,rfl⟩ d y;unfold z6q at d;refine sq<|sq<|rg<|rr 4 ?_;refine rn<|ci d (fun d=>?_) (fun d=>?_)
   ·refine sp<|sq<|bk<|sq<|rg<|rr 2 ?_;obtain⟨D0,Z,d⟩:=bS d;refine ix (hE.trans h.ext) g0 Z (fun v0 f0 S G=>?_);obtain⟨j0,r0,k0,t0,e0,o0,p0⟩:=zbK G;subst e0;refine lN (At.ext (hE.trans h.ext) S) ?_;refine rr 1 ?_;obtain⟨y0,a0,d⟩:=bS d;refine ca zkZ (laws_szParcel_ok (hE.trans h.ext) G a0) (fun A0 C0 M=>?_);obtain⟨rfl,o⟩:=M;have q:=h.join o;refine rr 1 ?_;refine rn<|sq<|rg<|rr 2 ?_;refine rn<|ci d (fun d=>?_) (fun d=>?_)
    ·refine sq<|rg<|rr 1 ?_;refine rn<|rt ?_;cases d;cases y;have hm:some _=some _:=hm;cases hm;exact⟨_,.cons (.tmp rfl) .nil,rfl,q⟩
    ·refine sp<|rg<|rr 3 ?_;refine rn ?_;cases d;exact⟨_,_,rfl,⟨(d0.trans o.ext),q,rfl⟩,rfl⟩
   ·refine xt ?_;cases d;exact⟨_,_,⟨y,d0,h,rfl⟩,rfl⟩

theorem znV:Enters Tryz.prog 60:=⟨_,_,Tryz.func60,rfl,by kernel_rfl⟩
def z9F (fuel:Nat) (t2:Int):Option Int:=some t2
def z5F (fuel:Nat) (x0:(List (List D.Parcel))) (s1:Int × Int):Option (Rd (Int × Int) (Int) (Int)):=(if(decide (s1.2<(x0.length:Int)))=true then((idx x0 s1.2).bind fun h=>((z6J fuel h s1.1).bind fun d=>(if(decide (d<0))=true then some (.ret (-1)) else some (.next (d,w64 (s1.2+1)))))) else some (.brk s1.1))
def z67 (fuel:Nat) (x0:(List (List D.Parcel))) (x1:Int):Option (Int):=(if(decide ((w64 (x1 - (x0.length:Int)))<0))=true then some (-1) else((iter (z5F fuel x0) fuel (w64 (x1 - (x0.length:Int)),0)).bind fun o=>aft o (z9F fuel)))

theorem laws_szParcelSS_ok {W w:World}(hE:Ext W w){H:Option Addr}{b0:Nat}{x0:(List (List D.Parcel))}{x1:Int}(g0:ty27.ro W [sl H x0 b0] x0){fuel:Nat}{r:Int}(hm:z67 fuel x0 x1=some r):
  Calls Tryz.prog 60 ⟨[sl H x0 b0,.int .i64 x1]⟩ w (Ret fun v w8=>v=.int .i64 r∧St w w8 []):=by
 refine into Tryz.func60 27 _ ?_;unfold z67 at hm;have hS:=St.start w;refine sq<|rg<|rr 1 ?_;refine rn<|sq<|rg<|rr 5 ?_;refine rn<|sq<|sq<|rg<|rr 2 ?_;refine rn<|ci hm (fun hm=>?_) (fun hm=>?_)
 ·refine sq<|rg<|rr 1 ?_;refine rn<|rt ?_;cases hm;exact⟨_,.cons (.tmp rfl) .nil,rfl,hS⟩
 ·refine sp<|sq<|sq<|rg<|rr 1 ?_;refine rn ?_;obtain⟨i0,X,hm⟩:=bS hm;refine ct (fun(t2:Int) F w9=>i0=.inl t2∧Ext w w9∧St w w9 []∧F=[(1,.int .i64 t2)]) ?_ ?_
  ·rintro t2 F w7 ⟨Y,k0,O,rfl⟩;subst Y;rw [z8] at hm;unfold z9F at hm;refine sq<|rg<|rr 2 ?_;refine rn<|rt ?_;cases hm;exact⟨_,.cons (.tmp rfl) .nil,rfl,O⟩
  ·refine bk<|wk [0,1,5] ?_;refine it (fun(s1:Int × Int) F w9=>Ext w w9∧St w w9 []∧F=[(0,sl H x0 b0),(1,.int .i64 s1.1),(5,.int .i64 s1.2)]) X ⟨(Ext.refl _),hS,rfl⟩ ?_;rintro s1 F u0 _ p0 ⟨d0,h,rfl⟩ d y;unfold z5F at d;refine sq<|sq<|rg<|rr 4 ?_;refine rn<|ci d (fun d=>?_) (fun d=>?_)
   ·refine sp<|sq<|bk<|sq<|rg<|rr 2 ?_;obtain⟨y0,Z,d⟩:=bS d;refine ix (hE.trans h.ext) g0 Z (fun q0 f0 S G=>?_);obtain⟨j0,o0,e0⟩:=zfn G;subst e0;refine l1 (At.ext (hE.trans h.ext) S) 0 ?_;refine rr 1 ?_;obtain⟨r0,a0,d⟩:=bS d;refine ca zms (laws_szParcelS_ok (hE.trans h.ext) G a0) (fun t0 v0 M=>?_);obtain⟨rfl,o⟩:=M;have q:=h.join o;refine rr 1 ?_;refine rn<|sq<|rg<|rr 2 ?_;refine rn<|ci d (fun d=>?_) (fun d=>?_)
    ·refine sq<|rg<|rr 1 ?_;refine rn<|rt ?_;cases d;cases y;have hm:some _=some _:=hm;cases hm;exact⟨_,.cons (.tmp rfl) .nil,rfl,q⟩
    ·refine sp<|rg<|rr 3 ?_;refine rn ?_;cases d;exact⟨_,_,rfl,⟨(d0.trans o.ext),q,rfl⟩,rfl⟩
   ·refine xt ?_;cases d;exact⟨_,_,⟨y,d0,h,rfl⟩,rfl⟩

theorem znU:Enters Tryz.prog 61:=⟨_,_,Tryz.func61,rfl,by kernel_rfl⟩
def za8 (fuel:Nat) (t2:Int):Option Int:=some t2
def z6r (fuel:Nat) (x0:(List (List Int))) (s1:Int × Int):Option (Rd (Int × Int) (Int) (Int)):=(if(decide (s1.2<(x0.length:Int)))=true then((idx x0 s1.2).bind fun h=>((z32 fuel h s1.1).bind fun d=>(if(decide (d<0))=true then some (.ret (-1)) else some (.next (d,w64 (s1.2+1)))))) else some (.brk s1.1))
def z6K (fuel:Nat) (x0:(List (List Int))) (x1:Int):Option (Int):=(if(decide ((w64 (x1 - (x0.length:Int)))<0))=true then some (-1) else((iter (z6r fuel x0) fuel (w64 (x1 - (x0.length:Int)),0)).bind fun o=>aft o (za8 fuel)))

theorem laws_szInt64SS_ok {W w:World}(hE:Ext W w){H:Option Addr}{b0:Nat}{x0:(List (List Int))}{x1:Int}(g0:ty28.ro W [sl H x0 b0] x0){fuel:Nat}{r:Int}(hm:z6K fuel x0 x1=some r):
  Calls Tryz.prog 61 ⟨[sl H x0 b0,.int .i64 x1]⟩ w (Ret fun v w8=>v=.int .i64 r∧St w w8 []):=by
 refine into Tryz.func61 27 _ ?_;unfold z6K at hm;have hS:=St.start w;refine sq<|rg<|rr 1 ?_;refine rn<|sq<|rg<|rr 5 ?_;refine rn<|sq<|sq<|rg<|rr 2 ?_;refine rn<|ci hm (fun hm=>?_) (fun hm=>?_)
 ·refine sq<|rg<|rr 1 ?_;refine rn<|rt ?_;cases hm;exact⟨_,.cons (.tmp rfl) .nil,rfl,hS⟩
 ·refine sp<|sq<|sq<|rg<|rr 1 ?_;refine rn ?_;obtain⟨i0,X,hm⟩:=bS hm;refine ct (fun(t2:Int) F w9=>i0=.inl t2∧Ext w w9∧St w w9 []∧F=[(1,.int .i64 t2)]) ?_ ?_
  ·rintro t2 F w7 ⟨Y,k0,O,rfl⟩;subst Y;rw [z8] at hm;unfold za8 at hm;refine sq<|rg<|rr 2 ?_;refine rn<|rt ?_;cases hm;exact⟨_,.cons (.tmp rfl) .nil,rfl,O⟩
  ·refine bk<|wk [0,1,5] ?_;refine it (fun(s1:Int × Int) F w9=>Ext w w9∧St w w9 []∧F=[(0,sl H x0 b0),(1,.int .i64 s1.1),(5,.int .i64 s1.2)]) X ⟨(Ext.refl _),hS,rfl⟩ ?_;rintro s1 F u0 _ p0 ⟨d0,h,rfl⟩ d y;unfold z6r at d;refine sq<|sq<|rg<|rr 4 ?_;refine rn<|ci d (fun d=>?_) (fun d=>?_)
   ·refine sp<|sq<|bk<|sq<|rg<|rr 2 ?_;obtain⟨y0,Z,d⟩:=bS d;refine ix (hE.trans h.ext) g0 Z (fun q0 f0 S G=>?_);obtain⟨j0,o0,e0⟩:=z1D G;subst e0;refine l1 (At.ext (hE.trans h.ext) S) 0 ?_;refine rr 1 ?_;obtain⟨r0,a0,d⟩:=bS d;refine ca zdJ (laws_szInt64S_ok (hE.trans h.ext) G a0) (fun t0 v0 M=>?_);obtain⟨rfl,o⟩:=M;have q:=h.join o;refine rr 1 ?_;refine rn<|sq<|rg<|rr 2 ?_;refine rn<|ci d (fun d=>?_) (fun d=>?_)
    ·refine sq<|rg<|rr 1 ?_;refine rn<|rt ?_;cases d;cases y;have hm:some _=some _:=hm;cases hm;exact⟨_,.cons (.tmp rfl) .nil,rfl,q⟩
    ·refine sp<|rg<|rr 3 ?_;refine rn ?_;cases d;exact⟨_,_,rfl,⟨(d0.trans o.ext),q,rfl⟩,rfl⟩
   ·refine xt ?_;cases d;exact⟨_,_,⟨y,d0,h,rfl⟩,rfl⟩

theorem zo1:Enters Tryz.prog 15:=⟨_,_,Tryz.func15,rfl,by kernel_rfl⟩
def z6L (fuel:Nat) (x0:D.Cluster) (x1:Int):Option (Int):=((z8E fuel x0.Grid x1).bind fun d=>(if(decide (d<0))=true then some (-1) else((z67 fuel x0.Channels d).bind fun h=>(if(decide (h<0))=true then some (-1) else((z6K fuel x0.Counts h).bind fun o=>(if(decide (o<0))=true then some (-1) else((z32 fuel x0.Sent o).bind fun q=>(if(decide (q<0))=true then some (-1) else((z32 fuel x0.Got q).bind fun y=>(if(decide (y<0))=true then some (-1) else some y))))))))))

theorem laws_szCluster_ok {W w:World}(hE:Ext W w){k0:List Value}{x0:D.Cluster}{x1:Int}(p0:ty31.ro W k0 x0){fuel:Nat}{r:Int}(hm:z6L fuel x0 x1=some r):
  Calls Tryz.prog 15 ⟨[.agg ⟨k0⟩,.int .i64 x1]⟩ w (Ret fun v w8=>v=.int .i64 r∧St w w8 []):=by
 obtain⟨A1,k2,A4,k5,A7,B0,u0,C0,v0,D0,o0,h3,h6,q0,r0,t0⟩:=zdP p0;subst o0;refine into Tryz.func15 36 _ ?_;unfold z6L at hm;have hS:=St.start w;refine sq<|rg<|nw hS (fun A0 P0 y0 y=>?_);refine rr 1 ?_;refine rn<|sq<|rg<|rr 1 ?_;refine lN (At.sub ((y.bring 0 rfl).box) 0 4) ?_;refine rr 1 ?_;obtain⟨E0,e0,hm⟩:=bS hm;refine ca znW (laws_szGrid_ok (hE.trans y.ext) (zgh x0.Grid h3) e0) (fun K0 Q0 H=>?_);obtain⟨rfl,M⟩:=H;have d:=y.join M;refine rr 1 ?_;refine rn<|sq<|sq<|rg<|rr 2 ?_;refine rn<|ci hm (fun hm=>?_) (fun hm=>?_)
 ·refine sq<|rg<|rr 1 ?_;refine rn<|rt ?_;cases hm;exact⟨_,.cons (.tmp rfl) .nil,rfl,(d.taken 0)⟩
 ·refine sp<|sq<|rg<|rr 1 ?_;refine l1 ((d.bring 0 rfl).box) 4 ?_;refine rr 1 ?_;obtain⟨F0,f0,hm⟩:=bS hm;refine ca znV (laws_szParcelSS_ok (hE.trans d.ext) h6 f0) (fun L0 R0 O=>?_);obtain⟨rfl,S⟩:=O;have h:=d.join S;refine rr 1 ?_;refine rn<|sq<|sq<|rg<|rr 2 ?_;refine rn<|ci hm (fun hm=>?_) (fun hm=>?_)
  ·refine sq<|rg<|rr 1 ?_;refine rn<|rt ?_;cases hm;exact⟨_,.cons (.tmp rfl) .nil,rfl,(h.taken 0)⟩
  ·refine sp<|sq<|rg<|rr 1 ?_;refine l1 ((h.bring 0 rfl).box) 5 ?_;refine rr 1 ?_;obtain⟨G0,g0,hm⟩:=bS hm;refine ca znU (laws_szInt64SS_ok (hE.trans h.ext) q0 g0) (fun M0 S0 X=>?_);obtain⟨rfl,Y⟩:=X;have o:=h.join Y;refine rr 1 ?_;refine rn<|sq<|sq<|rg<|rr 2 ?_;refine rn<|ci hm (fun hm=>?_) (fun hm=>?_)
   ·refine sq<|rg<|rr 1 ?_;refine rn<|rt ?_;cases hm;exact⟨_,.cons (.tmp rfl) .nil,rfl,(o.taken 0)⟩
   ·refine sp<|sq<|rg<|rr 1 ?_;refine l1 ((o.bring 0 rfl).box) 6 ?_;refine rr 1 ?_;obtain⟨H0,i0,hm⟩:=bS hm;refine ca zdJ (laws_szInt64S_ok (hE.trans o.ext) r0 i0) (fun N0 T0 Z=>?_);obtain⟨rfl,a0⟩:=Z;have q:=o.join a0;refine rr 1 ?_;refine rn<|sq<|sq<|rg<|rr 2 ?_;refine rn<|ci hm (fun hm=>?_) (fun hm=>?_)
    ·refine sq<|rg<|rr 1 ?_;refine rn<|rt ?_;cases hm;exact⟨_,.cons (.tmp rfl) .nil,rfl,(q.taken 0)⟩
    ·refine sp<|sq<|rg<|rr 1 ?_;refine l1 ((q.bring 0 rfl).box) 7 ?_;refine rr 1 ?_;obtain⟨J0,j0,hm⟩:=bS hm;refine ca zdJ (laws_szInt64S_ok (hE.trans q.ext) t0 j0) (fun O0 U0 b0=>?_);obtain⟨rfl,d0⟩:=b0;have G:=q.join d0;refine rr 1 ?_;refine rn<|sq<|sq<|rg<|rr 2 ?_;refine rn<|ci hm (fun hm=>?_) (fun hm=>?_)
     ·refine sq<|rg<|rr 1 ?_;refine rn<|rt ?_;cases hm;exact⟨_,.cons (.tmp rfl) .nil,rfl,(G.taken 0)⟩
     ·refine sp<|sq<|rg<|rr 2 ?_;refine rn<|rt ?_;cases hm;exact⟨_,.cons (.tmp rfl) .nil,rfl,(G.taken 0)⟩

theorem zdH:Enters Tryz.prog 67:=⟨_,_,Tryz.func67,rfl,by kernel_rfl⟩
def zas (fuel:Nat) (d:(List Int)):Option (List Int):=some d
def z74 (fuel:Nat) (x0:(List Int)) (d:Int × (List Int)):Option (Rd (Int × (List Int)) ((List Int)) ((List Int))):=(if(decide (d.1<(x0.length:Int)))=true then((idx x0 d.1).bind fun h=>(if decide (0≤d.1∧d.1.toNat<d.2.length)=true then some (.next (w64 (d.1+1),(d.2.set d.1.toNat h))) else none)) else some (.brk d.2))
def z31 (fuel:Nat) (x0:(List Int)):Option ((List Int)):=(if decide (0≤(x0.length:Int)∧(x0.length:Int)≤4294967296)=true then((iter (z74 fuel x0) fuel (0,(List.replicate (x0.length:Int).toNat (0:Int)))).bind fun o=>aft o (zas fuel)) else none)

theorem laws_toInt64S_ok {W w:World}(hE:Ext W w){G:Option Addr}{f0:Nat}{x0:(List Int)}(p0:ty29.ro W [sl G x0 f0] x0){fuel:Nat}{r:(List Int)}(hm:z31 fuel x0=some r):
  Calls Tryz.prog 67 ⟨[sl G x0 f0]⟩ w (Ret fun v w8=>∃ A0 k0,v=sl A0 r k0∧St w w8 [ow ty29 A0 r k0]):=by
 refine into Tryz.func67 22 _ ?_;unfold z31 at hm;have hS:=St.start w;refine sq<|rg<|rr 1 ?_;refine rn<|sq<|rg<|rr 2 ?_;obtain⟨r0,hm⟩:=iS hm;have hz7:=of_decide_eq_true r0;refine mS (U:=tInt) (0:Int) hS hz7 (fun _=>⟨rfl,rfl⟩) (fun A2 k3 w4 e5 q0=>?_);refine rr 1 ?_;refine rn<|sq<|sq<|rg<|rr 1 ?_;refine rn ?_;obtain⟨t0,Z,hm⟩:=bS hm;refine ct (fun(i0:(List Int)) F w9=>t0=.inl i0∧St w w9 [Own ty29 [sl A2 (List.replicate (x0.length:Int).toNat (0:Int)) k3] i0]∧F=[(3,sl A2 (List.replicate (x0.length:Int).toNat (0:Int)) k3)]) ?_ ?_
 ·rintro i0 F y0 ⟨a0,q,rfl⟩;subst a0;rw [z8] at hm;unfold zas at hm;refine sq<|rg<|rr 2 ?_;refine rn<|rt ?_;cases hm;have hn18:=(q.bring 0 rfl).lenEq;have H:=(q.bring 0 rfl).reLen hn18;exact⟨_,.cons (.tmp rfl) .nil,A2,k3,(by first | (simp only [sl,hn18];done) | (simp only [sl,hn18];rfl)),H⟩
 ·refine bk<|wk [0,3,4] ?_;refine it (fun(g0:Int × (List Int)) F w9=>St w w9 [Own ty29 [sl A2 (List.replicate (x0.length:Int).toNat (0:Int)) k3] g0.2]∧F=[(0,sl G x0 f0),(3,sl A2 (List.replicate (x0.length:Int).toNat (0:Int)) k3),(4,.int .i64 g0.1)]) Z ⟨q0,rfl⟩ ?_;rintro g0 F B0 _ u0 ⟨h,rfl⟩ d b0;unfold z74 at d;refine sq<|sq<|rg<|rr 4 ?_;refine rn<|ci d (fun d=>?_) (fun d=>?_)
  ·refine sp<|sq<|bk<|rg<|rr 4 ?_;obtain⟨j0,e0,d⟩:=bS d;refine ix (hE.trans h.ext) p0 e0 (fun v0 o0 X d0=>?_);cases d0;refine l1 (At.ext (hE.trans h.ext) X) 0 ?_;have y:=h.bring 0 rfl;obtain⟨Y,d⟩:=iS d;have o:=of_decide_eq_true Y;refine io y o.1 o.2 (fun q34 hq35=>?_);have M:=y.flat (T:=tInt) (cs:=[.int .i64 j0]) (x:=j0) ⟨rfl,rfl⟩;have O:=M.bring 1 rfl;refine se O o.2 hq35 (fun C0 S=>?_);refine rn<|rg<|rr 3 ?_;refine rn ?_;cases d;exact⟨_,_,rfl,⟨S,rfl⟩,rfl⟩
  ·refine xt ?_;cases d;exact⟨_,_,⟨b0,h,rfl⟩,rfl⟩

theorem zai:Enters Tryz.prog 126:=⟨_,_,Tryz.func126,rfl,by kernel_rfl⟩
def z1m (fuel:Nat) (x0:D.Address):Option (D.Address):=some (⟨x0.Machine,x0.Kind,x0.Index⟩:D.Address)

theorem laws_toAddress_ok {W w:World}(hE:Ext W w){X:List Value}{x0:D.Address}(Y:ty24.ro W X x0){fuel:Nat}{r:D.Address}(hm:z1m fuel x0=some r):
  Calls Tryz.prog 126 ⟨[.agg ⟨X⟩]⟩ w (Ret fun v w8=>v=.agg ⟨[.int .i64 r.Machine,.int .i64 r.Kind,.int .i64 r.Index]⟩∧St w w8 []):=by
 have e1:=z9d Y;subst e1;refine into Tryz.func126 14 _ ?_;unfold z1m at hm;have hS:=St.start w;refine sq<|rg<|nw hS (fun g2 w3 e4 Z=>?_);refine nw Z (fun g6 w7 a0 G=>?_);refine rn<|sq<|rg<|nw G (fun d0 e0 b0 d=>?_);refine rn<|sq<|rg<|rr 1 ?_;refine l1 ((d.bring 2 rfl).box) 0 ?_;refine rr 1 ?_;have H:=d.bring 0 rfl;refine so (A:=[]) H 0 (fun f0 h=>?_);refine rn<|sq<|rg<|rr 1 ?_;refine l1 ((h.bring 2 rfl).box) 1 ?_;refine rr 1 ?_;have M:=h.bring 0 rfl;refine so (A:=[]) M 1 (fun g0 o=>?_);refine rn<|sq<|rg<|rr 1 ?_;refine l1 ((o.bring 2 rfl).box) 2 ?_;refine rr 1 ?_;have O:=o.bring 0 rfl;refine so (A:=[]) O 2 (fun i0 q=>?_);refine rn<|sq<|rg<|lN ((q.bring 0 rfl).box) ?_;have S:=q.bring 1 rfl;refine so (A:=[]) S 0 (fun j0 y=>?_);refine rn<|rt ?_;cases hm;exact⟨_,.cons (ra ((y.bring 0 rfl).box)) .nil,rfl,(y.taken 0)⟩

theorem zk2:Enters Tryz.prog 254:=⟨_,_,Tryz.func254,rfl,by kernel_rfl⟩
def z9E (fuel:Nat) (d:(List D.Address)):Option (List D.Address):=some d
def z5E (fuel:Nat) (x0:(List D.Address)) (d:Int × (List D.Address)):Option (Rd (Int × (List D.Address)) ((List D.Address)) ((List D.Address))):=(if(decide (d.1<(x0.length:Int)))=true then((idx x0 d.1).bind fun o=>((z1m fuel o).bind fun h=>(if decide (0≤d.1∧d.1.toNat<d.2.length)=true then some (.next (w64 (d.1+1),(d.2.set d.1.toNat h))) else none))) else some (.brk d.2))
def z66 (fuel:Nat) (x0:(List D.Address)):Option ((List D.Address)):=(if decide (0≤(x0.length:Int)∧(x0.length:Int)≤4294967296)=true then((iter (z5E fuel x0) fuel (0,(List.replicate (x0.length:Int).toNat (⟨(0:Int),(0:Int),(0:Int)⟩:D.Address)))).bind fun o=>aft o (z9E fuel)) else none)

theorem laws_toAddressS_ok {W w:World}(hE:Ext W w){H:Option Addr}{o0:Nat}{x0:(List D.Address)}(u0:zeS.ro W [sl H x0 o0] x0){fuel:Nat}{r:(List D.Address)}(hm:z66 fuel x0=some r):
  Calls Tryz.prog 254 ⟨[sl H x0 o0]⟩ w (Ret fun v w8=>∃ A0 k0,v=sl A0 r k0∧St w w8 [ow z3b A0 r k0]):=by
 refine into Tryz.func254 23 _ ?_;unfold z66 at hm;have hS:=St.start w;refine sq<|rg<|rr 1 ?_;refine rn<|sq<|rg<|rr 2 ?_;obtain⟨y0,hm⟩:=iS hm;have hz7:=of_decide_eq_true y0;refine mS (U:=ty35) (⟨(0:Int),(0:Int),(0:Int)⟩:D.Address) hS hz7 (fun _=>(z9c (c:=(⟨(0:Int),(0:Int),(0:Int)⟩:D.Address)) rfl)) (fun A2 k3 w4 e5 v0=>?_);refine rr 1 ?_;refine rn<|sq<|sq<|rg<|rr 1 ?_;refine rn ?_;obtain⟨B0,e0,hm⟩:=bS hm;refine ct (fun(q0:(List D.Address)) F w9=>B0=.inl q0∧St w w9 [Own z3b [sl A2 (List.replicate (x0.length:Int).toNat (⟨(0:Int),(0:Int),(0:Int)⟩:D.Address)) k3] q0]∧F=[(3,sl A2 (List.replicate (x0.length:Int).toNat (⟨(0:Int),(0:Int),(0:Int)⟩:D.Address)) k3)]) ?_ ?_
 ·rintro q0 F G0 ⟨f0,q,rfl⟩;subst f0;rw [z8] at hm;unfold z9E at hm;refine sq<|rg<|rr 2 ?_;refine rn<|rt ?_;cases hm;have hn18:=(q.bring 0 rfl).lenEq;have S:=(q.bring 0 rfl).reLen hn18;exact⟨_,.cons (.tmp rfl) .nil,A2,k3,(by first | (simp only [sl,hn18];done) | (simp only [sl,hn18];rfl)),S⟩
 ·refine bk<|wk [0,3,4] ?_;refine it (fun(p0:Int × (List D.Address)) F w9=>St w w9 [Own z3b [sl A2 (List.replicate (x0.length:Int).toNat (⟨(0:Int),(0:Int),(0:Int)⟩:D.Address)) k3] p0.2]∧F=[(0,sl H x0 o0),(3,sl A2 (List.replicate (x0.length:Int).toNat (⟨(0:Int),(0:Int),(0:Int)⟩:D.Address)) k3),(4,.int .i64 p0.1)]) e0 ⟨v0,rfl⟩ ?_;rintro p0 F H0 _ D0 ⟨h,rfl⟩ d g0;unfold z5E at d;refine sq<|sq<|rg<|rr 4 ?_;refine rn<|ci d (fun d=>?_) (fun d=>?_)
  ·refine sp<|sq<|bk<|rg<|rr 4 ?_;obtain⟨L0,i0,d⟩:=bS d;refine ix (hE.trans h.ext) u0 i0 (fun E0 t0 b0 G=>?_);have r0:=z9d G;subst r0;refine lN (At.ext (hE.trans h.ext) b0) ?_;obtain⟨C0,j0,d⟩:=bS d;refine ca zai (laws_toAddress_ok (hE.trans h.ext) G j0) (fun F0 J0 M=>?_);obtain⟨rfl,O⟩:=M;have X:=h.join O;have y:=X.bring 0 rfl;obtain⟨d0,d⟩:=iS d;have o:=of_decide_eq_true d0;refine io y o.1 o.2 (fun q42 hq43=>?_);have Y:=zfa (c:=C0) (B:=_) y;have Z:=Y.bring 1 rfl;refine se Z o.2 hq43 (fun K0 a0=>?_);refine rn<|rg<|rr 3 ?_;refine rn ?_;cases d;exact⟨_,_,rfl,⟨a0,rfl⟩,rfl⟩
  ·refine xt ?_;cases d;exact⟨_,_,⟨g0,h,rfl⟩,rfl⟩

theorem zh0:Enters Tryz.prog 230:=⟨_,_,Tryz.func230,rfl,by kernel_rfl⟩
def z3n (fuel:Nat) (x0:D.ShardCell):Option (D.ShardCell):=((z31 fuel x0.Data).bind fun d=>((z66 fuel x0.Aux).bind fun h=>some (⟨x0.Kind,x0.Level,x0.Value,d,h⟩:D.ShardCell)))

theorem laws_toShardCell_ok {W w:World}(hE:Ext W w){q0:List Value}{x0:D.ShardCell}(u0:zeR.ro W q0 x0){fuel:Nat}{r:D.ShardCell}(hm:z3n fuel x0=some r):
  Calls Tryz.prog 230 ⟨[.agg ⟨q0⟩]⟩ w (Ret fun v w8=>∃ A0 k0 A1 k1,v=.agg ⟨[.int .i64 r.Kind,.int .i64 r.Level,.int .i64 r.Value,sl A0 r.Data k0,sl A1 r.Aux k1]⟩∧St w w8 [ow ty29 A0 r.Data k0,ow z3b A1 r.Aux k1]):=by
 obtain⟨A1,k2,A4,k5,e7,h3,h6⟩:=zaF u0;subst e7;refine into Tryz.func230 22 _ ?_;unfold z3n at hm;have hS:=St.start w;refine sq<|rg<|nw hS (fun E0 M0 B0 Y=>?_);refine nw Y (fun F0 N0 C0 Z=>?_);refine rn<|sq<|rg<|nw Z (fun G0 O0 D0 o=>?_);refine rn<|sq<|rg<|rr 1 ?_;refine l1 ((o.bring 2 rfl).box) 0 ?_;refine rr 1 ?_;have a0:=o.bring 0 rfl;refine so (A:=[]) a0 0 (fun P0 q=>?_);refine rn<|sq<|rg<|rr 1 ?_;refine l1 ((q.bring 2 rfl).box) 1 ?_;refine rr 1 ?_;have b0:=q.bring 0 rfl;refine so (A:=[]) b0 1 (fun Q0 y=>?_);refine rn<|sq<|rg<|rr 1 ?_;refine l1 ((y.bring 2 rfl).box) 2 ?_;refine rr 1 ?_;have d0:=y.bring 0 rfl;refine so (A:=[]) d0 2 (fun R0 d=>?_);refine rn<|sq<|rg<|rr 1 ?_;refine l1 ((d.bring 2 rfl).box) 3 ?_;obtain⟨H0,o0,hm⟩:=bS hm;refine ca zdH (laws_toInt64S_ok (hE.trans d.ext) h3 o0) (fun K0 S0 M=>?_);obtain⟨r0,v0,rfl,O⟩:=M;have e0:=d.join O;refine rr 1 ?_;have f0:=e0.bring 1 rfl;refine so (A:=[]) f0 3 (fun T0 h=>?_);refine rn<|sq<|rg<|rr 1 ?_;refine l1 ((h.bring 3 rfl).box) 4 ?_;obtain⟨J0,p0,hm⟩:=bS hm;refine ca zk2 (laws_toAddressS_ok (hE.trans h.ext) h6 p0) (fun L0 U0 S=>?_);obtain⟨t0,y0,rfl,X⟩:=S;have g0:=h.join X;refine rr 1 ?_;have i0:=g0.bring 1 rfl;refine so (A:=[]) i0 4 (fun V0 G=>?_);refine rn<|sq<|rg<|lN ((G.bring 0 rfl).box) ?_;have j0:=G.bring 3 rfl;refine so (A:=[]) j0 0 (fun X0 H=>?_);refine rn<|rt ?_;cases hm;exact⟨_,.cons (ra ((H.bring 0 rfl).box)) .nil,r0,v0,t0,y0,rfl,(((H.bring 2 rfl).bring 3 rfl).taken 2)⟩

theorem zkn:Enters Tryz.prog 227:=⟨_,_,Tryz.func227,rfl,by kernel_rfl⟩
def z8T (fuel:Nat) (d:(List D.ShardCell)):Option (List D.ShardCell):=some d
def z4A (fuel:Nat) (x0:(List D.ShardCell)) (d:Int × (List D.ShardCell)):Option (Rd (Int × (List D.ShardCell)) ((List D.ShardCell)) ((List D.ShardCell))):=(if(decide (d.1<(x0.length:Int)))=true then((idx x0 d.1).bind fun o=>((z3n fuel o).bind fun h=>(if decide (0≤d.1∧d.1.toNat<d.2.length)=true then some (.next (w64 (d.1+1),(d.2.set d.1.toNat h))) else none))) else some (.brk d.2))
def z4p (fuel:Nat) (x0:(List D.ShardCell)):Option ((List D.ShardCell)):=(if decide (0≤(x0.length:Int)∧(x0.length:Int)≤4294967296)=true then((iter (z4A fuel x0) fuel (0,(List.replicate (x0.length:Int).toNat (⟨(0:Int),(0:Int),(0:Int),([]:(List Int)),([]:(List D.Address))⟩:D.ShardCell)))).bind fun o=>aft o (z8T fuel)) else none)

theorem laws_toShardCellS_ok {W w:World}(hE:Ext W w){H:Option Addr}{q0:Nat}{x0:(List D.ShardCell)}(y0:zgn.ro W [sl H x0 q0] x0){fuel:Nat}{r:(List D.ShardCell)}(hm:z4p fuel x0=some r):
  Calls Tryz.prog 227 ⟨[sl H x0 q0]⟩ w (Ret fun v w8=>∃ A0 k0,v=sl A0 r k0∧St w w8 [ow z7A A0 r k0]):=by
 refine into Tryz.func227 23 _ ?_;unfold z4p at hm;have hS:=St.start w;refine sq<|rg<|rr 1 ?_;refine rn<|sq<|rg<|rr 2 ?_;obtain⟨C0,hm⟩:=iS hm;have hz7:=of_decide_eq_true C0;refine mS (U:=z2y) (⟨(0:Int),(0:Int),(0:Int),([]:(List Int)),([]:(List D.Address))⟩:D.ShardCell) hS hz7 (fun _=>(zcQ (c:=(⟨(0:Int),(0:Int),(0:Int),([]:(List Int)),([]:(List D.Address))⟩:D.ShardCell)) ⟨[],[],rfl,(slNilOwn tInt 2 _),⟨[],[],rfl,(slNilOwn ty35 35 _),rfl⟩⟩)) (fun A2 k3 w4 e5 B0=>?_);refine rr 1 ?_;refine rn<|sq<|sq<|rg<|rr 1 ?_;refine rn ?_;obtain⟨D0,g0,hm⟩:=bS hm;refine ct (fun(t0:(List D.ShardCell)) F w9=>D0=.inl t0∧St w w9 [Own z7A [.slice A2 (List.replicate (x0.length:Int).toNat (⟨(0:Int),(0:Int),(0:Int),([]:(List Int)),([]:(List D.Address))⟩:D.ShardCell)).length k3] t0]∧F=[(3,.slice A2 (List.replicate (x0.length:Int).toNat (⟨(0:Int),(0:Int),(0:Int),([]:(List Int)),([]:(List D.Address))⟩:D.ShardCell)).length k3)]) ?_ ?_
 ·rintro t0 F T0 ⟨i0,q,rfl⟩;subst i0;rw [z8] at hm;unfold z8T at hm;refine sq<|rg<|rr 2 ?_;refine rn<|rt ?_;cases hm;have hn18:=(q.bring 0 rfl).lenEq;have S:=(q.bring 0 rfl).reLen hn18;exact⟨_,.cons (.tmp rfl) .nil,A2,k3,(by first | (simp only [sl,hn18];done) | (simp only [sl,hn18];rfl)),S⟩
 ·refine bk<|wk [0,3,4] ?_;refine it (fun(r0:Int × (List D.ShardCell)) F w9=>St w w9 [Own z7A [.slice A2 (List.replicate (x0.length:Int).toNat (⟨(0:Int),(0:Int),(0:Int),([]:(List Int)),([]:(List D.Address))⟩:D.ShardCell)).length k3] r0.2]∧F=[(0,sl H x0 q0),(3,.slice A2 (List.replicate (x0.length:Int).toNat (⟨(0:Int),(0:Int),(0:Int),([]:(List Int)),([]:(List D.Address))⟩:D.ShardCell)).length k3),(4,.int .i64 r0.1)]) g0 ⟨B0,rfl⟩ ?_;rintro r0 F U0 _ Q0 ⟨h,rfl⟩ d j0;unfold z4A at d;refine sq<|sq<|rg<|rr 4 ?_;refine rn<|ci d (fun d=>?_) (fun d=>?_)
  ·refine sp<|sq<|bk<|rg<|rr 4 ?_;obtain⟨Y0,o0,d⟩:=bS d;refine ix (hE.trans h.ext) y0 o0 (fun R0 v0 e0 G=>?_);obtain⟨F0,M0,G0,N0,u0,K0,L0⟩:=zaF G;subst u0;refine lN (At.ext (hE.trans h.ext) e0) ?_;obtain⟨E0,p0,d⟩:=bS d;refine ca zh0 (laws_toShardCell_ok (hE.trans h.ext) G p0) (fun S0 V0 M=>?_);obtain⟨H0,O0,J0,P0,rfl,O⟩:=M;have X:=h.join O;have y:=X.bring 2 rfl;obtain⟨f0,d⟩:=iS d;have o:=of_decide_eq_true f0;refine io y o.1 o.2 (fun q52 hq53=>?_);have Y:=y.bring 2 rfl;have Z:=Y.bring 2 rfl;have a0:=zb1 (c:=E0) (B:=_) Z;have b0:=a0.bring 1 rfl;refine se b0 o.2 hq53 (fun X0 d0=>?_);refine rn<|rg<|rr 3 ?_;refine rn ?_;cases d;exact⟨_,_,rfl,⟨d0,rfl⟩,rfl⟩
  ·refine xt ?_;cases d;exact⟨_,_,⟨j0,h,rfl⟩,rfl⟩

theorem zk4:Enters Tryz.prog 252:=⟨_,_,Tryz.func252,rfl,by kernel_rfl⟩
def z64 (fuel:Nat) (x0:D.ShardVar):Option (D.ShardVar):=((z1m fuel x0.Held).bind fun d=>some (⟨x0.Used,x0.Full,(⟨d.Machine,d.Kind,d.Index⟩:D.Address)⟩:D.ShardVar))

theorem laws_toShardVar_ok {W w:World}(hE:Ext W w){b0:List Value}{x0:D.ShardVar}(d0:zit.ro W b0 x0){fuel:Nat}{r:D.ShardVar}(hm:z64 fuel x0=some r):
  Calls Tryz.prog 252 ⟨[.agg ⟨b0⟩]⟩ w (Ret fun v w8=>v=.agg ⟨[.bool r.Used,.bool r.Full,.int .i64 r.Held.Machine,.int .i64 r.Held.Kind,.int .i64 r.Held.Index]⟩∧St w w8 []):=by
 have e1:=zfc d0;subst e1;refine into Tryz.func252 15 _ ?_;unfold z64 at hm;have hS:=St.start w;refine sq<|rg<|nw hS (fun g2 w3 e4 e0=>?_);refine nw e0 (fun g6 w7 f0 M=>?_);refine rn<|sq<|rg<|nw M (fun i0 o0 g0 h=>?_);refine rn<|sq<|rg<|rr 1 ?_;refine l1 ((h.bring 2 rfl).box) 0 ?_;refine rr 1 ?_;have O:=h.bring 0 rfl;refine so (A:=[]) O 0 (fun p0 o=>?_);refine rn<|sq<|rg<|rr 1 ?_;refine l1 ((o.bring 2 rfl).box) 1 ?_;refine rr 1 ?_;have S:=o.bring 0 rfl;refine so (A:=[]) S 1 (fun q0 d=>?_);refine rn<|sq<|rg<|rr 1 ?_;refine lN (At.sub ((d.bring 2 rfl).box) 2 3) ?_;obtain⟨j0,a0,hm⟩:=bS hm;refine ca zai (laws_toAddress_ok (hE.trans d.ext) (z9V x0.Held) a0) (fun k0 r0 G=>?_);obtain⟨rfl,H⟩:=G;have X:=d.join H;refine rr 1 ?_;have Y:=X.bring 0 rfl;refine so (A:=[]) Y 2 (fun t0 q=>?_);refine rn<|sq<|rg<|lN ((q.bring 0 rfl).box) ?_;have Z:=q.bring 1 rfl;refine so (A:=[]) Z 0 (fun u0 y=>?_);refine rn<|rt ?_;cases hm;exact⟨_,.cons (ra ((y.bring 0 rfl).box)) .nil,rfl,(y.taken 0)⟩

theorem zkm:Enters Tryz.prog 228:=⟨_,_,Tryz.func228,rfl,by kernel_rfl⟩
def z9i (fuel:Nat) (d:(List D.ShardVar)):Option (List D.ShardVar):=some d
def z5c (fuel:Nat) (x0:(List D.ShardVar)) (d:Int × (List D.ShardVar)):Option (Rd (Int × (List D.ShardVar)) ((List D.ShardVar)) ((List D.ShardVar))):=(if(decide (d.1<(x0.length:Int)))=true then((idx x0 d.1).bind fun o=>((z64 fuel o).bind fun h=>(if decide (0≤d.1∧d.1.toNat<d.2.length)=true then some (.next (w64 (d.1+1),(d.2.set d.1.toNat h))) else none))) else some (.brk d.2))
def z5d (fuel:Nat) (x0:(List D.ShardVar)):Option ((List D.ShardVar)):=(if decide (0≤(x0.length:Int)∧(x0.length:Int)≤4294967296)=true then((iter (z5c fuel x0) fuel (0,(List.replicate (x0.length:Int).toNat (⟨false,false,(⟨(0:Int),(0:Int),(0:Int)⟩:D.Address)⟩:D.ShardVar)))).bind fun o=>aft o (z9i fuel)) else none)

theorem laws_toShardVarS_ok {W w:World}(hE:Ext W w){H:Option Addr}{o0:Nat}{x0:(List D.ShardVar)}(u0:zgm.ro W [sl H x0 o0] x0){fuel:Nat}{r:(List D.ShardVar)}(hm:z5d fuel x0=some r):
  Calls Tryz.prog 228 ⟨[sl H x0 o0]⟩ w (Ret fun v w8=>∃ A0 k0,v=sl A0 r k0∧St w w8 [ow z4H A0 r k0]):=by
 refine into Tryz.func228 23 _ ?_;unfold z5d at hm;have hS:=St.start w;refine sq<|rg<|rr 1 ?_;refine rn<|sq<|rg<|rr 2 ?_;obtain⟨y0,hm⟩:=iS hm;have hz7:=of_decide_eq_true y0;refine mS (U:=z9t) (⟨false,false,(⟨(0:Int),(0:Int),(0:Int)⟩:D.Address)⟩:D.ShardVar) hS hz7 (fun _=>(zff (c:=(⟨false,false,(⟨(0:Int),(0:Int),(0:Int)⟩:D.Address)⟩:D.ShardVar)) rfl)) (fun A2 k3 w4 e5 v0=>?_);refine rr 1 ?_;refine rn<|sq<|sq<|rg<|rr 1 ?_;refine rn ?_;obtain⟨B0,e0,hm⟩:=bS hm;refine ct (fun(q0:(List D.ShardVar)) F w9=>B0=.inl q0∧St w w9 [Own z4H [.slice A2 (List.replicate (x0.length:Int).toNat (⟨false,false,(⟨(0:Int),(0:Int),(0:Int)⟩:D.Address)⟩:D.ShardVar)).length k3] q0]∧F=[(3,.slice A2 (List.replicate (x0.length:Int).toNat (⟨false,false,(⟨(0:Int),(0:Int),(0:Int)⟩:D.Address)⟩:D.ShardVar)).length k3)]) ?_ ?_
 ·rintro q0 F G0 ⟨f0,q,rfl⟩;subst f0;rw [z8] at hm;unfold z9i at hm;refine sq<|rg<|rr 2 ?_;refine rn<|rt ?_;cases hm;have hn18:=(q.bring 0 rfl).lenEq;have S:=(q.bring 0 rfl).reLen hn18;exact⟨_,.cons (.tmp rfl) .nil,A2,k3,(by first | (simp only [sl,hn18];done) | (simp only [sl,hn18];rfl)),S⟩
 ·refine bk<|wk [0,3,4] ?_;refine it (fun(p0:Int × (List D.ShardVar)) F w9=>St w w9 [Own z4H [.slice A2 (List.replicate (x0.length:Int).toNat (⟨false,false,(⟨(0:Int),(0:Int),(0:Int)⟩:D.Address)⟩:D.ShardVar)).length k3] p0.2]∧F=[(0,sl H x0 o0),(3,.slice A2 (List.replicate (x0.length:Int).toNat (⟨false,false,(⟨(0:Int),(0:Int),(0:Int)⟩:D.Address)⟩:D.ShardVar)).length k3),(4,.int .i64 p0.1)]) e0 ⟨v0,rfl⟩ ?_;rintro p0 F H0 _ D0 ⟨h,rfl⟩ d g0;unfold z5c at d;refine sq<|sq<|rg<|rr 4 ?_;refine rn<|ci d (fun d=>?_) (fun d=>?_)
  ·refine sp<|sq<|bk<|rg<|rr 4 ?_;obtain⟨L0,i0,d⟩:=bS d;refine ix (hE.trans h.ext) u0 i0 (fun E0 t0 b0 G=>?_);have r0:=zfc G;subst r0;refine lN (At.ext (hE.trans h.ext) b0) ?_;obtain⟨C0,j0,d⟩:=bS d;refine ca zk4 (laws_toShardVar_ok (hE.trans h.ext) G j0) (fun F0 J0 M=>?_);obtain⟨rfl,O⟩:=M;have X:=h.join O;have y:=X.bring 0 rfl;obtain⟨d0,d⟩:=iS d;have o:=of_decide_eq_true d0;refine io y o.1 o.2 (fun q42 hq43=>?_);have Y:=zdT (c:=C0) (B:=_) y;have Z:=Y.bring 1 rfl;refine se Z o.2 hq43 (fun K0 a0=>?_);refine rn<|rg<|rr 3 ?_;refine rn ?_;cases d;exact⟨_,_,rfl,⟨a0,rfl⟩,rfl⟩
  ·refine xt ?_;cases d;exact⟨_,_,⟨g0,h,rfl⟩,rfl⟩

theorem zk3:Enters Tryz.prog 253:=⟨_,_,Tryz.func253,rfl,by kernel_rfl⟩
def z4o (fuel:Nat) (x0:D.ShardRedex):Option (D.ShardRedex):=((z1m fuel x0.A).bind fun d=>((z1m fuel x0.B).bind fun h=>some (⟨(⟨d.Machine,d.Kind,d.Index⟩:D.Address),(⟨h.Machine,h.Kind,h.Index⟩:D.Address)⟩:D.ShardRedex)))

theorem laws_toShardRedex_ok {W w:World}(hE:Ext W w){e0:List Value}{x0:D.ShardRedex}(f0:zis.ro W e0 x0){fuel:Nat}{r:D.ShardRedex}(hm:z4o fuel x0=some r):
  Calls Tryz.prog 253 ⟨[.agg ⟨e0⟩]⟩ w (Ret fun v w8=>v=.agg ⟨[.int .i64 r.A.Machine,.int .i64 r.A.Kind,.int .i64 r.A.Index,.int .i64 r.B.Machine,.int .i64 r.B.Kind,.int .i64 r.B.Index]⟩∧St w w8 []):=by
 have e1:=zfb f0;subst e1;refine into Tryz.func253 13 _ ?_;unfold z4o at hm;have hS:=St.start w;refine sq<|rg<|nw hS (fun g2 w3 e4 g0=>?_);refine nw g0 (fun g6 w7 i0 O=>?_);refine rn<|sq<|rg<|nw O (fun k0 t0 j0 d=>?_);refine rn<|sq<|rg<|rr 1 ?_;refine lN (At.sub ((d.bring 2 rfl).box) 0 3) ?_;obtain⟨o0,b0,hm⟩:=bS hm;refine ca zai (laws_toAddress_ok (hE.trans d.ext) (z9V x0.A) b0) (fun q0 u0 y=>?_);obtain⟨rfl,G⟩:=y;have S:=d.join G;refine rr 1 ?_;have X:=S.bring 0 rfl;refine so (A:=[]) X 0 (fun v0 h=>?_);refine rn<|sq<|rg<|rr 1 ?_;refine lN (At.sub ((h.bring 2 rfl).box) 3 3) ?_;obtain⟨p0,d0,hm⟩:=bS hm;refine ca zai (laws_toAddress_ok (hE.trans h.ext) (z9V x0.B) d0) (fun r0 y0 H=>?_);obtain⟨rfl,M⟩:=H;have Y:=h.join M;refine rr 1 ?_;have Z:=Y.bring 0 rfl;refine so (A:=[]) Z 3 (fun A0 o=>?_);refine rn<|sq<|rg<|lN ((o.bring 0 rfl).box) ?_;have a0:=o.bring 1 rfl;refine so (A:=[]) a0 0 (fun B0 q=>?_);refine rn<|rt ?_;cases hm;exact⟨_,.cons (ra ((q.bring 0 rfl).box)) .nil,rfl,(q.taken 0)⟩

theorem zkk:Enters Tryz.prog 229:=⟨_,_,Tryz.func229,rfl,by kernel_rfl⟩
def z8C (fuel:Nat) (d:(List D.ShardRedex)):Option (List D.ShardRedex):=some d
def z3W (fuel:Nat) (x0:(List D.ShardRedex)) (d:Int × (List D.ShardRedex)):Option (Rd (Int × (List D.ShardRedex)) ((List D.ShardRedex)) ((List D.ShardRedex))):=(if(decide (d.1<(x0.length:Int)))=true then((idx x0 d.1).bind fun o=>((z4o fuel o).bind fun h=>(if decide (0≤d.1∧d.1.toNat<d.2.length)=true then some (.next (w64 (d.1+1),(d.2.set d.1.toNat h))) else none))) else some (.brk d.2))
def z3D (fuel:Nat) (x0:(List D.ShardRedex)):Option ((List D.ShardRedex)):=(if decide (0≤(x0.length:Int)∧(x0.length:Int)≤4294967296)=true then((iter (z3W fuel x0) fuel (0,(List.replicate (x0.length:Int).toNat (⟨(⟨(0:Int),(0:Int),(0:Int)⟩:D.Address),(⟨(0:Int),(0:Int),(0:Int)⟩:D.Address)⟩:D.ShardRedex)))).bind fun o=>aft o (z8C fuel)) else none)

theorem laws_toShardRedexS_ok {W w:World}(hE:Ext W w){H:Option Addr}{o0:Nat}{x0:(List D.ShardRedex)}(u0:zgk.ro W [sl H x0 o0] x0){fuel:Nat}{r:(List D.ShardRedex)}(hm:z3D fuel x0=some r):
  Calls Tryz.prog 229 ⟨[sl H x0 o0]⟩ w (Ret fun v w8=>∃ A0 k0,v=sl A0 r k0∧St w w8 [ow z40 A0 r k0]):=by
 refine into Tryz.func229 23 _ ?_;unfold z3D at hm;have hS:=St.start w;refine sq<|rg<|rr 1 ?_;refine rn<|sq<|rg<|rr 2 ?_;obtain⟨y0,hm⟩:=iS hm;have hz7:=of_decide_eq_true y0;refine mS (U:=z9P) (⟨(⟨(0:Int),(0:Int),(0:Int)⟩:D.Address),(⟨(0:Int),(0:Int),(0:Int)⟩:D.Address)⟩:D.ShardRedex) hS hz7 (fun _=>(zfe (c:=(⟨(⟨(0:Int),(0:Int),(0:Int)⟩:D.Address),(⟨(0:Int),(0:Int),(0:Int)⟩:D.Address)⟩:D.ShardRedex)) rfl)) (fun A2 k3 w4 e5 v0=>?_);refine rr 1 ?_;refine rn<|sq<|sq<|rg<|rr 1 ?_;refine rn ?_;obtain⟨B0,e0,hm⟩:=bS hm;refine ct (fun(q0:(List D.ShardRedex)) F w9=>B0=.inl q0∧St w w9 [Own z40 [.slice A2 (List.replicate (x0.length:Int).toNat (⟨(⟨(0:Int),(0:Int),(0:Int)⟩:D.Address),(⟨(0:Int),(0:Int),(0:Int)⟩:D.Address)⟩:D.ShardRedex)).length k3] q0]∧F=[(3,.slice A2 (List.replicate (x0.length:Int).toNat (⟨(⟨(0:Int),(0:Int),(0:Int)⟩:D.Address),(⟨(0:Int),(0:Int),(0:Int)⟩:D.Address)⟩:D.ShardRedex)).length k3)]) ?_ ?_
 ·rintro q0 F G0 ⟨f0,q,rfl⟩;subst f0;rw [z8] at hm;unfold z8C at hm;refine sq<|rg<|rr 2 ?_;refine rn<|rt ?_;cases hm;have hn18:=(q.bring 0 rfl).lenEq;have S:=(q.bring 0 rfl).reLen hn18;exact⟨_,.cons (.tmp rfl) .nil,A2,k3,(by first | (simp only [sl,hn18];done) | (simp only [sl,hn18];rfl)),S⟩
 ·refine bk<|wk [0,3,4] ?_;refine it (fun(p0:Int × (List D.ShardRedex)) F w9=>St w w9 [Own z40 [.slice A2 (List.replicate (x0.length:Int).toNat (⟨(⟨(0:Int),(0:Int),(0:Int)⟩:D.Address),(⟨(0:Int),(0:Int),(0:Int)⟩:D.Address)⟩:D.ShardRedex)).length k3] p0.2]∧F=[(0,sl H x0 o0),(3,.slice A2 (List.replicate (x0.length:Int).toNat (⟨(⟨(0:Int),(0:Int),(0:Int)⟩:D.Address),(⟨(0:Int),(0:Int),(0:Int)⟩:D.Address)⟩:D.ShardRedex)).length k3),(4,.int .i64 p0.1)]) e0 ⟨v0,rfl⟩ ?_;rintro p0 F H0 _ D0 ⟨h,rfl⟩ d g0;unfold z3W at d;refine sq<|sq<|rg<|rr 4 ?_;refine rn<|ci d (fun d=>?_) (fun d=>?_)
  ·refine sp<|sq<|bk<|rg<|rr 4 ?_;obtain⟨L0,i0,d⟩:=bS d;refine ix (hE.trans h.ext) u0 i0 (fun E0 t0 b0 G=>?_);have r0:=zfb G;subst r0;refine lN (At.ext (hE.trans h.ext) b0) ?_;obtain⟨C0,j0,d⟩:=bS d;refine ca zk3 (laws_toShardRedex_ok (hE.trans h.ext) G j0) (fun F0 J0 M=>?_);obtain⟨rfl,O⟩:=M;have X:=h.join O;have y:=X.bring 0 rfl;obtain⟨d0,d⟩:=iS d;have o:=of_decide_eq_true d0;refine io y o.1 o.2 (fun q42 hq43=>?_);have Y:=zdS (c:=C0) (B:=_) y;have Z:=Y.bring 1 rfl;refine se Z o.2 hq43 (fun K0 a0=>?_);refine rn<|rg<|rr 3 ?_;refine rn ?_;cases d;exact⟨_,_,rfl,⟨a0,rfl⟩,rfl⟩
  ·refine xt ?_;cases d;exact⟨_,_,⟨g0,h,rfl⟩,rfl⟩

theorem zkU:Enters Tryz.prog 180:=⟨_,_,Tryz.func180,rfl,by kernel_rfl⟩
def z7Q (fuel:Nat) (x0:D.Shard):Option (D.Shard):=((z4p fuel x0.Cells).bind fun d=>((z5d fuel x0.Vars).bind fun h=>((z3D fuel x0.Redexes).bind fun o=>some (⟨d,h,o⟩:D.Shard))))

theorem laws_toShard_ok {W w:World}(hE:Ext W w){q0:List Value}{x0:D.Shard}(y0:zhz.ro W q0 x0){fuel:Nat}{r:D.Shard}(hm:z7Q fuel x0=some r):
  Calls Tryz.prog 180 ⟨[.agg ⟨q0⟩]⟩ w (Ret fun v w8=>∃ A0 k0 A1 k1 A2 k2,v=.agg ⟨[sl A0 r.Cells k0,sl A1 r.Vars k1,sl A2 r.Redexes k2]⟩∧St w w8 [ow z7A A0 r.Cells k0,ow z4H A1 r.Vars k1,ow z40 A2 r.Redexes k2]):=by
 obtain⟨A1,k2,A4,k5,A7,M0,v0,h3,h6,B0⟩:=zbL y0;subst v0;refine into Tryz.func180 17 _ ?_;unfold z7Q at hm;have hS:=St.start w;refine sq<|rg<|nw hS (fun J0 T0 F0 Y=>?_);refine nw Y (fun K0 U0 G0 Z=>?_);refine rn<|sq<|rg<|nw Z (fun L0 V0 H0 d=>?_);refine rn<|sq<|rg<|rr 1 ?_;refine l1 ((d.bring 2 rfl).box) 0 ?_;obtain⟨N0,j0,hm⟩:=bS hm;refine ca zkn (laws_toShardCellS_ok (hE.trans d.ext) h3 j0) (fun Q0 X0 G=>?_);obtain⟨r0,C0,rfl,H⟩:=G;have a0:=d.join H;refine rr 1 ?_;have b0:=a0.bring 1 rfl;refine so (A:=[]) b0 0 (fun Y0 h=>?_);refine rn<|sq<|rg<|rr 1 ?_;refine l1 ((h.bring 3 rfl).box) 1 ?_;obtain⟨O0,o0,hm⟩:=bS hm;refine ca zkm (laws_toShardVarS_ok (hE.trans h.ext) h6 o0) (fun R0 a1 M=>?_);obtain⟨t0,D0,rfl,O⟩:=M;have d0:=h.join O;refine rr 1 ?_;have e0:=d0.bring 1 rfl;refine so (A:=[]) e0 1 (fun b1 o=>?_);refine rn<|sq<|rg<|rr 1 ?_;refine l1 ((o.bring 4 rfl).box) 2 ?_;obtain⟨P0,p0,hm⟩:=bS hm;refine ca zkk (laws_toShardRedexS_ok (hE.trans o.ext) B0 p0) (fun S0 d1 S=>?_);obtain⟨u0,E0,rfl,X⟩:=S;have f0:=o.join X;refine rr 1 ?_;have g0:=f0.bring 1 rfl;refine so (A:=[]) g0 2 (fun e1 q=>?_);refine rn<|sq<|rg<|lN ((q.bring 0 rfl).box) ?_;have i0:=q.bring 4 rfl;refine so (A:=[]) i0 0 (fun f1 y=>?_);refine rn<|rt ?_;cases hm;exact⟨_,.cons (ra ((y.bring 0 rfl).box)) .nil,r0,C0,t0,D0,u0,E0,rfl,((((y.bring 2 rfl).bring 3 rfl).bring 4 rfl).taken 3)⟩

theorem zmo:Enters Tryz.prog 125:=⟨_,_,Tryz.func125,rfl,by kernel_rfl⟩
def zar (fuel:Nat) (d:(List D.Shard)):Option (List D.Shard):=some d
def z73 (fuel:Nat) (x0:(List D.Shard)) (d:Int × (List D.Shard)):Option (Rd (Int × (List D.Shard)) ((List D.Shard)) ((List D.Shard))):=(if(decide (d.1<(x0.length:Int)))=true then((idx x0 d.1).bind fun o=>((z7Q fuel o).bind fun h=>(if decide (0≤d.1∧d.1.toNat<d.2.length)=true then some (.next (w64 (d.1+1),(d.2.set d.1.toNat h))) else none))) else some (.brk d.2))
def z7f (fuel:Nat) (x0:(List D.Shard)):Option ((List D.Shard)):=(if decide (0≤(x0.length:Int)∧(x0.length:Int)≤4294967296)=true then((iter (z73 fuel x0) fuel (0,(List.replicate (x0.length:Int).toNat (⟨([]:(List D.ShardCell)),([]:(List D.ShardVar)),([]:(List D.ShardRedex))⟩:D.Shard)))).bind fun o=>aft o (zar fuel)) else none)

theorem laws_toShardS_ok {W w:World}(hE:Ext W w){H:Option Addr}{r0:Nat}{x0:(List D.Shard)}(B0:ty22.ro W [sl H x0 r0] x0){fuel:Nat}{r:(List D.Shard)}(hm:z7f fuel x0=some r):
  Calls Tryz.prog 125 ⟨[sl H x0 r0]⟩ w (Ret fun v w8=>∃ A0 k0,v=sl A0 r k0∧St w w8 [ow ty34 A0 r k0]):=by
 refine into Tryz.func125 23 _ ?_;unfold z7f at hm;have hS:=St.start w;refine sq<|rg<|rr 1 ?_;refine rn<|sq<|rg<|rr 2 ?_;obtain⟨D0,hm⟩:=iS hm;have hz7:=of_decide_eq_true D0;refine mS (U:=z8o) (⟨([]:(List D.ShardCell)),([]:(List D.ShardVar)),([]:(List D.ShardRedex))⟩:D.Shard) hS hz7 (fun _=>(zfk (c:=(⟨([]:(List D.ShardCell)),([]:(List D.ShardVar)),([]:(List D.ShardRedex))⟩:D.Shard)) ⟨[],[],rfl,(slNilOwn z2y 154 _),⟨[],[],rfl,(slNilOwn z9t 223 _),⟨[],[],rfl,(slNilOwn z9P 239 _),rfl⟩⟩⟩)) (fun A2 k3 w4 e5 C0=>?_);refine rr 1 ?_;refine rn<|sq<|sq<|rg<|rr 1 ?_;refine rn ?_;obtain⟨E0,i0,hm⟩:=bS hm;refine ct (fun(u0:(List D.Shard)) F w9=>E0=.inl u0∧St w w9 [Own ty34 [.slice A2 (List.replicate (x0.length:Int).toNat (⟨([]:(List D.ShardCell)),([]:(List D.ShardVar)),([]:(List D.ShardRedex))⟩:D.Shard)).length k3] u0]∧F=[(3,.slice A2 (List.replicate (x0.length:Int).toNat (⟨([]:(List D.ShardCell)),([]:(List D.ShardVar)),([]:(List D.ShardRedex))⟩:D.Shard)).length k3)]) ?_ ?_
 ·rintro u0 F b1 ⟨j0,q,rfl⟩;subst j0;rw [z8] at hm;unfold zar at hm;refine sq<|rg<|rr 2 ?_;refine rn<|rt ?_;cases hm;have hn18:=(q.bring 0 rfl).lenEq;have S:=(q.bring 0 rfl).reLen hn18;exact⟨_,.cons (.tmp rfl) .nil,A2,k3,(by first | (simp only [sl,hn18];done) | (simp only [sl,hn18];rfl)),S⟩
 ·refine bk<|wk [0,3,4] ?_;refine it (fun(t0:Int × (List D.Shard)) F w9=>St w w9 [Own ty34 [.slice A2 (List.replicate (x0.length:Int).toNat (⟨([]:(List D.ShardCell)),([]:(List D.ShardVar)),([]:(List D.ShardRedex))⟩:D.Shard)).length k3] t0.2]∧F=[(0,sl H x0 r0),(3,.slice A2 (List.replicate (x0.length:Int).toNat (⟨([]:(List D.ShardCell)),([]:(List D.ShardVar)),([]:(List D.ShardRedex))⟩:D.Shard)).length k3),(4,.int .i64 t0.1)]) i0 ⟨C0,rfl⟩ ?_;rintro t0 F d1 _ X0 ⟨h,rfl⟩ d o0;unfold z73 at d;refine sq<|sq<|rg<|rr 4 ?_;refine rn<|ci d (fun d=>?_) (fun d=>?_)
  ·refine sp<|sq<|bk<|rg<|rr 4 ?_;obtain⟨g1,p0,d⟩:=bS d;refine ix (hE.trans h.ext) B0 p0 (fun Y0 y0 f0 G=>?_);obtain⟨G0,Q0,H0,R0,J0,S0,v0,N0,O0,P0⟩:=zbL G;subst v0;refine lN (At.ext (hE.trans h.ext) f0) ?_;obtain⟨F0,q0,d⟩:=bS d;refine ca zkU (laws_toShard_ok (hE.trans h.ext) G q0) (fun a1 e1 M=>?_);obtain⟨K0,T0,L0,U0,M0,V0,rfl,O⟩:=M;have X:=h.join O;have y:=X.bring 3 rfl;obtain⟨g0,d⟩:=iS d;have o:=of_decide_eq_true g0;refine io y o.1 o.2 (fun q57 hq58=>?_);have Y:=y.bring 3 rfl;have Z:=Y.bring 3 rfl;have a0:=Z.bring 3 rfl;have b0:=zb0 (c:=F0) (B:=_) a0;have d0:=b0.bring 1 rfl;refine se d0 o.2 hq58 (fun f1 e0=>?_);refine rn<|rg<|rr 3 ?_;refine rn ?_;cases d;exact⟨_,_,rfl,⟨e0,rfl⟩,rfl⟩
  ·refine xt ?_;cases d;exact⟨_,_,⟨o0,h,rfl⟩,rfl⟩

theorem znS:Enters Tryz.prog 64:=⟨_,_,Tryz.func64,rfl,by kernel_rfl⟩
def z8D (fuel:Nat) (x0:D.Grid):Option (D.Grid):=((z7f fuel x0.Shards).bind fun h=>((z1m fuel x0.Root).bind fun d=>some (⟨h,(⟨d.Machine,d.Kind,d.Index⟩:D.Address)⟩:D.Grid)))

theorem laws_toGrid_ok {W w:World}(hE:Ext W w){f0:List Value}{x0:D.Grid}(i0:ty26.ro W f0 x0){fuel:Nat}{r:D.Grid}(hm:z8D fuel x0=some r):
  Calls Tryz.prog 64 ⟨[.agg ⟨f0⟩]⟩ w (Ret fun v w8=>∃ A0 k0,v=.agg ⟨[sl A0 r.Shards k0,.int .i64 r.Root.Machine,.int .i64 r.Root.Kind,.int .i64 r.Root.Index]⟩∧St w w8 [ow ty34 A0 r.Shards k0]):=by
 obtain⟨A1,k2,e4,h3⟩:=zdQ i0;subst e4;refine into Tryz.func64 13 _ ?_;unfold z8D at hm;have hS:=St.start w;refine sq<|rg<|nw hS (fun g5 w6 e7 O=>?_);refine nw O (fun q0 B0 o0 S=>?_);refine rn<|sq<|rg<|nw S (fun r0 C0 p0 d=>?_);refine rn<|sq<|rg<|rr 1 ?_;refine l1 ((d.bring 2 rfl).box) 0 ?_;obtain⟨t0,d0,hm⟩:=bS hm;refine ca zmo (laws_toShardS_ok (hE.trans d.ext) h3 d0) (fun v0 D0 y=>?_);obtain⟨g0,j0,rfl,G⟩:=y;have X:=d.join G;refine rr 1 ?_;have Y:=X.bring 1 rfl;refine so (A:=[]) Y 0 (fun E0 h=>?_);refine rn<|sq<|rg<|rr 1 ?_;refine lN (At.sub ((h.bring 3 rfl).box) 1 3) ?_;obtain⟨u0,e0,hm⟩:=bS hm;refine ca zai (laws_toAddress_ok (hE.trans h.ext) (z9V x0.Root) e0) (fun y0 F0 H=>?_);obtain⟨rfl,M⟩:=H;have Z:=h.join M;refine rr 1 ?_;have a0:=Z.bring 0 rfl;refine so (A:=[]) a0 1 (fun G0 o=>?_);refine rn<|sq<|rg<|lN ((o.bring 0 rfl).box) ?_;have b0:=o.bring 2 rfl;refine so (A:=[]) b0 0 (fun H0 q=>?_);refine rn<|rt ?_;cases hm;exact⟨_,.cons (ra ((q.bring 0 rfl).box)) .nil,g0,j0,rfl,((q.bring 2 rfl).taken 1)⟩

theorem zkT:Enters Tryz.prog 181:=⟨_,_,Tryz.func181,rfl,by kernel_rfl⟩
def z7g (fuel:Nat) (x0:D.Parcel):Option (D.Parcel):=((z3n fuel x0.Cell).bind fun d=>((z1m fuel x0.A).bind fun h=>((z1m fuel x0.B).bind fun o=>some (⟨x0.Kind,(⟨d.Kind,d.Level,d.Value,d.Data,d.Aux⟩:D.ShardCell),(⟨h.Machine,h.Kind,h.Index⟩:D.Address),(⟨o.Machine,o.Kind,o.Index⟩:D.Address)⟩:D.Parcel))))

theorem laws_toParcel_ok {W w:World}(hE:Ext W w){t0:List Value}{x0:D.Parcel}(y0:zhy.ro W t0 x0){fuel:Nat}{r:D.Parcel}(hm:z7g fuel x0=some r):
  Calls Tryz.prog 181 ⟨[.agg ⟨t0⟩]⟩ w (Ret fun v w8=>∃ A0 k0 A1 k1,v=.agg ⟨[.int .i64 r.Kind,.int .i64 r.Cell.Kind,.int .i64 r.Cell.Level,.int .i64 r.Cell.Value,sl A0 r.Cell.Data k0,sl A1 r.Cell.Aux k1,.int .i64 r.A.Machine,.int .i64 r.A.Kind,.int .i64 r.A.Index,.int .i64 r.B.Machine,.int .i64 r.B.Kind,.int .i64 r.B.Index]⟩∧St w w8 [ow ty29 A0 r.Cell.Data k0,ow z3b A1 r.Cell.Aux k1]):=by
 obtain⟨A1,k2,A4,k5,e7,h3,h6⟩:=zbK y0;subst e7;refine into Tryz.func181 20 _ ?_;unfold z7g at hm;have hS:=St.start w;refine sq<|rg<|nw hS (fun G0 Q0 D0 Z=>?_);refine nw Z (fun H0 R0 E0 a0=>?_);refine rn<|sq<|rg<|nw a0 (fun J0 S0 F0 q=>?_);refine rn<|sq<|rg<|rr 1 ?_;refine l1 ((q.bring 2 rfl).box) 0 ?_;refine rr 1 ?_;have b0:=q.bring 0 rfl;refine so (A:=[]) b0 0 (fun T0 d=>?_);refine rn<|sq<|rg<|rr 1 ?_;refine lN (At.sub ((d.bring 2 rfl).box) 1 5) ?_;obtain⟨K0,p0,hm⟩:=bS hm;refine ca zh0 (laws_toShardCell_ok (hE.trans d.ext) (zfi x0.Cell h3 h6) p0) (fun N0 U0 H=>?_);obtain⟨u0,B0,v0,C0,rfl,M⟩:=H;have d0:=d.join M;refine rr 1 ?_;have e0:=d0.bring 2 rfl;refine so (A:=[]) e0 1 (fun V0 h=>?_);refine rn<|sq<|rg<|rr 1 ?_;refine lN (At.sub ((h.bring 4 rfl).box) 6 3) ?_;obtain⟨L0,q0,hm⟩:=bS hm;refine ca zai (laws_toAddress_ok (hE.trans h.ext) (z9V x0.A) q0) (fun O0 X0 O=>?_);obtain⟨rfl,S⟩:=O;have f0:=h.join S;refine rr 1 ?_;have g0:=f0.bring 0 rfl;refine so (A:=[]) g0 6 (fun Y0 o=>?_);refine rn<|sq<|rg<|rr 1 ?_;refine lN (At.sub ((o.bring 4 rfl).box) 9 3) ?_;obtain⟨M0,r0,hm⟩:=bS hm;refine ca zai (laws_toAddress_ok (hE.trans o.ext) (z9V x0.B) r0) (fun P0 a1 X=>?_);obtain⟨rfl,Y⟩:=X;have i0:=o.join Y;refine rr 1 ?_;have j0:=i0.bring 0 rfl;refine so (A:=[]) j0 9 (fun b1 y=>?_);refine rn<|sq<|rg<|lN ((y.bring 0 rfl).box) ?_;have o0:=y.bring 3 rfl;refine so (A:=[]) o0 0 (fun d1 G=>?_);refine rn<|rt ?_;cases hm;exact⟨_,.cons (ra ((G.bring 0 rfl).box)) .nil,u0,B0,v0,C0,rfl,(((G.bring 3 rfl).bring 3 rfl).taken 2)⟩

theorem zmn:Enters Tryz.prog 127:=⟨_,_,Tryz.func127,rfl,by kernel_rfl⟩
def za5 (fuel:Nat) (d:(List D.Parcel)):Option (List D.Parcel):=some d
def z6o (fuel:Nat) (x0:(List D.Parcel)) (d:Int × (List D.Parcel)):Option (Rd (Int × (List D.Parcel)) ((List D.Parcel)) ((List D.Parcel))):=(if(decide (d.1<(x0.length:Int)))=true then((idx x0 d.1).bind fun o=>((z7g fuel o).bind fun h=>(if decide (0≤d.1∧d.1.toNat<d.2.length)=true then some (.next (w64 (d.1+1),(d.2.set d.1.toNat h))) else none))) else some (.brk d.2))
def z6G (fuel:Nat) (x0:(List D.Parcel)):Option ((List D.Parcel)):=(if decide (0≤(x0.length:Int)∧(x0.length:Int)≤4294967296)=true then((iter (z6o fuel x0) fuel (0,(List.replicate (x0.length:Int).toNat (⟨(0:Int),(⟨(0:Int),(0:Int),(0:Int),([]:(List Int)),([]:(List D.Address))⟩:D.ShardCell),(⟨(0:Int),(0:Int),(0:Int)⟩:D.Address),(⟨(0:Int),(0:Int),(0:Int)⟩:D.Address)⟩:D.Parcel)))).bind fun o=>aft o (za5 fuel)) else none)

theorem laws_toParcelS_ok {W w:World}(hE:Ext W w){H:Option Addr}{q0:Nat}{x0:(List D.Parcel)}(y0:zhD.ro W [sl H x0 q0] x0){fuel:Nat}{r:(List D.Parcel)}(hm:z6G fuel x0=some r):
  Calls Tryz.prog 127 ⟨[sl H x0 q0]⟩ w (Ret fun v w8=>∃ A0 k0,v=sl A0 r k0∧St w w8 [ow z6k A0 r k0]):=by
 refine into Tryz.func127 23 _ ?_;unfold z6G at hm;have hS:=St.start w;refine sq<|rg<|rr 1 ?_;refine rn<|sq<|rg<|rr 2 ?_;obtain⟨C0,hm⟩:=iS hm;have hz7:=of_decide_eq_true C0;refine mS (U:=z7L) (⟨(0:Int),(⟨(0:Int),(0:Int),(0:Int),([]:(List Int)),([]:(List D.Address))⟩:D.ShardCell),(⟨(0:Int),(0:Int),(0:Int)⟩:D.Address),(⟨(0:Int),(0:Int),(0:Int)⟩:D.Address)⟩:D.Parcel) hS hz7 (fun _=>(zfm (c:=(⟨(0:Int),(⟨(0:Int),(0:Int),(0:Int),([]:(List Int)),([]:(List D.Address))⟩:D.ShardCell),(⟨(0:Int),(0:Int),(0:Int)⟩:D.Address),(⟨(0:Int),(0:Int),(0:Int)⟩:D.Address)⟩:D.Parcel)) ⟨[],[],rfl,(slNilOwn tInt 2 _),⟨[],[],rfl,(slNilOwn ty35 35 _),rfl⟩⟩)) (fun A2 k3 w4 e5 B0=>?_);refine rr 1 ?_;refine rn<|sq<|sq<|rg<|rr 1 ?_;refine rn ?_;obtain⟨D0,g0,hm⟩:=bS hm;refine ct (fun(t0:(List D.Parcel)) F w9=>D0=.inl t0∧St w w9 [Own z6k [.slice A2 (List.replicate (x0.length:Int).toNat (⟨(0:Int),(⟨(0:Int),(0:Int),(0:Int),([]:(List Int)),([]:(List D.Address))⟩:D.ShardCell),(⟨(0:Int),(0:Int),(0:Int)⟩:D.Address),(⟨(0:Int),(0:Int),(0:Int)⟩:D.Address)⟩:D.Parcel)).length k3] t0]∧F=[(3,.slice A2 (List.replicate (x0.length:Int).toNat (⟨(0:Int),(⟨(0:Int),(0:Int),(0:Int),([]:(List Int)),([]:(List D.Address))⟩:D.ShardCell),(⟨(0:Int),(0:Int),(0:Int)⟩:D.Address),(⟨(0:Int),(0:Int),(0:Int)⟩:D.Address)⟩:D.Parcel)).length k3)]) ?_ ?_
 ·rintro t0 F T0 ⟨i0,q,rfl⟩;subst i0;rw [z8] at hm;unfold za5 at hm;refine sq<|rg<|rr 2 ?_;refine rn<|rt ?_;cases hm;have hn18:=(q.bring 0 rfl).lenEq;have S:=(q.bring 0 rfl).reLen hn18;exact⟨_,.cons (.tmp rfl) .nil,A2,k3,(by first | (simp only [sl,hn18];done) | (simp only [sl,hn18];rfl)),S⟩
 ·refine bk<|wk [0,3,4] ?_;refine it (fun(r0:Int × (List D.Parcel)) F w9=>St w w9 [Own z6k [.slice A2 (List.replicate (x0.length:Int).toNat (⟨(0:Int),(⟨(0:Int),(0:Int),(0:Int),([]:(List Int)),([]:(List D.Address))⟩:D.ShardCell),(⟨(0:Int),(0:Int),(0:Int)⟩:D.Address),(⟨(0:Int),(0:Int),(0:Int)⟩:D.Address)⟩:D.Parcel)).length k3] r0.2]∧F=[(0,sl H x0 q0),(3,.slice A2 (List.replicate (x0.length:Int).toNat (⟨(0:Int),(⟨(0:Int),(0:Int),(0:Int),([]:(List Int)),([]:(List D.Address))⟩:D.ShardCell),(⟨(0:Int),(0:Int),(0:Int)⟩:D.Address),(⟨(0:Int),(0:Int),(0:Int)⟩:D.Address)⟩:D.Parcel)).length k3),(4,.int .i64 r0.1)]) g0 ⟨B0,rfl⟩ ?_;rintro r0 F U0 _ Q0 ⟨h,rfl⟩ d j0;unfold z6o at d;refine sq<|sq<|rg<|rr 4 ?_;refine rn<|ci d (fun d=>?_) (fun d=>?_)
  ·refine sp<|sq<|bk<|rg<|rr 4 ?_;obtain⟨Y0,o0,d⟩:=bS d;refine ix (hE.trans h.ext) y0 o0 (fun R0 v0 e0 G=>?_);obtain⟨F0,M0,G0,N0,u0,K0,L0⟩:=zbK G;subst u0;refine lN (At.ext (hE.trans h.ext) e0) ?_;obtain⟨E0,p0,d⟩:=bS d;refine ca zkT (laws_toParcel_ok (hE.trans h.ext) G p0) (fun S0 V0 M=>?_);obtain⟨H0,O0,J0,P0,rfl,O⟩:=M;have X:=h.join O;have y:=X.bring 2 rfl;obtain⟨f0,d⟩:=iS d;have o:=of_decide_eq_true f0;refine io y o.1 o.2 (fun q52 hq53=>?_);have Y:=y.bring 2 rfl;have Z:=Y.bring 2 rfl;have a0:=z93 (c:=E0) (B:=_) Z;have b0:=a0.bring 1 rfl;refine se b0 o.2 hq53 (fun X0 d0=>?_);refine rn<|rg<|rr 3 ?_;refine rn ?_;cases d;exact⟨_,_,rfl,⟨d0,rfl⟩,rfl⟩
  ·refine xt ?_;cases d;exact⟨_,_,⟨j0,h,rfl⟩,rfl⟩

theorem znR:Enters Tryz.prog 65:=⟨_,_,Tryz.func65,rfl,by kernel_rfl⟩
def z9D (fuel:Nat) (d:(List (List D.Parcel))):Option (List (List D.Parcel)):=some d
def z5D (fuel:Nat) (x0:(List (List D.Parcel))) (d:Int × (List (List D.Parcel))):Option (Rd (Int × (List (List D.Parcel))) ((List (List D.Parcel))) ((List (List D.Parcel)))):=(if(decide (d.1<(x0.length:Int)))=true then((idx x0 d.1).bind fun o=>((z6G fuel o).bind fun h=>(if decide (0≤d.1∧d.1.toNat<d.2.length)=true then some (.next (w64 (d.1+1),(d.2.set d.1.toNat h))) else none))) else some (.brk d.2))
def z65 (fuel:Nat) (x0:(List (List D.Parcel))):Option ((List (List D.Parcel))):=(if decide (0≤(x0.length:Int)∧(x0.length:Int)≤4294967296)=true then((iter (z5D fuel x0) fuel (0,(List.replicate (x0.length:Int).toNat ([]:(List D.Parcel))))).bind fun o=>aft o (z9D fuel)) else none)

theorem laws_toParcelSS_ok {W w:World}(hE:Ext W w){H:Option Addr}{o0:Nat}{x0:(List (List D.Parcel))}(u0:ty27.ro W [sl H x0 o0] x0){fuel:Nat}{r:(List (List D.Parcel))}(hm:z65 fuel x0=some r):
  Calls Tryz.prog 65 ⟨[sl H x0 o0]⟩ w (Ret fun v w8=>∃ A0 k0,v=sl A0 r k0∧St w w8 [ow ty38 A0 r k0]):=by
 refine into Tryz.func65 23 _ ?_;unfold z65 at hm;have hS:=St.start w;refine sq<|rg<|rr 1 ?_;refine rn<|sq<|rg<|rr 2 ?_;obtain⟨y0,hm⟩:=iS hm;have hz7:=of_decide_eq_true y0;refine mS (U:=z6k) ([]:(List D.Parcel)) hS hz7 (fun _=>(slNilOwn z7L 156 _)) (fun A2 k3 w4 e5 v0=>?_);refine rr 1 ?_;refine rn<|sq<|sq<|rg<|rr 1 ?_;refine rn ?_;obtain⟨B0,e0,hm⟩:=bS hm;refine ct (fun(q0:(List (List D.Parcel))) F w9=>B0=.inl q0∧St w w9 [Own ty38 [sl A2 (List.replicate (x0.length:Int).toNat ([]:(List D.Parcel))) k3] q0]∧F=[(3,sl A2 (List.replicate (x0.length:Int).toNat ([]:(List D.Parcel))) k3)]) ?_ ?_
 ·rintro q0 F L0 ⟨f0,q,rfl⟩;subst f0;rw [z8] at hm;unfold z9D at hm;refine sq<|rg<|rr 2 ?_;refine rn<|rt ?_;cases hm;have hn18:=(q.bring 0 rfl).lenEq;have S:=(q.bring 0 rfl).reLen hn18;exact⟨_,.cons (.tmp rfl) .nil,A2,k3,(by first | (simp only [sl,hn18];done) | (simp only [sl,hn18];rfl)),S⟩
 ·refine bk<|wk [0,3,4] ?_;refine it (fun(p0:Int × (List (List D.Parcel))) F w9=>St w w9 [Own ty38 [sl A2 (List.replicate (x0.length:Int).toNat ([]:(List D.Parcel))) k3] p0.2]∧F=[(0,sl H x0 o0),(3,sl A2 (List.replicate (x0.length:Int).toNat ([]:(List D.Parcel))) k3),(4,.int .i64 p0.1)]) e0 ⟨v0,rfl⟩ ?_;rintro p0 F M0 _ G0 ⟨h,rfl⟩ d g0;unfold z5D at d;refine sq<|sq<|rg<|rr 4 ?_;refine rn<|ci d (fun d=>?_) (fun d=>?_)
  ·refine sp<|sq<|bk<|rg<|rr 4 ?_;obtain⟨P0,i0,d⟩:=bS d;refine ix (hE.trans h.ext) u0 i0 (fun H0 t0 b0 G=>?_);obtain⟨C0,E0,r0⟩:=zfn G;subst r0;refine l1 (At.ext (hE.trans h.ext) b0) 0 ?_;obtain⟨J0,j0,d⟩:=bS d;refine ca zmn (laws_toParcelS_ok (hE.trans h.ext) G j0) (fun K0 N0 M=>?_);obtain⟨D0,F0,rfl,O⟩:=M;have X:=h.join O;have y:=X.bring 1 rfl;obtain⟨d0,d⟩:=iS d;have o:=of_decide_eq_true d0;refine io y o.1 o.2 (fun q46 hq47=>?_);have Y:=y.bring 1 rfl;have Z:=Y.bring 1 rfl;refine se Z o.2 hq47 (fun O0 a0=>?_);refine rn<|rg<|rr 3 ?_;refine rn ?_;cases d;exact⟨_,_,rfl,⟨a0,rfl⟩,rfl⟩
  ·refine xt ?_;cases d;exact⟨_,_,⟨g0,h,rfl⟩,rfl⟩

theorem znQ:Enters Tryz.prog 66:=⟨_,_,Tryz.func66,rfl,by kernel_rfl⟩
def za6 (fuel:Nat) (d:(List (List Int))):Option (List (List Int)):=some d
def z6p (fuel:Nat) (x0:(List (List Int))) (d:Int × (List (List Int))):Option (Rd (Int × (List (List Int))) ((List (List Int))) ((List (List Int)))):=(if(decide (d.1<(x0.length:Int)))=true then((idx x0 d.1).bind fun o=>((z31 fuel o).bind fun h=>(if decide (0≤d.1∧d.1.toNat<d.2.length)=true then some (.next (w64 (d.1+1),(d.2.set d.1.toNat h))) else none))) else some (.brk d.2))
def z6H (fuel:Nat) (x0:(List (List Int))):Option ((List (List Int))):=(if decide (0≤(x0.length:Int)∧(x0.length:Int)≤4294967296)=true then((iter (z6p fuel x0) fuel (0,(List.replicate (x0.length:Int).toNat ([]:(List Int))))).bind fun o=>aft o (za6 fuel)) else none)

theorem laws_toInt64SS_ok {W w:World}(hE:Ext W w){H:Option Addr}{o0:Nat}{x0:(List (List Int))}(u0:ty28.ro W [sl H x0 o0] x0){fuel:Nat}{r:(List (List Int))}(hm:z6H fuel x0=some r):
  Calls Tryz.prog 66 ⟨[sl H x0 o0]⟩ w (Ret fun v w8=>∃ A0 k0,v=sl A0 r k0∧St w w8 [ow ty28 A0 r k0]):=by
 refine into Tryz.func66 23 _ ?_;unfold z6H at hm;have hS:=St.start w;refine sq<|rg<|rr 1 ?_;refine rn<|sq<|rg<|rr 2 ?_;obtain⟨y0,hm⟩:=iS hm;have hz7:=of_decide_eq_true y0;refine mS (U:=ty29) ([]:(List Int)) hS hz7 (fun _=>(slNilOwn tInt 2 _)) (fun A2 k3 w4 e5 v0=>?_);refine rr 1 ?_;refine rn<|sq<|sq<|rg<|rr 1 ?_;refine rn ?_;obtain⟨B0,e0,hm⟩:=bS hm;refine ct (fun(q0:(List (List Int))) F w9=>B0=.inl q0∧St w w9 [Own ty28 [sl A2 (List.replicate (x0.length:Int).toNat ([]:(List Int))) k3] q0]∧F=[(3,sl A2 (List.replicate (x0.length:Int).toNat ([]:(List Int))) k3)]) ?_ ?_
 ·rintro q0 F L0 ⟨f0,q,rfl⟩;subst f0;rw [z8] at hm;unfold za6 at hm;refine sq<|rg<|rr 2 ?_;refine rn<|rt ?_;cases hm;have hn18:=(q.bring 0 rfl).lenEq;have S:=(q.bring 0 rfl).reLen hn18;exact⟨_,.cons (.tmp rfl) .nil,A2,k3,(by first | (simp only [sl,hn18];done) | (simp only [sl,hn18];rfl)),S⟩
 ·refine bk<|wk [0,3,4] ?_;refine it (fun(p0:Int × (List (List Int))) F w9=>St w w9 [Own ty28 [sl A2 (List.replicate (x0.length:Int).toNat ([]:(List Int))) k3] p0.2]∧F=[(0,sl H x0 o0),(3,sl A2 (List.replicate (x0.length:Int).toNat ([]:(List Int))) k3),(4,.int .i64 p0.1)]) e0 ⟨v0,rfl⟩ ?_;rintro p0 F M0 _ G0 ⟨h,rfl⟩ d g0;unfold z6p at d;refine sq<|sq<|rg<|rr 4 ?_;refine rn<|ci d (fun d=>?_) (fun d=>?_)
  ·refine sp<|sq<|bk<|rg<|rr 4 ?_;obtain⟨P0,i0,d⟩:=bS d;refine ix (hE.trans h.ext) u0 i0 (fun H0 t0 b0 G=>?_);obtain⟨C0,E0,r0⟩:=z1D G;subst r0;refine l1 (At.ext (hE.trans h.ext) b0) 0 ?_;obtain⟨J0,j0,d⟩:=bS d;refine ca zdH (laws_toInt64S_ok (hE.trans h.ext) G j0) (fun K0 N0 M=>?_);obtain⟨D0,F0,rfl,O⟩:=M;have X:=h.join O;have y:=X.bring 1 rfl;obtain⟨d0,d⟩:=iS d;have o:=of_decide_eq_true d0;refine io y o.1 o.2 (fun q46 hq47=>?_);have Y:=y.bring 1 rfl;have Z:=Y.bring 1 rfl;refine se Z o.2 hq47 (fun O0 a0=>?_);refine rn<|rg<|rr 3 ?_;refine rn ?_;cases d;exact⟨_,_,rfl,⟨a0,rfl⟩,rfl⟩
  ·refine xt ?_;cases d;exact⟨_,_,⟨g0,h,rfl⟩,rfl⟩

theorem zdL:Enters Tryz.prog 17:=⟨_,_,Tryz.func17,rfl,by kernel_rfl⟩
def z2x (fuel:Nat) (x0:D.Cluster):Option (D.Cluster):=((z8D fuel x0.Grid).bind fun d=>((z65 fuel x0.Channels).bind fun h=>((z6H fuel x0.Counts).bind fun o=>((z31 fuel x0.Sent).bind fun q=>((z31 fuel x0.Got).bind fun y=>some (⟨(⟨d.Shards,(⟨d.Root.Machine,d.Root.Kind,d.Root.Index⟩:D.Address)⟩:D.Grid),h,o,q,y⟩:D.Cluster))))))

theorem laws_toCluster_ok {W w:World}(hE:Ext W w){H0:List Value}{x0:D.Cluster}(P0:ty31.ro W H0 x0){fuel:Nat}{r:D.Cluster}(hm:z2x fuel x0=some r):
  Calls Tryz.prog 17 ⟨[.agg ⟨H0⟩]⟩ w (Ret fun v w8=>∃ A0 k0 A1 k1 A2 k2 A3 k3 A4 k4,v=.agg ⟨[sl A0 r.Grid.Shards k0,.int .i64 r.Grid.Root.Machine,.int .i64 r.Grid.Root.Kind,.int .i64 r.Grid.Root.Index,sl A1 r.Channels k1,sl A2 r.Counts k2,sl A3 r.Sent k3,sl A4 r.Got k4]⟩∧St w w8 [ow ty34 A0 r.Grid.Shards k0,ow ty38 A1 r.Channels k1,ow ty28 A2 r.Counts k2,ow ty29 A3 r.Sent k3,ow ty29 A4 r.Got k4]):=by
 obtain⟨A1,k2,A4,k5,A7,m1,a1,n1,b1,p1,O0,h3,h6,Q0,R0,S0⟩:=zdP P0;subst O0;refine into Tryz.func17 25 _ ?_;unfold z2x at hm;have hS:=St.start w;refine sq<|rg<|nw hS (fun g1 G1 d1 f0=>?_);refine nw f0 (fun i1 H1 e1 g0=>?_);refine rn<|sq<|rg<|nw g0 (fun j1 J1 f1 d=>?_);refine rn<|sq<|rg<|rr 1 ?_;refine lN (At.sub ((d.bring 2 rfl).box) 0 4) ?_;obtain⟨s1,C0,hm⟩:=bS hm;refine ca znS (laws_toGrid_ok (hE.trans d.ext) (zgh x0.Grid h3) C0) (fun B1 K1 M=>?_);obtain⟨J0,T0,rfl,O⟩:=M;have i0:=d.join O;refine rr 1 ?_;have j0:=i0.bring 1 rfl;refine so (A:=[]) j0 0 (fun L1 h=>?_);refine rn<|sq<|rg<|rr 1 ?_;refine l1 ((h.bring 3 rfl).box) 4 ?_;obtain⟨t1,D0,hm⟩:=bS hm;refine ca znR (laws_toParcelSS_ok (hE.trans h.ext) h6 D0) (fun C1 M1 S=>?_);obtain⟨K0,U0,rfl,X⟩:=S;have o0:=h.join X;refine rr 1 ?_;have p0:=o0.bring 1 rfl;refine so (A:=[]) p0 4 (fun N1 o=>?_);refine rn<|sq<|rg<|rr 1 ?_;refine l1 ((o.bring 4 rfl).box) 5 ?_;obtain⟨u1,E0,hm⟩:=bS hm;refine ca znQ (laws_toInt64SS_ok (hE.trans o.ext) Q0 E0) (fun D1 O1 Y=>?_);obtain⟨L0,V0,rfl,Z⟩:=Y;have q0:=o.join Z;refine rr 1 ?_;have r0:=q0.bring 1 rfl;refine so (A:=[]) r0 5 (fun P1 q=>?_);refine rn<|sq<|rg<|rr 1 ?_;refine l1 ((q.bring 5 rfl).box) 6 ?_;obtain⟨v1,F0,hm⟩:=bS hm;refine ca zdH (laws_toInt64S_ok (hE.trans q.ext) R0 F0) (fun E1 Q1 a0=>?_);obtain⟨M0,X0,rfl,b0⟩:=a0;have t0:=q.join b0;refine rr 1 ?_;have u0:=t0.bring 1 rfl;refine so (A:=[]) u0 6 (fun R1 y=>?_);refine rn<|sq<|rg<|rr 1 ?_;refine l1 ((y.bring 6 rfl).box) 7 ?_;obtain⟨y1,G0,hm⟩:=bS hm;refine ca zdH (laws_toInt64S_ok (hE.trans y.ext) S0 G0) (fun F1 S1 d0=>?_);obtain⟨N0,Y0,rfl,e0⟩:=d0;have v0:=y.join e0;refine rr 1 ?_;have y0:=v0.bring 1 rfl;refine so (A:=[]) y0 7 (fun T1 G=>?_);refine rn<|sq<|rg<|lN ((G.bring 0 rfl).box) ?_;have B0:=G.bring 6 rfl;refine so (A:=[]) B0 0 (fun U1 H=>?_);refine rn<|rt ?_;cases hm;exact⟨_,.cons (ra ((H.bring 0 rfl).box)) .nil,J0,T0,K0,U0,L0,V0,M0,X0,N0,Y0,rfl,((((((H.bring 2 rfl).bring 3 rfl).bring 4 rfl).bring 5 rfl).bring 6 rfl).taken 5)⟩

theorem zaf:Enters Tryz.prog 212:=⟨_,_,Tryz.func212,rfl,by kernel_rfl⟩
def z2S (fuel:Nat) (x0:(List Int)):Option ((List Int)):=(if decide ((([]:(List Int)).length:Int)+(x0.length:Int)≤4294967296)=true then some (([]:(List Int))++x0) else none)

theorem z5u {W w:World}(hE:Ext W w){h:Option Addr}{q:Nat}{x0:(List Int)}(G:ty29.ro W [sl h x0 q] x0){fuel:Nat}{r:(List Int)}(hm:z2S fuel x0=some r):
  Calls Tryz.prog 212 ⟨[sl h x0 q]⟩ w (Ret fun v w8=>∃ A0 k0,v=sl A0 r k0∧St w w8 [ow ty29 A0 r k0]):=by
 refine into Tryz.func212 6 _ ?_;unfold z2S at hm;have hS:=St.start w;refine sq<|rg<|rr 1 ?_;refine rn<|sq<|rg<|n0 (U:=tInt) hS (fun A1 k2 w3 e4 H=>?_);refine rr 1 ?_;have o:=H.bring 0 rfl;obtain⟨M,hm⟩:=iS hm;refine ap Flat.int o (ty29.ext (hE.trans o.ext) G) M (fun y O S d=>?_);refine rr 1 ?_;refine rn<|rt ?_;cases hm;exact⟨_,.cons (.tmp rfl) .nil,y,O,rfl,d⟩

theorem zgW:Enters Tryz.prog 248:=⟨_,_,Tryz.func248,rfl,by kernel_rfl⟩
def z5V (fuel:Nat) (x0:D.ShardCell):Option (D.Agent):=((z2S fuel x0.Data).bind fun d=>(if decide (0≤(w64 ((x0.Aux.length:Int)+1))∧(w64 ((x0.Aux.length:Int)+1))≤4294967296)=true then some (⟨x0.Kind,x0.Level,x0.Value,d,(List.replicate (w64 ((x0.Aux.length:Int)+1)).toNat (⟨(0:Int),(0:Int)⟩:D.Port))⟩:D.Agent) else none))

theorem zbc {W w:World}(hE:Ext W w){i0:Addr}{g0:List Value}{x0:D.ShardCell}(r0:z2y.ro W g0 x0) (q:At W i0 g0){fuel:Nat}{r:D.Agent}(hm:z5V fuel x0=some r):
  Calls Tryz.prog 248 ⟨[.pointer (some i0)]⟩ w (Ret fun v w8=>∃ A0 k0 A1 k1,v=.agg ⟨[.int .i64 r.Kind,.int .i64 r.Level,.int .i64 r.Value,sl A0 r.Data k0,sl A1 r.Ports k1]⟩∧St w w8 [ow ty29 A0 r.Data k0,ow z2d A1 r.Ports k1]):=by
 obtain⟨A1,k2,A4,k5,e7,h3,h6⟩:=zt r0;subst e7;refine into Tryz.func248 28 _ ?_;unfold z5V at hm;have hS:=St.start w;refine sq<|rg<|nw hS (fun E0 K0 B0 h=>?_);refine rn<|sq<|dn 33554432 mixed 26 [([],67108863),([0],67108862),([1],67108861),([2],67108859),([],67108863),([4],67108847),([5],67108831),([6],67108799),([],67108863),([8],67108607),([9],67108351),([10],67107839),([],67108863),([12],67104767),([13],67100671),([14],67092479),([15],67076095),([],67108863),([17],66977791),([18],66846719),([19],66584575),([20],66060287),([21],65011711),([22,22],62914559),([3,7,11,16,23],58652535),([24,16,0,1,2,3,4,5,6,7,8,9,10,11,12,13,14,15,16,17,18,19,20,21,22,23,24],50331647)] h.ext (fun d=>?_);have o:=h.step (Ext.draw _);refine dr 11 d [0,1,2,4,5,6,8,9,10,12,13,14,17,18,19] ?_;refine dw [2,5,9,13,17,22] ?_;refine dl d 3 (At.ext (hE.trans h.ext) q) 0 ?_;refine dl d 7 (At.ext (hE.trans h.ext) q) 1 ?_;refine dl d 11 (At.ext (hE.trans h.ext) q) 2 ?_;refine dl d 15 (At.ext (hE.trans h.ext) q) 3 ?_;refine dl d 20 (At.ext (hE.trans h.ext) q) 4 ?_;refine dr 4 d [21,22] ?_;refine dw [2,6,10,14,18,25] ?_;obtain⟨G0,X,hm⟩:=bS hm;obtain⟨S,hm⟩:=iS hm;refine da d [16,23] (by simp) ?_;intro F0 hi36;simp only [List.mem_cons,List.not_mem_nil,or_false] at hi36
 rcases hi36 with rfl | rfl
 ·refine mc d zaf (z5u (hE.trans o.ext) h3 X) (fun H0 L0 Y=>?_);obtain⟨j0,t0,rfl,y⟩:=Y;refine⟨y.ext,?_⟩;have a0:=o.join y;have hz49:=of_decide_eq_true S;refine o1 d 23 (mk (U:=zdh) (⟨(0:Int),(0:Int)⟩:D.Port) a0 d hz49 (fun _=>(z92 (c:=(⟨(0:Int),(0:Int)⟩:D.Port)) rfl)) (fun o0 u0 M0 C0 b0=>?_));refine dp d 24 rfl (fun _=>qb) ?_;have d0:=b0.bring 2 rfl;refine o1 d 25 (ms (A:=[]) d0 d 0 (fun N0 H=>?_));refine dd d ?_;refine rt ?_;cases hm;exact⟨_,.cons (ra ((H.bring 0 rfl).box)) .nil,j0,t0,o0,u0,rfl,(((H.bring 1 rfl).bring 2 rfl).taken 2)⟩
 ·have hz58:=of_decide_eq_true S;refine mk (U:=zdh) (⟨(0:Int),(0:Int)⟩:D.Port) o d hz58 (fun _=>(z92 (c:=(⟨(0:Int),(0:Int)⟩:D.Port)) rfl)) (fun p0 v0 O0 D0 M=>?_);refine o1 d 16 (mc d zaf (z5u (hE.trans M.ext) h3 X) (fun J0 P0 Z=>?_));obtain⟨q0,y0,rfl,G⟩:=Z;refine⟨G.ext,?_⟩;have e0:=M.join G;refine dp d 24 rfl (fun _=>qb) ?_;have f0:=e0.bring 2 rfl;refine o1 d 25 (ms (A:=[]) f0 d 0 (fun Q0 O=>?_));refine dd d ?_;refine rt ?_;cases hm;exact⟨_,.cons (ra ((O.bring 0 rfl).box)) .nil,q0,y0,p0,v0,rfl,(O.bring 0 rfl).drop⟩

theorem zh2:Enters Tryz.prog 224:=⟨_,_,Tryz.func224,rfl,by kernel_rfl⟩
def z4R (fuel:Nat) (x0:D.ShardCell):Option (Bool):=(if(x0.Kind == 0)=true then(if(x0.Level == 0)=true then(if(x0.Value == 0)=true then(if((x0.Data.length:Int) == 0)=true then some ((x0.Aux.length:Int) == 0) else some false) else some false) else some false) else(if(decide ((x0.Aux.length:Int)>3))=true then some false else((z5V fuel x0).bind fun d=>(if(x0.Kind != 1)=true then((z4n fuel (⟨d.Kind,d.Level,d.Value,d.Data,d.Ports⟩:D.Agent)).bind fun h=>some h) else some false))))

theorem zaJ {W w:World}(hE:Ext W w){d0:Addr}{a0:List Value}{x0:D.ShardCell}(b0:z2y.ro W a0 x0) (h:At W d0 a0){fuel:Nat}{r:Bool}(hm:z4R fuel x0=some r):
  Calls Tryz.prog 224 ⟨[.pointer (some d0)]⟩ w (Ret fun v w8=>v=.bool r∧St w w8 []):=by
 obtain⟨A1,k2,A4,k5,e7,h3,h6⟩:=zt b0;subst e7;refine into Tryz.func224 53 _ ?_;unfold z4R at hm;have hS:=St.start w;refine sq<|rg<|rr 1 ?_;refine rn<|sq<|sq<|rg<|rr 3 ?_;refine l1 (At.ext (hE.trans hS.ext) h) 0 ?_;refine rr 1 ?_;refine rn<|ci hm (fun hm=>?_) (fun hm=>?_)
 ·refine sq<|rg<|rr 3 ?_;refine l1 (At.ext (hE.trans hS.ext) h) 1 ?_;refine rr 2 ?_;refine rb 14 hm (fun hm=>?_) (fun hm=>?_)
  ·refine rr 3 ?_;refine l1 (At.ext (hE.trans hS.ext) h) 2 ?_;refine rr 3 ?_;refine rb 21 hm (fun hm=>?_) (fun hm=>?_)
   ·refine rr 3 ?_;refine l1 (At.ext (hE.trans hS.ext) h) 3 ?_;refine rr 4 ?_;refine rb 29 hm (fun hm=>?_) (fun hm=>?_)
    ·refine rr 3 ?_;refine l1 (At.ext (hE.trans hS.ext) h) 4 ?_;refine rr 4 ?_;refine rn<|rt ?_;cases hm;exact⟨_,.cons (.tmp rfl) .nil,rfl,hS⟩
    ·refine rr 8 ?_;refine rn<|rt ?_;cases hm;exact⟨_,.cons (.tmp rfl) .nil,rfl,hS⟩
   ·refine rr 16 ?_;refine rn<|rt ?_;cases hm;exact⟨_,.cons (.tmp rfl) .nil,rfl,hS⟩
  ·refine rr 23 ?_;refine rn<|rt ?_;cases hm;exact⟨_,.cons (.tmp rfl) .nil,rfl,hS⟩
 ·refine sp<|sq<|sq<|rg<|rr 3 ?_;refine l1 (At.ext (hE.trans hS.ext) h) 4 ?_;refine rr 2 ?_;refine rn<|ci hm (fun hm=>?_) (fun hm=>?_)
  ·refine sq<|rg<|rr 1 ?_;refine rn<|rt ?_;cases hm;exact⟨_,.cons (.tmp rfl) .nil,rfl,hS⟩
  ·refine sp<|sq<|rg<|rr 1 ?_;obtain⟨o,Y,hm⟩:=bS hm;refine ca zgW (zbc (hE.trans hS.ext) b0 h Y) (fun p0 r0 q=>?_);obtain⟨e0,j0,f0,k0,rfl,y⟩:=q;have M:=hS.join y;refine nw M (fun i0 t0 g0 O=>?_);have S:=O.bring 0 rfl;refine so (A:=[]) S 0 (fun u0 d=>?_);refine rn<|sq<|rg<|rr 3 ?_;refine l1 (At.ext (hE.trans d.ext) h) 0 ?_;refine rr 2 ?_;refine rb 50 hm (fun hm=>?_) (fun hm=>?_)
   ·obtain⟨o0,Z,hm⟩:=bS hm;refine ca zk7 (zdn (Ext.refl _) (zfd (⟨o.Kind,o.Level,o.Value,o.Data,o.Ports⟩:D.Agent) ((d.bring 1 rfl).own) ((d.bring 2 rfl).own)) ((d.bring 0 rfl).box) Z) (fun q0 v0 G=>?_);obtain⟨rfl,H⟩:=G;have X:=d.join H;refine rr 2 ?_;refine rn<|rt ?_;cases hm;exact⟨_,.cons (.tmp rfl) .nil,rfl,(X.taken 0)⟩
   ·refine rr 3 ?_;refine rn<|rt ?_;cases hm;exact⟨_,.cons (.tmp rfl) .nil,rfl,(d.taken 0)⟩

theorem zkY:Enters Tryz.prog 170:=⟨_,_,Tryz.func170,rfl,by kernel_rfl⟩
def za2 (fuel:Nat) (d:Unit):Option Bool:=some true
def za1 (fuel:Nat) (d:Int) (h:Unit):Option (Rd (Int) (Unit) (Bool)):=some (.next (w64 (d+1)))
def z1v (fuel:Nat) (d:Int) (h:Bool):Option (Rd (Int) (Unit) (Rd (Int) (Unit) (Bool))):=(if h=true then some (.ret (.ret false)) else some (.next (w64 (d+1))))
def z4f (fuel:Nat) (o:D.Shard) (h:Int):Option (Rd (Int) (Unit) (Rd (Int) (Unit) (Bool))):=(if(decide (h<(o.Vars.length:Int)))=true then((idx o.Vars h).bind fun d=>(if d.Full=true then(if(!d.Used)=true then z1v fuel h true else(if(!d.Full)=true then z1v fuel h (!(((d.Held.Machine:Int) == 0) && (((d.Held.Kind:Int) == 0) && (((d.Held.Index:Int) == 0) && true)))) else z1v fuel h false)) else(if(!d.Full)=true then z1v fuel h (!(((d.Held.Machine:Int) == 0) && (((d.Held.Kind:Int) == 0) && (((d.Held.Index:Int) == 0) && true)))) else z1v fuel h false))) else some (.brk ()))
def z89 (fuel:Nat) (d:Int) (h:D.Shard) (q:Unit):Option (Rd (Int) (Unit) (Bool)):=((iter (z4f fuel h) fuel 0).bind fun o=>aft o (za1 fuel d))
def z4g (fuel:Nat) (q:D.Shard) (h:Int):Option (Rd (Int) (Unit) (Rd (Int) (Unit) (Bool))):=(if(decide (h<(q.Cells.length:Int)))=true then((idx q.Cells h).bind fun o=>((z4R fuel o).bind fun d=>(if(!d)=true then some (.ret (.ret false)) else some (.next (w64 (h+1)))))) else some (.brk ()))
def z1i (fuel:Nat) (h:Int) (d:D.Shard) (q:Bool):Option (Rd (Int) (Unit) (Bool)):=(if q=true then some (.ret false) else((iter (z4g fuel d) fuel 0).bind fun o=>aft o (z89 fuel h d)))
def z4h (fuel:Nat) (x0:D.Grid) (h:Int):Option (Rd (Int) (Unit) (Bool)):=(if(decide (h<(x0.Shards.length:Int)))=true then((idx x0.Shards h).bind fun d=>(if(decide ((d.Cells.length:Int)>400))=true then z1i fuel h d true else(if(decide ((d.Vars.length:Int)>400))=true then z1i fuel h d true else z1i fuel h d (decide ((d.Redexes.length:Int)>400))))) else some (.brk ()))
def z6E (fuel:Nat) (x0:D.Grid):Option (Bool):=((zT fuel (x0.Shards.length:Int) 1 4).bind fun r5=>(if(!r5)=true then some false else((iter (z4h fuel x0) fuel 0).bind fun o=>aft o (za2 fuel))))

theorem zcX {W w:World}(hE:Ext W w){Y:Addr}{a1:List Value}{x0:D.Grid}(y1:ty37.ro W a1 x0) (y0:At W Y a1){fuel:Nat}{r:Bool}(hm:z6E fuel x0=some r):
  Calls Tryz.prog 170 ⟨[.pointer (some Y)]⟩ w (Ret fun v w8=>v=.bool r∧St w w8 []):=by
 obtain⟨A1,k2,e4,h3⟩:=z2X y1;subst e4;refine into Tryz.func170 105 _ ?_;unfold z6E at hm;have hS:=St.start w;refine sq<|rg<|rr 1 ?_;refine rn<|sq<|sq<|rg<|rr 3 ?_;refine l1 (At.ext (hE.trans hS.ext) y0) 0 ?_;refine rr 1 ?_;obtain⟨r5,J1,hm⟩:=bS hm;refine ca z3U (z1b (hE.trans hS.ext)  J1) (fun v7 p2 A0=>?_);obtain⟨rfl,B0⟩:=A0;have i0:=hS.join B0;refine rr 1 ?_;refine rn<|ci hm (fun hm=>?_) (fun hm=>?_)
 ·refine sq<|rg<|rr 1 ?_;refine rn<|rt ?_;cases hm;exact⟨_,.cons (.tmp rfl) .nil,rfl,i0⟩
 ·refine sp<|sq<|rg<|qt (qb) ?_;refine nw i0 (fun H q2 f2 C0=>?_);have D0:=C0.bring 0 rfl;refine so (A:=[]) D0 0 (fun r2 E0=>?_);refine rn<|sq<|sq<|rg<|rr 1 ?_;refine rn ?_;obtain⟨N1,M0,hm⟩:=bS hm;refine ct (fun(e1:Unit) F w9=>N1=.inl e1∧St w w9 [Box H [.int .i64 0,.int .i64 0,.int .i64 0] 35]∧F=[]) ?_ ?_
  ·rintro e1 F s2 ⟨P0,F0,rfl⟩;subst P0;rw [z8] at hm;unfold za2 at hm;refine sq<|rg<|rr 1 ?_;refine rn<|rt ?_;cases hm;exact⟨_,.cons (.tmp rfl) .nil,rfl,(F0.taken 0)⟩
  ·refine bk<|wk [0,3,4] ?_;refine it (fun(Z:Int) F w9=>St w w9 [Box H [.int .i64 0,.int .i64 0,.int .i64 0] 35]∧F=[(0,.pointer (some Y)),(3,.pointer (some ⟨H,0,none⟩)),(4,.int .i64 Z)]) M0 ⟨E0,rfl⟩ ?_;rintro Z F X1 _ O1 ⟨y,rfl⟩ d X;unfold z4h at d;refine sq<|sq<|rg<|rr 4 ?_;refine l1 (At.ext (hE.trans y.ext) y0) 0 ?_;refine rr 2 ?_;refine rn<|ci d (fun d=>?_) (fun d=>?_)
   ·refine sp<|sq<|bk<|sq<|rg<|rr 3 ?_;refine l1 (At.ext (hE.trans y.ext) y0) 0 ?_;refine rr 1 ?_;obtain⟨j1,U0,d⟩:=bS d;refine ix (hE.trans y.ext) h3 U0 (fun t0 t1 M S0=>?_);obtain⟨b2,j2,d2,m2,e2,n2,p1,D1,E1,i2⟩:=z10 S0;subst p1;refine rr 1 ?_;refine rn<|sq<|sq<|ct (fun(X0:Bool) F w9=>z1i fuel Z j1 X0=some O1∧Ext X1 w9∧St w w9 [Box H [.int .i64 0,.int .i64 0,.int .i64 0] 35]∧F=[(0,.pointer (some Y)),(3,.pointer (some ⟨H,0,none⟩)),(4,.int .i64 Z),(5,.pointer (some t0)),(53,.bool X0)]) ?_ ?_
    ·rintro X0 F i1 ⟨d,F1,j0,rfl⟩;unfold z1i at d;refine ci d (fun d=>?_) (fun d=>?_)
     ·refine sq<|rg<|rr 1 ?_;refine rn<|rt ?_;cases d;cases X;have hm:some _=some _:=hm;cases hm;exact⟨_,.cons (.tmp rfl) .nil,rfl,(j0.taken 0)⟩
     ·refine sp<|sq<|sq<|rg<|rr 1 ?_;refine rn ?_;obtain⟨P1,N0,d⟩:=bS d;refine ct (fun(f1:Unit) F w9=>P1=.inl f1∧Ext i1 w9∧St w w9 [Box H [.int .i64 0,.int .i64 0,.int .i64 0] 35]∧F=[(0,.pointer (some Y)),(3,.pointer (some ⟨H,0,none⟩)),(4,.int .i64 Z),(5,.pointer (some t0))]) ?_ ?_
      ·rintro f1 F t2 ⟨Q0,G1,G0,rfl⟩;subst Q0;rw [z8] at d;unfold z89 at d;refine sq<|rg<|rr 1 ?_;refine rn ?_;obtain⟨Q1,O0,d⟩:=bS d;refine ct (fun(g1:Unit) F w9=>Q1=.inl g1∧St w w9 [Box H [.int .i64 0,.int .i64 0,.int .i64 0] 35]∧F=[(0,.pointer (some Y)),(3,.pointer (some ⟨H,0,none⟩)),(4,.int .i64 Z)]) ?_ ?_
       ·rintro g1 F u2 ⟨R0,H0,rfl⟩;subst R0;rw [z8] at d;unfold za1 at d;refine rg<|rr 3 ?_;refine rn ?_;cases d;exact⟨_,_,rfl,⟨H0,rfl⟩,rfl⟩
       ·refine bk<|wk [0,3,4,5,7] ?_;refine it (fun(u0:Int) F w9=>St w w9 [Box H [.int .i64 0,.int .i64 0,.int .i64 0] 35]∧F=[(0,.pointer (some Y)),(3,.pointer (some ⟨H,0,none⟩)),(4,.int .i64 Z),(5,.pointer (some t0)),(7,.int .i64 u0)]) O0 ⟨G0,rfl⟩ ?_;rintro u0 F v2 _ R1 ⟨O,rfl⟩ h p0;unfold z4f at h;refine sq<|sq<|rg<|rr 4 ?_;refine l1 (At.ext (hE.trans O.ext) M) 1 ?_;refine rr 2 ?_;refine rn<|ci h (fun h=>?_) (fun h=>?_)
        ·refine sp<|sq<|bk<|sq<|rg<|rr 3 ?_;refine l1 (At.ext (hE.trans O.ext) M) 1 ?_;refine rr 1 ?_;obtain⟨S,V0,h⟩:=bS h;refine ix (hE.trans O.ext) E1 V0 (fun o2 u1 L0 T0=>?_);have s1:=z1t T0;subst s1;refine lN (At.ext (hE.trans O.ext) L0) ?_;refine nw O (fun v1 y2 g2 J0=>?_);have K0:=J0.bring 0 rfl;refine so (A:=[]) K0 0 (fun Y1 q=>?_);refine rn<|sq<|ct (fun(Y0:Bool) F w9=>z1v fuel u0 Y0=some R1∧Ext Y1 w9∧St w w9 [Box v1 [.bool S.Used,.bool S.Full,.int .i64 S.Held.Machine,.int .i64 S.Held.Kind,.int .i64 S.Held.Index] 223,Box H [.int .i64 0,.int .i64 0,.int .i64 0] 35]∧F=[(0,.pointer (some Y)),(3,.pointer (some ⟨H,0,none⟩)),(4,.int .i64 Z),(5,.pointer (some t0)),(7,.int .i64 u0),(104,.bool Y0)]) ?_ ?_
         ·rintro Y0 F A2 ⟨h,H1,k0,rfl⟩;unfold z1v at h;refine ci h (fun h=>?_) (fun h=>?_)
          ·refine sq<|rg<|rr 1 ?_;refine rn<|rt ?_;cases h;cases p0;have d:some _=some _:=d;cases d;cases X;have hm:some _=some _:=hm;cases hm;exact⟨_,.cons (.tmp rfl) .nil,rfl,(k0.taken 0)⟩
          ·refine sp<|rg<|rr 3 ?_;refine rn ?_;cases h;exact⟨_,_,rfl,⟨((k0.bring 1 rfl).taken 1),rfl⟩,rfl⟩
         ·refine rg<|rr 1 ?_;refine l1 ((q.bring 0 rfl).box) 1 ?_;refine rr 1 ?_;refine rb 89 h (fun h=>?_) (fun h=>?_)
          ·refine rr 1 ?_;refine l1 ((q.bring 0 rfl).box) 0 ?_;refine rr 3 ?_;refine rb 94 h (fun h=>?_) (fun h=>?_)
           ·refine rr 10 ?_;refine rn ?_;exact⟨true,_,⟨h,(Ext.refl _),q,rfl⟩,rfl⟩
           ·refine rr 1 ?_;refine l1 ((q.bring 0 rfl).box) 1 ?_;refine rr 2 ?_;refine rb 98 h (fun h=>?_) (fun h=>?_)
            ·refine rr 1 ?_;refine lN (At.sub ((q.bring 0 rfl).box) 2 3) ?_;refine lN ((q.bring 1 rfl).box) ?_;refine rr 3 ?_;refine rn ?_;exact⟨!(((S.Held.Machine:Int) == 0) && (((S.Held.Kind:Int) == 0) && (((S.Held.Index:Int) == 0) && true))),_,⟨h,(Ext.refl _),q,rfl⟩,rfl⟩
            ·refine rr 6 ?_;refine rn ?_;exact⟨false,_,⟨h,(Ext.refl _),q,rfl⟩,rfl⟩
          ·refine rr 6 ?_;refine l1 ((q.bring 0 rfl).box) 1 ?_;refine rr 2 ?_;refine rb 98 h (fun h=>?_) (fun h=>?_)
           ·refine rr 1 ?_;refine lN (At.sub ((q.bring 0 rfl).box) 2 3) ?_;refine lN ((q.bring 1 rfl).box) ?_;refine rr 3 ?_;refine rn ?_;exact⟨!(((S.Held.Machine:Int) == 0) && (((S.Held.Kind:Int) == 0) && (((S.Held.Index:Int) == 0) && true))),_,⟨h,(Ext.refl _),q,rfl⟩,rfl⟩
           ·refine rr 6 ?_;refine rn ?_;exact⟨false,_,⟨h,(Ext.refl _),q,rfl⟩,rfl⟩
        ·refine xt ?_;cases h;exact⟨_,_,⟨p0,O,rfl⟩,rfl⟩
      ·refine bk<|wk [0,3,4,5,6] ?_;refine it (fun(d1:Int) F w9=>Ext i1 w9∧St w w9 [Box H [.int .i64 0,.int .i64 0,.int .i64 0] 35]∧F=[(0,.pointer (some Y)),(3,.pointer (some ⟨H,0,none⟩)),(4,.int .i64 Z),(5,.pointer (some t0)),(6,.int .i64 d1)]) N0 ⟨(Ext.refl _),j0,rfl⟩ ?_;rintro d1 F V1 _ M1 ⟨f0,G,rfl⟩ o d0;unfold z4g at o;refine sq<|sq<|rg<|rr 4 ?_;refine l1 (At.ext (hE.trans G.ext) M) 0 ?_;refine rr 2 ?_;refine rn<|ci o (fun o=>?_) (fun o=>?_)
       ·refine sp<|sq<|bk<|sq<|rg<|rr 3 ?_;refine l1 (At.ext (hE.trans G.ext) M) 0 ?_;refine rr 1 ?_;obtain⟨a2,q0,o⟩:=bS o;refine ix (hE.trans G.ext) D1 q0 (fun S1 b1 o0 e0=>?_);obtain⟨m1,K1,n1,L1,v0,B1,C1⟩:=zt e0;subst v0;obtain⟨T1,r0,o⟩:=bS o;refine ca zh2 (zaJ (hE.trans G.ext) e0 o0 r0) (fun U1 W1 g0=>?_);obtain⟨rfl,a0⟩:=g0;have b0:=G.join a0;refine rr 1 ?_;refine rn<|ci o (fun o=>?_) (fun o=>?_)
        ·refine sq<|rg<|rr 1 ?_;refine rn<|rt ?_;cases o;cases d0;have d:some _=some _:=d;cases d;cases X;have hm:some _=some _:=hm;cases hm;exact⟨_,.cons (.tmp rfl) .nil,rfl,(b0.taken 0)⟩
        ·refine sp<|rg<|rr 3 ?_;refine rn ?_;cases o;exact⟨_,_,rfl,⟨(f0.trans a0.ext),b0,rfl⟩,rfl⟩
       ·refine xt ?_;cases o;exact⟨_,_,⟨d0,f0,G,rfl⟩,rfl⟩
    ·refine rg<|rr 3 ?_;refine l1 (At.ext (hE.trans y.ext) M) 0 ?_;refine rr 3 ?_;refine rb 38 d (fun d=>?_) (fun d=>?_)
     ·refine rr 15 ?_;refine rn ?_;exact⟨true,_,⟨d,(Ext.refl _),y,rfl⟩,rfl⟩
     ·refine rr 3 ?_;refine l1 (At.ext (hE.trans y.ext) M) 1 ?_;refine rr 4 ?_;refine rb 46 d (fun d=>?_) (fun d=>?_)
      ·refine rr 7 ?_;refine rn ?_;exact⟨true,_,⟨d,(Ext.refl _),y,rfl⟩,rfl⟩
      ·refine rr 3 ?_;refine l1 (At.ext (hE.trans y.ext) M) 2 ?_;refine rr 3 ?_;refine rn ?_;exact⟨decide ((j1.Redexes.length:Int)>400),_,⟨d,(Ext.refl _),y,rfl⟩,rfl⟩
   ·refine xt ?_;cases d;exact⟨_,_,⟨X,y,rfl⟩,rfl⟩

theorem zeC:Enters Tryz.prog 171:=⟨_,_,Tryz.func171,rfl,by kernel_rfl⟩
def z7J (fuel:Nat) (t2:Unit):Option Bool:=some true
def z3A (fuel:Nat) (x0:(List Int)) (x1:Int) (s1:Int):Option (Rd (Int) (Unit) (Bool)):=(if(decide (s1<x1))=true then((idx x0 s1).bind fun h=>((zT fuel h 0 1000000000).bind fun d=>(if(!d)=true then some (.ret false) else some (.next (w64 (s1+1)))))) else some (.brk ()))
def z2K (fuel:Nat) (x0:(List Int)) (x1:Int):Option (Bool):=(if((x0.length:Int) != x1)=true then some false else((iter (z3A fuel x0 x1) fuel 0).bind fun o=>aft o (z7J fuel)))

theorem z8q {W w:World}(hE:Ext W w){G:Option Addr}{b0:Nat}{x0:(List Int)}{x1:Int}(f0:ty29.ro W [sl G x0 b0] x0){fuel:Nat}{r:Bool}(hm:z2K fuel x0 x1=some r):
  Calls Tryz.prog 171 ⟨[sl G x0 b0,.int .i64 x1]⟩ w (Ret fun v w8=>v=.bool r∧St w w8 []):=by
 refine into Tryz.func171 21 _ ?_;unfold z2K at hm;have hS:=St.start w;refine sq<|rg<|rr 1 ?_;refine rn<|sq<|sq<|rg<|rr 4 ?_;refine rn<|ci hm (fun hm=>?_) (fun hm=>?_)
 ·refine sq<|rg<|rr 1 ?_;refine rn<|rt ?_;cases hm;exact⟨_,.cons (.tmp rfl) .nil,rfl,hS⟩
 ·refine sp<|sq<|sq<|rg<|rr 1 ?_;refine rn ?_;obtain⟨g0,S,hm⟩:=bS hm;refine ct (fun(t2:Unit) F w9=>g0=.inl t2∧Ext w w9∧St w w9 []∧F=[]) ?_ ?_
  ·rintro t2 F w7 ⟨X,i0,M,rfl⟩;subst X;rw [z8] at hm;unfold z7J at hm;refine sq<|rg<|rr 1 ?_;refine rn<|rt ?_;cases hm;exact⟨_,.cons (.tmp rfl) .nil,rfl,M⟩
  ·refine bk<|wk [0,1,5] ?_;refine it (fun(s1:Int) F w9=>Ext w w9∧St w w9 []∧F=[(0,sl G x0 b0),(1,.int .i64 x1),(5,.int .i64 s1)]) S ⟨(Ext.refl _),hS,rfl⟩ ?_;rintro s1 F q0 _ j0 ⟨d0,h,rfl⟩ d y;unfold z3A at d;refine sq<|sq<|rg<|rr 3 ?_;refine rn<|ci d (fun d=>?_) (fun d=>?_)
   ·refine sp<|sq<|bk<|sq<|rg<|rr 2 ?_;obtain⟨t0,Z,d⟩:=bS d;refine ix (hE.trans h.ext) f0 Z (fun k0 e0 O Y=>?_);cases Y;refine l1 (At.ext (hE.trans h.ext) O) 0 ?_;obtain⟨o0,a0,d⟩:=bS d;refine ca z3U (z1b (hE.trans h.ext)  a0) (fun p0 r0 H=>?_);obtain⟨rfl,o⟩:=H;have q:=h.join o;refine rr 1 ?_;refine rn<|ci d (fun d=>?_) (fun d=>?_)
    ·refine sq<|rg<|rr 1 ?_;refine rn<|rt ?_;cases d;cases y;have hm:some _=some _:=hm;cases hm;exact⟨_,.cons (.tmp rfl) .nil,rfl,q⟩
    ·refine sp<|rg<|rr 3 ?_;refine rn ?_;cases d;exact⟨_,_,rfl,⟨(d0.trans o.ext),q,rfl⟩,rfl⟩
   ·refine xt ?_;cases d;exact⟨_,_,⟨y,d0,h,rfl⟩,rfl⟩

theorem zk6:Enters Tryz.prog 250:=⟨_,_,Tryz.func250,rfl,by kernel_rfl⟩
def zaP (fuel:Nat) (t2:Unit):Option Bool:=some true
def z7D (fuel:Nat) (x0:(List Int)) (x1:(List Int)) (s1:Int):Option (Rd (Int) (Unit) (Bool)):=(if(decide (s1<(x0.length:Int)))=true then((idx x0 s1).bind fun d=>((idx x1 s1).bind fun h=>(if(d != h)=true then some (.ret false) else some (.next (w64 (s1+1)))))) else some (.brk ()))
def z7P (fuel:Nat) (x0:(List Int)) (x1:(List Int)):Option (Bool):=(if((x0.length:Int) != (x1.length:Int))=true then some false else((iter (z7D fuel x0 x1) fuel 0).bind fun o=>aft o (zaP fuel)))

theorem ze7 {W w:World}(hE:Ext W w){G:Option Addr}{e0:Nat}{x0:(List Int)}{H:Option Addr}{f0:Nat}{x1:(List Int)}(k0:ty29.ro W [sl G x0 e0] x0) (o0:ty29.ro W [sl H x1 f0] x1){fuel:Nat}{r:Bool}(hm:z7P fuel x0 x1=some r):
  Calls Tryz.prog 250 ⟨[sl G x0 e0,sl H x1 f0]⟩ w (Ret fun v w8=>v=.bool r∧St w w8 []):=by
 refine into Tryz.func250 26 _ ?_;unfold z7P at hm;have hS:=St.start w;refine sq<|rg<|rr 1 ?_;refine rn<|sq<|sq<|rg<|rr 5 ?_;refine rn<|ci hm (fun hm=>?_) (fun hm=>?_)
 ·refine sq<|rg<|rr 1 ?_;refine rn<|rt ?_;cases hm;exact⟨_,.cons (.tmp rfl) .nil,rfl,hS⟩
 ·refine sp<|sq<|sq<|rg<|rr 1 ?_;refine rn ?_;obtain⟨p0,X,hm⟩:=bS hm;refine ct (fun(t2:Unit) F w9=>p0=.inl t2∧Ext w w9∧St w w9 []∧F=[]) ?_ ?_
  ·rintro t2 F w7 ⟨Y,q0,M,rfl⟩;subst Y;rw [z8] at hm;unfold zaP at hm;refine sq<|rg<|rr 1 ?_;refine rn<|rt ?_;cases hm;exact⟨_,.cons (.tmp rfl) .nil,rfl,M⟩
  ·refine bk<|wk [0,1,5] ?_;refine it (fun(s1:Int) F w9=>Ext w w9∧St w w9 []∧F=[(0,sl G x0 e0),(1,sl H x1 f0),(5,.int .i64 s1)]) X ⟨(Ext.refl _),hS,rfl⟩ ?_;rintro s1 F v0 _ r0 ⟨g0,h,rfl⟩ d y;unfold z7D at d;refine sq<|sq<|rg<|rr 4 ?_;refine rn<|ci d (fun d=>?_) (fun d=>?_)
   ·refine sp<|sq<|bk<|sq<|dn 0 mixed 9 [([],511),([],511),([0,1],508),([2],507),([],511),([],511),([4,5],463),([6],447),([3,7],375)] h.ext (fun o=>?_);have q:=h.step (Ext.draw _);refine dr 5 o [0,1,4,5] ?_;obtain⟨y0,b0,d⟩:=bS d;refine dx (hE.trans h.ext) o 2 k0 b0 (fun t0 i0 O Z=>?_);cases Z;refine dl o 3 (At.ext (hE.trans h.ext) O) 0 ?_;obtain⟨A0,d0,d⟩:=bS d;refine dx (hE.trans h.ext) o 6 o0 d0 (fun u0 j0 S a0=>?_);cases a0;refine dl o 7 (At.ext (hE.trans h.ext) S) 0 ?_;refine dr 0 o [8] ?_;refine dw [0,1,5,25] ?_;refine dd o ?_;refine ci d (fun d=>?_) (fun d=>?_)
    ·refine sq<|rg<|rr 1 ?_;refine rn<|rt ?_;cases d;cases y;have hm:some _=some _:=hm;cases hm;exact⟨_,.cons (.tmp rfl) .nil,rfl,q⟩
    ·refine sp<|rg<|rr 3 ?_;refine rn ?_;cases d;exact⟨_,_,rfl,⟨(g0.trans (Ext.draw _)),q,rfl⟩,rfl⟩
   ·refine xt ?_;cases d;exact⟨_,_,⟨y,g0,h,rfl⟩,rfl⟩

theorem zk5:Enters Tryz.prog 251:=⟨_,_,Tryz.func251,rfl,by kernel_rfl⟩
def z7G (fuel:Nat) (t2:Unit):Option Bool:=some true
def z2z (fuel:Nat) (x0:(List D.Address)) (x1:(List D.Address)) (s1:Int):Option (Rd (Int) (Unit) (Bool)):=(if(decide (s1<(x0.length:Int)))=true then((idx x0 s1).bind fun d=>((idx x1 s1).bind fun h=>(if(!(((d.Machine:Int) == h.Machine) && (((d.Kind:Int) == h.Kind) && (((d.Index:Int) == h.Index) && true))))=true then some (.ret false) else some (.next (w64 (s1+1)))))) else some (.brk ()))
def z2h (fuel:Nat) (x0:(List D.Address)) (x1:(List D.Address)):Option (Bool):=(if((x0.length:Int) != (x1.length:Int))=true then some false else((iter (z2z fuel x0 x1) fuel 0).bind fun o=>aft o (z7G fuel)))

theorem zaH {W w:World}(hE:Ext W w){G:Option Addr}{e0:Nat}{x0:(List D.Address)}{H:Option Addr}{f0:Nat}{x1:(List D.Address)}(p0:z3b.ro W [sl G x0 e0] x0) (q0:z3b.ro W [sl H x1 f0] x1){fuel:Nat}{r:Bool}(hm:z2h fuel x0 x1=some r):
  Calls Tryz.prog 251 ⟨[sl G x0 e0,sl H x1 f0]⟩ w (Ret fun v w8=>v=.bool r∧St w w8 []):=by
 refine into Tryz.func251 26 _ ?_;unfold z2h at hm;have hS:=St.start w;refine sq<|rg<|rr 1 ?_;refine rn<|sq<|sq<|rg<|rr 5 ?_;refine rn<|ci hm (fun hm=>?_) (fun hm=>?_)
 ·refine sq<|rg<|rr 1 ?_;refine rn<|rt ?_;cases hm;exact⟨_,.cons (.tmp rfl) .nil,rfl,hS⟩
 ·refine sp<|sq<|sq<|rg<|rr 1 ?_;refine rn ?_;obtain⟨r0,X,hm⟩:=bS hm;refine ct (fun(t2:Unit) F w9=>r0=.inl t2∧Ext w w9∧St w w9 []∧F=[]) ?_ ?_
  ·rintro t2 F w7 ⟨Y,t0,M,rfl⟩;subst Y;rw [z8] at hm;unfold z7G at hm;refine sq<|rg<|rr 1 ?_;refine rn<|rt ?_;cases hm;exact⟨_,.cons (.tmp rfl) .nil,rfl,M⟩
  ·refine bk<|wk [0,1,5] ?_;refine it (fun(s1:Int) F w9=>Ext w w9∧St w w9 []∧F=[(0,sl G x0 e0),(1,sl H x1 f0),(5,.int .i64 s1)]) X ⟨(Ext.refl _),hS,rfl⟩ ?_;rintro s1 F A0 _ u0 ⟨g0,h,rfl⟩ d y;unfold z2z at d;refine sq<|sq<|rg<|rr 4 ?_;refine rn<|ci d (fun d=>?_) (fun d=>?_)
   ·refine sp<|sq<|bk<|sq<|dn 0 mixed 9 [([],511),([],511),([0,1],508),([2],507),([],511),([],511),([4,5],463),([6],447),([3,7],375)] h.ext (fun o=>?_);have q:=h.step (Ext.draw _);refine dr 5 o [0,1,4,5] ?_;obtain⟨B0,b0,d⟩:=bS d;refine dx (hE.trans h.ext) o 2 p0 b0 (fun v0 k0 O Z=>?_);have i0:=z18 Z;subst i0;refine dL o 3 (At.ext (hE.trans h.ext) O) ?_;obtain⟨C0,d0,d⟩:=bS d;refine dx (hE.trans h.ext) o 6 q0 d0 (fun y0 o0 S a0=>?_);have j0:=z18 a0;subst j0;refine dL o 7 (At.ext (hE.trans h.ext) S) ?_;refine dr 0 o [8] ?_;refine dw [0,1,5,25] ?_;refine dd o ?_;refine ci d (fun d=>?_) (fun d=>?_)
    ·refine sq<|rg<|rr 1 ?_;refine rn<|rt ?_;cases d;cases y;have hm:some _=some _:=hm;cases hm;exact⟨_,.cons (.tmp rfl) .nil,rfl,q⟩
    ·refine sp<|rg<|rr 3 ?_;refine rn ?_;cases d;exact⟨_,_,rfl,⟨(g0.trans (Ext.draw _)),q,rfl⟩,rfl⟩
   ·refine xt ?_;cases d;exact⟨_,_,⟨y,g0,h,rfl⟩,rfl⟩

theorem zko:Enters Tryz.prog 225:=⟨_,_,Tryz.func225,rfl,by kernel_rfl⟩
def z50 (fuel:Nat) (x0:D.ShardCell) (x1:D.ShardCell):Option (Bool):=(if(x0.Kind == x1.Kind)=true then(if(x0.Level == x1.Level)=true then(if(x0.Value == x1.Value)=true then((z7P fuel x0.Data x1.Data).bind fun d=>(if d=true then((z2h fuel x0.Aux x1.Aux).bind fun h=>some h) else some false)) else some false) else some false) else some false)

theorem zc6 {W w:World}(hE:Ext W w){b0:Addr}{Z:List Value}{x0:D.ShardCell}{d0:Addr}{a0:List Value}{x1:D.ShardCell}(f0:z2y.ro W Z x0) (q:At W b0 Z) (j0:z2y.ro W a0 x1) (y:At W d0 a0){fuel:Nat}{r:Bool}(hm:z50 fuel x0 x1=some r):
  Calls Tryz.prog 225 ⟨[.pointer (some b0),.pointer (some d0)]⟩ w (Ret fun v w8=>v=.bool r∧St w w8 []):=by
 obtain⟨A1,k2,A4,k5,e7,h3,h6⟩:=zt f0;subst e7;obtain⟨k0,p0,o0,q0,e0,g0,i0⟩:=zt j0;subst e0;refine into Tryz.func225 58 _ ?_;unfold z50 at hm;have hS:=St.start w;refine sq<|rg<|rr 1 ?_;refine rn<|sq<|dn 0 mixed 54 [([],18014398509481983),([0],18014398509481982),([1],18014398509481981),([2],18014398509481979),([],18014398509481983),([4],18014398509481967),([5],18014398509481951),([6],18014398509481919),([3,7],18014398509481847),([8],18014398509481727),([9],18014398509481471),([10,9],18014398509480447),([11,9],18014398509479423),([12,9],18014398509477375),([9],18014398509481471),([14,9],18014398509465087),([15,9],18014398509448703),([16,9],18014398509415935),([13,17,9],18014398509342207),([9,18],18014398509219327),([19,9],18014398508957695),([20],18014398508433407),([21,20],18014398506336255),([22,20],18014398504239103),([23,20],18014398500044799),([20],18014398508433407),([25,20],18014398474878975),([26,20],18014398441324543),([27,20],18014398374215679),([24,28,20],18014398223220735),([20,29],18014397971562495),([30,20],18014397435740159),([31],18014396361998335),([32,31],18014392067031039),([33,31],18014387772063743),([34,31],18014379182129151),([31],18014396361998335),([36,31],18014327642521599),([37,31],18014258923044863),([38,31],18014121484091391),([35,39,31,31],18013812246446079),([31,40],18013296850370559),([41,40],18012199486226431),([42],18010000462970879),([43,42],18001204369948671),([44,42],17992408276926463),([45,42],17974816090882047),([42],18010000462970879),([47,42],17869262974615551),([48,42],17728525486260223),([49,42],17447050509549567),([46,50,42,42],16813731811950591),([42,51],15758200649285631),([52,51,0,1,2,3,4,5,6,7,8,9,10,11,12,13,14,15,16,17,18,19,20,21,22,23,24,25,26,27,28,29,30,31,32,33,34,35,36,37,38,39,40,41,42,43,44,45,46,47,48,49,50,51,52],13510798882111487)] hS.ext (fun d=>?_);have h:=hS.step (Ext.draw _);refine dr 48 d [0,1,2,4,5,6] ?_;refine dl d 3 (At.ext (hE.trans hS.ext) q) 0 ?_;refine dl d 7 (At.ext (hE.trans hS.ext) y) 0 ?_;refine dr 44 d [8,9] ?_;refine dw [0,1,4,14] ?_;refine db 14 hm (fun hm=>?_) (fun hm=>?_)
 ·refine dr 38 d [10,11,12,14,15,16] ?_;refine dl d 13 (At.ext (hE.trans hS.ext) q) 1 ?_;refine dl d 17 (At.ext (hE.trans hS.ext) y) 1 ?_;refine dr 33 d [18,19,20] ?_;refine dw [0,1,4,25] ?_;refine db 25 hm (fun hm=>?_) (fun hm=>?_)
  ·refine dr 27 d [21,22,23,25,26,27] ?_;refine dl d 24 (At.ext (hE.trans hS.ext) q) 2 ?_;refine dl d 28 (At.ext (hE.trans hS.ext) y) 2 ?_;refine dr 22 d [29,30,31] ?_;refine dw [0,1,4,36] ?_;refine db 36 hm (fun hm=>?_) (fun hm=>?_)
   ·refine dr 16 d [32,33,34,36,37,38] ?_;refine dl d 35 (At.ext (hE.trans hS.ext) q) 3 ?_;refine dl d 39 (At.ext (hE.trans hS.ext) y) 3 ?_;obtain⟨r0,X,hm⟩:=bS hm;refine o1 d 40 (mc d zk6 (ze7 (hE.trans h.ext) h3 g0 X) (fun u0 y0 M=>?_));obtain⟨rfl,G⟩:=M;refine⟨G.ext,?_⟩;have o:=h.join G;refine dr 11 d [41,42] ?_;refine dw [0,1,4,47] ?_;refine db 47 hm (fun hm=>?_) (fun hm=>?_)
    ·refine dr 5 d [43,44,45,47,48,49] ?_;refine dw [4,47,50,54] ?_;refine dl d 46 (At.ext (hE.trans hS.ext) q) 4 ?_;refine dl d 50 (At.ext (hE.trans hS.ext) y) 4 ?_;obtain⟨t0,Y,hm⟩:=bS hm;refine o1 d 51 (mc d zk5 (zaH (hE.trans o.ext) h6 i0 Y) (fun v0 A0 O=>?_));obtain⟨rfl,H⟩:=O;refine⟨H.ext,?_⟩;have S:=o.join H;refine dr 0 d [52,53] ?_;refine dw [4] ?_;refine dd d ?_;refine rt ?_;cases hm;exact⟨_,.cons (.tmp rfl) .nil,rfl,S⟩
    ·refine dr 0 d [43,44,45,46,47,48,49,50,51,52,53] ?_;refine dw [4] ?_;refine dd d ?_;refine rt ?_;cases hm;exact⟨_,.cons (.tmp rfl) .nil,rfl,o⟩
   ·refine dr 0 d [32,33,34,35,36,37,38,39,40,41,42,43,44,45,46,47,48,49,50,51,52,53] ?_;refine dw [4] ?_;refine dd d ?_;refine rt ?_;cases hm;exact⟨_,.cons (.tmp rfl) .nil,rfl,h⟩
  ·refine dr 0 d [21,22,23,24,25,26,27,28,29,30,31,32,33,34,35,36,37,38,39,40,41,42,43,44,45,46,47,48,49,50,51,52,53] ?_;refine dw [4] ?_;refine dd d ?_;refine rt ?_;cases hm;exact⟨_,.cons (.tmp rfl) .nil,rfl,h⟩
 ·refine dr 0 d [10,11,12,13,14,15,16,17,18,19,20,21,22,23,24,25,26,27,28,29,30,31,32,33,34,35,36,37,38,39,40,41,42,43,44,45,46,47,48,49,50,51,52,53] ?_;refine dw [4] ?_;refine dd d ?_;refine rt ?_;cases hm;exact⟨_,.cons (.tmp rfl) .nil,rfl,h⟩

theorem zkX:Enters Tryz.prog 172:=⟨_,_,Tryz.func172,rfl,by kernel_rfl⟩
def z6D (fuel:Nat) (x0:D.Parcel) (x1:Int):Option (Bool):=((z50 fuel (⟨x0.Cell.Kind,x0.Cell.Level,x0.Cell.Value,x0.Cell.Data,x0.Cell.Aux⟩:D.ShardCell) (⟨0,0,0,[],[]⟩:D.ShardCell)).bind fun d=>(if(x0.Kind == 1)=true then(if d=true then some (x0.A.Machine == x1) else some false) else(if(x0.Kind == 2)=true then(if d=true then(if(x0.A.Machine == x1)=true then some (x0.A.Kind == 2) else some false) else some false) else(if(x0.Kind == 3)=true then(if(x0.Cell.Kind != 0)=true then((z4R fuel (⟨x0.Cell.Kind,x0.Cell.Level,x0.Cell.Value,x0.Cell.Data,x0.Cell.Aux⟩:D.ShardCell)).bind fun h=>(if h=true then(if(((x0.A.Machine:Int) == 0) && (((x0.A.Kind:Int) == 0) && (((x0.A.Index:Int) == 0) && true)))=true then some (x0.B.Machine == x1) else some false) else some false)) else some false) else(if(x0.Kind == 4)=true then(if d=true then(if(((x0.A.Machine:Int) == 0) && (((x0.A.Kind:Int) == 0) && (((x0.A.Index:Int) == 0) && true)))=true then some (((x0.B.Machine:Int) == 0) && (((x0.B.Kind:Int) == 0) && (((x0.B.Index:Int) == 0) && true))) else some false) else some false) else some false)))))

theorem zcW {W w:World}(hE:Ext W w){j0:Addr}{i0:List Value}{x0:D.Parcel}{x1:Int}(k0:z7L.ro W i0 x0) (q:At W j0 i0){fuel:Nat}{r:Bool}(hm:z6D fuel x0 x1=some r):
  Calls Tryz.prog 172 ⟨[.pointer (some j0),.int .i64 x1]⟩ w (Ret fun v w8=>v=.bool r∧St w w8 []):=by
 obtain⟨A1,k2,A4,k5,e7,h3,h6⟩:=zv k0;subst e7;refine into Tryz.func172 100 _ ?_;unfold z6D at hm;have hS:=St.start w;refine sq<|rg<|rr 1 ?_;refine rn<|sq<|rg<|qt (qb) ?_;refine nw hS (fun q0 A0 o0 Z=>?_);have a0:=Z.bring 0 rfl;refine so (A:=[]) a0 0 (fun B0 b0=>?_);refine rn<|sq<|rg<|qt (qb) ?_;refine nw b0 (fun r0 C0 p0 d0=>?_);have e0:=d0.bring 0 rfl;refine so (A:=[]) e0 0 (fun D0 y=>?_);refine rn<|sq<|rg<|rr 3 ?_;obtain⟨t0,f0,hm⟩:=bS hm;refine ca zko (zc6 (Ext.refl _) (z5R (⟨x0.Cell.Kind,x0.Cell.Level,x0.Cell.Value,x0.Cell.Data,x0.Cell.Aux⟩:D.ShardCell) (ty29.ext (hE.trans y.ext) h3) (z3b.ext (hE.trans y.ext) h6)) (At.sub (At.ext (hE.trans y.ext) q) 1 5) (z5R (⟨0,0,0,[],[]⟩:D.ShardCell) (slNil tInt 2 _) (slNil ty35 35 _)) ((y.bring 0 rfl).box) f0) (fun v0 E0 S=>?_);obtain⟨rfl,X⟩:=S;have d:=y.join X;refine rr 1 ?_;refine rn<|sq<|sq<|rg<|rr 3 ?_;refine l1 (At.ext (hE.trans d.ext) q) 0 ?_;refine rn<|bk<|sq<|rg<|rr 2 ?_;refine rn<|ci hm (fun hm=>?_) (fun hm=>?_)
 ·refine sq<|rg<|rr 2 ?_;refine rb 21 hm (fun hm=>?_) (fun hm=>?_)
  ·refine rr 4 ?_;refine l1 (At.ext (hE.trans d.ext) q) 6 ?_;refine rr 4 ?_;refine rn<|rt ?_;cases hm;exact⟨_,.cons (.tmp rfl) .nil,rfl,(d.taken 0)⟩
  ·refine rr 9 ?_;refine rn<|rt ?_;cases hm;exact⟨_,.cons (.tmp rfl) .nil,rfl,(d.taken 0)⟩
 ·refine sq<|rg<|rr 2 ?_;refine rn<|ci hm (fun hm=>?_) (fun hm=>?_)
  ·refine sq<|rg<|rr 2 ?_;refine rb 33 hm (fun hm=>?_) (fun hm=>?_)
   ·refine rr 4 ?_;refine l1 (At.ext (hE.trans d.ext) q) 6 ?_;refine rr 4 ?_;refine rb 42 hm (fun hm=>?_) (fun hm=>?_)
    ·refine rr 4 ?_;refine l1 (At.ext (hE.trans d.ext) q) 7 ?_;refine rr 3 ?_;refine rn<|rt ?_;cases hm;exact⟨_,.cons (.tmp rfl) .nil,rfl,(d.taken 0)⟩
    ·refine rr 8 ?_;refine rn<|rt ?_;cases hm;exact⟨_,.cons (.tmp rfl) .nil,rfl,(d.taken 0)⟩
   ·refine rr 17 ?_;refine rn<|rt ?_;cases hm;exact⟨_,.cons (.tmp rfl) .nil,rfl,(d.taken 0)⟩
  ·refine sq<|rg<|rr 2 ?_;refine rn<|ci hm (fun hm=>?_) (fun hm=>?_)
   ·refine sq<|dn 0 mixed 30 [([],1073741823),([0],1073741822),([1],1073741821),([2],1073741819),([3],1073741815),([4],1073741807),([5],1073741791),([6],1073741759),([7,6],1073741631),([8,6],1073741503),([9,6,6],1073741247),([6,10],1073740735),([11,10],1073739775),([12],1073737727),([13,12],1073729535),([14,12],1073721343),([15,12],1073704959),([12],1073737727),([16,17,12],1073541119),([12,18],1073475583),([19,12],1073217535),([20],1072693247),([21,20],1070596095),([22,20],1068498943),([23,20],1064304639),([24,20],1055916031),([20],1072693247),([25,26,20],972029951),([20,27],938475519),([28,20,0,1,2,3,4,5,6,7,8,9,10,11,12,13,14,15,16,17,18,19,20,21,22,23,24,25,26,27,28],805306367)] d.ext (fun h=>?_);have G:=d.step (Ext.draw _);refine dr 26 h [0,1,2,3] ?_;refine dw [0,1,4,5,55] ?_;refine dl h 4 (At.ext (hE.trans d.ext) q) 1 ?_;refine dr 23 h [5,6] ?_;refine db 58 hm (fun hm=>?_) (fun hm=>?_)
    ·refine dr 20 h [7,8,9] ?_;obtain⟨u0,g0,hm⟩:=bS hm;refine o1 h 10 (mc h zh2 (zaJ (hE.trans G.ext) (z5R (⟨x0.Cell.Kind,x0.Cell.Level,x0.Cell.Value,x0.Cell.Data,x0.Cell.Aux⟩:D.ShardCell) h3 h6) (At.sub q 1 5) g0) (fun y0 F0 Y=>?_));obtain⟨rfl,O⟩:=Y;refine⟨O.ext,?_⟩;have H:=G.join O;refine dr 17 h [11,12] ?_;refine dw [0,1,4,5,64] ?_;refine db 64 hm (fun hm=>?_) (fun hm=>?_)
     ·refine dr 14 h [13,14,15] ?_;refine dL h 16 (At.sub (At.ext (hE.trans d.ext) q) 6 3) ?_;refine dL h 17 ((d.bring 1 rfl).box) ?_;refine dr 9 h [18,19,20] ?_;refine dw [0,1,4,72] ?_;refine db 72 hm (fun hm=>?_) (fun hm=>?_)
      ·refine dr 4 h [21,22,23,24,26] ?_;refine dl h 25 (At.ext (hE.trans d.ext) q) 9 ?_;refine dr 0 h [27,28,29] ?_;refine dw [4] ?_;refine dd h ?_;refine rt ?_;cases hm;exact⟨_,.cons (.tmp rfl) .nil,rfl,(H.taken 0)⟩
      ·refine dr 0 h [21,22,23,24,25,26,27,28,29] ?_;refine dw [4] ?_;refine dd h ?_;refine rt ?_;cases hm;exact⟨_,.cons (.tmp rfl) .nil,rfl,(H.taken 0)⟩
     ·refine dr 0 h [13,14,15,16,17,18,19,20,21,22,23,24,25,26,27,28,29] ?_;refine dw [4] ?_;refine dd h ?_;refine rt ?_;cases hm;exact⟨_,.cons (.tmp rfl) .nil,rfl,(H.taken 0)⟩
    ·refine dr 0 h [7,8,9,10,11,12,13,14,15,16,17,18,19,20,21,22,23,24,25,26,27,28,29] ?_;refine dw [4] ?_;refine dd h ?_;refine rt ?_;cases hm;exact⟨_,.cons (.tmp rfl) .nil,rfl,(G.taken 0)⟩
   ·refine sq<|rg<|rr 2 ?_;refine rn<|ci hm (fun hm=>?_) (fun hm=>?_)
    ·refine sq<|dn 0 mixed 18 [([],262143),([0],262142),([1],262141),([2,1],262137),([3,1],262133),([4,1],262125),([1],262141),([5,6,1],262045),([1,7],262013),([8,1],261887),([9],261631),([10,9],260607),([11,9],259583),([12,9],257535),([9],261631),([13,14,9],237055),([9,15],228863),([16,9,0,1,2,3,4,5,6,7,8,9,10,11,12,13,14,15,16],196607)] d.ext (fun o=>?_);have M:=d.step (Ext.draw _);refine dr 16 o [0,1] ?_;refine dw [0,4,5,84] ?_;refine db 84 hm (fun hm=>?_) (fun hm=>?_)
     ·refine dr 13 o [2,3,4] ?_;refine dL o 5 (At.sub (At.ext (hE.trans d.ext) q) 6 3) ?_;refine dL o 6 ((d.bring 1 rfl).box) ?_;refine dr 8 o [7,8,9] ?_;refine dw [0,4,5,92] ?_;refine db 92 hm (fun hm=>?_) (fun hm=>?_)
      ·refine dr 5 o [10,11,12] ?_;refine dL o 13 (At.sub (At.ext (hE.trans d.ext) q) 9 3) ?_;refine dL o 14 ((d.bring 1 rfl).box) ?_;refine dr 0 o [15,16,17] ?_;refine dw [4] ?_;refine dd o ?_;refine rt ?_;cases hm;exact⟨_,.cons (.tmp rfl) .nil,rfl,(M.taken 0)⟩
      ·refine dr 0 o [10,11,12,13,14,15,16,17] ?_;refine dw [4] ?_;refine dd o ?_;refine rt ?_;cases hm;exact⟨_,.cons (.tmp rfl) .nil,rfl,(M.taken 0)⟩
     ·refine dr 0 o [2,3,4,5,6,7,8,9,10,11,12,13,14,15,16,17] ?_;refine dw [4] ?_;refine dd o ?_;refine rt ?_;cases hm;exact⟨_,.cons (.tmp rfl) .nil,rfl,(M.taken 0)⟩
    ·refine sp<|sq<|rg<|rr 1 ?_;refine rn<|rt ?_;cases hm;exact⟨_,.cons (.tmp rfl) .nil,rfl,(d.taken 0)⟩

end Go.E


