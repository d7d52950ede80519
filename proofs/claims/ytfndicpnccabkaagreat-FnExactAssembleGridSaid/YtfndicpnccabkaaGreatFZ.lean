/- Models of functions and proofs that the code runs as they say (written by program). Conditions: the model gives a value. -/
import Derived.Test.YtfndicpnccabkaaGreatFP
import Derived.Test.YtfndicpnccabkaaGreatFI
import Derived.Test.YtfndicpnccabkaaGreatFVb
import Derived.Test.YtfndicpnccabkaaGreatFH
import Derived.Test.YtfndicpnccabkaaGreatMapS
import Derived.Test.YtfndicpnccabkaaGreatQB
import Derived.Test.YtfndicpnccabkaaGreatFQ
import Derived.Test.YtfndicpnccabkaaGreatMixed
namespace Go.E
open Go.RowKit Go.Proofs
set_option linter.unusedVariables false
set_option linter.unusedSimpArgs false
set_option maxHeartbeats 2000000
set_option maxRecDepth 100000

theorem znK:Enters Tryz.prog 52:=⟨_,_,Tryz.func52,rfl,by kernel_rfl⟩
def z6p (fuel:Nat) (x0:(List Int)) (x1:Int):Option (Int):=(if(decide ((w64 (x1 - (x0.length:Int)))<0))=true then some (-1) else some (w64 (x1 - (x0.length:Int))))

theorem laws_szInt64S_ok {W:Base}{w:World}(hE:Ext W w){o:Option Addr}{q:Nat}{x0:(List Int)}{x1:Int}(G:ty45.ro W [sl o x0 q] x0){fuel:Nat}{r:Int}(hm:z6p fuel x0 x1=some r):
  Calls Tryz.prog 52 ⟨[sl o x0 q,.int .i64 x1]⟩ w (Ret fun v w8=>v=.int .i64 r∧St w w8 []):=by
 refine into Tryz.func52 12 _ ?_;unfold z6p at hm;have hS:=St.start w;refine sq<|rg<|rr 1 ?_;refine rn<|sq<|rg<|rr 5 ?_;refine rn<|sq<|sq<|rg<|rr 2 ?_;refine rn<|ci hm (fun hm=>?_) (fun hm=>?_)
 ·refine sq<|rg<|rr 1 ?_;refine rn<|rt ?_;cases hm;exact⟨_,.cons (.tmp rfl) .nil,rfl,hS⟩
 ·refine sp<|sq<|rg<|rr 2 ?_;refine rn<|rt ?_;cases hm;exact⟨_,.cons (.tmp rfl) .nil,rfl,hS⟩

theorem zkh:Enters Tryz.prog 230:=⟨_,_,Tryz.func230,rfl,by kernel_rfl⟩
def z5b (fuel:Nat) (x0:(List D.Address)) (x1:Int):Option (Int):=(if(decide ((w64 (x1 - (x0.length:Int)))<0))=true then some (-1) else some (w64 (x1 - (x0.length:Int))))

theorem laws_szAddressS_ok {W:Base}{w:World}(hE:Ext W w){o:Option Addr}{q:Nat}{x0:(List D.Address)}{x1:Int}(G:zfn.ro W [sl o x0 q] x0){fuel:Nat}{r:Int}(hm:z5b fuel x0 x1=some r):
  Calls Tryz.prog 230 ⟨[sl o x0 q,.int .i64 x1]⟩ w (Ret fun v w8=>v=.int .i64 r∧St w w8 []):=by
 refine into Tryz.func230 12 _ ?_;unfold z5b at hm;have hS:=St.start w;refine sq<|rg<|rr 1 ?_;refine rn<|sq<|rg<|rr 5 ?_;refine rn<|sq<|sq<|rg<|rr 2 ?_;refine rn<|ci hm (fun hm=>?_) (fun hm=>?_)
 ·refine sq<|rg<|rr 1 ?_;refine rn<|rt ?_;cases hm;exact⟨_,.cons (.tmp rfl) .nil,rfl,hS⟩
 ·refine sp<|sq<|rg<|rr 2 ?_;refine rn<|rt ?_;cases hm;exact⟨_,.cons (.tmp rfl) .nil,rfl,hS⟩

theorem zkK:Enters Tryz.prog 189:=⟨_,_,Tryz.func189,rfl,by kernel_rfl⟩
def z4t (fuel:Nat) (x0:D.ShardCell) (x1:Int):Option (Int):=((z6p fuel x0.Data x1).bind fun o=>(if(decide (o<0))=true then some (-1) else((z5b fuel x0.Aux o).bind fun q=>(if(decide (q<0))=true then some (-1) else some q))))

theorem laws_szShardCell_ok {W:Base}{w:World}(hE:Ext W w){b0:List Value}{x0:D.ShardCell}{x1:Int}(c0:zgK.ro W b0 x0){fuel:Nat}{r:Int}(hm:z4t fuel x0 x1=some r):
  Calls Tryz.prog 189 ⟨[.agg ⟨b0⟩,.int .i64 x1]⟩ w (Ret fun v w8=>v=.int .i64 r∧St w w8 []):=by
 obtain⟨A1,k2,A4,k5,e7,h3,h6⟩:=zao c0;subst e7;refine into Tryz.func189 18 _ ?_;unfold z4t at hm;have hS:=St.start w;refine sq<|rg<|nw hS (fun f0 o0 e0 q=>?_);refine rr 1 ?_;refine rn<|sq<|rg<|rr 1 ?_;refine l1 ((q.bring 0 rfl).box) 3 ?_;refine rr 1 ?_;obtain⟨g0,Z,hm⟩:=bS hm;refine ca znK (laws_szInt64S_ok (hE.trans q.ext) h3 Z) (fun j0 p0 H=>?_);obtain⟨rfl,O⟩:=H;have o:=q.join O;refine rr 1 ?_;refine rn<|sq<|sq<|rg<|rr 2 ?_;refine rn<|ci hm (fun hm=>?_) (fun hm=>?_)
 ·refine sq<|rg<|rr 1 ?_;refine rn<|rt ?_;cases hm;exact⟨_,.cons (.tmp rfl) .nil,rfl,(o.taken 0)⟩
 ·refine sp<|sq<|rg<|rr 1 ?_;refine l1 ((o.bring 0 rfl).box) 4 ?_;refine rr 1 ?_;obtain⟨i0,a0,hm⟩:=bS hm;refine ca zkh (laws_szAddressS_ok (hE.trans o.ext) h6 a0) (fun k0 q0 X=>?_);obtain⟨rfl,Y⟩:=X;have G:=o.join Y;refine rr 1 ?_;refine rn<|sq<|sq<|rg<|rr 2 ?_;refine rn<|ci hm (fun hm=>?_) (fun hm=>?_)
  ·refine sq<|rg<|rr 1 ?_;refine rn<|rt ?_;cases hm;exact⟨_,.cons (.tmp rfl) .nil,rfl,(G.taken 0)⟩
  ·refine sp<|sq<|rg<|rr 2 ?_;refine rn<|rt ?_;cases hm;exact⟨_,.cons (.tmp rfl) .nil,rfl,(G.taken 0)⟩

theorem zm8:Enters Tryz.prog 149:=⟨_,_,Tryz.func149,rfl,by kernel_rfl⟩
def z7S (fuel:Nat) (t2:Int):Option Int:=some t2
def z3T (fuel:Nat) (x0:(List D.ShardCell)) (s1:Int × Int):Option (Rd (Int × Int) (Int) (Int)):=(if(decide (s1.2<(x0.length:Int)))=true then((idx x0 s1.2).bind fun q=>((z4t fuel q s1.1).bind fun o=>(if(decide (o<0))=true then some (.ret (-1)) else some (.next (o,w64 (s1.2+1)))))) else some (.brk s1.1))
def z3L (fuel:Nat) (x0:(List D.ShardCell)) (x1:Int):Option (Int):=(if(decide ((w64 (x1 - (x0.length:Int)))<0))=true then some (-1) else((iter (z3T fuel x0) fuel (w64 (x1 - (x0.length:Int)),0)).bind fun o=>aft o (z7S fuel)))

theorem laws_szShardCellS_ok {W:Base}{w:World}(hE:Ext W w){Y:Option Addr}{i0:Nat}{x0:(List D.ShardCell)}{x1:Int}(p0:zfs.ro W [sl Y x0 i0] x0){fuel:Nat}{r:Int}(hm:z3L fuel x0 x1=some r):
  Calls Tryz.prog 149 ⟨[sl Y x0 i0,.int .i64 x1]⟩ w (Ret fun v w8=>v=.int .i64 r∧St w w8 []):=by
 refine into Tryz.func149 27 _ ?_;unfold z3L at hm;have hS:=St.start w;refine sq<|rg<|rr 1 ?_;refine rn<|sq<|rg<|rr 5 ?_;refine rn<|sq<|sq<|rg<|rr 2 ?_;refine rn<|ci hm (fun hm=>?_) (fun hm=>?_)
 ·refine sq<|rg<|rr 1 ?_;refine rn<|rt ?_;cases hm;exact⟨_,.cons (.tmp rfl) .nil,rfl,hS⟩
 ·refine sp<|sq<|sq<|rg<|rr 1 ?_;refine rn ?_;obtain⟨q0,c0,hm⟩:=bS hm;refine ct (fun(t2:Int) F w9=>q0=.inl t2∧Ext w w9∧St w w9 []∧F=[(1,.int .i64 t2)]) ?_ ?_
  ·rintro t2 F w7 ⟨e0,y0,a0,rfl⟩;subst e0;rw [z6] at hm;unfold z7S at hm;refine sq<|rg<|rr 2 ?_;refine rn<|rt ?_;cases hm;exact⟨_,.cons (.tmp rfl) .nil,rfl,a0⟩
  ·refine bk<|wk [0,1,5] ?_;refine it (fun(s1:Int × Int) F w9=>Ext w w9∧St w w9 []∧F=[(0,sl Y x0 i0),(1,.int .i64 s1.1),(5,.int .i64 s1.2)]) c0 ⟨(Ext.refl _),hS,rfl⟩ ?_;rintro s1 F G0 _ C0 ⟨j0,q,rfl⟩ o O;unfold z3T at o;refine sq<|sq<|rg<|rr 4 ?_;refine rn<|ci o (fun o=>?_) (fun o=>?_)
   ·refine sp<|sq<|bk<|sq<|rg<|rr 2 ?_;obtain⟨J0,f0,o⟩:=bS o;refine ix (hE.trans q.ext) p0 f0 (fun D0 o0 b0 X=>?_);obtain⟨r0,A0,t0,B0,k0,u0,v0⟩:=zao X;subst k0;refine lN (At.ext (hE.trans q.ext) b0) ?_;refine rr 1 ?_;obtain⟨E0,g0,o⟩:=bS o;refine ca zkK (laws_szShardCell_ok (hE.trans q.ext) X g0) (fun F0 H0 Z=>?_);obtain⟨rfl,G⟩:=Z;have H:=q.join G;refine rr 1 ?_;refine rn<|sq<|rg<|rr 2 ?_;refine rn<|ci o (fun o=>?_) (fun o=>?_)
    ·refine sq<|rg<|rr 1 ?_;refine rn<|rt ?_;cases o;cases O;have hm:some _=some _:=hm;cases hm;exact⟨_,.cons (.tmp rfl) .nil,rfl,H⟩
    ·refine sp<|rg<|rr 3 ?_;refine rn ?_;cases o;exact⟨_,_,rfl,⟨(j0.trans G.ext),H,rfl⟩,rfl⟩
   ·refine xt ?_;cases o;exact⟨_,_,⟨O,j0,q,rfl⟩,rfl⟩

theorem zm7:Enters Tryz.prog 150:=⟨_,_,Tryz.func150,rfl,by kernel_rfl⟩
def z4s (fuel:Nat) (x0:(List D.ShardVar)) (x1:Int):Option (Int):=(if(decide ((w64 (x1 - (x0.length:Int)))<0))=true then some (-1) else some (w64 (x1 - (x0.length:Int))))

theorem laws_szShardVarS_ok {W:Base}{w:World}(hE:Ext W w){o:Option Addr}{q:Nat}{x0:(List D.ShardVar)}{x1:Int}(G:zfr.ro W [sl o x0 q] x0){fuel:Nat}{r:Int}(hm:z4s fuel x0 x1=some r):
  Calls Tryz.prog 150 ⟨[sl o x0 q,.int .i64 x1]⟩ w (Ret fun v w8=>v=.int .i64 r∧St w w8 []):=by
 refine into Tryz.func150 12 _ ?_;unfold z4s at hm;have hS:=St.start w;refine sq<|rg<|rr 1 ?_;refine rn<|sq<|rg<|rr 5 ?_;refine rn<|sq<|sq<|rg<|rr 2 ?_;refine rn<|ci hm (fun hm=>?_) (fun hm=>?_)
 ·refine sq<|rg<|rr 1 ?_;refine rn<|rt ?_;cases hm;exact⟨_,.cons (.tmp rfl) .nil,rfl,hS⟩
 ·refine sp<|sq<|rg<|rr 2 ?_;refine rn<|rt ?_;cases hm;exact⟨_,.cons (.tmp rfl) .nil,rfl,hS⟩

theorem zm6:Enters Tryz.prog 151:=⟨_,_,Tryz.func151,rfl,by kernel_rfl⟩
def z31 (fuel:Nat) (x0:(List D.ShardRedex)) (x1:Int):Option (Int):=(if(decide ((w64 (x1 - (x0.length:Int)))<0))=true then some (-1) else some (w64 (x1 - (x0.length:Int))))

theorem laws_szShardRedexS_ok {W:Base}{w:World}(hE:Ext W w){o:Option Addr}{q:Nat}{x0:(List D.ShardRedex)}{x1:Int}(G:zfq.ro W [sl o x0 q] x0){fuel:Nat}{r:Int}(hm:z31 fuel x0 x1=some r):
  Calls Tryz.prog 151 ⟨[sl o x0 q,.int .i64 x1]⟩ w (Ret fun v w8=>v=.int .i64 r∧St w w8 []):=by
 refine into Tryz.func151 12 _ ?_;unfold z31 at hm;have hS:=St.start w;refine sq<|rg<|rr 1 ?_;refine rn<|sq<|rg<|rr 5 ?_;refine rn<|sq<|sq<|rg<|rr 2 ?_;refine rn<|ci hm (fun hm=>?_) (fun hm=>?_)
 ·refine sq<|rg<|rr 1 ?_;refine rn<|rt ?_;cases hm;exact⟨_,.cons (.tmp rfl) .nil,rfl,hS⟩
 ·refine sp<|sq<|rg<|rr 2 ?_;refine rn<|rt ?_;cases hm;exact⟨_,.cons (.tmp rfl) .nil,rfl,hS⟩

theorem znF:Enters Tryz.prog 84:=⟨_,_,Tryz.func84,rfl,by kernel_rfl⟩
def z6O (fuel:Nat) (x0:D.Shard) (x1:Int):Option (Int):=((z3L fuel x0.Cells x1).bind fun o=>(if(decide (o<0))=true then some (-1) else((z4s fuel x0.Vars o).bind fun q=>(if(decide (q<0))=true then some (-1) else((z31 fuel x0.Redexes q).bind fun G=>(if(decide (G<0))=true then some (-1) else some G))))))

theorem laws_szShard_ok {W:Base}{w:World}(hE:Ext W w){g0:List Value}{x0:D.Shard}{x1:Int}(j0:zgN.ro W g0 x0){fuel:Nat}{r:Int}(hm:z6O fuel x0 x1=some r):
  Calls Tryz.prog 84 ⟨[.agg ⟨g0⟩,.int .i64 x1]⟩ w (Ret fun v w8=>v=.int .i64 r∧St w w8 []):=by
 obtain⟨A1,k2,A4,k5,A7,q0,i0,h3,h6,k0⟩:=zas j0;subst i0;refine into Tryz.func84 24 _ ?_;unfold z6O at hm;have hS:=St.start w;refine sq<|rg<|nw hS (fun p0 B0 o0 G=>?_);refine rr 1 ?_;refine rn<|sq<|rg<|rr 1 ?_;refine l1 ((G.bring 0 rfl).box) 0 ?_;refine rr 1 ?_;obtain⟨r0,c0,hm⟩:=bS hm;refine ca zm8 (laws_szShardCellS_ok (hE.trans G.ext) h3 c0) (fun v0 C0 O=>?_);obtain⟨rfl,X⟩:=O;have o:=G.join X;refine rr 1 ?_;refine rn<|sq<|sq<|rg<|rr 2 ?_;refine rn<|ci hm (fun hm=>?_) (fun hm=>?_)
 ·refine sq<|rg<|rr 1 ?_;refine rn<|rt ?_;cases hm;exact⟨_,.cons (.tmp rfl) .nil,rfl,(o.taken 0)⟩
 ·refine sp<|sq<|rg<|rr 1 ?_;refine l1 ((o.bring 0 rfl).box) 1 ?_;refine rr 1 ?_;obtain⟨t0,e0,hm⟩:=bS hm;refine ca zm7 (laws_szShardVarS_ok (hE.trans o.ext) h6 e0) (fun y0 D0 Y=>?_);obtain⟨rfl,Z⟩:=Y;have q:=o.join Z;refine rr 1 ?_;refine rn<|sq<|sq<|rg<|rr 2 ?_;refine rn<|ci hm (fun hm=>?_) (fun hm=>?_)
  ·refine sq<|rg<|rr 1 ?_;refine rn<|rt ?_;cases hm;exact⟨_,.cons (.tmp rfl) .nil,rfl,(q.taken 0)⟩
  ·refine sp<|sq<|rg<|rr 1 ?_;refine l1 ((q.bring 0 rfl).box) 2 ?_;refine rr 1 ?_;obtain⟨u0,f0,hm⟩:=bS hm;refine ca zm6 (laws_szShardRedexS_ok (hE.trans q.ext) k0 f0) (fun A0 E0 a0=>?_);obtain⟨rfl,b0⟩:=a0;have H:=q.join b0;refine rr 1 ?_;refine rn<|sq<|sq<|rg<|rr 2 ?_;refine rn<|ci hm (fun hm=>?_) (fun hm=>?_)
   ·refine sq<|rg<|rr 1 ?_;refine rn<|rt ?_;cases hm;exact⟨_,.cons (.tmp rfl) .nil,rfl,(H.taken 0)⟩
   ·refine sp<|sq<|rg<|rr 2 ?_;refine rn<|rt ?_;cases hm;exact⟨_,.cons (.tmp rfl) .nil,rfl,(H.taken 0)⟩

theorem znW:Enters Tryz.prog 33:=⟨_,_,Tryz.func33,rfl,by kernel_rfl⟩
def z95 (fuel:Nat) (t2:Int):Option Int:=some t2
def z61 (fuel:Nat) (x0:(List D.Shard)) (s1:Int × Int):Option (Rd (Int × Int) (Int) (Int)):=(if(decide (s1.2<(x0.length:Int)))=true then((idx x0 s1.2).bind fun q=>((z6O fuel q s1.1).bind fun o=>(if(decide (o<0))=true then some (.ret (-1)) else some (.next (o,w64 (s1.2+1)))))) else some (.brk s1.1))
def z6o (fuel:Nat) (x0:(List D.Shard)) (x1:Int):Option (Int):=(if(decide ((w64 (x1 - (x0.length:Int)))<0))=true then some (-1) else((iter (z61 fuel x0) fuel (w64 (x1 - (x0.length:Int)),0)).bind fun o=>aft o (z95 fuel)))

theorem laws_szShardS_ok {W:Base}{w:World}(hE:Ext W w){Y:Option Addr}{i0:Nat}{x0:(List D.Shard)}{x1:Int}(p0:ty22.ro W [sl Y x0 i0] x0){fuel:Nat}{r:Int}(hm:z6o fuel x0 x1=some r):
  Calls Tryz.prog 33 ⟨[sl Y x0 i0,.int .i64 x1]⟩ w (Ret fun v w8=>v=.int .i64 r∧St w w8 []):=by
 refine into Tryz.func33 27 _ ?_;unfold z6o at hm;have hS:=St.start w;refine sq<|rg<|rr 1 ?_;refine rn<|sq<|rg<|rr 5 ?_;refine rn<|sq<|sq<|rg<|rr 2 ?_;refine rn<|ci hm (fun hm=>?_) (fun hm=>?_)
 ·refine sq<|rg<|rr 1 ?_;refine rn<|rt ?_;cases hm;exact⟨_,.cons (.tmp rfl) .nil,rfl,hS⟩
 ·refine sp<|sq<|sq<|rg<|rr 1 ?_;refine rn ?_;obtain⟨q0,c0,hm⟩:=bS hm;refine ct (fun(t2:Int) F w9=>q0=.inl t2∧Ext w w9∧St w w9 []∧F=[(1,.int .i64 t2)]) ?_ ?_
  ·rintro t2 F w7 ⟨e0,B0,a0,rfl⟩;subst e0;rw [z6] at hm;unfold z95 at hm;refine sq<|rg<|rr 2 ?_;refine rn<|rt ?_;cases hm;exact⟨_,.cons (.tmp rfl) .nil,rfl,a0⟩
  ·refine bk<|wk [0,1,5] ?_;refine it (fun(s1:Int × Int) F w9=>Ext w w9∧St w w9 []∧F=[(0,sl Y x0 i0),(1,.int .i64 s1.1),(5,.int .i64 s1.2)]) c0 ⟨(Ext.refl _),hS,rfl⟩ ?_;rintro s1 F K0 _ F0 ⟨j0,q,rfl⟩ o O;unfold z61 at o;refine sq<|sq<|rg<|rr 4 ?_;refine rn<|ci o (fun o=>?_) (fun o=>?_)
   ·refine sp<|sq<|bk<|sq<|rg<|rr 2 ?_;obtain⟨M0,f0,o⟩:=bS o;refine ix (hE.trans q.ext) p0 f0 (fun G0 o0 b0 X=>?_);obtain⟨r0,C0,t0,D0,u0,E0,k0,v0,y0,A0⟩:=zas X;subst k0;refine lN (At.ext (hE.trans q.ext) b0) ?_;refine rr 1 ?_;obtain⟨H0,g0,o⟩:=bS o;refine ca znF (laws_szShard_ok (hE.trans q.ext) X g0) (fun J0 L0 Z=>?_);obtain⟨rfl,G⟩:=Z;have H:=q.join G;refine rr 1 ?_;refine rn<|sq<|rg<|rr 2 ?_;refine rn<|ci o (fun o=>?_) (fun o=>?_)
    ·refine sq<|rg<|rr 1 ?_;refine rn<|rt ?_;cases o;cases O;have hm:some _=some _:=hm;cases hm;exact⟨_,.cons (.tmp rfl) .nil,rfl,H⟩
    ·refine sp<|rg<|rr 3 ?_;refine rn ?_;cases o;exact⟨_,_,rfl,⟨(j0.trans G.ext),H,rfl⟩,rfl⟩
   ·refine xt ?_;cases o;exact⟨_,_,⟨O,j0,q,rfl⟩,rfl⟩

theorem zou:Enters Tryz.prog 7:=⟨_,_,Tryz.func7,rfl,by kernel_rfl⟩
def z7A (fuel:Nat) (x0:D.Grid) (x1:Int):Option (Int):=((z6o fuel x0.Shards x1).bind fun o=>(if(decide (o<0))=true then some (-1) else some o))

theorem laws_szGrid_ok {W:Base}{w:World}(hE:Ext W w){X:List Value}{x0:D.Grid}{x1:Int}(Y:ty26.ro W X x0){fuel:Nat}{r:Int}(hm:z7A fuel x0 x1=some r):
  Calls Tryz.prog 7 ⟨[.agg ⟨X⟩,.int .i64 x1]⟩ w (Ret fun v w8=>v=.int .i64 r∧St w w8 []):=by
 obtain⟨A1,k2,e4,h3⟩:=zcS Y;subst e4;refine into Tryz.func7 12 _ ?_;unfold z7A at hm;have hS:=St.start w;refine sq<|rg<|nw hS (fun g5 w6 e7 o=>?_);refine rr 1 ?_;refine rn<|sq<|rg<|rr 1 ?_;refine l1 ((o.bring 0 rfl).box) 0 ?_;refine rr 1 ?_;obtain⟨Z,O,hm⟩:=bS hm;refine ca znW (laws_szShardS_ok (hE.trans o.ext) h3 O) (fun a0 b0 G=>?_);obtain⟨rfl,H⟩:=G;have q:=o.join H;refine rr 1 ?_;refine rn<|sq<|sq<|rg<|rr 2 ?_;refine rn<|ci hm (fun hm=>?_) (fun hm=>?_)
 ·refine sq<|rg<|rr 1 ?_;refine rn<|rt ?_;cases hm;exact⟨_,.cons (.tmp rfl) .nil,rfl,(q.taken 0)⟩
 ·refine sp<|sq<|rg<|rr 2 ?_;refine rn<|rt ?_;cases hm;exact⟨_,.cons (.tmp rfl) .nil,rfl,(q.taken 0)⟩

theorem znX:Enters Tryz.prog 25:=⟨_,_,Tryz.func25,rfl,by kernel_rfl⟩
def z94 (fuel:Nat) (o:(List Int)):Option (List Int):=some o
def z60 (fuel:Nat) (x0:(List Int)) (o:Int × (List Int)):Option (Rd (Int × (List Int)) ((List Int)) ((List Int))):=(if(decide (o.1<(x0.length:Int)))=true then((idx x0 o.1).bind fun q=>(if decide (0≤o.1∧o.1.toNat<o.2.length)=true then some (.next (w64 (o.1+1),(o.2.set o.1.toNat q))) else none)) else some (.brk o.2))
def z6n (fuel:Nat) (x0:(List Int)):Option ((List Int)):=(if decide (0≤(x0.length:Int)∧(x0.length:Int)≤4294967296)=true then((iter (z60 fuel x0) fuel (0,(List.replicate (x0.length:Int).toNat (0:Int)))).bind fun o=>aft o (z94 fuel)) else none)

theorem laws_toInt64S_ok {W:Base}{w:World}(hE:Ext W w){X:Option Addr}{p0:Nat}{x0:(List Int)}(v0:ty45.ro W [sl X x0 p0] x0){fuel:Nat}{r:(List Int)}(hm:z6n fuel x0=some r):
  Calls Tryz.prog 25 ⟨[sl X x0 p0]⟩ w (Ret fun v w8=>∃ A0 k0,v=sl A0 r k0∧St w w8 [ow ty45 A0 r k0]):=by
 refine into Tryz.func25 22 _ ?_;unfold z6n at hm;have hS:=St.start w;refine sq<|rg<|rr 1 ?_;refine rn<|sq<|rg<|rr 2 ?_;obtain⟨B0,hm⟩:=iS hm;have hz7:=of_decide_eq_true B0;refine mS (U:=tInt) (0:Int) hS hz7 (fun _=>⟨rfl,rfl⟩) (fun A2 k3 w4 e5 y0=>?_);refine rr 1 ?_;refine rn<|sq<|sq<|rg<|rr 1 ?_;refine rn ?_;obtain⟨C0,f0,hm⟩:=bS hm;refine ct (fun(r0:(List Int)) F w9=>C0=.inl r0∧St w w9 [Own ty45 [sl A2 (List.replicate (x0.length:Int).toNat (0:Int)) k3] r0]∧F=[(3,sl A2 (List.replicate (x0.length:Int).toNat (0:Int)) k3)]) ?_ ?_
 ·rintro r0 F F0 ⟨g0,H,rfl⟩;subst g0;rw [z6] at hm;unfold z94 at hm;refine sq<|rg<|rr 2 ?_;refine rn<|rt ?_;cases hm;have hn18:=(H.bring 0 rfl).lenEq;have Y:=(H.bring 0 rfl).reLen hn18;exact⟨_,.cons (.tmp rfl) .nil,A2,k3,(by first | (simp only [sl,hn18];done) | (simp only [sl,hn18];rfl)),Y⟩
 ·refine bk<|wk [0,3,4] ?_;refine it (fun(q0:Int × (List Int)) F w9=>St w w9 [Own ty45 [sl A2 (List.replicate (x0.length:Int).toNat (0:Int)) k3] q0.2]∧F=[(0,sl X x0 p0),(3,sl A2 (List.replicate (x0.length:Int).toNat (0:Int)) k3),(4,.int .i64 q0.1)]) f0 ⟨y0,rfl⟩ ?_;rintro q0 F G0 _ D0 ⟨q,rfl⟩ o i0;unfold z60 at o;refine sq<|sq<|rg<|rr 4 ?_;refine rn<|ci o (fun o=>?_) (fun o=>?_)
  ·refine sp<|sq<|bk<|rg<|rr 4 ?_;obtain⟨t0,o0,o⟩:=bS o;refine ix (hE.trans q.ext) v0 o0 (fun E0 u0 c0 j0=>?_);cases j0;refine l1 (At.ext (hE.trans q.ext) c0) 0 ?_;have O:=q.bring 0 rfl;obtain⟨e0,o⟩:=iS o;have G:=of_decide_eq_true e0;refine io O G.1 G.2 (fun q34 hq35=>?_);have Z:=O.flat (T:=tInt) (cs:=[.int .i64 t0]) (x:=t0) ⟨rfl,rfl⟩;have a0:=Z.bring 1 rfl;refine se a0 G.2 hq35 (fun H0 b0=>?_);refine rn<|rg<|rr 3 ?_;refine rn ?_;cases o;exact⟨_,_,rfl,⟨b0,rfl⟩,rfl⟩
  ·refine xt ?_;cases o;exact⟨_,_,⟨i0,q,rfl⟩,rfl⟩

theorem zbv:Enters Tryz.prog 39:=⟨_,_,Tryz.func39,rfl,by kernel_rfl⟩
def z1K (fuel:Nat) (x0:D.Address):Option (D.Address):=some (⟨x0.Machine,x0.Kind,x0.Index⟩:D.Address)

theorem laws_toAddress_ok {W:Base}{w:World}(hE:Ext W w){c0:List Value}{x0:D.Address}(e0:ty24.ro W c0 x0){fuel:Nat}{r:D.Address}(hm:z1K fuel x0=some r):
  Calls Tryz.prog 39 ⟨[.agg ⟨c0⟩]⟩ w (Ret fun v w8=>v=.agg ⟨[.int .i64 r.Machine,.int .i64 r.Kind,.int .i64 r.Index]⟩∧St w w8 []):=by
 have e1:=z9q e0;subst e1;refine into Tryz.func39 14 _ ?_;unfold z1K at hm;have hS:=St.start w;refine sq<|rg<|nw hS (fun g2 w3 e4 f0=>?_);refine nw f0 (fun g6 w7 g0 X=>?_);refine rn<|sq<|rg<|nw X (fun j0 k0 i0 o=>?_);refine rn<|sq<|rg<|rr 1 ?_;refine l1 ((o.bring 2 rfl).box) 0 ?_;refine rr 1 ?_;have Y:=o.bring 0 rfl;refine so (A:=[]) Y 0 (fun o0 q=>?_);refine rn<|sq<|rg<|rr 1 ?_;refine l1 ((q.bring 2 rfl).box) 1 ?_;refine rr 1 ?_;have Z:=q.bring 0 rfl;refine so (A:=[]) Z 1 (fun p0 G=>?_);refine rn<|sq<|rg<|rr 1 ?_;refine l1 ((G.bring 2 rfl).box) 2 ?_;refine rr 1 ?_;have a0:=G.bring 0 rfl;refine so (A:=[]) a0 2 (fun q0 H=>?_);refine rn<|sq<|rg<|lN ((H.bring 0 rfl).box) ?_;have b0:=H.bring 1 rfl;refine so (A:=[]) b0 0 (fun r0 O=>?_);refine rn<|rt ?_;cases hm;exact⟨_,.cons (ra ((O.bring 0 rfl).box)) .nil,rfl,(O.taken 0)⟩

theorem zkf:Enters Tryz.prog 232:=⟨_,_,Tryz.func232,rfl,by kernel_rfl⟩
def z8p (fuel:Nat) (o:(List D.Address)):Option (List D.Address):=some o
def z4H (fuel:Nat) (x0:(List D.Address)) (o:Int × (List D.Address)):Option (Rd (Int × (List D.Address)) ((List D.Address)) ((List D.Address))):=(if(decide (o.1<(x0.length:Int)))=true then((idx x0 o.1).bind fun G=>((z1K fuel G).bind fun q=>(if decide (0≤o.1∧o.1.toNat<o.2.length)=true then some (.next (w64 (o.1+1),(o.2.set o.1.toNat q))) else none))) else some (.brk o.2))
def z5a (fuel:Nat) (x0:(List D.Address)):Option ((List D.Address)):=(if decide (0≤(x0.length:Int)∧(x0.length:Int)≤4294967296)=true then((iter (z4H fuel x0) fuel (0,(List.replicate (x0.length:Int).toNat (⟨(0:Int),(0:Int),(0:Int)⟩:D.Address)))).bind fun o=>aft o (z8p fuel)) else none)

theorem laws_toAddressS_ok {W:Base}{w:World}(hE:Ext W w){Y:Option Addr}{u0:Nat}{x0:(List D.Address)}(D0:zfn.ro W [sl Y x0 u0] x0){fuel:Nat}{r:(List D.Address)}(hm:z5a fuel x0=some r):
  Calls Tryz.prog 232 ⟨[sl Y x0 u0]⟩ w (Ret fun v w8=>∃ A0 k0,v=sl A0 r k0∧St w w8 [ow ty82 A0 r k0]):=by
 refine into Tryz.func232 23 _ ?_;unfold z5a at hm;have hS:=St.start w;refine sq<|rg<|rr 1 ?_;refine rn<|sq<|rg<|rr 2 ?_;obtain⟨F0,hm⟩:=iS hm;have hz7:=of_decide_eq_true F0;refine mS (U:=ty34) (⟨(0:Int),(0:Int),(0:Int)⟩:D.Address) hS hz7 (fun _=>(z86 (c:=(⟨(0:Int),(0:Int),(0:Int)⟩:D.Address)) rfl)) (fun A2 k3 w4 e5 E0=>?_);refine rr 1 ?_;refine rn<|sq<|sq<|rg<|rr 1 ?_;refine rn ?_;obtain⟨G0,o0,hm⟩:=bS hm;refine ct (fun(y0:(List D.Address)) F w9=>G0=.inl y0∧St w w9 [Own ty82 [sl A2 (List.replicate (x0.length:Int).toNat (⟨(0:Int),(0:Int),(0:Int)⟩:D.Address)) k3] y0]∧F=[(3,sl A2 (List.replicate (x0.length:Int).toNat (⟨(0:Int),(0:Int),(0:Int)⟩:D.Address)) k3)]) ?_ ?_
 ·rintro y0 F M0 ⟨p0,H,rfl⟩;subst p0;rw [z6] at hm;unfold z8p at hm;refine sq<|rg<|rr 2 ?_;refine rn<|rt ?_;cases hm;have hn18:=(H.bring 0 rfl).lenEq;have b0:=(H.bring 0 rfl).reLen hn18;exact⟨_,.cons (.tmp rfl) .nil,A2,k3,(by first | (simp only [sl,hn18];done) | (simp only [sl,hn18];rfl)),b0⟩
 ·refine bk<|wk [0,3,4] ?_;refine it (fun(v0:Int × (List D.Address)) F w9=>St w w9 [Own ty82 [sl A2 (List.replicate (x0.length:Int).toNat (⟨(0:Int),(0:Int),(0:Int)⟩:D.Address)) k3] v0.2]∧F=[(0,sl Y x0 u0),(3,sl A2 (List.replicate (x0.length:Int).toNat (⟨(0:Int),(0:Int),(0:Int)⟩:D.Address)) k3),(4,.int .i64 v0.1)]) o0 ⟨E0,rfl⟩ ?_;rintro v0 F N0 _ J0 ⟨q,rfl⟩ o q0;unfold z4H at o;refine sq<|sq<|rg<|rr 4 ?_;refine rn<|ci o (fun o=>?_) (fun o=>?_)
  ·refine sp<|sq<|bk<|rg<|rr 4 ?_;obtain⟨Q0,r0,o⟩:=bS o;refine ix (hE.trans q.ext) D0 r0 (fun K0 C0 i0 X=>?_);have B0:=z9q X;subst B0;refine lN (At.ext (hE.trans q.ext) i0) ?_;obtain⟨H0,t0,o⟩:=bS o;refine ca zbv (laws_toAddress_ok (hE.trans q.ext) X t0) (fun L0 O0 Z=>?_);obtain⟨rfl,a0⟩:=Z;have c0:=q.join a0;have O:=c0.bring 0 rfl;obtain⟨j0,o⟩:=iS o;have G:=of_decide_eq_true j0;refine io O G.1 G.2 (fun q42 hq43=>?_);have e0:=ze3 (c:=H0) (B:=_) O;have f0:=e0.bring 1 rfl;refine se f0 G.2 hq43 (fun P0 g0=>?_);refine rn<|rg<|rr 3 ?_;refine rn ?_;cases o;exact⟨_,_,rfl,⟨g0,rfl⟩,rfl⟩
  ·refine xt ?_;cases o;exact⟨_,_,⟨q0,q,rfl⟩,rfl⟩

theorem zkH:Enters Tryz.prog 195:=⟨_,_,Tryz.func195,rfl,by kernel_rfl⟩
def z4q (fuel:Nat) (x0:D.ShardCell):Option (D.ShardCell):=((z6n fuel x0.Data).bind fun o=>((z5a fuel x0.Aux).bind fun q=>some (⟨x0.Kind,x0.Level,x0.Value,o,q⟩:D.ShardCell)))

theorem laws_toShardCell_ok {W:Base}{w:World}(hE:Ext W w){y0:List Value}{x0:D.ShardCell}(D0:zgK.ro W y0 x0){fuel:Nat}{r:D.ShardCell}(hm:z4q fuel x0=some r):
  Calls Tryz.prog 195 ⟨[.agg ⟨y0⟩]⟩ w (Ret fun v w8=>∃ A0 k0 A1 k1,v=.agg ⟨[.int .i64 r.Kind,.int .i64 r.Level,.int .i64 r.Value,sl A0 r.Data k0,sl A1 r.Aux k1]⟩∧St w w8 [ow ty45 A0 r.Data k0,ow ty82 A1 r.Aux k1]):=by
 obtain⟨A1,k2,A4,k5,e7,h3,h6⟩:=zao D0;subst e7;refine into Tryz.func195 22 _ ?_;unfold z4q at hm;have hS:=St.start w;refine sq<|rg<|nw hS (fun K0 R0 G0 e0=>?_);refine nw e0 (fun L0 S0 H0 f0=>?_);refine rn<|sq<|rg<|nw f0 (fun M0 T0 J0 G=>?_);refine rn<|sq<|rg<|rr 1 ?_;refine l1 ((G.bring 2 rfl).box) 0 ?_;refine rr 1 ?_;have g0:=G.bring 0 rfl;refine so (A:=[]) g0 0 (fun U0 H=>?_);refine rn<|sq<|rg<|rr 1 ?_;refine l1 ((H.bring 2 rfl).box) 1 ?_;refine rr 1 ?_;have i0:=H.bring 0 rfl;refine so (A:=[]) i0 1 (fun V0 O=>?_);refine rn<|sq<|rg<|rr 1 ?_;refine l1 ((O.bring 2 rfl).box) 2 ?_;refine rr 1 ?_;have j0:=O.bring 0 rfl;refine so (A:=[]) j0 2 (fun X0 o=>?_);refine rn<|sq<|rg<|rr 1 ?_;refine l1 ((o.bring 2 rfl).box) 3 ?_;obtain⟨N0,u0,hm⟩:=bS hm;refine ca znX (laws_toInt64S_ok (hE.trans o.ext) h3 u0) (fun P0 Y0 Z=>?_);obtain⟨B0,E0,rfl,a0⟩:=Z;have o0:=o.join a0;refine rr 1 ?_;have p0:=o0.bring 1 rfl;refine so (A:=[]) p0 3 (fun a1 q=>?_);refine rn<|sq<|rg<|rr 1 ?_;refine l1 ((q.bring 3 rfl).box) 4 ?_;obtain⟨O0,v0,hm⟩:=bS hm;refine ca zkf (laws_toAddressS_ok (hE.trans q.ext) h6 v0) (fun Q0 b1 b0=>?_);obtain⟨C0,F0,rfl,c0⟩:=b0;have q0:=q.join c0;refine rr 1 ?_;have r0:=q0.bring 1 rfl;refine so (A:=[]) r0 4 (fun d1 X=>?_);refine rn<|sq<|rg<|lN ((X.bring 0 rfl).box) ?_;have t0:=X.bring 3 rfl;refine so (A:=[]) t0 0 (fun e1 Y=>?_);refine rn<|rt ?_;cases hm;exact⟨_,.cons (ra ((Y.bring 0 rfl).box)) .nil,B0,E0,C0,F0,rfl,(((Y.bring 2 rfl).bring 3 rfl).taken 2)⟩

theorem zm2:Enters Tryz.prog 156:=⟨_,_,Tryz.func156,rfl,by kernel_rfl⟩
def z7R (fuel:Nat) (o:(List D.ShardCell)):Option (List D.ShardCell):=some o
def z3S (fuel:Nat) (x0:(List D.ShardCell)) (o:Int × (List D.ShardCell)):Option (Rd (Int × (List D.ShardCell)) ((List D.ShardCell)) ((List D.ShardCell))):=(if(decide (o.1<(x0.length:Int)))=true then((idx x0 o.1).bind fun G=>((z4q fuel G).bind fun q=>(if decide (0≤o.1∧o.1.toNat<o.2.length)=true then some (.next (w64 (o.1+1),(o.2.set o.1.toNat q))) else none))) else some (.brk o.2))
def z3K (fuel:Nat) (x0:(List D.ShardCell)):Option ((List D.ShardCell)):=(if decide (0≤(x0.length:Int)∧(x0.length:Int)≤4294967296)=true then((iter (z3S fuel x0) fuel (0,(List.replicate (x0.length:Int).toNat (⟨(0:Int),(0:Int),(0:Int),([]:(List Int)),([]:(List D.Address))⟩:D.ShardCell)))).bind fun o=>aft o (z7R fuel)) else none)

theorem laws_toShardCellS_ok {W:Base}{w:World}(hE:Ext W w){Y:Option Addr}{y0:Nat}{x0:(List D.ShardCell)}(F0:zfs.ro W [sl Y x0 y0] x0){fuel:Nat}{r:(List D.ShardCell)}(hm:z3K fuel x0=some r):
  Calls Tryz.prog 156 ⟨[sl Y x0 y0]⟩ w (Ret fun v w8=>∃ A0 k0,v=sl A0 r k0∧St w w8 [ow ty81 A0 r k0]):=by
 refine into Tryz.func156 23 _ ?_;unfold z3K at hm;have hS:=St.start w;refine sq<|rg<|rr 1 ?_;refine rn<|sq<|rg<|rr 2 ?_;obtain⟨H0,hm⟩:=iS hm;have hz7:=of_decide_eq_true H0;refine mS (U:=z6K) (⟨(0:Int),(0:Int),(0:Int),([]:(List Int)),([]:(List D.Address))⟩:D.ShardCell) hS hz7 (fun _=>(zeb (c:=(⟨(0:Int),(0:Int),(0:Int),([]:(List Int)),([]:(List D.Address))⟩:D.ShardCell)) ⟨[],[],rfl,(slNilOwn tInt 2 _),⟨[],[],rfl,(slNilOwn ty34 34 _),rfl⟩⟩)) (fun A2 k3 w4 e5 G0=>?_);refine rr 1 ?_;refine rn<|sq<|sq<|rg<|rr 1 ?_;refine rn ?_;obtain⟨J0,q0,hm⟩:=bS hm;refine ct (fun(C0:(List D.ShardCell)) F w9=>J0=.inl C0∧St w w9 [Own ty81 [.slice A2 (List.replicate (x0.length:Int).toNat (⟨(0:Int),(0:Int),(0:Int),([]:(List Int)),([]:(List D.Address))⟩:D.ShardCell)).length k3] C0]∧F=[(3,.slice A2 (List.replicate (x0.length:Int).toNat (⟨(0:Int),(0:Int),(0:Int),([]:(List Int)),([]:(List D.Address))⟩:D.ShardCell)).length k3)]) ?_ ?_
 ·rintro C0 F a1 ⟨r0,H,rfl⟩;subst r0;rw [z6] at hm;unfold z7R at hm;refine sq<|rg<|rr 2 ?_;refine rn<|rt ?_;cases hm;have hn18:=(H.bring 0 rfl).lenEq;have b0:=(H.bring 0 rfl).reLen hn18;exact⟨_,.cons (.tmp rfl) .nil,A2,k3,(by first | (simp only [sl,hn18];done) | (simp only [sl,hn18];rfl)),b0⟩
 ·refine bk<|wk [0,3,4] ?_;refine it (fun(B0:Int × (List D.ShardCell)) F w9=>St w w9 [Own ty81 [.slice A2 (List.replicate (x0.length:Int).toNat (⟨(0:Int),(0:Int),(0:Int),([]:(List Int)),([]:(List D.Address))⟩:D.ShardCell)).length k3] B0.2]∧F=[(0,sl Y x0 y0),(3,.slice A2 (List.replicate (x0.length:Int).toNat (⟨(0:Int),(0:Int),(0:Int),([]:(List Int)),([]:(List D.Address))⟩:D.ShardCell)).length k3),(4,.int .i64 B0.1)]) q0 ⟨G0,rfl⟩ ?_;rintro B0 F b1 _ V0 ⟨q,rfl⟩ o t0;unfold z3S at o;refine sq<|sq<|rg<|rr 4 ?_;refine rn<|ci o (fun o=>?_) (fun o=>?_)
  ·refine sp<|sq<|bk<|rg<|rr 4 ?_;obtain⟨f1,u0,o⟩:=bS o;refine ix (hE.trans q.ext) F0 u0 (fun X0 E0 o0 X=>?_);obtain⟨L0,R0,M0,S0,D0,P0,Q0⟩:=zao X;subst D0;refine lN (At.ext (hE.trans q.ext) o0) ?_;obtain⟨K0,v0,o⟩:=bS o;refine ca zkH (laws_toShardCell_ok (hE.trans q.ext) X v0) (fun Y0 d1 Z=>?_);obtain⟨N0,T0,O0,U0,rfl,a0⟩:=Z;have c0:=q.join a0;have O:=c0.bring 2 rfl;obtain⟨p0,o⟩:=iS o;have G:=of_decide_eq_true p0;refine io O G.1 G.2 (fun q52 hq53=>?_);have e0:=O.bring 2 rfl;have f0:=e0.bring 2 rfl;have g0:=zcV (c:=K0) (B:=_) f0;have i0:=g0.bring 1 rfl;refine se i0 G.2 hq53 (fun e1 j0=>?_);refine rn<|rg<|rr 3 ?_;refine rn ?_;cases o;exact⟨_,_,rfl,⟨j0,rfl⟩,rfl⟩
  ·refine xt ?_;cases o;exact⟨_,_,⟨t0,q,rfl⟩,rfl⟩

theorem zkG:Enters Tryz.prog 196:=⟨_,_,Tryz.func196,rfl,by kernel_rfl⟩
def z59 (fuel:Nat) (x0:D.ShardVar):Option (D.ShardVar):=((z1K fuel x0.Held).bind fun o=>some (⟨x0.Used,x0.Full,(⟨o.Machine,o.Kind,o.Index⟩:D.Address)⟩:D.ShardVar))

theorem laws_toShardVar_ok {W:Base}{w:World}(hE:Ext W w){i0:List Value}{x0:D.ShardVar}(j0:zib.ro W i0 x0){fuel:Nat}{r:D.ShardVar}(hm:z59 fuel x0=some r):
  Calls Tryz.prog 196 ⟨[.agg ⟨i0⟩]⟩ w (Ret fun v w8=>v=.agg ⟨[.bool r.Used,.bool r.Full,.int .i64 r.Held.Machine,.int .i64 r.Held.Kind,.int .i64 r.Held.Index]⟩∧St w w8 []):=by
 have e1:=ze6 j0;subst e1;refine into Tryz.func196 15 _ ?_;unfold z59 at hm;have hS:=St.start w;refine sq<|rg<|nw hS (fun g2 w3 e4 k0=>?_);refine nw k0 (fun g6 w7 o0 Z=>?_);refine rn<|sq<|rg<|nw Z (fun q0 u0 p0 q=>?_);refine rn<|sq<|rg<|rr 1 ?_;refine l1 ((q.bring 2 rfl).box) 0 ?_;refine rr 1 ?_;have a0:=q.bring 0 rfl;refine so (A:=[]) a0 0 (fun v0 G=>?_);refine rn<|sq<|rg<|rr 1 ?_;refine l1 ((G.bring 2 rfl).box) 1 ?_;refine rr 1 ?_;have b0:=G.bring 0 rfl;refine so (A:=[]) b0 1 (fun y0 o=>?_);refine rn<|sq<|rg<|rr 1 ?_;refine lN (At.sub ((o.bring 2 rfl).box) 2 3) ?_;obtain⟨r0,g0,hm⟩:=bS hm;refine ca zbv (laws_toAddress_ok (hE.trans o.ext) (zb3 x0.Held) g0) (fun t0 A0 X=>?_);obtain⟨rfl,Y⟩:=X;have c0:=o.join Y;refine rr 1 ?_;have e0:=c0.bring 0 rfl;refine so (A:=[]) e0 2 (fun B0 H=>?_);refine rn<|sq<|rg<|lN ((H.bring 0 rfl).box) ?_;have f0:=H.bring 1 rfl;refine so (A:=[]) f0 0 (fun C0 O=>?_);refine rn<|rt ?_;cases hm;exact⟨_,.cons (ra ((O.bring 0 rfl).box)) .nil,rfl,(O.taken 0)⟩

theorem zm1:Enters Tryz.prog 157:=⟨_,_,Tryz.func157,rfl,by kernel_rfl⟩
def z8e (fuel:Nat) (o:(List D.ShardVar)):Option (List D.ShardVar):=some o
def z4o (fuel:Nat) (x0:(List D.ShardVar)) (o:Int × (List D.ShardVar)):Option (Rd (Int × (List D.ShardVar)) ((List D.ShardVar)) ((List D.ShardVar))):=(if(decide (o.1<(x0.length:Int)))=true then((idx x0 o.1).bind fun G=>((z59 fuel G).bind fun q=>(if decide (0≤o.1∧o.1.toNat<o.2.length)=true then some (.next (w64 (o.1+1),(o.2.set o.1.toNat q))) else none))) else some (.brk o.2))
def z4p (fuel:Nat) (x0:(List D.ShardVar)):Option ((List D.ShardVar)):=(if decide (0≤(x0.length:Int)∧(x0.length:Int)≤4294967296)=true then((iter (z4o fuel x0) fuel (0,(List.replicate (x0.length:Int).toNat (⟨false,false,(⟨(0:Int),(0:Int),(0:Int)⟩:D.Address)⟩:D.ShardVar)))).bind fun o=>aft o (z8e fuel)) else none)

theorem laws_toShardVarS_ok {W:Base}{w:World}(hE:Ext W w){Y:Option Addr}{u0:Nat}{x0:(List D.ShardVar)}(D0:zfr.ro W [sl Y x0 u0] x0){fuel:Nat}{r:(List D.ShardVar)}(hm:z4p fuel x0=some r):
  Calls Tryz.prog 157 ⟨[sl Y x0 u0]⟩ w (Ret fun v w8=>∃ A0 k0,v=sl A0 r k0∧St w w8 [ow z8V A0 r k0]):=by
 refine into Tryz.func157 23 _ ?_;unfold z4p at hm;have hS:=St.start w;refine sq<|rg<|rr 1 ?_;refine rn<|sq<|rg<|rr 2 ?_;obtain⟨F0,hm⟩:=iS hm;have hz7:=of_decide_eq_true F0;refine mS (U:=z9R) (⟨false,false,(⟨(0:Int),(0:Int),(0:Int)⟩:D.Address)⟩:D.ShardVar) hS hz7 (fun _=>(ze7 (c:=(⟨false,false,(⟨(0:Int),(0:Int),(0:Int)⟩:D.Address)⟩:D.ShardVar)) rfl)) (fun A2 k3 w4 e5 E0=>?_);refine rr 1 ?_;refine rn<|sq<|sq<|rg<|rr 1 ?_;refine rn ?_;obtain⟨G0,o0,hm⟩:=bS hm;refine ct (fun(y0:(List D.ShardVar)) F w9=>G0=.inl y0∧St w w9 [Own z8V [.slice A2 (List.replicate (x0.length:Int).toNat (⟨false,false,(⟨(0:Int),(0:Int),(0:Int)⟩:D.Address)⟩:D.ShardVar)).length k3] y0]∧F=[(3,.slice A2 (List.replicate (x0.length:Int).toNat (⟨false,false,(⟨(0:Int),(0:Int),(0:Int)⟩:D.Address)⟩:D.ShardVar)).length k3)]) ?_ ?_
 ·rintro y0 F M0 ⟨p0,H,rfl⟩;subst p0;rw [z6] at hm;unfold z8e at hm;refine sq<|rg<|rr 2 ?_;refine rn<|rt ?_;cases hm;have hn18:=(H.bring 0 rfl).lenEq;have b0:=(H.bring 0 rfl).reLen hn18;exact⟨_,.cons (.tmp rfl) .nil,A2,k3,(by first | (simp only [sl,hn18];done) | (simp only [sl,hn18];rfl)),b0⟩
 ·refine bk<|wk [0,3,4] ?_;refine it (fun(v0:Int × (List D.ShardVar)) F w9=>St w w9 [Own z8V [.slice A2 (List.replicate (x0.length:Int).toNat (⟨false,false,(⟨(0:Int),(0:Int),(0:Int)⟩:D.Address)⟩:D.ShardVar)).length k3] v0.2]∧F=[(0,sl Y x0 u0),(3,.slice A2 (List.replicate (x0.length:Int).toNat (⟨false,false,(⟨(0:Int),(0:Int),(0:Int)⟩:D.Address)⟩:D.ShardVar)).length k3),(4,.int .i64 v0.1)]) o0 ⟨E0,rfl⟩ ?_;rintro v0 F N0 _ J0 ⟨q,rfl⟩ o q0;unfold z4o at o;refine sq<|sq<|rg<|rr 4 ?_;refine rn<|ci o (fun o=>?_) (fun o=>?_)
  ·refine sp<|sq<|bk<|rg<|rr 4 ?_;obtain⟨Q0,r0,o⟩:=bS o;refine ix (hE.trans q.ext) D0 r0 (fun K0 C0 i0 X=>?_);have B0:=ze6 X;subst B0;refine lN (At.ext (hE.trans q.ext) i0) ?_;obtain⟨H0,t0,o⟩:=bS o;refine ca zkG (laws_toShardVar_ok (hE.trans q.ext) X t0) (fun L0 O0 Z=>?_);obtain⟨rfl,a0⟩:=Z;have c0:=q.join a0;have O:=c0.bring 0 rfl;obtain⟨j0,o⟩:=iS o;have G:=of_decide_eq_true j0;refine io O G.1 G.2 (fun q42 hq43=>?_);have e0:=zcT (c:=H0) (B:=_) O;have f0:=e0.bring 1 rfl;refine se f0 G.2 hq43 (fun P0 g0=>?_);refine rn<|rg<|rr 3 ?_;refine rn ?_;cases o;exact⟨_,_,rfl,⟨g0,rfl⟩,rfl⟩
  ·refine xt ?_;cases o;exact⟨_,_,⟨q0,q,rfl⟩,rfl⟩

theorem zkF:Enters Tryz.prog 197:=⟨_,_,Tryz.func197,rfl,by kernel_rfl⟩
def z3J (fuel:Nat) (x0:D.ShardRedex):Option (D.ShardRedex):=((z1K fuel x0.A).bind fun o=>((z1K fuel x0.B).bind fun q=>some (⟨(⟨o.Machine,o.Kind,o.Index⟩:D.Address),(⟨q.Machine,q.Kind,q.Index⟩:D.Address)⟩:D.ShardRedex)))

theorem laws_toShardRedex_ok {W:Base}{w:World}(hE:Ext W w){k0:List Value}{x0:D.ShardRedex}(o0:zia.ro W k0 x0){fuel:Nat}{r:D.ShardRedex}(hm:z3J fuel x0=some r):
  Calls Tryz.prog 197 ⟨[.agg ⟨k0⟩]⟩ w (Ret fun v w8=>v=.agg ⟨[.int .i64 r.A.Machine,.int .i64 r.A.Kind,.int .i64 r.A.Index,.int .i64 r.B.Machine,.int .i64 r.B.Kind,.int .i64 r.B.Index]⟩∧St w w8 []):=by
 have e1:=ze5 o0;subst e1;refine into Tryz.func197 13 _ ?_;unfold z3J at hm;have hS:=St.start w;refine sq<|rg<|nw hS (fun g2 w3 e4 p0=>?_);refine nw p0 (fun g6 w7 q0 a0=>?_);refine rn<|sq<|rg<|nw a0 (fun t0 B0 r0 o=>?_);refine rn<|sq<|rg<|rr 1 ?_;refine lN (At.sub ((o.bring 2 rfl).box) 0 3) ?_;obtain⟨u0,i0,hm⟩:=bS hm;refine ca zbv (laws_toAddress_ok (hE.trans o.ext) (zb3 x0.A) i0) (fun y0 C0 O=>?_);obtain⟨rfl,X⟩:=O;have b0:=o.join X;refine rr 1 ?_;have c0:=b0.bring 0 rfl;refine so (A:=[]) c0 0 (fun D0 q=>?_);refine rn<|sq<|rg<|rr 1 ?_;refine lN (At.sub ((q.bring 2 rfl).box) 3 3) ?_;obtain⟨v0,j0,hm⟩:=bS hm;refine ca zbv (laws_toAddress_ok (hE.trans q.ext) (zb3 x0.B) j0) (fun A0 E0 Y=>?_);obtain⟨rfl,Z⟩:=Y;have e0:=q.join Z;refine rr 1 ?_;have f0:=e0.bring 0 rfl;refine so (A:=[]) f0 3 (fun F0 G=>?_);refine rn<|sq<|rg<|lN ((G.bring 0 rfl).box) ?_;have g0:=G.bring 1 rfl;refine so (A:=[]) g0 0 (fun G0 H=>?_);refine rn<|rt ?_;cases hm;exact⟨_,.cons (ra ((H.bring 0 rfl).box)) .nil,rfl,(H.taken 0)⟩

theorem zm0:Enters Tryz.prog 158:=⟨_,_,Tryz.func158,rfl,by kernel_rfl⟩
def z7z (fuel:Nat) (o:(List D.ShardRedex)):Option (List D.ShardRedex):=some o
def z3j (fuel:Nat) (x0:(List D.ShardRedex)) (o:Int × (List D.ShardRedex)):Option (Rd (Int × (List D.ShardRedex)) ((List D.ShardRedex)) ((List D.ShardRedex))):=(if(decide (o.1<(x0.length:Int)))=true then((idx x0 o.1).bind fun G=>((z3J fuel G).bind fun q=>(if decide (0≤o.1∧o.1.toNat<o.2.length)=true then some (.next (w64 (o.1+1),(o.2.set o.1.toNat q))) else none))) else some (.brk o.2))
def z30 (fuel:Nat) (x0:(List D.ShardRedex)):Option ((List D.ShardRedex)):=(if decide (0≤(x0.length:Int)∧(x0.length:Int)≤4294967296)=true then((iter (z3j fuel x0) fuel (0,(List.replicate (x0.length:Int).toNat (⟨(⟨(0:Int),(0:Int),(0:Int)⟩:D.Address),(⟨(0:Int),(0:Int),(0:Int)⟩:D.Address)⟩:D.ShardRedex)))).bind fun o=>aft o (z7z fuel)) else none)

theorem laws_toShardRedexS_ok {W:Base}{w:World}(hE:Ext W w){Y:Option Addr}{u0:Nat}{x0:(List D.ShardRedex)}(D0:zfq.ro W [sl Y x0 u0] x0){fuel:Nat}{r:(List D.ShardRedex)}(hm:z30 fuel x0=some r):
  Calls Tryz.prog 158 ⟨[sl Y x0 u0]⟩ w (Ret fun v w8=>∃ A0 k0,v=sl A0 r k0∧St w w8 [ow z9s A0 r k0]):=by
 refine into Tryz.func158 23 _ ?_;unfold z30 at hm;have hS:=St.start w;refine sq<|rg<|rr 1 ?_;refine rn<|sq<|rg<|rr 2 ?_;obtain⟨F0,hm⟩:=iS hm;have hz7:=of_decide_eq_true F0;refine mS (U:=zbC) (⟨(⟨(0:Int),(0:Int),(0:Int)⟩:D.Address),(⟨(0:Int),(0:Int),(0:Int)⟩:D.Address)⟩:D.ShardRedex) hS hz7 (fun _=>(ze8 (c:=(⟨(⟨(0:Int),(0:Int),(0:Int)⟩:D.Address),(⟨(0:Int),(0:Int),(0:Int)⟩:D.Address)⟩:D.ShardRedex)) rfl)) (fun A2 k3 w4 e5 E0=>?_);refine rr 1 ?_;refine rn<|sq<|sq<|rg<|rr 1 ?_;refine rn ?_;obtain⟨G0,o0,hm⟩:=bS hm;refine ct (fun(y0:(List D.ShardRedex)) F w9=>G0=.inl y0∧St w w9 [Own z9s [.slice A2 (List.replicate (x0.length:Int).toNat (⟨(⟨(0:Int),(0:Int),(0:Int)⟩:D.Address),(⟨(0:Int),(0:Int),(0:Int)⟩:D.Address)⟩:D.ShardRedex)).length k3] y0]∧F=[(3,.slice A2 (List.replicate (x0.length:Int).toNat (⟨(⟨(0:Int),(0:Int),(0:Int)⟩:D.Address),(⟨(0:Int),(0:Int),(0:Int)⟩:D.Address)⟩:D.ShardRedex)).length k3)]) ?_ ?_
 ·rintro y0 F M0 ⟨p0,H,rfl⟩;subst p0;rw [z6] at hm;unfold z7z at hm;refine sq<|rg<|rr 2 ?_;refine rn<|rt ?_;cases hm;have hn18:=(H.bring 0 rfl).lenEq;have b0:=(H.bring 0 rfl).reLen hn18;exact⟨_,.cons (.tmp rfl) .nil,A2,k3,(by first | (simp only [sl,hn18];done) | (simp only [sl,hn18];rfl)),b0⟩
 ·refine bk<|wk [0,3,4] ?_;refine it (fun(v0:Int × (List D.ShardRedex)) F w9=>St w w9 [Own z9s [.slice A2 (List.replicate (x0.length:Int).toNat (⟨(⟨(0:Int),(0:Int),(0:Int)⟩:D.Address),(⟨(0:Int),(0:Int),(0:Int)⟩:D.Address)⟩:D.ShardRedex)).length k3] v0.2]∧F=[(0,sl Y x0 u0),(3,.slice A2 (List.replicate (x0.length:Int).toNat (⟨(⟨(0:Int),(0:Int),(0:Int)⟩:D.Address),(⟨(0:Int),(0:Int),(0:Int)⟩:D.Address)⟩:D.ShardRedex)).length k3),(4,.int .i64 v0.1)]) o0 ⟨E0,rfl⟩ ?_;rintro v0 F N0 _ J0 ⟨q,rfl⟩ o q0;unfold z3j at o;refine sq<|sq<|rg<|rr 4 ?_;refine rn<|ci o (fun o=>?_) (fun o=>?_)
  ·refine sp<|sq<|bk<|rg<|rr 4 ?_;obtain⟨Q0,r0,o⟩:=bS o;refine ix (hE.trans q.ext) D0 r0 (fun K0 C0 i0 X=>?_);have B0:=ze5 X;subst B0;refine lN (At.ext (hE.trans q.ext) i0) ?_;obtain⟨H0,t0,o⟩:=bS o;refine ca zkF (laws_toShardRedex_ok (hE.trans q.ext) X t0) (fun L0 O0 Z=>?_);obtain⟨rfl,a0⟩:=Z;have c0:=q.join a0;have O:=c0.bring 0 rfl;obtain⟨j0,o⟩:=iS o;have G:=of_decide_eq_true j0;refine io O G.1 G.2 (fun q42 hq43=>?_);have e0:=zcU (c:=H0) (B:=_) O;have f0:=e0.bring 1 rfl;refine se f0 G.2 hq43 (fun P0 g0=>?_);refine rn<|rg<|rr 3 ?_;refine rn ?_;cases o;exact⟨_,_,rfl,⟨g0,rfl⟩,rfl⟩
  ·refine xt ?_;cases o;exact⟨_,_,⟨q0,q,rfl⟩,rfl⟩

theorem znA:Enters Tryz.prog 95:=⟨_,_,Tryz.func95,rfl,by kernel_rfl⟩
def z6N (fuel:Nat) (x0:D.Shard):Option (D.Shard):=((z3K fuel x0.Cells).bind fun o=>((z4p fuel x0.Vars).bind fun q=>((z30 fuel x0.Redexes).bind fun G=>some (⟨o,q,G⟩:D.Shard))))

theorem laws_toShard_ok {W:Base}{w:World}(hE:Ext W w){y0:List Value}{x0:D.Shard}(F0:zgN.ro W y0 x0){fuel:Nat}{r:D.Shard}(hm:z6N fuel x0=some r):
  Calls Tryz.prog 95 ⟨[.agg ⟨y0⟩]⟩ w (Ret fun v w8=>∃ A0 k0 A1 k1 A2 k2,v=.agg ⟨[sl A0 r.Cells k0,sl A1 r.Vars k1,sl A2 r.Redexes k2]⟩∧St w w8 [ow ty81 A0 r.Cells k0,ow z8V A1 r.Vars k1,ow z9s A2 r.Redexes k2]):=by
 obtain⟨A1,k2,A4,k5,A7,R0,E0,h3,h6,G0⟩:=zas F0;subst E0;refine into Tryz.func95 17 _ ?_;unfold z6N at hm;have hS:=St.start w;refine sq<|rg<|nw hS (fun O0 a1 L0 e0=>?_);refine nw e0 (fun P0 b1 M0 f0=>?_);refine rn<|sq<|rg<|nw f0 (fun Q0 d1 N0 o=>?_);refine rn<|sq<|rg<|rr 1 ?_;refine l1 ((o.bring 2 rfl).box) 0 ?_;obtain⟨S0,t0,hm⟩:=bS hm;refine ca zm2 (laws_toShardCellS_ok (hE.trans o.ext) h3 t0) (fun V0 e1 X=>?_);obtain⟨B0,H0,rfl,Y⟩:=X;have g0:=o.join Y;refine rr 1 ?_;have i0:=g0.bring 1 rfl;refine so (A:=[]) i0 0 (fun f1 q=>?_);refine rn<|sq<|rg<|rr 1 ?_;refine l1 ((q.bring 3 rfl).box) 1 ?_;obtain⟨T0,u0,hm⟩:=bS hm;refine ca zm1 (laws_toShardVarS_ok (hE.trans q.ext) h6 u0) (fun X0 g1 Z=>?_);obtain⟨C0,J0,rfl,a0⟩:=Z;have j0:=q.join a0;refine rr 1 ?_;have o0:=j0.bring 1 rfl;refine so (A:=[]) o0 1 (fun i1 G=>?_);refine rn<|sq<|rg<|rr 1 ?_;refine l1 ((G.bring 4 rfl).box) 2 ?_;obtain⟨U0,v0,hm⟩:=bS hm;refine ca zm0 (laws_toShardRedexS_ok (hE.trans G.ext) G0 v0) (fun Y0 j1 b0=>?_);obtain⟨D0,K0,rfl,c0⟩:=b0;have p0:=G.join c0;refine rr 1 ?_;have q0:=p0.bring 1 rfl;refine so (A:=[]) q0 2 (fun m1 H=>?_);refine rn<|sq<|rg<|lN ((H.bring 0 rfl).box) ?_;have r0:=H.bring 4 rfl;refine so (A:=[]) r0 0 (fun n1 O=>?_);refine rn<|rt ?_;cases hm;exact⟨_,.cons (ra ((O.bring 0 rfl).box)) .nil,B0,H0,C0,J0,D0,K0,rfl,(O.sel [4,3,2])⟩

theorem znT:Enters Tryz.prog 38:=⟨_,_,Tryz.func38,rfl,by kernel_rfl⟩
def z93 (fuel:Nat) (o:(List D.Shard)):Option (List D.Shard):=some o
def z5Z (fuel:Nat) (x0:(List D.Shard)) (o:Int × (List D.Shard)):Option (Rd (Int × (List D.Shard)) ((List D.Shard)) ((List D.Shard))):=(if(decide (o.1<(x0.length:Int)))=true then((idx x0 o.1).bind fun G=>((z6N fuel G).bind fun q=>(if decide (0≤o.1∧o.1.toNat<o.2.length)=true then some (.next (w64 (o.1+1),(o.2.set o.1.toNat q))) else none))) else some (.brk o.2))
def z6m (fuel:Nat) (x0:(List D.Shard)):Option ((List D.Shard)):=(if decide (0≤(x0.length:Int)∧(x0.length:Int)≤4294967296)=true then((iter (z5Z fuel x0) fuel (0,(List.replicate (x0.length:Int).toNat (⟨([]:(List D.ShardCell)),([]:(List D.ShardVar)),([]:(List D.ShardRedex))⟩:D.Shard)))).bind fun o=>aft o (z93 fuel)) else none)

theorem laws_toShardS_ok {W:Base}{w:World}(hE:Ext W w){Y:Option Addr}{B0:Nat}{x0:(List D.Shard)}(G0:ty22.ro W [sl Y x0 B0] x0){fuel:Nat}{r:(List D.Shard)}(hm:z6m fuel x0=some r):
  Calls Tryz.prog 38 ⟨[sl Y x0 B0]⟩ w (Ret fun v w8=>∃ A0 k0,v=sl A0 r k0∧St w w8 [ow ty33 A0 r k0]):=by
 refine into Tryz.func38 23 _ ?_;unfold z6m at hm;have hS:=St.start w;refine sq<|rg<|rr 1 ?_;refine rn<|sq<|rg<|rr 2 ?_;obtain⟨J0,hm⟩:=iS hm;have hz7:=of_decide_eq_true J0;refine mS (U:=z9W) (⟨([]:(List D.ShardCell)),([]:(List D.ShardVar)),([]:(List D.ShardRedex))⟩:D.Shard) hS hz7 (fun _=>(zec (c:=(⟨([]:(List D.ShardCell)),([]:(List D.ShardVar)),([]:(List D.ShardRedex))⟩:D.Shard)) ⟨[],[],rfl,(slNilOwn z6K 126 _),⟨[],[],rfl,(slNilOwn z9R 154 _),⟨[],[],rfl,(slNilOwn zbC 152 _),rfl⟩⟩⟩)) (fun A2 k3 w4 e5 H0=>?_);refine rr 1 ?_;refine rn<|sq<|sq<|rg<|rr 1 ?_;refine rn ?_;obtain⟨K0,r0,hm⟩:=bS hm;refine ct (fun(D0:(List D.Shard)) F w9=>K0=.inl D0∧St w w9 [Own ty33 [.slice A2 (List.replicate (x0.length:Int).toNat (⟨([]:(List D.ShardCell)),([]:(List D.ShardVar)),([]:(List D.ShardRedex))⟩:D.Shard)).length k3] D0]∧F=[(3,.slice A2 (List.replicate (x0.length:Int).toNat (⟨([]:(List D.ShardCell)),([]:(List D.ShardVar)),([]:(List D.ShardRedex))⟩:D.Shard)).length k3)]) ?_ ?_
 ·rintro D0 F i1 ⟨t0,H,rfl⟩;subst t0;rw [z6] at hm;unfold z93 at hm;refine sq<|rg<|rr 2 ?_;refine rn<|rt ?_;cases hm;have hn18:=(H.bring 0 rfl).lenEq;have b0:=(H.bring 0 rfl).reLen hn18;exact⟨_,.cons (.tmp rfl) .nil,A2,k3,(by first | (simp only [sl,hn18];done) | (simp only [sl,hn18];rfl)),b0⟩
 ·refine bk<|wk [0,3,4] ?_;refine it (fun(C0:Int × (List D.Shard)) F w9=>St w w9 [Own ty33 [.slice A2 (List.replicate (x0.length:Int).toNat (⟨([]:(List D.ShardCell)),([]:(List D.ShardVar)),([]:(List D.ShardRedex))⟩:D.Shard)).length k3] C0.2]∧F=[(0,sl Y x0 B0),(3,.slice A2 (List.replicate (x0.length:Int).toNat (⟨([]:(List D.ShardCell)),([]:(List D.ShardVar)),([]:(List D.ShardRedex))⟩:D.Shard)).length k3),(4,.int .i64 C0.1)]) r0 ⟨H0,rfl⟩ ?_;rintro C0 F j1 _ e1 ⟨q,rfl⟩ o u0;unfold z5Z at o;refine sq<|sq<|rg<|rr 4 ?_;refine rn<|ci o (fun o=>?_) (fun o=>?_)
  ·refine sp<|sq<|bk<|rg<|rr 4 ?_;obtain⟨p1,v0,o⟩:=bS o;refine ix (hE.trans q.ext) G0 v0 (fun f1 F0 p0 X=>?_);obtain⟨M0,V0,N0,X0,O0,Y0,E0,S0,T0,U0⟩:=zas X;subst E0;refine lN (At.ext (hE.trans q.ext) p0) ?_;obtain⟨L0,y0,o⟩:=bS o;refine ca znA (laws_toShard_ok (hE.trans q.ext) X y0) (fun g1 m1 Z=>?_);obtain⟨P0,a1,Q0,b1,R0,d1,rfl,a0⟩:=Z;have c0:=q.join a0;have O:=c0.bring 3 rfl;obtain⟨q0,o⟩:=iS o;have G:=of_decide_eq_true q0;refine io O G.1 G.2 (fun q57 hq58=>?_);have e0:=O.bring 3 rfl;have f0:=e0.bring 3 rfl;have g0:=f0.bring 3 rfl;have i0:=zcW (c:=L0) (B:=_) g0;have j0:=i0.bring 1 rfl;refine se j0 G.2 hq58 (fun n1 o0=>?_);refine rn<|rg<|rr 3 ?_;refine rn ?_;cases o;exact⟨_,_,rfl,⟨o0,rfl⟩,rfl⟩
  ·refine xt ?_;cases o;exact⟨_,_,⟨u0,q,rfl⟩,rfl⟩

theorem zf4:Enters Tryz.prog 9:=⟨_,_,Tryz.func9,rfl,by kernel_rfl⟩
def z4r (fuel:Nat) (x0:D.Grid):Option (D.Grid):=((z6m fuel x0.Shards).bind fun q=>((z1K fuel x0.Root).bind fun o=>some (⟨q,(⟨o.Machine,o.Kind,o.Index⟩:D.Address)⟩:D.Grid)))

theorem laws_toGrid_ok {W:Base}{w:World}(hE:Ext W w){p0:List Value}{x0:D.Grid}(r0:ty26.ro W p0 x0){fuel:Nat}{r:D.Grid}(hm:z4r fuel x0=some r):
  Calls Tryz.prog 9 ⟨[.agg ⟨p0⟩]⟩ w (Ret fun v w8=>∃ A0 k0,v=.agg ⟨[sl A0 r.Shards k0,.int .i64 r.Root.Machine,.int .i64 r.Root.Kind,.int .i64 r.Root.Index]⟩∧St w w8 [ow ty33 A0 r.Shards k0]):=by
 obtain⟨A1,k2,e4,h3⟩:=zcS r0;subst e4;refine into Tryz.func9 13 _ ?_;unfold z4r at hm;have hS:=St.start w;refine sq<|rg<|nw hS (fun g5 w6 e7 a0=>?_);refine nw a0 (fun y0 G0 u0 b0=>?_);refine rn<|sq<|rg<|nw b0 (fun B0 H0 v0 o=>?_);refine rn<|sq<|rg<|rr 1 ?_;refine l1 ((o.bring 2 rfl).box) 0 ?_;obtain⟨C0,j0,hm⟩:=bS hm;refine ca znT (laws_toShardS_ok (hE.trans o.ext) h3 j0) (fun E0 J0 O=>?_);obtain⟨q0,t0,rfl,X⟩:=O;have c0:=o.join X;refine rr 1 ?_;have e0:=c0.bring 1 rfl;refine so (A:=[]) e0 0 (fun K0 q=>?_);refine rn<|sq<|rg<|rr 1 ?_;refine lN (At.sub ((q.bring 3 rfl).box) 1 3) ?_;obtain⟨D0,o0,hm⟩:=bS hm;refine ca zbv (laws_toAddress_ok (hE.trans q.ext) (zb3 x0.Root) o0) (fun F0 L0 Y=>?_);obtain⟨rfl,Z⟩:=Y;have f0:=q.join Z;refine rr 1 ?_;have g0:=f0.bring 0 rfl;refine so (A:=[]) g0 1 (fun M0 G=>?_);refine rn<|sq<|rg<|lN ((G.bring 0 rfl).box) ?_;have i0:=G.bring 2 rfl;refine so (A:=[]) i0 0 (fun N0 H=>?_);refine rn<|rt ?_;cases hm;exact⟨_,.cons (ra ((H.bring 0 rfl).box)) .nil,q0,t0,rfl,((H.bring 2 rfl).taken 1)⟩

theorem zhP:Enters Tryz.prog 27:=⟨_,_,Tryz.func27,rfl,by kernel_rfl⟩
def z97 (fuel:Nat) (t2:Unit):Option Bool:=some true
def z65 (fuel:Nat) (x0:(List Int)) (x1:(List Int)) (s1:Int):Option (Rd (Int) (Unit) (Bool)):=(if(decide (s1<(x0.length:Int)))=true then((idx x0 s1).bind fun o=>((idx x1 s1).bind fun q=>(if(o != q)=true then some (.ret false) else some (.next (w64 (s1+1)))))) else some (.brk ()))
def z5h (fuel:Nat) (x0:(List Int)) (x1:(List Int)):Option (Bool):=(if((x0.length:Int) != (x1.length:Int))=true then some false else((iter (z65 fuel x0 x1) fuel 0).bind fun o=>aft o (z97 fuel)))

theorem laws_eqInt64S_ok {W:Base}{w:World}(hE:Ext W w){X:Option Addr}{k0:Nat}{x0:(List Int)}{Y:Option Addr}{o0:Nat}{x1:(List Int)}(t0:ty45.ro W [sl X x0 k0] x0) (u0:ty45.ro W [sl Y x1 o0] x1){fuel:Nat}{r:Bool}(hm:z5h fuel x0 x1=some r):
  Calls Tryz.prog 27 ⟨[sl X x0 k0,sl Y x1 o0]⟩ w (Ret fun v w8=>v=.bool r∧St w w8 []):=by
 refine into Tryz.func27 26 _ ?_;unfold z5h at hm;have hS:=St.start w;refine sq<|rg<|rr 1 ?_;refine rn<|sq<|sq<|rg<|rr 5 ?_;refine rn<|ci hm (fun hm=>?_) (fun hm=>?_)
 ·refine sq<|rg<|rr 1 ?_;refine rn<|rt ?_;cases hm;exact⟨_,.cons (.tmp rfl) .nil,rfl,hS⟩
 ·refine sp<|sq<|sq<|rg<|rr 1 ?_;refine rn ?_;obtain⟨v0,c0,hm⟩:=bS hm;refine ct (fun(t2:Unit) F w9=>v0=.inl t2∧Ext w w9∧St w w9 []∧F=[]) ?_ ?_
  ·rintro t2 F w7 ⟨e0,y0,Z,rfl⟩;subst e0;rw [z6] at hm;unfold z97 at hm;refine sq<|rg<|rr 1 ?_;refine rn<|rt ?_;cases hm;exact⟨_,.cons (.tmp rfl) .nil,rfl,Z⟩
  ·refine bk<|wk [0,1,5] ?_;refine it (fun(s1:Int) F w9=>Ext w w9∧St w w9 []∧F=[(0,sl X x0 k0),(1,sl Y x1 o0),(5,.int .i64 s1)]) c0 ⟨(Ext.refl _),hS,rfl⟩ ?_;rintro s1 F D0 _ A0 ⟨p0,q,rfl⟩ o O;unfold z65 at o;refine sq<|sq<|rg<|rr 4 ?_;refine rn<|ci o (fun o=>?_) (fun o=>?_)
   ·refine sp<|sq<|bk<|sq<|dn 0 mixed 9 [([],511),([],511),([0,1],508),([2],507),([],511),([],511),([4,5],463),([6],447),([3,7],375)] q.ext (fun G=>?_);have H:=q.step (Ext.draw _);refine dr 5 G [0,1,4,5] ?_;obtain⟨E0,i0,o⟩:=bS o;refine dx (hE.trans q.ext) G 2 t0 i0 (fun B0 q0 a0 f0=>?_);cases f0;refine dl G 3 (At.ext (hE.trans q.ext) a0) 0 ?_;obtain⟨F0,j0,o⟩:=bS o;refine dx (hE.trans q.ext) G 6 u0 j0 (fun C0 r0 b0 g0=>?_);cases g0;refine dl G 7 (At.ext (hE.trans q.ext) b0) 0 ?_;refine dr 0 G [8] ?_;refine dw [0,1,5,25] ?_;refine dd G ?_;refine ci o (fun o=>?_) (fun o=>?_)
    ·refine sq<|rg<|rr 1 ?_;refine rn<|rt ?_;cases o;cases O;have hm:some _=some _:=hm;cases hm;exact⟨_,.cons (.tmp rfl) .nil,rfl,H⟩
    ·refine sp<|rg<|rr 3 ?_;refine rn ?_;cases o;exact⟨_,_,rfl,⟨(p0.trans (Ext.draw _)),H,rfl⟩,rfl⟩
   ·refine xt ?_;cases o;exact⟨_,_,⟨O,p0,q,rfl⟩,rfl⟩

theorem zkx:Enters Tryz.prog 209:=⟨_,_,Tryz.func209,rfl,by kernel_rfl⟩
def z7D (fuel:Nat) (x0:D.Port) (x1:D.Port):Option (Bool):=(if(x0.Agent != x1.Agent)=true then some false else(if(x0.Slot != x1.Slot)=true then some false else some true))

theorem laws_eqPort_ok {W:Base}{w:World}(hE:Ext W w){q:List Value}{x0:D.Port}{G:List Value}{x1:D.Port}(H:z8D.ro W q x0) (O:z8D.ro W G x1){fuel:Nat}{r:Bool}(hm:z7D fuel x0 x1=some r):
  Calls Tryz.prog 209 ⟨[.agg ⟨q⟩,.agg ⟨G⟩]⟩ w (Ret fun v w8=>v=.bool r∧St w w8 []):=by
 have e1:=z2n H;subst e1;have e2:=z2n O;subst e2;refine into Tryz.func209 15 _ ?_;unfold z7D at hm;have hS:=St.start w;refine sq<|rg<|nw hS (fun g3 w4 e5 X=>?_);refine nw X (fun g7 Z Y o=>?_);refine rr 1 ?_;refine rn<|sq<|sq<|rg<|rr 1 ?_;refine l1 ((o.bring 1 rfl).box) 0 ?_;refine rr 1 ?_;refine l1 ((o.bring 0 rfl).box) 0 ?_;refine rr 1 ?_;refine rn<|ci hm (fun hm=>?_) (fun hm=>?_)
 ·refine sq<|rg<|rr 1 ?_;refine rn<|rt ?_;cases hm;exact⟨_,.cons (.tmp rfl) .nil,rfl,(o.taken 0)⟩
 ·refine sp<|sq<|sq<|rg<|rr 1 ?_;refine l1 ((o.bring 1 rfl).box) 1 ?_;refine rr 1 ?_;refine l1 ((o.bring 0 rfl).box) 1 ?_;refine rr 1 ?_;refine rn<|ci hm (fun hm=>?_) (fun hm=>?_)
  ·refine sq<|rg<|rr 1 ?_;refine rn<|rt ?_;cases hm;exact⟨_,.cons (.tmp rfl) .nil,rfl,(o.taken 0)⟩
  ·refine sp<|sq<|rg<|rr 1 ?_;refine rn<|rt ?_;cases hm;exact⟨_,.cons (.tmp rfl) .nil,rfl,(o.taken 0)⟩

theorem zkV:Enters Tryz.prog 163:=⟨_,_,Tryz.func163,rfl,by kernel_rfl⟩
def z9x (fuel:Nat) (t2:Unit):Option Bool:=some true
def z6F (fuel:Nat) (x0:(List D.Port)) (x1:(List D.Port)) (s1:Int):Option (Rd (Int) (Unit) (Bool)):=(if(decide (s1<(x0.length:Int)))=true then((idx x0 s1).bind fun q=>((idx x1 s1).bind fun G=>((z7D fuel q G).bind fun o=>(if(!o)=true then some (.ret false) else some (.next (w64 (s1+1))))))) else some (.brk ()))
def z6S (fuel:Nat) (x0:(List D.Port)) (x1:(List D.Port)):Option (Bool):=(if((x0.length:Int) != (x1.length:Int))=true then some false else((iter (z6F fuel x0 x1) fuel 0).bind fun o=>aft o (z9x fuel)))

theorem laws_eqPortS_ok {W:Base}{w:World}(hE:Ext W w){b0:Option Addr}{r0:Nat}{x0:(List D.Port)}{c0:Option Addr}{t0:Nat}{x1:(List D.Port)}(C0:zq.ro W [sl b0 x0 r0] x0) (D0:zq.ro W [sl c0 x1 t0] x1){fuel:Nat}{r:Bool}(hm:z6S fuel x0 x1=some r):
  Calls Tryz.prog 163 ⟨[sl b0 x0 r0,sl c0 x1 t0]⟩ w (Ret fun v w8=>v=.bool r∧St w w8 []):=by
 refine into Tryz.func163 27 _ ?_;unfold z6S at hm;have hS:=St.start w;refine sq<|rg<|rr 1 ?_;refine rn<|sq<|sq<|rg<|rr 5 ?_;refine rn<|ci hm (fun hm=>?_) (fun hm=>?_)
 ·refine sq<|rg<|rr 1 ?_;refine rn<|rt ?_;cases hm;exact⟨_,.cons (.tmp rfl) .nil,rfl,hS⟩
 ·refine sp<|sq<|sq<|rg<|rr 1 ?_;refine rn ?_;obtain⟨E0,j0,hm⟩:=bS hm;refine ct (fun(t2:Unit) F w9=>E0=.inl t2∧Ext w w9∧St w w9 []∧F=[]) ?_ ?_
  ·rintro t2 F w7 ⟨k0,F0,f0,rfl⟩;subst k0;rw [z6] at hm;unfold z9x at hm;refine sq<|rg<|rr 1 ?_;refine rn<|rt ?_;cases hm;exact⟨_,.cons (.tmp rfl) .nil,rfl,f0⟩
  ·refine bk<|wk [0,1,5] ?_;refine it (fun(s1:Int) F w9=>Ext w w9∧St w w9 []∧F=[(0,sl b0 x0 r0),(1,sl c0 x1 t0),(5,.int .i64 s1)]) j0 ⟨(Ext.refl _),hS,rfl⟩ ?_;rintro s1 F M0 _ G0 ⟨u0,G,rfl⟩ o Y;unfold z6F at o;refine sq<|sq<|rg<|rr 4 ?_;refine rn<|ci o (fun o=>?_) (fun o=>?_)
   ·refine sp<|sq<|bk<|sq<|dn 0 mixed 10 [([],1023),([],1023),([0,1],1020),([2],1019),([],1023),([],1023),([4,5],975),([6],959),([3,7],887),([8],767)] G.ext (fun q=>?_);have O:=G.step (Ext.draw _);refine dr 6 q [0,1,4,5] ?_;obtain⟨O0,o0,o⟩:=bS o;refine dx (hE.trans G.ext) q 2 C0 o0 (fun H0 A0 g0 Z=>?_);have v0:=z2n Z;subst v0;refine dL q 3 (At.ext (hE.trans G.ext) g0) ?_;obtain⟨P0,p0,o⟩:=bS o;refine dx (hE.trans G.ext) q 6 D0 p0 (fun J0 B0 i0 a0=>?_);have y0:=z2n a0;subst y0;refine dL q 7 (At.ext (hE.trans G.ext) i0) ?_;obtain⟨K0,q0,o⟩:=bS o;refine o1 q 8 (mc q zkx (laws_eqPort_ok (hE.trans O.ext) Z a0 q0) (fun L0 N0 e0=>?_));obtain⟨rfl,H⟩:=e0;refine⟨H.ext,?_⟩;have X:=O.join H;refine dr 0 q [9] ?_;refine dw [0,1,5,26] ?_;refine dd q ?_;refine ci o (fun o=>?_) (fun o=>?_)
    ·refine sq<|rg<|rr 1 ?_;refine rn<|rt ?_;cases o;cases Y;have hm:some _=some _:=hm;cases hm;exact⟨_,.cons (.tmp rfl) .nil,rfl,X⟩
    ·refine sp<|rg<|rr 3 ?_;refine rn ?_;cases o;exact⟨_,_,rfl,⟨((u0.trans (Ext.draw _)).trans H.ext),X,rfl⟩,rfl⟩
   ·refine xt ?_;cases o;exact⟨_,_,⟨Y,u0,G,rfl⟩,rfl⟩

theorem zmn:Enters Tryz.prog 104:=⟨_,_,Tryz.func104,rfl,by kernel_rfl⟩
def z6T (fuel:Nat) (x0:D.Agent) (x1:D.Agent):Option (Bool):=(if(x0.Kind != x1.Kind)=true then some false else(if(x0.Level != x1.Level)=true then some false else(if(x0.Value != x1.Value)=true then some false else((z5h fuel x0.Data x1.Data).bind fun o=>(if(!o)=true then some false else((z6S fuel x0.Ports x1.Ports).bind fun q=>(if(!q)=true then some false else some true)))))))

theorem laws_eqAgent_ok {W:Base}{w:World}(hE:Ext W w){c0:List Value}{x0:D.Agent}{e0:List Value}{x1:D.Agent}(g0:z6b.ro W c0 x0) (k0:z6b.ro W e0 x1){fuel:Nat}{r:Bool}(hm:z6T fuel x0 x1=some r):
  Calls Tryz.prog 104 ⟨[.agg ⟨c0⟩,.agg ⟨e0⟩]⟩ w (Ret fun v w8=>v=.bool r∧St w w8 []):=by
 obtain⟨A1,k2,A4,k5,e7,h3,h6⟩:=zU g0;subst e7;obtain⟨o0,v0,p0,y0,f0,i0,j0⟩:=zU k0;subst f0;refine into Tryz.func104 32 _ ?_;unfold z6T at hm;have hS:=St.start w;refine sq<|rg<|nw hS (fun t0 E0 q0 Z=>?_);refine nw Z (fun u0 F0 r0 o=>?_);refine rr 1 ?_;refine rn<|sq<|sq<|rg<|rr 1 ?_;refine l1 ((o.bring 1 rfl).box) 0 ?_;refine rr 1 ?_;refine l1 ((o.bring 0 rfl).box) 0 ?_;refine rr 1 ?_;refine rn<|ci hm (fun hm=>?_) (fun hm=>?_)
 ·refine sq<|rg<|rr 1 ?_;refine rn<|rt ?_;cases hm;exact⟨_,.cons (.tmp rfl) .nil,rfl,(o.taken 0)⟩
 ·refine sp<|sq<|sq<|rg<|rr 1 ?_;refine l1 ((o.bring 1 rfl).box) 1 ?_;refine rr 1 ?_;refine l1 ((o.bring 0 rfl).box) 1 ?_;refine rr 1 ?_;refine rn<|ci hm (fun hm=>?_) (fun hm=>?_)
  ·refine sq<|rg<|rr 1 ?_;refine rn<|rt ?_;cases hm;exact⟨_,.cons (.tmp rfl) .nil,rfl,(o.taken 0)⟩
  ·refine sp<|sq<|sq<|rg<|rr 1 ?_;refine l1 ((o.bring 1 rfl).box) 2 ?_;refine rr 1 ?_;refine l1 ((o.bring 0 rfl).box) 2 ?_;refine rr 1 ?_;refine rn<|ci hm (fun hm=>?_) (fun hm=>?_)
   ·refine sq<|rg<|rr 1 ?_;refine rn<|rt ?_;cases hm;exact⟨_,.cons (.tmp rfl) .nil,rfl,(o.taken 0)⟩
   ·refine sp<|sq<|sq<|rg<|rr 1 ?_;refine l1 ((o.bring 1 rfl).box) 3 ?_;refine rr 1 ?_;refine l1 ((o.bring 0 rfl).box) 3 ?_;obtain⟨A0,a0,hm⟩:=bS hm;refine ca zhP (laws_eqInt64S_ok (hE.trans o.ext) h3 i0 a0) (fun C0 G0 H=>?_);obtain⟨rfl,O⟩:=H;have q:=o.join O;refine rr 1 ?_;refine rn<|ci hm (fun hm=>?_) (fun hm=>?_)
    ·refine sq<|rg<|rr 1 ?_;refine rn<|rt ?_;cases hm;exact⟨_,.cons (.tmp rfl) .nil,rfl,(q.taken 0)⟩
    ·refine sp<|sq<|sq<|rg<|rr 1 ?_;refine l1 ((q.bring 1 rfl).box) 4 ?_;refine rr 1 ?_;refine l1 ((q.bring 0 rfl).box) 4 ?_;obtain⟨B0,b0,hm⟩:=bS hm;refine ca zkV (laws_eqPortS_ok (hE.trans q.ext) h6 j0 b0) (fun D0 H0 X=>?_);obtain⟨rfl,Y⟩:=X;have G:=q.join Y;refine rr 1 ?_;refine rn<|ci hm (fun hm=>?_) (fun hm=>?_)
     ·refine sq<|rg<|rr 1 ?_;refine rn<|rt ?_;cases hm;exact⟨_,.cons (.tmp rfl) .nil,rfl,(G.taken 0)⟩
     ·refine sp<|sq<|rg<|rr 1 ?_;refine rn<|rt ?_;cases hm;exact⟨_,.cons (.tmp rfl) .nil,rfl,(G.taken 0)⟩

theorem znP:Enters Tryz.prog 44:=⟨_,_,Tryz.func44,rfl,by kernel_rfl⟩
def z98 (fuel:Nat) (t2:Unit):Option Bool:=some true
def z67 (fuel:Nat) (x0:(List D.Agent)) (x1:(List D.Agent)) (s1:Int):Option (Rd (Int) (Unit) (Bool)):=(if(decide (s1<(x0.length:Int)))=true then((idx x0 s1).bind fun q=>((idx x1 s1).bind fun G=>((z6T fuel q G).bind fun o=>(if(!o)=true then some (.ret false) else some (.next (w64 (s1+1))))))) else some (.brk ()))
def z6t (fuel:Nat) (x0:(List D.Agent)) (x1:(List D.Agent)):Option (Bool):=(if((x0.length:Int) != (x1.length:Int))=true then some false else((iter (z67 fuel x0 x1) fuel 0).bind fun o=>aft o (z98 fuel)))

theorem laws_eqAgentS_ok {W:Base}{w:World}(hE:Ext W w){b0:Option Addr}{r0:Nat}{x0:(List D.Agent)}{c0:Option Addr}{t0:Nat}{x1:(List D.Agent)}(C0:ty28.ro W [sl b0 x0 r0] x0) (D0:ty28.ro W [sl c0 x1 t0] x1){fuel:Nat}{r:Bool}(hm:z6t fuel x0 x1=some r):
  Calls Tryz.prog 44 ⟨[sl b0 x0 r0,sl c0 x1 t0]⟩ w (Ret fun v w8=>v=.bool r∧St w w8 []):=by
 refine into Tryz.func44 27 _ ?_;unfold z6t at hm;have hS:=St.start w;refine sq<|rg<|rr 1 ?_;refine rn<|sq<|sq<|rg<|rr 5 ?_;refine rn<|ci hm (fun hm=>?_) (fun hm=>?_)
 ·refine sq<|rg<|rr 1 ?_;refine rn<|rt ?_;cases hm;exact⟨_,.cons (.tmp rfl) .nil,rfl,hS⟩
 ·refine sp<|sq<|sq<|rg<|rr 1 ?_;refine rn ?_;obtain⟨E0,j0,hm⟩:=bS hm;refine ct (fun(t2:Unit) F w9=>E0=.inl t2∧Ext w w9∧St w w9 []∧F=[]) ?_ ?_
  ·rintro t2 F w7 ⟨k0,O0,f0,rfl⟩;subst k0;rw [z6] at hm;unfold z98 at hm;refine sq<|rg<|rr 1 ?_;refine rn<|rt ?_;cases hm;exact⟨_,.cons (.tmp rfl) .nil,rfl,f0⟩
  ·refine bk<|wk [0,1,5] ?_;refine it (fun(s1:Int) F w9=>Ext w w9∧St w w9 []∧F=[(0,sl b0 x0 r0),(1,sl c0 x1 t0),(5,.int .i64 s1)]) j0 ⟨(Ext.refl _),hS,rfl⟩ ?_;rintro s1 F a1 _ T0 ⟨u0,G,rfl⟩ o Y;unfold z67 at o;refine sq<|sq<|rg<|rr 4 ?_;refine rn<|ci o (fun o=>?_) (fun o=>?_)
   ·refine sp<|sq<|bk<|sq<|dn 0 mixed 10 [([],1023),([],1023),([0,1],1020),([2],1019),([],1023),([],1023),([4,5],975),([6],959),([3,7],887),([8],767)] G.ext (fun q=>?_);have O:=G.step (Ext.draw _);refine dr 6 q [0,1,4,5] ?_;obtain⟨d1,o0,o⟩:=bS o;refine dx (hE.trans G.ext) q 2 C0 o0 (fun U0 A0 g0 Z=>?_);obtain⟨F0,P0,G0,Q0,v0,K0,L0⟩:=zU Z;subst v0;refine dL q 3 (At.ext (hE.trans G.ext) g0) ?_;obtain⟨e1,p0,o⟩:=bS o;refine dx (hE.trans G.ext) q 6 D0 p0 (fun V0 B0 i0 a0=>?_);obtain⟨H0,R0,J0,S0,y0,M0,N0⟩:=zU a0;subst y0;refine dL q 7 (At.ext (hE.trans G.ext) i0) ?_;obtain⟨X0,q0,o⟩:=bS o;refine o1 q 8 (mc q zmn (laws_eqAgent_ok (hE.trans O.ext) Z a0 q0) (fun Y0 b1 e0=>?_));obtain⟨rfl,H⟩:=e0;refine⟨H.ext,?_⟩;have X:=O.join H;refine dr 0 q [9] ?_;refine dw [0,1,5,26] ?_;refine dd q ?_;refine ci o (fun o=>?_) (fun o=>?_)
    ·refine sq<|rg<|rr 1 ?_;refine rn<|rt ?_;cases o;cases Y;have hm:some _=some _:=hm;cases hm;exact⟨_,.cons (.tmp rfl) .nil,rfl,X⟩
    ·refine sp<|rg<|rr 3 ?_;refine rn ?_;cases o;exact⟨_,_,rfl,⟨((u0.trans (Ext.draw _)).trans H.ext),X,rfl⟩,rfl⟩
   ·refine xt ?_;cases o;exact⟨_,_,⟨Y,u0,G,rfl⟩,rfl⟩

theorem zf7:Enters Tryz.prog 11:=⟨_,_,Tryz.func11,rfl,by kernel_rfl⟩
def z6s (fuel:Nat) (x0:D.Net) (x1:D.Net):Option (Bool):=((z6t fuel x0.Agents x1.Agents).bind fun o=>(if(!o)=true then some false else some true))

theorem laws_eqNet_ok {W:Base}{w:World}(hE:Ext W w){Y:List Value}{x0:D.Net}{Z:List Value}{x1:D.Net}(b0:ty30.ro W Y x0) (c0:ty30.ro W Z x1){fuel:Nat}{r:Bool}(hm:z6s fuel x0 x1=some r):
  Calls Tryz.prog 11 ⟨[.agg ⟨Y⟩,.agg ⟨Z⟩]⟩ w (Ret fun v w8=>v=.bool r∧St w w8 []):=by
 obtain⟨A1,k2,e4,h3⟩:=z2Y b0;subst e4;obtain⟨A5,k6,a0,h7⟩:=z2Y c0;subst a0;refine into Tryz.func11 11 _ ?_;unfold z6s at hm;have hS:=St.start w;refine sq<|rg<|nw hS (fun g0 o0 e0 O=>?_);refine nw O (fun i0 p0 f0 o=>?_);refine rr 1 ?_;refine rn<|sq<|sq<|rg<|rr 1 ?_;refine l1 ((o.bring 1 rfl).box) 0 ?_;refine rr 1 ?_;refine l1 ((o.bring 0 rfl).box) 0 ?_;obtain⟨j0,X,hm⟩:=bS hm;refine ca znP (laws_eqAgentS_ok (hE.trans o.ext) h3 h7 X) (fun k0 q0 G=>?_);obtain⟨rfl,H⟩:=G;have q:=o.join H;refine rr 1 ?_;refine rn<|ci hm (fun hm=>?_) (fun hm=>?_)
 ·refine sq<|rg<|rr 1 ?_;refine rn<|rt ?_;cases hm;exact⟨_,.cons (.tmp rfl) .nil,rfl,(q.taken 0)⟩
 ·refine sp<|sq<|rg<|rr 1 ?_;refine rn<|rt ?_;cases hm;exact⟨_,.cons (.tmp rfl) .nil,rfl,(q.taken 0)⟩

theorem zbu:Enters Tryz.prog 46:=⟨_,_,Tryz.func46,rfl,by kernel_rfl⟩
def z1L (fuel:Nat) (x0:D.Address) (x1:D.Address):Option (Bool):=(if(x0.Machine != x1.Machine)=true then some false else(if(x0.Kind != x1.Kind)=true then some false else(if(x0.Index != x1.Index)=true then some false else some true)))

theorem laws_eqAddress_ok {W:Base}{w:World}(hE:Ext W w){q:List Value}{x0:D.Address}{G:List Value}{x1:D.Address}(H:ty34.ro W q x0) (O:ty34.ro W G x1){fuel:Nat}{r:Bool}(hm:z1L fuel x0 x1=some r):
  Calls Tryz.prog 46 ⟨[.agg ⟨q⟩,.agg ⟨G⟩]⟩ w (Ret fun v w8=>v=.bool r∧St w w8 []):=by
 have e1:=zQ H;subst e1;have e2:=zQ O;subst e2;refine into Tryz.func46 20 _ ?_;unfold z1L at hm;have hS:=St.start w;refine sq<|rg<|nw hS (fun g3 w4 e5 X=>?_);refine nw X (fun g7 Z Y o=>?_);refine rr 1 ?_;refine rn<|sq<|sq<|rg<|rr 1 ?_;refine l1 ((o.bring 1 rfl).box) 0 ?_;refine rr 1 ?_;refine l1 ((o.bring 0 rfl).box) 0 ?_;refine rr 1 ?_;refine rn<|ci hm (fun hm=>?_) (fun hm=>?_)
 ·refine sq<|rg<|rr 1 ?_;refine rn<|rt ?_;cases hm;exact⟨_,.cons (.tmp rfl) .nil,rfl,(o.taken 0)⟩
 ·refine sp<|sq<|sq<|rg<|rr 1 ?_;refine l1 ((o.bring 1 rfl).box) 1 ?_;refine rr 1 ?_;refine l1 ((o.bring 0 rfl).box) 1 ?_;refine rr 1 ?_;refine rn<|ci hm (fun hm=>?_) (fun hm=>?_)
  ·refine sq<|rg<|rr 1 ?_;refine rn<|rt ?_;cases hm;exact⟨_,.cons (.tmp rfl) .nil,rfl,(o.taken 0)⟩
  ·refine sp<|sq<|sq<|rg<|rr 1 ?_;refine l1 ((o.bring 1 rfl).box) 2 ?_;refine rr 1 ?_;refine l1 ((o.bring 0 rfl).box) 2 ?_;refine rr 1 ?_;refine rn<|ci hm (fun hm=>?_) (fun hm=>?_)
   ·refine sq<|rg<|rr 1 ?_;refine rn<|rt ?_;cases hm;exact⟨_,.cons (.tmp rfl) .nil,rfl,(o.taken 0)⟩
   ·refine sp<|sq<|rg<|rr 1 ?_;refine rn<|rt ?_;cases hm;exact⟨_,.cons (.tmp rfl) .nil,rfl,(o.taken 0)⟩

theorem zkb:Enters Tryz.prog 239:=⟨_,_,Tryz.func239,rfl,by kernel_rfl⟩
def z8v (fuel:Nat) (t2:Unit):Option Bool:=some true
def z4M (fuel:Nat) (x0:(List D.Address)) (x1:(List D.Address)) (s1:Int):Option (Rd (Int) (Unit) (Bool)):=(if(decide (s1<(x0.length:Int)))=true then((idx x0 s1).bind fun q=>((idx x1 s1).bind fun G=>((z1L fuel q G).bind fun o=>(if(!o)=true then some (.ret false) else some (.next (w64 (s1+1))))))) else some (.brk ()))
def z5i (fuel:Nat) (x0:(List D.Address)) (x1:(List D.Address)):Option (Bool):=(if((x0.length:Int) != (x1.length:Int))=true then some false else((iter (z4M fuel x0 x1) fuel 0).bind fun o=>aft o (z8v fuel)))

theorem laws_eqAddressS_ok {W:Base}{w:World}(hE:Ext W w){b0:Option Addr}{r0:Nat}{x0:(List D.Address)}{c0:Option Addr}{t0:Nat}{x1:(List D.Address)}(C0:ty82.ro W [sl b0 x0 r0] x0) (D0:ty82.ro W [sl c0 x1 t0] x1){fuel:Nat}{r:Bool}(hm:z5i fuel x0 x1=some r):
  Calls Tryz.prog 239 ⟨[sl b0 x0 r0,sl c0 x1 t0]⟩ w (Ret fun v w8=>v=.bool r∧St w w8 []):=by
 refine into Tryz.func239 27 _ ?_;unfold z5i at hm;have hS:=St.start w;refine sq<|rg<|rr 1 ?_;refine rn<|sq<|sq<|rg<|rr 5 ?_;refine rn<|ci hm (fun hm=>?_) (fun hm=>?_)
 ·refine sq<|rg<|rr 1 ?_;refine rn<|rt ?_;cases hm;exact⟨_,.cons (.tmp rfl) .nil,rfl,hS⟩
 ·refine sp<|sq<|sq<|rg<|rr 1 ?_;refine rn ?_;obtain⟨E0,j0,hm⟩:=bS hm;refine ct (fun(t2:Unit) F w9=>E0=.inl t2∧Ext w w9∧St w w9 []∧F=[]) ?_ ?_
  ·rintro t2 F w7 ⟨k0,F0,f0,rfl⟩;subst k0;rw [z6] at hm;unfold z8v at hm;refine sq<|rg<|rr 1 ?_;refine rn<|rt ?_;cases hm;exact⟨_,.cons (.tmp rfl) .nil,rfl,f0⟩
  ·refine bk<|wk [0,1,5] ?_;refine it (fun(s1:Int) F w9=>Ext w w9∧St w w9 []∧F=[(0,sl b0 x0 r0),(1,sl c0 x1 t0),(5,.int .i64 s1)]) j0 ⟨(Ext.refl _),hS,rfl⟩ ?_;rintro s1 F M0 _ G0 ⟨u0,G,rfl⟩ o Y;unfold z4M at o;refine sq<|sq<|rg<|rr 4 ?_;refine rn<|ci o (fun o=>?_) (fun o=>?_)
   ·refine sp<|sq<|bk<|sq<|dn 0 mixed 10 [([],1023),([],1023),([0,1],1020),([2],1019),([],1023),([],1023),([4,5],975),([6],959),([3,7],887),([8],767)] G.ext (fun q=>?_);have O:=G.step (Ext.draw _);refine dr 6 q [0,1,4,5] ?_;obtain⟨O0,o0,o⟩:=bS o;refine dx (hE.trans G.ext) q 2 C0 o0 (fun H0 A0 g0 Z=>?_);have v0:=zQ Z;subst v0;refine dL q 3 (At.ext (hE.trans G.ext) g0) ?_;obtain⟨P0,p0,o⟩:=bS o;refine dx (hE.trans G.ext) q 6 D0 p0 (fun J0 B0 i0 a0=>?_);have y0:=zQ a0;subst y0;refine dL q 7 (At.ext (hE.trans G.ext) i0) ?_;obtain⟨K0,q0,o⟩:=bS o;refine o1 q 8 (mc q zbu (laws_eqAddress_ok (hE.trans O.ext) Z a0 q0) (fun L0 N0 e0=>?_));obtain⟨rfl,H⟩:=e0;refine⟨H.ext,?_⟩;have X:=O.join H;refine dr 0 q [9] ?_;refine dw [0,1,5,26] ?_;refine dd q ?_;refine ci o (fun o=>?_) (fun o=>?_)
    ·refine sq<|rg<|rr 1 ?_;refine rn<|rt ?_;cases o;cases Y;have hm:some _=some _:=hm;cases hm;exact⟨_,.cons (.tmp rfl) .nil,rfl,X⟩
    ·refine sp<|rg<|rr 3 ?_;refine rn ?_;cases o;exact⟨_,_,rfl,⟨((u0.trans (Ext.draw _)).trans H.ext),X,rfl⟩,rfl⟩
   ·refine xt ?_;cases o;exact⟨_,_,⟨Y,u0,G,rfl⟩,rfl⟩

theorem zkw:Enters Tryz.prog 210:=⟨_,_,Tryz.func210,rfl,by kernel_rfl⟩
def z4w (fuel:Nat) (x0:D.ShardCell) (x1:D.ShardCell):Option (Bool):=(if(x0.Kind != x1.Kind)=true then some false else(if(x0.Level != x1.Level)=true then some false else(if(x0.Value != x1.Value)=true then some false else((z5h fuel x0.Data x1.Data).bind fun o=>(if(!o)=true then some false else((z5i fuel x0.Aux x1.Aux).bind fun q=>(if(!q)=true then some false else some true)))))))

theorem laws_eqShardCell_ok {W:Base}{w:World}(hE:Ext W w){c0:List Value}{x0:D.ShardCell}{e0:List Value}{x1:D.ShardCell}(g0:z6K.ro W c0 x0) (k0:z6K.ro W e0 x1){fuel:Nat}{r:Bool}(hm:z4w fuel x0 x1=some r):
  Calls Tryz.prog 210 ⟨[.agg ⟨c0⟩,.agg ⟨e0⟩]⟩ w (Ret fun v w8=>v=.bool r∧St w w8 []):=by
 obtain⟨A1,k2,A4,k5,e7,h3,h6⟩:=zt g0;subst e7;obtain⟨o0,v0,p0,y0,f0,i0,j0⟩:=zt k0;subst f0;refine into Tryz.func210 32 _ ?_;unfold z4w at hm;have hS:=St.start w;refine sq<|rg<|nw hS (fun t0 E0 q0 Z=>?_);refine nw Z (fun u0 F0 r0 o=>?_);refine rr 1 ?_;refine rn<|sq<|sq<|rg<|rr 1 ?_;refine l1 ((o.bring 1 rfl).box) 0 ?_;refine rr 1 ?_;refine l1 ((o.bring 0 rfl).box) 0 ?_;refine rr 1 ?_;refine rn<|ci hm (fun hm=>?_) (fun hm=>?_)
 ·refine sq<|rg<|rr 1 ?_;refine rn<|rt ?_;cases hm;exact⟨_,.cons (.tmp rfl) .nil,rfl,(o.taken 0)⟩
 ·refine sp<|sq<|sq<|rg<|rr 1 ?_;refine l1 ((o.bring 1 rfl).box) 1 ?_;refine rr 1 ?_;refine l1 ((o.bring 0 rfl).box) 1 ?_;refine rr 1 ?_;refine rn<|ci hm (fun hm=>?_) (fun hm=>?_)
  ·refine sq<|rg<|rr 1 ?_;refine rn<|rt ?_;cases hm;exact⟨_,.cons (.tmp rfl) .nil,rfl,(o.taken 0)⟩
  ·refine sp<|sq<|sq<|rg<|rr 1 ?_;refine l1 ((o.bring 1 rfl).box) 2 ?_;refine rr 1 ?_;refine l1 ((o.bring 0 rfl).box) 2 ?_;refine rr 1 ?_;refine rn<|ci hm (fun hm=>?_) (fun hm=>?_)
   ·refine sq<|rg<|rr 1 ?_;refine rn<|rt ?_;cases hm;exact⟨_,.cons (.tmp rfl) .nil,rfl,(o.taken 0)⟩
   ·refine sp<|sq<|sq<|rg<|rr 1 ?_;refine l1 ((o.bring 1 rfl).box) 3 ?_;refine rr 1 ?_;refine l1 ((o.bring 0 rfl).box) 3 ?_;obtain⟨A0,a0,hm⟩:=bS hm;refine ca zhP (laws_eqInt64S_ok (hE.trans o.ext) h3 i0 a0) (fun C0 G0 H=>?_);obtain⟨rfl,O⟩:=H;have q:=o.join O;refine rr 1 ?_;refine rn<|ci hm (fun hm=>?_) (fun hm=>?_)
    ·refine sq<|rg<|rr 1 ?_;refine rn<|rt ?_;cases hm;exact⟨_,.cons (.tmp rfl) .nil,rfl,(q.taken 0)⟩
    ·refine sp<|sq<|sq<|rg<|rr 1 ?_;refine l1 ((q.bring 1 rfl).box) 4 ?_;refine rr 1 ?_;refine l1 ((q.bring 0 rfl).box) 4 ?_;obtain⟨B0,b0,hm⟩:=bS hm;refine ca zkb (laws_eqAddressS_ok (hE.trans q.ext) h6 j0 b0) (fun D0 H0 X=>?_);obtain⟨rfl,Y⟩:=X;have G:=q.join Y;refine rr 1 ?_;refine rn<|ci hm (fun hm=>?_) (fun hm=>?_)
     ·refine sq<|rg<|rr 1 ?_;refine rn<|rt ?_;cases hm;exact⟨_,.cons (.tmp rfl) .nil,rfl,(G.taken 0)⟩
     ·refine sp<|sq<|rg<|rr 1 ?_;refine rn<|rt ?_;cases hm;exact⟨_,.cons (.tmp rfl) .nil,rfl,(G.taken 0)⟩

theorem zkU:Enters Tryz.prog 164:=⟨_,_,Tryz.func164,rfl,by kernel_rfl⟩
def z7U (fuel:Nat) (t2:Unit):Option Bool:=some true
def z3V (fuel:Nat) (x0:(List D.ShardCell)) (x1:(List D.ShardCell)) (s1:Int):Option (Rd (Int) (Unit) (Bool)):=(if(decide (s1<(x0.length:Int)))=true then((idx x0 s1).bind fun q=>((idx x1 s1).bind fun G=>((z4w fuel q G).bind fun o=>(if(!o)=true then some (.ret false) else some (.next (w64 (s1+1))))))) else some (.brk ()))
def z3P (fuel:Nat) (x0:(List D.ShardCell)) (x1:(List D.ShardCell)):Option (Bool):=(if((x0.length:Int) != (x1.length:Int))=true then some false else((iter (z3V fuel x0 x1) fuel 0).bind fun o=>aft o (z7U fuel)))

theorem laws_eqShardCellS_ok {W:Base}{w:World}(hE:Ext W w){b0:Option Addr}{r0:Nat}{x0:(List D.ShardCell)}{c0:Option Addr}{t0:Nat}{x1:(List D.ShardCell)}(C0:ty81.ro W [sl b0 x0 r0] x0) (D0:ty81.ro W [sl c0 x1 t0] x1){fuel:Nat}{r:Bool}(hm:z3P fuel x0 x1=some r):
  Calls Tryz.prog 164 ⟨[sl b0 x0 r0,sl c0 x1 t0]⟩ w (Ret fun v w8=>v=.bool r∧St w w8 []):=by
 refine into Tryz.func164 27 _ ?_;unfold z3P at hm;have hS:=St.start w;refine sq<|rg<|rr 1 ?_;refine rn<|sq<|sq<|rg<|rr 5 ?_;refine rn<|ci hm (fun hm=>?_) (fun hm=>?_)
 ·refine sq<|rg<|rr 1 ?_;refine rn<|rt ?_;cases hm;exact⟨_,.cons (.tmp rfl) .nil,rfl,hS⟩
 ·refine sp<|sq<|sq<|rg<|rr 1 ?_;refine rn ?_;obtain⟨E0,j0,hm⟩:=bS hm;refine ct (fun(t2:Unit) F w9=>E0=.inl t2∧Ext w w9∧St w w9 []∧F=[]) ?_ ?_
  ·rintro t2 F w7 ⟨k0,O0,f0,rfl⟩;subst k0;rw [z6] at hm;unfold z7U at hm;refine sq<|rg<|rr 1 ?_;refine rn<|rt ?_;cases hm;exact⟨_,.cons (.tmp rfl) .nil,rfl,f0⟩
  ·refine bk<|wk [0,1,5] ?_;refine it (fun(s1:Int) F w9=>Ext w w9∧St w w9 []∧F=[(0,sl b0 x0 r0),(1,sl c0 x1 t0),(5,.int .i64 s1)]) j0 ⟨(Ext.refl _),hS,rfl⟩ ?_;rintro s1 F a1 _ T0 ⟨u0,G,rfl⟩ o Y;unfold z3V at o;refine sq<|sq<|rg<|rr 4 ?_;refine rn<|ci o (fun o=>?_) (fun o=>?_)
   ·refine sp<|sq<|bk<|sq<|dn 0 mixed 10 [([],1023),([],1023),([0,1],1020),([2],1019),([],1023),([],1023),([4,5],975),([6],959),([3,7],887),([8],767)] G.ext (fun q=>?_);have O:=G.step (Ext.draw _);refine dr 6 q [0,1,4,5] ?_;obtain⟨d1,o0,o⟩:=bS o;refine dx (hE.trans G.ext) q 2 C0 o0 (fun U0 A0 g0 Z=>?_);obtain⟨F0,P0,G0,Q0,v0,K0,L0⟩:=zt Z;subst v0;refine dL q 3 (At.ext (hE.trans G.ext) g0) ?_;obtain⟨e1,p0,o⟩:=bS o;refine dx (hE.trans G.ext) q 6 D0 p0 (fun V0 B0 i0 a0=>?_);obtain⟨H0,R0,J0,S0,y0,M0,N0⟩:=zt a0;subst y0;refine dL q 7 (At.ext (hE.trans G.ext) i0) ?_;obtain⟨X0,q0,o⟩:=bS o;refine o1 q 8 (mc q zkw (laws_eqShardCell_ok (hE.trans O.ext) Z a0 q0) (fun Y0 b1 e0=>?_));obtain⟨rfl,H⟩:=e0;refine⟨H.ext,?_⟩;have X:=O.join H;refine dr 0 q [9] ?_;refine dw [0,1,5,26] ?_;refine dd q ?_;refine ci o (fun o=>?_) (fun o=>?_)
    ·refine sq<|rg<|rr 1 ?_;refine rn<|rt ?_;cases o;cases Y;have hm:some _=some _:=hm;cases hm;exact⟨_,.cons (.tmp rfl) .nil,rfl,X⟩
    ·refine sp<|rg<|rr 3 ?_;refine rn ?_;cases o;exact⟨_,_,rfl,⟨((u0.trans (Ext.draw _)).trans H.ext),X,rfl⟩,rfl⟩
   ·refine xt ?_;cases o;exact⟨_,_,⟨Y,u0,G,rfl⟩,rfl⟩

theorem zkv:Enters Tryz.prog 211:=⟨_,_,Tryz.func211,rfl,by kernel_rfl⟩
def z5g (fuel:Nat) (x0:D.ShardVar) (x1:D.ShardVar):Option (Bool):=(if(!(x0.Used == x1.Used))=true then some false else(if(!(x0.Full == x1.Full))=true then some false else((z1L fuel x0.Held x1.Held).bind fun o=>(if(!o)=true then some false else some true))))

theorem laws_eqShardVar_ok {W:Base}{w:World}(hE:Ext W w){X:List Value}{x0:D.ShardVar}{Y:List Value}{x1:D.ShardVar}(Z:z9R.ro W X x0) (a0:z9R.ro W Y x1){fuel:Nat}{r:Bool}(hm:z5g fuel x0 x1=some r):
  Calls Tryz.prog 211 ⟨[.agg ⟨X⟩,.agg ⟨Y⟩]⟩ w (Ret fun v w8=>v=.bool r∧St w w8 []):=by
 have e1:=z1O Z;subst e1;have e2:=z1O a0;subst e2;refine into Tryz.func211 21 _ ?_;unfold z5g at hm;have hS:=St.start w;refine sq<|rg<|nw hS (fun g3 w4 e5 b0=>?_);refine nw b0 (fun g7 g0 c0 o=>?_);refine rr 1 ?_;refine rn<|sq<|sq<|rg<|rr 1 ?_;refine l1 ((o.bring 1 rfl).box) 0 ?_;refine rr 1 ?_;refine l1 ((o.bring 0 rfl).box) 0 ?_;refine rr 1 ?_;refine rn<|ci hm (fun hm=>?_) (fun hm=>?_)
 ·refine sq<|rg<|rr 1 ?_;refine rn<|rt ?_;cases hm;exact⟨_,.cons (.tmp rfl) .nil,rfl,(o.taken 0)⟩
 ·refine sp<|sq<|sq<|rg<|rr 1 ?_;refine l1 ((o.bring 1 rfl).box) 1 ?_;refine rr 1 ?_;refine l1 ((o.bring 0 rfl).box) 1 ?_;refine rr 1 ?_;refine rn<|ci hm (fun hm=>?_) (fun hm=>?_)
  ·refine sq<|rg<|rr 1 ?_;refine rn<|rt ?_;cases hm;exact⟨_,.cons (.tmp rfl) .nil,rfl,(o.taken 0)⟩
  ·refine sp<|sq<|sq<|rg<|rr 1 ?_;refine lN (At.sub ((o.bring 1 rfl).box) 2 3) ?_;refine rr 1 ?_;refine lN (At.sub ((o.bring 0 rfl).box) 2 3) ?_;obtain⟨e0,O,hm⟩:=bS hm;refine ca zbu (laws_eqAddress_ok (hE.trans o.ext) (zO x0.Held) (zO x1.Held) O) (fun f0 i0 G=>?_);obtain⟨rfl,H⟩:=G;have q:=o.join H;refine rr 1 ?_;refine rn<|ci hm (fun hm=>?_) (fun hm=>?_)
   ·refine sq<|rg<|rr 1 ?_;refine rn<|rt ?_;cases hm;exact⟨_,.cons (.tmp rfl) .nil,rfl,(q.taken 0)⟩
   ·refine sp<|sq<|rg<|rr 1 ?_;refine rn<|rt ?_;cases hm;exact⟨_,.cons (.tmp rfl) .nil,rfl,(q.taken 0)⟩

theorem zkT:Enters Tryz.prog 165:=⟨_,_,Tryz.func165,rfl,by kernel_rfl⟩
def z8f (fuel:Nat) (t2:Unit):Option Bool:=some true
def z4u (fuel:Nat) (x0:(List D.ShardVar)) (x1:(List D.ShardVar)) (s1:Int):Option (Rd (Int) (Unit) (Bool)):=(if(decide (s1<(x0.length:Int)))=true then((idx x0 s1).bind fun q=>((idx x1 s1).bind fun G=>((z5g fuel q G).bind fun o=>(if(!o)=true then some (.ret false) else some (.next (w64 (s1+1))))))) else some (.brk ()))
def z4v (fuel:Nat) (x0:(List D.ShardVar)) (x1:(List D.ShardVar)):Option (Bool):=(if((x0.length:Int) != (x1.length:Int))=true then some false else((iter (z4u fuel x0 x1) fuel 0).bind fun o=>aft o (z8f fuel)))

theorem laws_eqShardVarS_ok {W:Base}{w:World}(hE:Ext W w){b0:Option Addr}{r0:Nat}{x0:(List D.ShardVar)}{c0:Option Addr}{t0:Nat}{x1:(List D.ShardVar)}(C0:z8V.ro W [sl b0 x0 r0] x0) (D0:z8V.ro W [sl c0 x1 t0] x1){fuel:Nat}{r:Bool}(hm:z4v fuel x0 x1=some r):
  Calls Tryz.prog 165 ⟨[sl b0 x0 r0,sl c0 x1 t0]⟩ w (Ret fun v w8=>v=.bool r∧St w w8 []):=by
 refine into Tryz.func165 27 _ ?_;unfold z4v at hm;have hS:=St.start w;refine sq<|rg<|rr 1 ?_;refine rn<|sq<|sq<|rg<|rr 5 ?_;refine rn<|ci hm (fun hm=>?_) (fun hm=>?_)
 ·refine sq<|rg<|rr 1 ?_;refine rn<|rt ?_;cases hm;exact⟨_,.cons (.tmp rfl) .nil,rfl,hS⟩
 ·refine sp<|sq<|sq<|rg<|rr 1 ?_;refine rn ?_;obtain⟨E0,j0,hm⟩:=bS hm;refine ct (fun(t2:Unit) F w9=>E0=.inl t2∧Ext w w9∧St w w9 []∧F=[]) ?_ ?_
  ·rintro t2 F w7 ⟨k0,F0,f0,rfl⟩;subst k0;rw [z6] at hm;unfold z8f at hm;refine sq<|rg<|rr 1 ?_;refine rn<|rt ?_;cases hm;exact⟨_,.cons (.tmp rfl) .nil,rfl,f0⟩
  ·refine bk<|wk [0,1,5] ?_;refine it (fun(s1:Int) F w9=>Ext w w9∧St w w9 []∧F=[(0,sl b0 x0 r0),(1,sl c0 x1 t0),(5,.int .i64 s1)]) j0 ⟨(Ext.refl _),hS,rfl⟩ ?_;rintro s1 F M0 _ G0 ⟨u0,G,rfl⟩ o Y;unfold z4u at o;refine sq<|sq<|rg<|rr 4 ?_;refine rn<|ci o (fun o=>?_) (fun o=>?_)
   ·refine sp<|sq<|bk<|sq<|dn 0 mixed 10 [([],1023),([],1023),([0,1],1020),([2],1019),([],1023),([],1023),([4,5],975),([6],959),([3,7],887),([8],767)] G.ext (fun q=>?_);have O:=G.step (Ext.draw _);refine dr 6 q [0,1,4,5] ?_;obtain⟨O0,o0,o⟩:=bS o;refine dx (hE.trans G.ext) q 2 C0 o0 (fun H0 A0 g0 Z=>?_);have v0:=z1O Z;subst v0;refine dL q 3 (At.ext (hE.trans G.ext) g0) ?_;obtain⟨P0,p0,o⟩:=bS o;refine dx (hE.trans G.ext) q 6 D0 p0 (fun J0 B0 i0 a0=>?_);have y0:=z1O a0;subst y0;refine dL q 7 (At.ext (hE.trans G.ext) i0) ?_;obtain⟨K0,q0,o⟩:=bS o;refine o1 q 8 (mc q zkv (laws_eqShardVar_ok (hE.trans O.ext) Z a0 q0) (fun L0 N0 e0=>?_));obtain⟨rfl,H⟩:=e0;refine⟨H.ext,?_⟩;have X:=O.join H;refine dr 0 q [9] ?_;refine dw [0,1,5,26] ?_;refine dd q ?_;refine ci o (fun o=>?_) (fun o=>?_)
    ·refine sq<|rg<|rr 1 ?_;refine rn<|rt ?_;cases o;cases Y;have hm:some _=some _:=hm;cases hm;exact⟨_,.cons (.tmp rfl) .nil,rfl,X⟩
    ·refine sp<|rg<|rr 3 ?_;refine rn ?_;cases o;exact⟨_,_,rfl,⟨((u0.trans (Ext.draw _)).trans H.ext),X,rfl⟩,rfl⟩
   ·refine xt ?_;cases o;exact⟨_,_,⟨Y,u0,G,rfl⟩,rfl⟩

theorem zku:Enters Tryz.prog 212:=⟨_,_,Tryz.func212,rfl,by kernel_rfl⟩
def z3O (fuel:Nat) (x0:D.ShardRedex) (x1:D.ShardRedex):Option (Bool):=((z1L fuel x0.A x1.A).bind fun o=>(if(!o)=true then some false else((z1L fuel x0.B x1.B).bind fun q=>(if(!q)=true then some false else some true))))

theorem laws_eqShardRedex_ok {W:Base}{w:World}(hE:Ext W w){b0:List Value}{x0:D.ShardRedex}{c0:List Value}{x1:D.ShardRedex}(e0:zbC.ro W b0 x0) (f0:zbC.ro W c0 x1){fuel:Nat}{r:Bool}(hm:z3O fuel x0 x1=some r):
  Calls Tryz.prog 212 ⟨[.agg ⟨b0⟩,.agg ⟨c0⟩]⟩ w (Ret fun v w8=>v=.bool r∧St w w8 []):=by
 have e1:=z6A e0;subst e1;have e2:=z6A f0;subst e2;refine into Tryz.func212 17 _ ?_;unfold z3O at hm;have hS:=St.start w;refine sq<|rg<|nw hS (fun g3 w4 e5 g0=>?_);refine nw g0 (fun g7 q0 i0 q=>?_);refine rr 1 ?_;refine rn<|sq<|sq<|rg<|rr 1 ?_;refine lN (At.sub ((q.bring 1 rfl).box) 0 3) ?_;refine rr 1 ?_;refine lN (At.sub ((q.bring 0 rfl).box) 0 3) ?_;obtain⟨j0,Z,hm⟩:=bS hm;refine ca zbu (laws_eqAddress_ok (hE.trans q.ext) (zO x0.A) (zO x1.A) Z) (fun o0 r0 H=>?_);obtain⟨rfl,O⟩:=H;have o:=q.join O;refine rr 1 ?_;refine rn<|ci hm (fun hm=>?_) (fun hm=>?_)
 ·refine sq<|rg<|rr 1 ?_;refine rn<|rt ?_;cases hm;exact⟨_,.cons (.tmp rfl) .nil,rfl,(o.taken 0)⟩
 ·refine sp<|sq<|sq<|rg<|rr 1 ?_;refine lN (At.sub ((o.bring 1 rfl).box) 3 3) ?_;refine rr 1 ?_;refine lN (At.sub ((o.bring 0 rfl).box) 3 3) ?_;obtain⟨k0,a0,hm⟩:=bS hm;refine ca zbu (laws_eqAddress_ok (hE.trans o.ext) (zO x0.B) (zO x1.B) a0) (fun p0 t0 X=>?_);obtain⟨rfl,Y⟩:=X;have G:=o.join Y;refine rr 1 ?_;refine rn<|ci hm (fun hm=>?_) (fun hm=>?_)
  ·refine sq<|rg<|rr 1 ?_;refine rn<|rt ?_;cases hm;exact⟨_,.cons (.tmp rfl) .nil,rfl,(G.taken 0)⟩
  ·refine sp<|sq<|rg<|rr 1 ?_;refine rn<|rt ?_;cases hm;exact⟨_,.cons (.tmp rfl) .nil,rfl,(G.taken 0)⟩

theorem zkS:Enters Tryz.prog 166:=⟨_,_,Tryz.func166,rfl,by kernel_rfl⟩
def z7C (fuel:Nat) (t2:Unit):Option Bool:=some true
def z3m (fuel:Nat) (x0:(List D.ShardRedex)) (x1:(List D.ShardRedex)) (s1:Int):Option (Rd (Int) (Unit) (Bool)):=(if(decide (s1<(x0.length:Int)))=true then((idx x0 s1).bind fun q=>((idx x1 s1).bind fun G=>((z3O fuel q G).bind fun o=>(if(!o)=true then some (.ret false) else some (.next (w64 (s1+1))))))) else some (.brk ()))
def z38 (fuel:Nat) (x0:(List D.ShardRedex)) (x1:(List D.ShardRedex)):Option (Bool):=(if((x0.length:Int) != (x1.length:Int))=true then some false else((iter (z3m fuel x0 x1) fuel 0).bind fun o=>aft o (z7C fuel)))

theorem laws_eqShardRedexS_ok {W:Base}{w:World}(hE:Ext W w){b0:Option Addr}{r0:Nat}{x0:(List D.ShardRedex)}{c0:Option Addr}{t0:Nat}{x1:(List D.ShardRedex)}(C0:z9s.ro W [sl b0 x0 r0] x0) (D0:z9s.ro W [sl c0 x1 t0] x1){fuel:Nat}{r:Bool}(hm:z38 fuel x0 x1=some r):
  Calls Tryz.prog 166 ⟨[sl b0 x0 r0,sl c0 x1 t0]⟩ w (Ret fun v w8=>v=.bool r∧St w w8 []):=by
 refine into Tryz.func166 27 _ ?_;unfold z38 at hm;have hS:=St.start w;refine sq<|rg<|rr 1 ?_;refine rn<|sq<|sq<|rg<|rr 5 ?_;refine rn<|ci hm (fun hm=>?_) (fun hm=>?_)
 ·refine sq<|rg<|rr 1 ?_;refine rn<|rt ?_;cases hm;exact⟨_,.cons (.tmp rfl) .nil,rfl,hS⟩
 ·refine sp<|sq<|sq<|rg<|rr 1 ?_;refine rn ?_;obtain⟨E0,j0,hm⟩:=bS hm;refine ct (fun(t2:Unit) F w9=>E0=.inl t2∧Ext w w9∧St w w9 []∧F=[]) ?_ ?_
  ·rintro t2 F w7 ⟨k0,F0,f0,rfl⟩;subst k0;rw [z6] at hm;unfold z7C at hm;refine sq<|rg<|rr 1 ?_;refine rn<|rt ?_;cases hm;exact⟨_,.cons (.tmp rfl) .nil,rfl,f0⟩
  ·refine bk<|wk [0,1,5] ?_;refine it (fun(s1:Int) F w9=>Ext w w9∧St w w9 []∧F=[(0,sl b0 x0 r0),(1,sl c0 x1 t0),(5,.int .i64 s1)]) j0 ⟨(Ext.refl _),hS,rfl⟩ ?_;rintro s1 F M0 _ G0 ⟨u0,G,rfl⟩ o Y;unfold z3m at o;refine sq<|sq<|rg<|rr 4 ?_;refine rn<|ci o (fun o=>?_) (fun o=>?_)
   ·refine sp<|sq<|bk<|sq<|dn 0 mixed 10 [([],1023),([],1023),([0,1],1020),([2],1019),([],1023),([],1023),([4,5],975),([6],959),([3,7],887),([8],767)] G.ext (fun q=>?_);have O:=G.step (Ext.draw _);refine dr 6 q [0,1,4,5] ?_;obtain⟨O0,o0,o⟩:=bS o;refine dx (hE.trans G.ext) q 2 C0 o0 (fun H0 A0 g0 Z=>?_);have v0:=z6A Z;subst v0;refine dL q 3 (At.ext (hE.trans G.ext) g0) ?_;obtain⟨P0,p0,o⟩:=bS o;refine dx (hE.trans G.ext) q 6 D0 p0 (fun J0 B0 i0 a0=>?_);have y0:=z6A a0;subst y0;refine dL q 7 (At.ext (hE.trans G.ext) i0) ?_;obtain⟨K0,q0,o⟩:=bS o;refine o1 q 8 (mc q zku (laws_eqShardRedex_ok (hE.trans O.ext) Z a0 q0) (fun L0 N0 e0=>?_));obtain⟨rfl,H⟩:=e0;refine⟨H.ext,?_⟩;have X:=O.join H;refine dr 0 q [9] ?_;refine dw [0,1,5,26] ?_;refine dd q ?_;refine ci o (fun o=>?_) (fun o=>?_)
    ·refine sq<|rg<|rr 1 ?_;refine rn<|rt ?_;cases o;cases Y;have hm:some _=some _:=hm;cases hm;exact⟨_,.cons (.tmp rfl) .nil,rfl,X⟩
    ·refine sp<|rg<|rr 3 ?_;refine rn ?_;cases o;exact⟨_,_,rfl,⟨((u0.trans (Ext.draw _)).trans H.ext),X,rfl⟩,rfl⟩
   ·refine xt ?_;cases o;exact⟨_,_,⟨Y,u0,G,rfl⟩,rfl⟩

theorem zmm:Enters Tryz.prog 105:=⟨_,_,Tryz.func105,rfl,by kernel_rfl⟩
def z6R (fuel:Nat) (x0:D.Shard) (x1:D.Shard):Option (Bool):=((z3P fuel x0.Cells x1.Cells).bind fun o=>(if(!o)=true then some false else((z4v fuel x0.Vars x1.Vars).bind fun q=>(if(!q)=true then some false else((z38 fuel x0.Redexes x1.Redexes).bind fun G=>(if(!G)=true then some false else some true))))))

theorem laws_eqShard_ok {W:Base}{w:World}(hE:Ext W w){i0:List Value}{x0:D.Shard}{j0:List Value}{x1:D.Shard}(p0:z9W.ro W i0 x0) (u0:z9W.ro W j0 x1){fuel:Nat}{r:Bool}(hm:z6R fuel x0 x1=some r):
  Calls Tryz.prog 105 ⟨[.agg ⟨i0⟩,.agg ⟨j0⟩]⟩ w (Ret fun v w8=>v=.bool r∧St w w8 []):=by
 obtain⟨A1,k2,A4,k5,A7,G0,k0,h3,h6,q0⟩:=z18 p0;subst k0;obtain⟨y0,H0,A0,J0,B0,K0,o0,r0,t0,v0⟩:=z18 u0;subst o0;refine into Tryz.func105 23 _ ?_;unfold z6R at hm;have hS:=St.start w;refine sq<|rg<|nw hS (fun E0 R0 C0 c0=>?_);refine nw c0 (fun F0 S0 D0 G=>?_);refine rr 1 ?_;refine rn<|sq<|sq<|rg<|rr 1 ?_;refine l1 ((G.bring 1 rfl).box) 0 ?_;refine rr 1 ?_;refine l1 ((G.bring 0 rfl).box) 0 ?_;obtain⟨L0,e0,hm⟩:=bS hm;refine ca zkU (laws_eqShardCellS_ok (hE.trans G.ext) h3 r0 e0) (fun O0 T0 O=>?_);obtain⟨rfl,X⟩:=O;have o:=G.join X;refine rr 1 ?_;refine rn<|ci hm (fun hm=>?_) (fun hm=>?_)
 ·refine sq<|rg<|rr 1 ?_;refine rn<|rt ?_;cases hm;exact⟨_,.cons (.tmp rfl) .nil,rfl,(o.taken 0)⟩
 ·refine sp<|sq<|sq<|rg<|rr 1 ?_;refine l1 ((o.bring 1 rfl).box) 1 ?_;refine rr 1 ?_;refine l1 ((o.bring 0 rfl).box) 1 ?_;obtain⟨M0,f0,hm⟩:=bS hm;refine ca zkT (laws_eqShardVarS_ok (hE.trans o.ext) h6 t0 f0) (fun P0 U0 Y=>?_);obtain⟨rfl,Z⟩:=Y;have q:=o.join Z;refine rr 1 ?_;refine rn<|ci hm (fun hm=>?_) (fun hm=>?_)
  ·refine sq<|rg<|rr 1 ?_;refine rn<|rt ?_;cases hm;exact⟨_,.cons (.tmp rfl) .nil,rfl,(q.taken 0)⟩
  ·refine sp<|sq<|sq<|rg<|rr 1 ?_;refine l1 ((q.bring 1 rfl).box) 2 ?_;refine rr 1 ?_;refine l1 ((q.bring 0 rfl).box) 2 ?_;obtain⟨N0,g0,hm⟩:=bS hm;refine ca zkS (laws_eqShardRedexS_ok (hE.trans q.ext) q0 v0 g0) (fun Q0 V0 a0=>?_);obtain⟨rfl,b0⟩:=a0;have H:=q.join b0;refine rr 1 ?_;refine rn<|ci hm (fun hm=>?_) (fun hm=>?_)
   ·refine sq<|rg<|rr 1 ?_;refine rn<|rt ?_;cases hm;exact⟨_,.cons (.tmp rfl) .nil,rfl,(H.taken 0)⟩
   ·refine sp<|sq<|rg<|rr 1 ?_;refine rn<|rt ?_;cases hm;exact⟨_,.cons (.tmp rfl) .nil,rfl,(H.taken 0)⟩

theorem znO:Enters Tryz.prog 45:=⟨_,_,Tryz.func45,rfl,by kernel_rfl⟩
def z96 (fuel:Nat) (t2:Unit):Option Bool:=some true
def z62 (fuel:Nat) (x0:(List D.Shard)) (x1:(List D.Shard)) (s1:Int):Option (Rd (Int) (Unit) (Bool)):=(if(decide (s1<(x0.length:Int)))=true then((idx x0 s1).bind fun q=>((idx x1 s1).bind fun G=>((z6R fuel q G).bind fun o=>(if(!o)=true then some (.ret false) else some (.next (w64 (s1+1))))))) else some (.brk ()))
def z6r (fuel:Nat) (x0:(List D.Shard)) (x1:(List D.Shard)):Option (Bool):=(if((x0.length:Int) != (x1.length:Int))=true then some false else((iter (z62 fuel x0 x1) fuel 0).bind fun o=>aft o (z96 fuel)))

theorem laws_eqShardS_ok {W:Base}{w:World}(hE:Ext W w){b0:Option Addr}{r0:Nat}{x0:(List D.Shard)}{c0:Option Addr}{t0:Nat}{x1:(List D.Shard)}(C0:ty33.ro W [sl b0 x0 r0] x0) (D0:ty33.ro W [sl c0 x1 t0] x1){fuel:Nat}{r:Bool}(hm:z6r fuel x0 x1=some r):
  Calls Tryz.prog 45 ⟨[sl b0 x0 r0,sl c0 x1 t0]⟩ w (Ret fun v w8=>v=.bool r∧St w w8 []):=by
 refine into Tryz.func45 27 _ ?_;unfold z6r at hm;have hS:=St.start w;refine sq<|rg<|rr 1 ?_;refine rn<|sq<|sq<|rg<|rr 5 ?_;refine rn<|ci hm (fun hm=>?_) (fun hm=>?_)
 ·refine sq<|rg<|rr 1 ?_;refine rn<|rt ?_;cases hm;exact⟨_,.cons (.tmp rfl) .nil,rfl,hS⟩
 ·refine sp<|sq<|sq<|rg<|rr 1 ?_;refine rn ?_;obtain⟨E0,j0,hm⟩:=bS hm;refine ct (fun(t2:Unit) F w9=>E0=.inl t2∧Ext w w9∧St w w9 []∧F=[]) ?_ ?_
  ·rintro t2 F w7 ⟨k0,S0,f0,rfl⟩;subst k0;rw [z6] at hm;unfold z96 at hm;refine sq<|rg<|rr 1 ?_;refine rn<|rt ?_;cases hm;exact⟨_,.cons (.tmp rfl) .nil,rfl,f0⟩
  ·refine bk<|wk [0,1,5] ?_;refine it (fun(s1:Int) F w9=>Ext w w9∧St w w9 []∧F=[(0,sl b0 x0 r0),(1,sl c0 x1 t0),(5,.int .i64 s1)]) j0 ⟨(Ext.refl _),hS,rfl⟩ ?_;rintro s1 F i1 _ b1 ⟨u0,G,rfl⟩ o Y;unfold z62 at o;refine sq<|sq<|rg<|rr 4 ?_;refine rn<|ci o (fun o=>?_) (fun o=>?_)
   ·refine sp<|sq<|bk<|sq<|dn 0 mixed 10 [([],1023),([],1023),([0,1],1020),([2],1019),([],1023),([],1023),([4,5],975),([6],959),([3,7],887),([8],767)] G.ext (fun q=>?_);have O:=G.step (Ext.draw _);refine dr 6 q [0,1,4,5] ?_;obtain⟨m1,o0,o⟩:=bS o;refine dx (hE.trans G.ext) q 2 C0 o0 (fun d1 A0 g0 Z=>?_);obtain⟨F0,T0,G0,U0,H0,V0,v0,M0,N0,O0⟩:=z18 Z;subst v0;refine dL q 3 (At.ext (hE.trans G.ext) g0) ?_;obtain⟨n1,p0,o⟩:=bS o;refine dx (hE.trans G.ext) q 6 D0 p0 (fun e1 B0 i0 a0=>?_);obtain⟨J0,X0,K0,Y0,L0,a1,y0,P0,Q0,R0⟩:=z18 a0;subst y0;refine dL q 7 (At.ext (hE.trans G.ext) i0) ?_;obtain⟨f1,q0,o⟩:=bS o;refine o1 q 8 (mc q zmm (laws_eqShard_ok (hE.trans O.ext) Z a0 q0) (fun g1 j1 e0=>?_));obtain⟨rfl,H⟩:=e0;refine⟨H.ext,?_⟩;have X:=O.join H;refine dr 0 q [9] ?_;refine dw [0,1,5,26] ?_;refine dd q ?_;refine ci o (fun o=>?_) (fun o=>?_)
    ·refine sq<|rg<|rr 1 ?_;refine rn<|rt ?_;cases o;cases Y;have hm:some _=some _:=hm;cases hm;exact⟨_,.cons (.tmp rfl) .nil,rfl,X⟩
    ·refine sp<|rg<|rr 3 ?_;refine rn ?_;cases o;exact⟨_,_,rfl,⟨((u0.trans (Ext.draw _)).trans H.ext),X,rfl⟩,rfl⟩
   ·refine xt ?_;cases o;exact⟨_,_,⟨Y,u0,G,rfl⟩,rfl⟩

theorem zo0:Enters Tryz.prog 12:=⟨_,_,Tryz.func12,rfl,by kernel_rfl⟩
def z7E (fuel:Nat) (x0:D.Grid) (x1:D.Grid):Option (Bool):=((z6r fuel x0.Shards x1.Shards).bind fun o=>(if(!o)=true then some false else((z1L fuel x0.Root x1.Root).bind fun q=>(if(!q)=true then some false else some true))))

theorem laws_eqGrid_ok {W:Base}{w:World}(hE:Ext W w){c0:List Value}{x0:D.Grid}{e0:List Value}{x1:D.Grid}(g0:ty36.ro W c0 x0) (i0:ty36.ro W e0 x1){fuel:Nat}{r:Bool}(hm:z7E fuel x0 x1=some r):
  Calls Tryz.prog 12 ⟨[.agg ⟨c0⟩,.agg ⟨e0⟩]⟩ w (Ret fun v w8=>v=.bool r∧St w w8 []):=by
 obtain⟨A1,k2,e4,h3⟩:=z2d g0;subst e4;obtain⟨A5,k6,f0,h7⟩:=z2d i0;subst f0;refine into Tryz.func12 17 _ ?_;unfold z7E at hm;have hS:=St.start w;refine sq<|rg<|nw hS (fun o0 v0 j0 Z=>?_);refine nw Z (fun p0 y0 k0 q=>?_);refine rr 1 ?_;refine rn<|sq<|sq<|rg<|rr 1 ?_;refine l1 ((q.bring 1 rfl).box) 0 ?_;refine rr 1 ?_;refine l1 ((q.bring 0 rfl).box) 0 ?_;obtain⟨q0,a0,hm⟩:=bS hm;refine ca znO (laws_eqShardS_ok (hE.trans q.ext) h3 h7 a0) (fun t0 A0 H=>?_);obtain⟨rfl,O⟩:=H;have o:=q.join O;refine rr 1 ?_;refine rn<|ci hm (fun hm=>?_) (fun hm=>?_)
 ·refine sq<|rg<|rr 1 ?_;refine rn<|rt ?_;cases hm;exact⟨_,.cons (.tmp rfl) .nil,rfl,(o.taken 0)⟩
 ·refine sp<|sq<|sq<|rg<|rr 1 ?_;refine lN (At.sub ((o.bring 1 rfl).box) 1 3) ?_;refine rr 1 ?_;refine lN (At.sub ((o.bring 0 rfl).box) 1 3) ?_;obtain⟨r0,b0,hm⟩:=bS hm;refine ca zbu (laws_eqAddress_ok (hE.trans o.ext) (zO x0.Root) (zO x1.Root) b0) (fun u0 B0 X=>?_);obtain⟨rfl,Y⟩:=X;have G:=o.join Y;refine rr 1 ?_;refine rn<|ci hm (fun hm=>?_) (fun hm=>?_)
  ·refine sq<|rg<|rr 1 ?_;refine rn<|rt ?_;cases hm;exact⟨_,.cons (.tmp rfl) .nil,rfl,(G.taken 0)⟩
  ·refine sp<|sq<|rg<|rr 1 ?_;refine rn<|rt ?_;cases hm;exact⟨_,.cons (.tmp rfl) .nil,rfl,(G.taken 0)⟩

theorem zhO:Enters Tryz.prog 28:=⟨_,_,Tryz.func28,rfl,by kernel_rfl⟩
def z8r (fuel:Nat) (t2:Int × (List Int)):Option (Int × (List Int)):=some (t2.1,t2.2)
def z4K (fuel:Nat) (x0:(List Int)) (s1:Int × Int × (List Int)):Option (Rd (Int × Int × (List Int)) (Int × (List Int)) (Int × (List Int))):=(if(decide (s1.2.1<(x0.length:Int)))=true then(if decide (0≤s1.2.1∧s1.2.1.toNat<s1.2.2.length)=true then some (.next (w64 (s1.1+1),w64 (s1.2.1+1),(s1.2.2.set s1.2.1.toNat s1.1))) else none) else some (.brk (s1.1,s1.2.2)))
def z3r (fuel:Nat) (x0:(List Int)) (x1:Int):Option (Int × (List Int)):=((iter (z4K fuel x0) fuel (x1,0,x0)).bind fun o=>aft o (z8r fuel))

theorem laws_markInt64S_ok {W:Base}{w:World}{RR:List Res}{G:Option Addr}{H:Nat}{x0:(List Int)}{x1:Int}(hS:St W w (ow ty45 G x0 H::RR)){fuel:Nat}{r:Int × (List Int)}(hm:z3r fuel x0 x1=some r):
  Calls Tryz.prog 28 ⟨[sl G x0 H,.int .i64 x1]⟩ w (Ret fun v w8=>v=.int .i64 r.1∧St W w8 (Own ty45 [sl G x0 H] r.2::RR)):=by
 refine into Tryz.func28 19 _ ?_;unfold z3r at hm;refine sq<|rg<|rr 1 ?_;refine rn<|sq<|sq<|rg<|rr 1 ?_;refine rn ?_;obtain⟨o5,g0,hm⟩:=bS hm;refine ct (fun(t2:Int × (List Int)) F w9=>o5=.inl t2∧St W w9 (Own ty45 [sl G x0 H] t2.2::RR)∧F=[(1,.int .i64 t2.1)]) ?_ ?_
 ·rintro t2 F w4 ⟨c0,f0,rfl⟩;subst c0;rw [z6] at hm;unfold z8r at hm;refine sq<|rg<|rr 2 ?_;refine rn<|rt ?_;cases hm;exact⟨_,.cons (.tmp rfl) .nil,rfl,f0⟩
 ·refine bk<|wk [0,1,5] ?_;refine it (fun(s1:Int × Int × (List Int)) F w9=>St W w9 (Own ty45 [sl G x0 H] s1.2.2::RR)∧F=[(0,sl G x0 H),(1,.int .i64 s1.1),(5,.int .i64 s1.2.1)]) g0 ⟨hS,rfl⟩ ?_;rintro s1 F j0 _ i0 ⟨O,rfl⟩ o e0;unfold z4K at o;refine sq<|sq<|rg<|rr 4 ?_;refine rn<|ci o (fun o=>?_) (fun o=>?_)
  ·refine sp<|sq<|bk<|sq<|rg<|rr 3 ?_;have X:=O.bring 0 rfl;obtain⟨b0,o⟩:=iS o;have q:=of_decide_eq_true b0;refine io X q.1 q.2 (fun q19 hq20=>?_);have Y:=X.flat (T:=tInt) (cs:=[.int .i64 s1.1]) (x:=s1.1) ⟨rfl,rfl⟩;have Z:=Y.bring 1 rfl;refine se Z q.2 hq20 (fun k0 a0=>?_);refine rn<|rg<|rr 3 ?_;refine rn<|rg<|rr 3 ?_;refine rn ?_;cases o;exact⟨_,_,rfl,⟨a0,rfl⟩,rfl⟩
  ·refine xt ?_;cases o;exact⟨_,_,⟨e0,O,rfl⟩,rfl⟩

theorem zkR:Enters Tryz.prog 167:=⟨_,_,Tryz.func167,rfl,by kernel_rfl⟩
def z7T (fuel:Nat) (t2:Int × (List D.Address)):Option (Int × (List D.Address)):=some (t2.1,t2.2)
def z3U (fuel:Nat) (x0:(List D.Address)) (s1:Int × Int × (List D.Address)):Option (Rd (Int × Int × (List D.Address)) (Int × (List D.Address)) (Int × (List D.Address))):=(if(decide (s1.2.1<(x0.length:Int)))=true then((idx s1.2.2 s1.2.1).bind fun o=>some (.next (w64 ((w64 ((w64 (s1.1+1))+1))+1),w64 (s1.2.1+1),(s1.2.2.set s1.2.1.toNat (⟨s1.1,w64 (s1.1+1),w64 ((w64 (s1.1+1))+1)⟩:D.Address))))) else some (.brk (s1.1,s1.2.2)))
def z3M (fuel:Nat) (x0:(List D.Address)) (x1:Int):Option (Int × (List D.Address)):=((iter (z3U fuel x0) fuel (x1,0,x0)).bind fun o=>aft o (z7T fuel))

theorem laws_markAddressS_ok {W:Base}{w:World}{RR:List Res}{G:Option Addr}{H:Nat}{x0:(List D.Address)}{x1:Int}(hS:St W w (ow ty82 G x0 H::RR)){fuel:Nat}{r:Int × (List D.Address)}(hm:z3M fuel x0 x1=some r):
  Calls Tryz.prog 167 ⟨[sl G x0 H,.int .i64 x1]⟩ w (Ret fun v w8=>v=.int .i64 r.1∧St W w8 (Own ty82 [sl G x0 H] r.2::RR)):=by
 refine into Tryz.func167 34 _ ?_;unfold z3M at hm;refine sq<|rg<|rr 1 ?_;refine rn<|sq<|sq<|rg<|rr 1 ?_;refine rn ?_;obtain⟨o5,u0,hm⟩:=bS hm;refine ct (fun(t2:Int × (List D.Address)) F w9=>o5=.inl t2∧St W w9 (Own ty82 [sl G x0 H] t2.2::RR)∧F=[(1,.int .i64 t2.1)]) ?_ ?_
 ·rintro t2 F w4 ⟨o0,t0,rfl⟩;subst o0;rw [z6] at hm;unfold z7T at hm;refine sq<|rg<|rr 2 ?_;refine rn<|rt ?_;cases hm;exact⟨_,.cons (.tmp rfl) .nil,rfl,t0⟩
 ·refine bk<|wk [0,1,5] ?_;refine it (fun(s1:Int × Int × (List D.Address)) F w9=>St W w9 (Own ty82 [sl G x0 H] s1.2.2::RR)∧F=[(0,sl G x0 H),(1,.int .i64 s1.1),(5,.int .i64 s1.2.1)]) u0 ⟨hS,rfl⟩ ?_;rintro s1 F y0 _ v0 ⟨O,rfl⟩ o p0;unfold z3U at o;refine sq<|sq<|rg<|rr 4 ?_;refine rn<|ci o (fun o=>?_) (fun o=>?_)
  ·refine sp<|sq<|bk<|sq<|rg<|rr 3 ?_;have Z:=O.bring 0 rfl;obtain⟨D0,q,o⟩:=bS o;refine fo Z q (fun q19 r0 hq21 a0=>?_);obtain⟨q0,b0⟩:=zi7 (a0.bring 1 rfl);subst q0;refine rr 1 ?_;have c0:=b0.bring 0 rfl;refine sh c0 hq21 0 (fun A0 X=>?_);refine rn<|sq<|rg<|rr 3 ?_;refine rn<|sq<|rg<|rr 3 ?_;refine ia (X.bring 0 rfl) (zo q).1 (fun q28 hq29=>?_);refine rr 1 ?_;have e0:=X.bring 0 rfl;refine sh e0 hq29 1 (fun B0 Y=>?_);refine rn<|sq<|rg<|rr 3 ?_;refine rn<|sq<|rg<|rr 3 ?_;refine ia (Y.bring 0 rfl) (zo q).1 (fun q33 hq34=>?_);refine rr 1 ?_;have f0:=Y.bring 0 rfl;refine sh f0 hq34 2 (fun C0 g0=>?_);refine rn<|rg<|rr 3 ?_;refine rn<|rg<|rr 3 ?_;refine rn ?_;have i0:=ze3 (c:=(⟨s1.1,w64 (s1.1+1),w64 ((w64 (s1.1+1))+1)⟩:D.Address)) (B:=_) g0;have j0:=i0.bring 1 rfl;have k0:=St.unfocusN j0;cases o;exact⟨_,_,rfl,⟨k0,rfl⟩,rfl⟩
  ·refine xt ?_;cases o;exact⟨_,_,⟨p0,O,rfl⟩,rfl⟩

theorem zmk:Enters Tryz.prog 106:=⟨_,_,Tryz.func106,rfl,by kernel_rfl⟩
def z7f (fuel:Nat) (t2:Int × (List D.ShardCell)):Option (Int × (List D.ShardCell)):=some (t2.1,t2.2)
def z2U (fuel:Nat) (x0:(List D.ShardCell)) (s1:Int × Int × (List D.ShardCell)):Option (Rd (Int × Int × (List D.ShardCell)) (Int × (List D.ShardCell)) (Int × (List D.ShardCell))):=(if(decide (s1.2.1<(x0.length:Int)))=true then((idx s1.2.2 s1.2.1).bind fun G=>((z3r fuel G.Data (w64 ((w64 ((w64 (s1.1+1))+1))+1))).bind fun o=>((z3M fuel G.Aux o.1).bind fun q=>some (.next (q.1,w64 (s1.2.1+1),(s1.2.2.set s1.2.1.toNat (⟨s1.1,w64 (s1.1+1),w64 ((w64 (s1.1+1))+1),o.2,q.2⟩:D.ShardCell))))))) else some (.brk (s1.1,s1.2.2)))
def z2E (fuel:Nat) (x0:(List D.ShardCell)) (x1:Int):Option (Int × (List D.ShardCell)):=((iter (z2U fuel x0) fuel (x1,0,x0)).bind fun o=>aft o (z7f fuel))

theorem laws_markShardCellS_ok {W:Base}{w:World}{RR:List Res}{e0:Option Addr}{f0:Nat}{x0:(List D.ShardCell)}{x1:Int}(hS:St W w (ow ty81 e0 x0 f0::RR)){fuel:Nat}{r:Int × (List D.ShardCell)}(hm:z2E fuel x0 x1=some r):
  Calls Tryz.prog 106 ⟨[sl e0 x0 f0,.int .i64 x1]⟩ w (Ret fun v w8=>v=.int .i64 r.1∧St W w8 (Own ty81 [sl e0 x0 f0] r.2::RR)):=by
 refine into Tryz.func106 48 _ ?_;unfold z2E at hm;refine sq<|rg<|rr 1 ?_;refine rn<|sq<|sq<|rg<|rr 1 ?_;refine rn ?_;obtain⟨o5,R0,hm⟩:=bS hm;refine ct (fun(t2:Int × (List D.ShardCell)) F w9=>o5=.inl t2∧St W w9 (Own ty81 [sl e0 x0 f0] t2.2::RR)∧F=[(1,.int .i64 t2.1)]) ?_ ?_
 ·rintro t2 F w4 ⟨K0,Q0,rfl⟩;subst K0;rw [z6] at hm;unfold z7f at hm;refine sq<|rg<|rr 2 ?_;refine rn<|rt ?_;cases hm;exact⟨_,.cons (.tmp rfl) .nil,rfl,Q0⟩
 ·refine bk<|wk [0,1,5] ?_;refine it (fun(s1:Int × Int × (List D.ShardCell)) F w9=>St W w9 (Own ty81 [sl e0 x0 f0] s1.2.2::RR)∧F=[(0,sl e0 x0 f0),(1,.int .i64 s1.1),(5,.int .i64 s1.2.1)]) R0 ⟨hS,rfl⟩ ?_;rintro s1 F Y0 _ U0 ⟨g0,rfl⟩ o L0;unfold z2U at o;refine sq<|sq<|rg<|rr 4 ?_;refine rn<|ci o (fun o=>?_) (fun o=>?_)
  ·refine sp<|sq<|bk<|sq<|rg<|rr 3 ?_;have t0:=g0.bring 0 rfl;obtain⟨G,q,o⟩:=bS o;refine fo t0 q (fun q19 P0 hq21 u0=>?_);obtain⟨O,b0,X,c0,O0,v0⟩:=zgO (u0.bring 1 rfl);subst O0;refine rr 1 ?_;have y0:=v0.bring 2 rfl;refine sh y0 hq21 0 (fun a1 i0=>?_);refine rn<|sq<|rg<|rr 3 ?_;refine rn<|sq<|rg<|rr 3 ?_;refine ia (i0.bring 0 rfl) (zo q).1 (fun q32 hq33=>?_);refine rr 1 ?_;have A0:=i0.bring 0 rfl;refine sh A0 hq33 1 (fun b1 j0=>?_);refine rn<|sq<|rg<|rr 3 ?_;refine rn<|sq<|rg<|rr 3 ?_;refine ia (j0.bring 0 rfl) (zo q).1 (fun q37 hq38=>?_);refine rr 1 ?_;have B0:=j0.bring 0 rfl;refine sh B0 hq38 2 (fun d1 Y=>?_);refine rn<|sq<|rg<|rr 3 ?_;refine rn<|sq<|rg<|rr 2 ?_;refine ia (Y.bring 0 rfl) (zo q).1 (fun q42 hq43=>?_);refine rr 1 ?_;refine l1 ((Y.bring 0 rfl).hole_atN hq43) 3 ?_;refine rr 1 ?_;obtain⟨H,M0,o⟩:=bS o;refine ca zhO (laws_markInt64S_ok (W:=W) (RR:=_) (x0:=G.Data) (x1:=w64 ((w64 ((w64 (s1.1+1))+1))+1)) (Y.bring 1 rfl)  M0) (fun V0 e1 q0=>?_);obtain⟨rfl,Z⟩:=q0;refine rr 1 ?_;refine rn<|rg<|rr 2 ?_;refine ia (Z.bring 1 rfl) (zo q).1 (fun q50 hq51=>?_);refine rr 1 ?_;refine l1 ((Z.bring 1 rfl).hole_atN hq51) 4 ?_;refine rr 1 ?_;obtain⟨p0,N0,o⟩:=bS o;refine ca zkR (laws_markAddressS_ok (W:=W) (RR:=_) (x0:=G.Aux) (x1:=H.1) (Z.bring 2 rfl)  N0) (fun X0 f1 r0=>?_);obtain⟨rfl,k0⟩:=r0;refine rr 1 ?_;refine rn<|rg<|rr 3 ?_;refine rn ?_;have hn58:=(k0.bring 1 rfl).lenEq;have C0:=(k0.bring 1 rfl).reLen hn58;have o0:=(C0.bring 2 rfl).reHole (es':=[.int .i64 s1.1,.int .i64 (w64 (s1.1+1)),.int .i64 (w64 ((w64 (s1.1+1))+1)),.slice O H.2.length b0,.slice X G.Aux.length c0]) (by show([.int .i64 s1.1,.int .i64 (w64 (s1.1+1)),.int .i64 (w64 ((w64 (s1.1+1))+1)),.slice O G.Data.length b0,.slice X G.Aux.length c0]:List Value)=[.int .i64 s1.1,.int .i64 (w64 (s1.1+1)),.int .i64 (w64 ((w64 (s1.1+1))+1)),.slice O H.2.length b0,.slice X G.Aux.length c0];first | (simp only [sl,hn58];done) | (simp only [sl,hn58];rfl));have hn61:=(o0.bring 2 rfl).lenEq;have D0:=(o0.bring 2 rfl).reLen hn61;have a0:=(D0.bring 1 rfl).reHole (es':=[.int .i64 s1.1,.int .i64 (w64 (s1.1+1)),.int .i64 (w64 ((w64 (s1.1+1))+1)),.slice O H.2.length b0,.slice X p0.2.length c0]) (by show([.int .i64 s1.1,.int .i64 (w64 (s1.1+1)),.int .i64 (w64 ((w64 (s1.1+1))+1)),.slice O H.2.length b0,.slice X G.Aux.length c0]:List Value)=[.int .i64 s1.1,.int .i64 (w64 (s1.1+1)),.int .i64 (w64 ((w64 (s1.1+1))+1)),.slice O H.2.length b0,.slice X p0.2.length c0];first | (simp only [sl,hn61];done) | (simp only [sl,hn61];rfl));have S0:=(show ty45.ro _ [.slice O G.Data.length b0] H.2 from(Eq.symm hn58) ▸ ((a0.bring 2 rfl).own));have T0:=(show ty82.ro _ [.slice X G.Aux.length c0] p0.2 from(Eq.symm hn61) ▸ ((a0.bring 1 rfl).own));have E0:=a0.bring 1 rfl;have F0:=E0.bring 2 rfl;have G0:=zcV (c:=(⟨s1.1,w64 (s1.1+1),w64 ((w64 (s1.1+1))+1),H.2,p0.2⟩:D.ShardCell)) (B:=_) F0;have H0:=G0.bring 1 rfl;have J0:=St.unfocusN H0;cases o;exact⟨_,_,rfl,⟨J0,rfl⟩,rfl⟩
  ·refine xt ?_;cases o;exact⟨_,_,⟨L0,g0,rfl⟩,rfl⟩

theorem zmj:Enters Tryz.prog 107:=⟨_,_,Tryz.func107,rfl,by kernel_rfl⟩
def z7B (fuel:Nat) (t2:Int × (List D.ShardVar)):Option (Int × (List D.ShardVar)):=some (t2.1,t2.2)
def z3k (fuel:Nat) (x0:(List D.ShardVar)) (s1:Int × Int × (List D.ShardVar)):Option (Rd (Int × Int × (List D.ShardVar)) (Int × (List D.ShardVar)) (Int × (List D.ShardVar))):=(if(decide (s1.2.1<(x0.length:Int)))=true then((idx s1.2.2 s1.2.1).bind fun o=>some (.next (w64 ((w64 ((w64 ((w64 ((w64 (s1.1+1))+1))+1))+1))+1),w64 (s1.2.1+1),(s1.2.2.set s1.2.1.toNat (⟨((s1.1.tmod 3) == 0),(((w64 (s1.1+1)).tmod 3) == 0),(⟨w64 ((w64 (s1.1+1))+1),w64 ((w64 ((w64 (s1.1+1))+1))+1),w64 ((w64 ((w64 ((w64 (s1.1+1))+1))+1))+1)⟩:D.Address)⟩:D.ShardVar))))) else some (.brk (s1.1,s1.2.2)))
def z33 (fuel:Nat) (x0:(List D.ShardVar)) (x1:Int):Option (Int × (List D.ShardVar)):=((iter (z3k fuel x0) fuel (x1,0,x0)).bind fun o=>aft o (z7B fuel))

theorem laws_markShardVarS_ok {W:Base}{w:World}{RR:List Res}{G:Option Addr}{H:Nat}{x0:(List D.ShardVar)}{x1:Int}(hS:St W w (ow z8V G x0 H::RR)){fuel:Nat}{r:Int × (List D.ShardVar)}(hm:z33 fuel x0 x1=some r):
  Calls Tryz.prog 107 ⟨[sl G x0 H,.int .i64 x1]⟩ w (Ret fun v w8=>v=.int .i64 r.1∧St W w8 (Own z8V [sl G x0 H] r.2::RR)):=by
 refine into Tryz.func107 55 _ ?_;unfold z33 at hm;refine sq<|rg<|rr 1 ?_;refine rn<|sq<|sq<|rg<|rr 1 ?_;refine rn ?_;obtain⟨o5,B0,hm⟩:=bS hm;refine ct (fun(t2:Int × (List D.ShardVar)) F w9=>o5=.inl t2∧St W w9 (Own z8V [sl G x0 H] t2.2::RR)∧F=[(1,.int .i64 t2.1)]) ?_ ?_
 ·rintro t2 F w4 ⟨t0,A0,rfl⟩;subst t0;rw [z6] at hm;unfold z7B at hm;refine sq<|rg<|rr 2 ?_;refine rn<|rt ?_;cases hm;exact⟨_,.cons (.tmp rfl) .nil,rfl,A0⟩
 ·refine bk<|wk [0,1,5] ?_;refine it (fun(s1:Int × Int × (List D.ShardVar)) F w9=>St W w9 (Own z8V [sl G x0 H] s1.2.2::RR)∧F=[(0,sl G x0 H),(1,.int .i64 s1.1),(5,.int .i64 s1.2.1)]) B0 ⟨hS,rfl⟩ ?_;rintro s1 F D0 _ C0 ⟨O,rfl⟩ o u0;unfold z3k at o;refine sq<|sq<|rg<|rr 4 ?_;refine rn<|ci o (fun o=>?_) (fun o=>?_)
  ·refine sp<|sq<|bk<|sq<|rg<|rr 5 ?_;have b0:=O.bring 0 rfl;obtain⟨K0,q,o⟩:=bS o;refine fo b0 q (fun q19 y0 hq21 c0=>?_);obtain⟨v0,e0⟩:=zgL (c0.bring 1 rfl);subst v0;refine rr 1 ?_;have f0:=e0.bring 0 rfl;refine sh f0 hq21 0 (fun E0 X=>?_);refine rn<|sq<|rg<|rr 3 ?_;refine rn<|sq<|rg<|rr 5 ?_;refine ia (X.bring 0 rfl) (zo q).1 (fun q28 hq29=>?_);refine rr 1 ?_;have g0:=X.bring 0 rfl;refine sh g0 hq29 1 (fun F0 Y=>?_);refine rn<|sq<|rg<|rr 3 ?_;refine rn<|sq<|rg<|rr 3 ?_;refine ia (Y.bring 0 rfl) (zo q).1 (fun q33 hq34=>?_);refine rr 2 ?_;have i0:=Y.bring 0 rfl;refine sh i0 hq34 2 (fun G0 Z=>?_);refine rn<|sq<|rg<|rr 3 ?_;refine rn<|sq<|rg<|rr 3 ?_;refine ia (Z.bring 0 rfl) (zo q).1 (fun q38 hq39=>?_);refine rr 2 ?_;have j0:=Z.bring 0 rfl;refine sh j0 hq39 3 (fun H0 a0=>?_);refine rn<|sq<|rg<|rr 3 ?_;refine rn<|sq<|rg<|rr 3 ?_;refine ia (a0.bring 0 rfl) (zo q).1 (fun q43 hq44=>?_);refine rr 2 ?_;have k0:=a0.bring 0 rfl;refine sh k0 hq44 4 (fun J0 o0=>?_);refine rn<|rg<|rr 3 ?_;refine rn<|rg<|rr 3 ?_;refine rn ?_;have p0:=zcT (c:=(⟨((s1.1.tmod 3) == 0),(((w64 (s1.1+1)).tmod 3) == 0),(⟨w64 ((w64 (s1.1+1))+1),w64 ((w64 ((w64 (s1.1+1))+1))+1),w64 ((w64 ((w64 ((w64 (s1.1+1))+1))+1))+1)⟩:D.Address)⟩:D.ShardVar)) (B:=_) o0;have q0:=p0.bring 1 rfl;have r0:=St.unfocusN q0;cases o;exact⟨_,_,rfl,⟨r0,rfl⟩,rfl⟩
  ·refine xt ?_;cases o;exact⟨_,_,⟨u0,O,rfl⟩,rfl⟩

theorem zmi:Enters Tryz.prog 108:=⟨_,_,Tryz.func108,rfl,by kernel_rfl⟩
def z6P (fuel:Nat) (t2:Int × (List D.ShardRedex)):Option (Int × (List D.ShardRedex)):=some (t2.1,t2.2)
def z2v (fuel:Nat) (x0:(List D.ShardRedex)) (s1:Int × Int × (List D.ShardRedex)):Option (Rd (Int × Int × (List D.ShardRedex)) (Int × (List D.ShardRedex)) (Int × (List D.ShardRedex))):=(if(decide (s1.2.1<(x0.length:Int)))=true then((idx s1.2.2 s1.2.1).bind fun o=>some (.next (w64 ((w64 ((w64 ((w64 ((w64 ((w64 (s1.1+1))+1))+1))+1))+1))+1),w64 (s1.2.1+1),(s1.2.2.set s1.2.1.toNat (⟨(⟨s1.1,w64 (s1.1+1),w64 ((w64 (s1.1+1))+1)⟩:D.Address),(⟨w64 ((w64 ((w64 (s1.1+1))+1))+1),w64 ((w64 ((w64 ((w64 (s1.1+1))+1))+1))+1),w64 ((w64 ((w64 ((w64 ((w64 (s1.1+1))+1))+1))+1))+1)⟩:D.Address)⟩:D.ShardRedex))))) else some (.brk (s1.1,s1.2.2)))
def z2e (fuel:Nat) (x0:(List D.ShardRedex)) (x1:Int):Option (Int × (List D.ShardRedex)):=((iter (z2v fuel x0) fuel (x1,0,x0)).bind fun o=>aft o (z6P fuel))

theorem laws_markShardRedexS_ok {W:Base}{w:World}{RR:List Res}{G:Option Addr}{H:Nat}{x0:(List D.ShardRedex)}{x1:Int}(hS:St W w (ow z9s G x0 H::RR)){fuel:Nat}{r:Int × (List D.ShardRedex)}(hm:z2e fuel x0 x1=some r):
  Calls Tryz.prog 108 ⟨[sl G x0 H,.int .i64 x1]⟩ w (Ret fun v w8=>v=.int .i64 r.1∧St W w8 (Own z9s [sl G x0 H] r.2::RR)):=by
 refine into Tryz.func108 61 _ ?_;unfold z2e at hm;refine sq<|rg<|rr 1 ?_;refine rn<|sq<|sq<|rg<|rr 1 ?_;refine rn ?_;obtain⟨o5,D0,hm⟩:=bS hm;refine ct (fun(t2:Int × (List D.ShardRedex)) F w9=>o5=.inl t2∧St W w9 (Own z9s [sl G x0 H] t2.2::RR)∧F=[(1,.int .i64 t2.1)]) ?_ ?_
 ·rintro t2 F w4 ⟨v0,C0,rfl⟩;subst v0;rw [z6] at hm;unfold z6P at hm;refine sq<|rg<|rr 2 ?_;refine rn<|rt ?_;cases hm;exact⟨_,.cons (.tmp rfl) .nil,rfl,C0⟩
 ·refine bk<|wk [0,1,5] ?_;refine it (fun(s1:Int × Int × (List D.ShardRedex)) F w9=>St W w9 (Own z9s [sl G x0 H] s1.2.2::RR)∧F=[(0,sl G x0 H),(1,.int .i64 s1.1),(5,.int .i64 s1.2.1)]) D0 ⟨hS,rfl⟩ ?_;rintro s1 F F0 _ E0 ⟨O,rfl⟩ o y0;unfold z2v at o;refine sq<|sq<|rg<|rr 4 ?_;refine rn<|ci o (fun o=>?_) (fun o=>?_)
  ·refine sp<|sq<|bk<|sq<|rg<|rr 3 ?_;have c0:=O.bring 0 rfl;obtain⟨N0,q,o⟩:=bS o;refine fo c0 q (fun q19 B0 hq21 e0=>?_);obtain⟨A0,f0⟩:=zgM (e0.bring 1 rfl);subst A0;refine rr 2 ?_;have g0:=f0.bring 0 rfl;refine sh g0 hq21 0 (fun G0 X=>?_);refine rn<|sq<|rg<|rr 3 ?_;refine rn<|sq<|rg<|rr 3 ?_;refine ia (X.bring 0 rfl) (zo q).1 (fun q28 hq29=>?_);refine rr 2 ?_;have i0:=X.bring 0 rfl;refine sh i0 hq29 1 (fun H0 Y=>?_);refine rn<|sq<|rg<|rr 3 ?_;refine rn<|sq<|rg<|rr 3 ?_;refine ia (Y.bring 0 rfl) (zo q).1 (fun q33 hq34=>?_);refine rr 2 ?_;have j0:=Y.bring 0 rfl;refine sh j0 hq34 2 (fun J0 Z=>?_);refine rn<|sq<|rg<|rr 3 ?_;refine rn<|sq<|rg<|rr 3 ?_;refine ia (Z.bring 0 rfl) (zo q).1 (fun q38 hq39=>?_);refine rr 2 ?_;have k0:=Z.bring 0 rfl;refine sh k0 hq39 3 (fun K0 a0=>?_);refine rn<|sq<|rg<|rr 3 ?_;refine rn<|sq<|rg<|rr 3 ?_;refine ia (a0.bring 0 rfl) (zo q).1 (fun q43 hq44=>?_);refine rr 2 ?_;have o0:=a0.bring 0 rfl;refine sh o0 hq44 4 (fun L0 b0=>?_);refine rn<|sq<|rg<|rr 3 ?_;refine rn<|sq<|rg<|rr 3 ?_;refine ia (b0.bring 0 rfl) (zo q).1 (fun q48 hq49=>?_);refine rr 2 ?_;have p0:=b0.bring 0 rfl;refine sh p0 hq49 5 (fun M0 q0=>?_);refine rn<|rg<|rr 3 ?_;refine rn<|rg<|rr 3 ?_;refine rn ?_;have r0:=zcU (c:=(⟨(⟨s1.1,w64 (s1.1+1),w64 ((w64 (s1.1+1))+1)⟩:D.Address),(⟨w64 ((w64 ((w64 (s1.1+1))+1))+1),w64 ((w64 ((w64 ((w64 (s1.1+1))+1))+1))+1),w64 ((w64 ((w64 ((w64 ((w64 (s1.1+1))+1))+1))+1))+1)⟩:D.Address)⟩:D.ShardRedex)) (B:=_) q0;have t0:=r0.bring 1 rfl;have u0:=St.unfocusN t0;cases o;exact⟨_,_,rfl,⟨u0,rfl⟩,rfl⟩
  ·refine xt ?_;cases o;exact⟨_,_,⟨y0,O,rfl⟩,rfl⟩

theorem znN:Enters Tryz.prog 47:=⟨_,_,Tryz.func47,rfl,by kernel_rfl⟩
def z8q (fuel:Nat) (t2:Int × (List D.Shard)):Option (Int × (List D.Shard)):=some (t2.1,t2.2)
def z4J (fuel:Nat) (x0:(List D.Shard)) (s1:Int × Int × (List D.Shard)):Option (Rd (Int × Int × (List D.Shard)) (Int × (List D.Shard)) (Int × (List D.Shard))):=(if(decide (s1.2.1<(x0.length:Int)))=true then((idx s1.2.2 s1.2.1).bind fun o=>((z2E fuel o.Cells s1.1).bind fun q=>((z33 fuel o.Vars q.1).bind fun G=>((z2e fuel o.Redexes G.1).bind fun H=>some (.next (H.1,w64 (s1.2.1+1),(s1.2.2.set s1.2.1.toNat (⟨q.2,G.2,H.2⟩:D.Shard)))))))) else some (.brk (s1.1,s1.2.2)))
def z5c (fuel:Nat) (x0:(List D.Shard)) (x1:Int):Option (Int × (List D.Shard)):=((iter (z4J fuel x0) fuel (x1,0,x0)).bind fun o=>aft o (z8q fuel))

theorem laws_markShardS_ok {W:Base}{w:World}{RR:List Res}{i0:Option Addr}{j0:Nat}{x0:(List D.Shard)}{x1:Int}(hS:St W w (ow ty33 i0 x0 j0::RR)){fuel:Nat}{r:Int × (List D.Shard)}(hm:z5c fuel x0 x1=some r):
  Calls Tryz.prog 47 ⟨[sl i0 x0 j0,.int .i64 x1]⟩ w (Ret fun v w8=>v=.int .i64 r.1∧St W w8 (Own ty33 [sl i0 x0 j0] r.2::RR)):=by
 refine into Tryz.func47 34 _ ?_;unfold z5c at hm;refine sq<|rg<|rr 1 ?_;refine rn<|sq<|sq<|rg<|rr 1 ?_;refine rn ?_;obtain⟨o5,U0,hm⟩:=bS hm;refine ct (fun(t2:Int × (List D.Shard)) F w9=>o5=.inl t2∧St W w9 (Own ty33 [sl i0 x0 j0] t2.2::RR)∧F=[(1,.int .i64 t2.1)]) ?_ ?_
 ·rintro t2 F w4 ⟨M0,T0,rfl⟩;subst M0;rw [z6] at hm;unfold z8q at hm;refine sq<|rg<|rr 2 ?_;refine rn<|rt ?_;cases hm;exact⟨_,.cons (.tmp rfl) .nil,rfl,T0⟩
 ·refine bk<|wk [0,1,5] ?_;refine it (fun(s1:Int × Int × (List D.Shard)) F w9=>St W w9 (Own ty33 [sl i0 x0 j0] s1.2.2::RR)∧F=[(0,sl i0 x0 j0),(1,.int .i64 s1.1),(5,.int .i64 s1.2.1)]) U0 ⟨hS,rfl⟩ ?_;rintro s1 F f1 _ a1 ⟨k0,rfl⟩ o N0;unfold z4J at o;refine sq<|sq<|rg<|rr 4 ?_;refine rn<|ci o (fun o=>?_) (fun o=>?_)
  ·refine sp<|sq<|bk<|sq<|rg<|rr 2 ?_;have A0:=k0.bring 0 rfl;obtain⟨q,g0,o⟩:=bS o;refine fo A0 g0 (fun q19 S0 hq21 B0=>?_);obtain⟨H,Y,O,Z,X,a0,R0,o0⟩:=zgP (B0.bring 1 rfl);subst R0;refine rr 1 ?_;refine l1 ((o0.bring 3 rfl).hole_atN hq21) 0 ?_;refine rr 1 ?_;obtain⟨G,O0,o⟩:=bS o;refine ca zmk (laws_markShardCellS_ok (W:=W) (RR:=_) (x0:=q.Cells) (x1:=s1.1) o0  O0) (fun b1 g1 u0=>?_);obtain⟨rfl,e0⟩:=u0;refine rr 1 ?_;refine rn<|sq<|rg<|rr 2 ?_;refine ia (e0.bring 3 rfl) (zo g0).1 (fun q37 hq38=>?_);refine rr 1 ?_;refine l1 ((e0.bring 3 rfl).hole_atN hq38) 1 ?_;refine rr 1 ?_;obtain⟨c0,P0,o⟩:=bS o;refine ca zmj (laws_markShardVarS_ok (W:=W) (RR:=_) (x0:=q.Vars) (x1:=G.1) (e0.bring 1 rfl)  P0) (fun d1 i1 v0=>?_);obtain⟨rfl,f0⟩:=v0;refine rr 1 ?_;refine rn<|rg<|rr 2 ?_;refine ia (f0.bring 3 rfl) (zo g0).1 (fun q45 hq46=>?_);refine rr 1 ?_;refine l1 ((f0.bring 3 rfl).hole_atN hq46) 2 ?_;refine rr 1 ?_;obtain⟨t0,Q0,o⟩:=bS o;refine ca zmi (laws_markShardRedexS_ok (W:=W) (RR:=_) (x0:=q.Redexes) (x1:=c0.1) (f0.bring 2 rfl)  Q0) (fun e1 j1 y0=>?_);obtain⟨rfl,p0⟩:=y0;refine rr 1 ?_;refine rn<|rg<|rr 3 ?_;refine rn ?_;have hn53:=(p0.bring 2 rfl).lenEq;have C0:=(p0.bring 2 rfl).reLen hn53;have q0:=(C0.bring 3 rfl).reHole (es':=[.slice H G.2.length Y,.slice O q.Vars.length Z,.slice X q.Redexes.length a0]) (by show([.slice H q.Cells.length Y,.slice O q.Vars.length Z,.slice X q.Redexes.length a0]:List Value)=[.slice H G.2.length Y,.slice O q.Vars.length Z,.slice X q.Redexes.length a0];first | (simp only [sl,hn53];done) | (simp only [sl,hn53];rfl));have hn56:=(q0.bring 3 rfl).lenEq;have D0:=(q0.bring 3 rfl).reLen hn56;have r0:=(D0.bring 1 rfl).reHole (es':=[.slice H G.2.length Y,.slice O c0.2.length Z,.slice X q.Redexes.length a0]) (by show([.slice H G.2.length Y,.slice O q.Vars.length Z,.slice X q.Redexes.length a0]:List Value)=[.slice H G.2.length Y,.slice O c0.2.length Z,.slice X q.Redexes.length a0];first | (simp only [sl,hn56];done) | (simp only [sl,hn56];rfl));have hn59:=(r0.bring 3 rfl).lenEq;have E0:=(r0.bring 3 rfl).reLen hn59;have b0:=(E0.bring 1 rfl).reHole (es':=[.slice H G.2.length Y,.slice O c0.2.length Z,.slice X t0.2.length a0]) (by show([.slice H G.2.length Y,.slice O c0.2.length Z,.slice X q.Redexes.length a0]:List Value)=[.slice H G.2.length Y,.slice O c0.2.length Z,.slice X t0.2.length a0];first | (simp only [sl,hn59];done) | (simp only [sl,hn59];rfl));have V0:=(show ty81.ro _ [.slice H q.Cells.length Y] G.2 from(Eq.symm hn53) ▸ ((b0.bring 3 rfl).own));have X0:=(show z8V.ro _ [.slice O q.Vars.length Z] c0.2 from(Eq.symm hn56) ▸ ((b0.bring 2 rfl).own));have Y0:=(show z9s.ro _ [.slice X q.Redexes.length a0] t0.2 from(Eq.symm hn59) ▸ ((b0.bring 1 rfl).own));have F0:=b0.bring 1 rfl;have G0:=F0.bring 2 rfl;have H0:=G0.bring 3 rfl;have J0:=zcW (c:=(⟨G.2,c0.2,t0.2⟩:D.Shard)) (B:=_) H0;have K0:=J0.bring 1 rfl;have L0:=St.unfocusN K0;cases o;exact⟨_,_,rfl,⟨L0,rfl⟩,rfl⟩
  ·refine xt ?_;cases o;exact⟨_,_,⟨N0,k0,rfl⟩,rfl⟩

theorem znZ:Enters Tryz.prog 13:=⟨_,_,Tryz.func13,rfl,by kernel_rfl⟩
def z6q (fuel:Nat) (x0:D.Grid) (x1:Int):Option (Int × (List D.Shard)):=((z5c fuel x0.Shards x1).bind fun r5=>some (r5.1,r5.2))

theorem laws_markGrid_ok {W:Base}{w:World}{RR:List Res}{x0:D.Grid}{o:Option Addr}{q:Nat}{x1:Int}(hS:St W w (ow ty33 o x0.Shards q::RR)){fuel:Nat}{r:Int × (List D.Shard)}(hm:z6q fuel x0 x1=some r):
  Calls Tryz.prog 13 ⟨[.agg ⟨[sl o x0.Shards q,.int .i64 x0.Root.Machine,.int .i64 x0.Root.Kind,.int .i64 x0.Root.Index]⟩,.int .i64 x1]⟩ w (Ret fun v w8=>v=.int .i64 r.1∧St W w8 (Own ty33 [sl o x0.Shards q] r.2::RR)):=by
 refine into Tryz.func13 10 _ ?_;unfold z6q at hm;refine sq<|rg<|nw hS (fun g1 w2 e3 O=>?_);refine rr 1 ?_;refine rn<|sq<|rg<|rr 1 ?_;refine l1 ((O.bring 0 rfl).box) 0 ?_;refine rr 1 ?_;obtain⟨r5,X,hm⟩:=bS hm;refine ca znN (laws_markShardS_ok (W:=W) (RR:=_) (x0:=x0.Shards) (x1:=x1) (O.bring 1 rfl)  X) (fun v7 Y G=>?_);obtain⟨rfl,H⟩:=G;refine rr 1 ?_;refine rn<|sq<|rg<|rr 2 ?_;refine rn<|rt ?_;cases hm;exact⟨_,.cons (.tmp rfl) .nil,rfl,(H.bring 1 rfl).drop⟩

theorem zmh:Enters Tryz.prog 109:=⟨_,_,Tryz.func109,rfl,by kernel_rfl⟩
def z8Q (fuel:Nat) (t2:Int × (List D.Port)):Option (Int × (List D.Port)):=some (t2.1,t2.2)
def z5u (fuel:Nat) (x0:(List D.Port)) (s1:Int × Int × (List D.Port)):Option (Rd (Int × Int × (List D.Port)) (Int × (List D.Port)) (Int × (List D.Port))):=(if(decide (s1.2.1<(x0.length:Int)))=true then((idx s1.2.2 s1.2.1).bind fun o=>some (.next (w64 ((w64 (s1.1+1))+1),w64 (s1.2.1+1),(s1.2.2.set s1.2.1.toNat (⟨s1.1,w64 (s1.1+1)⟩:D.Port))))) else some (.brk (s1.1,s1.2.2)))
def z5F (fuel:Nat) (x0:(List D.Port)) (x1:Int):Option (Int × (List D.Port)):=((iter (z5u fuel x0) fuel (x1,0,x0)).bind fun o=>aft o (z8Q fuel))

theorem laws_markPortS_ok {W:Base}{w:World}{RR:List Res}{q:Option Addr}{G:Nat}{x0:(List D.Port)}{x1:Int}(hS:St W w (ow zq q x0 G::RR)){fuel:Nat}{r:Int × (List D.Port)}(hm:z5F fuel x0 x1=some r):
  Calls Tryz.prog 109 ⟨[sl q x0 G,.int .i64 x1]⟩ w (Ret fun v w8=>v=.int .i64 r.1∧St W w8 (Own zq [sl q x0 G] r.2::RR)):=by
 refine into Tryz.func109 27 _ ?_;unfold z5F at hm;refine sq<|rg<|rr 1 ?_;refine rn<|sq<|sq<|rg<|rr 1 ?_;refine rn ?_;obtain⟨o5,r0,hm⟩:=bS hm;refine ct (fun(t2:Int × (List D.Port)) F w9=>o5=.inl t2∧St W w9 (Own zq [sl q x0 G] t2.2::RR)∧F=[(1,.int .i64 t2.1)]) ?_ ?_
 ·rintro t2 F w4 ⟨j0,q0,rfl⟩;subst j0;rw [z6] at hm;unfold z8Q at hm;refine sq<|rg<|rr 2 ?_;refine rn<|rt ?_;cases hm;exact⟨_,.cons (.tmp rfl) .nil,rfl,q0⟩
 ·refine bk<|wk [0,1,5] ?_;refine it (fun(s1:Int × Int × (List D.Port)) F w9=>St W w9 (Own zq [sl q x0 G] s1.2.2::RR)∧F=[(0,sl q x0 G),(1,.int .i64 s1.1),(5,.int .i64 s1.2.1)]) r0 ⟨hS,rfl⟩ ?_;rintro s1 F u0 _ t0 ⟨H,rfl⟩ o k0;unfold z5u at o;refine sq<|sq<|rg<|rr 4 ?_;refine rn<|ci o (fun o=>?_) (fun o=>?_)
  ·refine sp<|sq<|bk<|sq<|rg<|rr 3 ?_;have Y:=H.bring 0 rfl;obtain⟨A0,X,o⟩:=bS o;refine fo Y X (fun q19 p0 hq21 Z=>?_);obtain⟨o0,a0⟩:=zaR (Z.bring 1 rfl);subst o0;refine rr 1 ?_;have b0:=a0.bring 0 rfl;refine sh b0 hq21 0 (fun v0 O=>?_);refine rn<|sq<|rg<|rr 3 ?_;refine rn<|sq<|rg<|rr 3 ?_;refine ia (O.bring 0 rfl) (zo X).1 (fun q28 hq29=>?_);refine rr 1 ?_;have c0:=O.bring 0 rfl;refine sh c0 hq29 1 (fun y0 e0=>?_);refine rn<|rg<|rr 3 ?_;refine rn<|rg<|rr 3 ?_;refine rn ?_;have f0:=z8C (c:=(⟨s1.1,w64 (s1.1+1)⟩:D.Port)) (B:=_) e0;have g0:=f0.bring 1 rfl;have i0:=St.unfocusN g0;cases o;exact⟨_,_,rfl,⟨i0,rfl⟩,rfl⟩
  ·refine xt ?_;cases o;exact⟨_,_,⟨k0,H,rfl⟩,rfl⟩

theorem znM:Enters Tryz.prog 48:=⟨_,_,Tryz.func48,rfl,by kernel_rfl⟩
def z8s (fuel:Nat) (t2:Int × (List D.Agent)):Option (Int × (List D.Agent)):=some (t2.1,t2.2)
def z4L (fuel:Nat) (x0:(List D.Agent)) (s1:Int × Int × (List D.Agent)):Option (Rd (Int × Int × (List D.Agent)) (Int × (List D.Agent)) (Int × (List D.Agent))):=(if(decide (s1.2.1<(x0.length:Int)))=true then((idx s1.2.2 s1.2.1).bind fun G=>((z3r fuel G.Data (w64 ((w64 ((w64 (s1.1+1))+1))+1))).bind fun o=>((z5F fuel G.Ports o.1).bind fun q=>some (.next (q.1,w64 (s1.2.1+1),(s1.2.2.set s1.2.1.toNat (⟨s1.1,w64 (s1.1+1),w64 ((w64 (s1.1+1))+1),o.2,q.2⟩:D.Agent))))))) else some (.brk (s1.1,s1.2.2)))
def z5d (fuel:Nat) (x0:(List D.Agent)) (x1:Int):Option (Int × (List D.Agent)):=((iter (z4L fuel x0) fuel (x1,0,x0)).bind fun o=>aft o (z8s fuel))

theorem laws_markAgentS_ok {W:Base}{w:World}{RR:List Res}{e0:Option Addr}{f0:Nat}{x0:(List D.Agent)}{x1:Int}(hS:St W w (ow ty28 e0 x0 f0::RR)){fuel:Nat}{r:Int × (List D.Agent)}(hm:z5d fuel x0 x1=some r):
  Calls Tryz.prog 48 ⟨[sl e0 x0 f0,.int .i64 x1]⟩ w (Ret fun v w8=>v=.int .i64 r.1∧St W w8 (Own ty28 [sl e0 x0 f0] r.2::RR)):=by
 refine into Tryz.func48 48 _ ?_;unfold z5d at hm;refine sq<|rg<|rr 1 ?_;refine rn<|sq<|sq<|rg<|rr 1 ?_;refine rn ?_;obtain⟨o5,R0,hm⟩:=bS hm;refine ct (fun(t2:Int × (List D.Agent)) F w9=>o5=.inl t2∧St W w9 (Own ty28 [sl e0 x0 f0] t2.2::RR)∧F=[(1,.int .i64 t2.1)]) ?_ ?_
 ·rintro t2 F w4 ⟨K0,Q0,rfl⟩;subst K0;rw [z6] at hm;unfold z8s at hm;refine sq<|rg<|rr 2 ?_;refine rn<|rt ?_;cases hm;exact⟨_,.cons (.tmp rfl) .nil,rfl,Q0⟩
 ·refine bk<|wk [0,1,5] ?_;refine it (fun(s1:Int × Int × (List D.Agent)) F w9=>St W w9 (Own ty28 [sl e0 x0 f0] s1.2.2::RR)∧F=[(0,sl e0 x0 f0),(1,.int .i64 s1.1),(5,.int .i64 s1.2.1)]) R0 ⟨hS,rfl⟩ ?_;rintro s1 F Y0 _ U0 ⟨g0,rfl⟩ o L0;unfold z4L at o;refine sq<|sq<|rg<|rr 4 ?_;refine rn<|ci o (fun o=>?_) (fun o=>?_)
  ·refine sp<|sq<|bk<|sq<|rg<|rr 3 ?_;have t0:=g0.bring 0 rfl;obtain⟨G,q,o⟩:=bS o;refine fo t0 q (fun q19 P0 hq21 u0=>?_);obtain⟨O,b0,X,c0,O0,v0⟩:=zaS (u0.bring 1 rfl);subst O0;refine rr 1 ?_;have y0:=v0.bring 2 rfl;refine sh y0 hq21 0 (fun a1 i0=>?_);refine rn<|sq<|rg<|rr 3 ?_;refine rn<|sq<|rg<|rr 3 ?_;refine ia (i0.bring 0 rfl) (zo q).1 (fun q32 hq33=>?_);refine rr 1 ?_;have A0:=i0.bring 0 rfl;refine sh A0 hq33 1 (fun b1 j0=>?_);refine rn<|sq<|rg<|rr 3 ?_;refine rn<|sq<|rg<|rr 3 ?_;refine ia (j0.bring 0 rfl) (zo q).1 (fun q37 hq38=>?_);refine rr 1 ?_;have B0:=j0.bring 0 rfl;refine sh B0 hq38 2 (fun d1 Y=>?_);refine rn<|sq<|rg<|rr 3 ?_;refine rn<|sq<|rg<|rr 2 ?_;refine ia (Y.bring 0 rfl) (zo q).1 (fun q42 hq43=>?_);refine rr 1 ?_;refine l1 ((Y.bring 0 rfl).hole_atN hq43) 3 ?_;refine rr 1 ?_;obtain⟨H,M0,o⟩:=bS o;refine ca zhO (laws_markInt64S_ok (W:=W) (RR:=_) (x0:=G.Data) (x1:=w64 ((w64 ((w64 (s1.1+1))+1))+1)) (Y.bring 1 rfl)  M0) (fun V0 e1 q0=>?_);obtain⟨rfl,Z⟩:=q0;refine rr 1 ?_;refine rn<|rg<|rr 2 ?_;refine ia (Z.bring 1 rfl) (zo q).1 (fun q50 hq51=>?_);refine rr 1 ?_;refine l1 ((Z.bring 1 rfl).hole_atN hq51) 4 ?_;refine rr 1 ?_;obtain⟨p0,N0,o⟩:=bS o;refine ca zmh (laws_markPortS_ok (W:=W) (RR:=_) (x0:=G.Ports) (x1:=H.1) (Z.bring 2 rfl)  N0) (fun X0 f1 r0=>?_);obtain⟨rfl,k0⟩:=r0;refine rr 1 ?_;refine rn<|rg<|rr 3 ?_;refine rn ?_;have hn58:=(k0.bring 1 rfl).lenEq;have C0:=(k0.bring 1 rfl).reLen hn58;have o0:=(C0.bring 2 rfl).reHole (es':=[.int .i64 s1.1,.int .i64 (w64 (s1.1+1)),.int .i64 (w64 ((w64 (s1.1+1))+1)),.slice O H.2.length b0,.slice X G.Ports.length c0]) (by show([.int .i64 s1.1,.int .i64 (w64 (s1.1+1)),.int .i64 (w64 ((w64 (s1.1+1))+1)),.slice O G.Data.length b0,.slice X G.Ports.length c0]:List Value)=[.int .i64 s1.1,.int .i64 (w64 (s1.1+1)),.int .i64 (w64 ((w64 (s1.1+1))+1)),.slice O H.2.length b0,.slice X G.Ports.length c0];first | (simp only [sl,hn58];done) | (simp only [sl,hn58];rfl));have hn61:=(o0.bring 2 rfl).lenEq;have D0:=(o0.bring 2 rfl).reLen hn61;have a0:=(D0.bring 1 rfl).reHole (es':=[.int .i64 s1.1,.int .i64 (w64 (s1.1+1)),.int .i64 (w64 ((w64 (s1.1+1))+1)),.slice O H.2.length b0,.slice X p0.2.length c0]) (by show([.int .i64 s1.1,.int .i64 (w64 (s1.1+1)),.int .i64 (w64 ((w64 (s1.1+1))+1)),.slice O H.2.length b0,.slice X G.Ports.length c0]:List Value)=[.int .i64 s1.1,.int .i64 (w64 (s1.1+1)),.int .i64 (w64 ((w64 (s1.1+1))+1)),.slice O H.2.length b0,.slice X p0.2.length c0];first | (simp only [sl,hn61];done) | (simp only [sl,hn61];rfl));have S0:=(show ty45.ro _ [.slice O G.Data.length b0] H.2 from(Eq.symm hn58) ▸ ((a0.bring 2 rfl).own));have T0:=(show zq.ro _ [.slice X G.Ports.length c0] p0.2 from(Eq.symm hn61) ▸ ((a0.bring 1 rfl).own));have E0:=a0.bring 1 rfl;have F0:=E0.bring 2 rfl;have G0:=z5r (c:=(⟨s1.1,w64 (s1.1+1),w64 ((w64 (s1.1+1))+1),H.2,p0.2⟩:D.Agent)) (B:=_) F0;have H0:=G0.bring 1 rfl;have J0:=St.unfocusN H0;cases o;exact⟨_,_,rfl,⟨J0,rfl⟩,rfl⟩
  ·refine xt ?_;cases o;exact⟨_,_,⟨L0,g0,rfl⟩,rfl⟩

theorem znY:Enters Tryz.prog 14:=⟨_,_,Tryz.func14,rfl,by kernel_rfl⟩
def z6Q (fuel:Nat) (x0:D.Net) (x1:Int):Option (Int × (List D.Agent)):=((z5d fuel x0.Agents x1).bind fun r5=>some (r5.1,r5.2))

theorem laws_markNet_ok {W:Base}{w:World}{RR:List Res}{x0:D.Net}{o:Option Addr}{q:Nat}{x1:Int}(hS:St W w (ow ty28 o x0.Agents q::RR)){fuel:Nat}{r:Int × (List D.Agent)}(hm:z6Q fuel x0 x1=some r):
  Calls Tryz.prog 14 ⟨[.agg ⟨[sl o x0.Agents q]⟩,.int .i64 x1]⟩ w (Ret fun v w8=>v=.int .i64 r.1∧St W w8 (Own ty28 [sl o x0.Agents q] r.2::RR)):=by
 refine into Tryz.func14 10 _ ?_;unfold z6Q at hm;refine sq<|rg<|nw hS (fun g1 w2 e3 O=>?_);refine rr 1 ?_;refine rn<|sq<|rg<|rr 1 ?_;refine l1 ((O.bring 0 rfl).box) 0 ?_;refine rr 1 ?_;obtain⟨r5,X,hm⟩:=bS hm;refine ca znM (laws_markAgentS_ok (W:=W) (RR:=_) (x0:=x0.Agents) (x1:=x1) (O.bring 1 rfl)  X) (fun v7 Y G=>?_);obtain⟨rfl,H⟩:=G;refine rr 1 ?_;refine rn<|sq<|rg<|rr 2 ?_;refine rn<|rt ?_;cases hm;exact⟨_,.cons (.tmp rfl) .nil,rfl,(H.bring 1 rfl).drop⟩

theorem znG:Enters Tryz.prog 83:=⟨_,_,Tryz.func83,rfl,by kernel_rfl⟩
def z8t (fuel:Nat) (t2:Int):Option Int:=some t2
def z34 (fuel:Nat) (x0:(List Int)) (s1:Int × Int):Option (Rd (Int × Int) (Int) (Int)):=(if(decide (s1.2<(x0.length:Int)))=true then((idx x0 s1.2).bind fun o=>(if(o != s1.1)=true then some (.ret (-1)) else some (.next (w64 (s1.1+1),w64 (s1.2+1))))) else some (.brk s1.1))
def z5e (fuel:Nat) (x0:(List Int)) (x1:Int):Option (Int):=((iter (z34 fuel x0) fuel (x1,0)).bind fun o=>aft o (z8t fuel))

theorem laws_heldInt64S_ok {W:Base}{w:World}(hE:Ext W w){H:Option Addr}{c0:Nat}{x0:(List Int)}{x1:Int}(g0:ty45.ro W [sl H x0 c0] x0){fuel:Nat}{r:Int}(hm:z5e fuel x0 x1=some r):
  Calls Tryz.prog 83 ⟨[sl H x0 c0,.int .i64 x1]⟩ w (Ret fun v w8=>v=.int .i64 r∧St w w8 []):=by
 refine into Tryz.func83 21 _ ?_;unfold z5e at hm;have hS:=St.start w;refine sq<|rg<|rr 1 ?_;refine rn<|sq<|sq<|rg<|rr 1 ?_;refine rn ?_;obtain⟨i0,Y,hm⟩:=bS hm;refine ct (fun(t2:Int) F w9=>i0=.inl t2∧Ext w w9∧St w w9 []∧F=[(1,.int .i64 t2)]) ?_ ?_
 ·rintro t2 F w7 ⟨Z,j0,O,rfl⟩;subst Z;rw [z6] at hm;unfold z8t at hm;refine sq<|rg<|rr 2 ?_;refine rn<|rt ?_;cases hm;exact⟨_,.cons (.tmp rfl) .nil,rfl,O⟩
 ·refine bk<|wk [0,1,5] ?_;refine it (fun(s1:Int × Int) F w9=>Ext w w9∧St w w9 []∧F=[(0,sl H x0 c0),(1,.int .i64 s1.1),(5,.int .i64 s1.2)]) Y ⟨(Ext.refl _),hS,rfl⟩ ?_;rintro s1 F p0 _ k0 ⟨e0,q,rfl⟩ o G;unfold z34 at o;refine sq<|sq<|rg<|rr 4 ?_;refine rn<|ci o (fun o=>?_) (fun o=>?_)
  ·refine sp<|sq<|bk<|sq<|sq<|rg<|rr 2 ?_;obtain⟨q0,b0,o⟩:=bS o;refine ix (hE.trans q.ext) g0 b0 (fun o0 f0 X a0=>?_);cases a0;refine l1 (At.ext (hE.trans q.ext) X) 0 ?_;refine rr 2 ?_;refine rn<|ci o (fun o=>?_) (fun o=>?_)
   ·refine sq<|rg<|rr 1 ?_;refine rn<|rt ?_;cases o;cases G;have hm:some _=some _:=hm;cases hm;exact⟨_,.cons (.tmp rfl) .nil,rfl,q⟩
   ·refine sp<|rg<|rr 3 ?_;refine rn<|rg<|rr 3 ?_;refine rn ?_;cases o;exact⟨_,_,rfl,⟨e0,q,rfl⟩,rfl⟩
  ·refine xt ?_;cases o;exact⟨_,_,⟨G,e0,q,rfl⟩,rfl⟩

end Go.E


