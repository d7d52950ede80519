/- Models of functions and proofs that the code runs as they say (written by program). Conditions: the model gives a value. -/
import Derived.Test.YtngggnjnenfgbaaDoorFT
import Derived.Test.YtngggnjnenfgbaaDoorMixed
namespace Go.E
open Go.RowKit Go.Proofs
set_option linter.unusedVariables false
set_option linter.unusedSimpArgs false
set_option maxHeartbeats 2000000
set_option maxRecDepth 100000

theorem zaR:Enters Tryd.prog 24:=⟨_,_,Tryd.func24,rfl,by kernel_rfl⟩
def z3d (fuel:Nat) (x0:(List Int)) (x1:Int):Option (Int):=(if(decide ((w64 (x1 - (x0.length:Int)))<0))=true then some (-1) else some (w64 (x1 - (x0.length:Int))))

theorem laws_szInt64S_ok {W:Base}{w:World}(hE:Ext W w){b:Option Addr}{d:Nat}{x0:(List Int)}{x1:Int}(k:ty37.ro W [sl b x0 d] x0){fuel:Nat}{r:Int}(hm:z3d fuel x0 x1=some r):
  Calls Tryd.prog 24 ⟨[sl b x0 d,.int .i64 x1]⟩ w (Ret fun v w8=>v=.int .i64 r∧St w w8 []):=by
 refine into Tryd.func24 12 _ ?_;unfold z3d at hm;have hS:=St.start w;refine sq<|rg<|rr 1 ?_;refine rn<|sq<|rg<|rr 5 ?_;refine rn<|sq<|sq<|rg<|rr 2 ?_;refine rn<|ci hm (fun hm=>?_) (fun hm=>?_)
 ·refine sq<|rg<|rr 1 ?_;refine rn<|rt ?_;cases hm;exact⟨_,.cons (.tmp rfl) .nil,rfl,hS⟩
 ·refine sp<|sq<|rg<|rr 2 ?_;refine rn<|rt ?_;cases hm;exact⟨_,.cons (.tmp rfl) .nil,rfl,hS⟩

theorem zaQ:Enters Tryd.prog 25:=⟨_,_,Tryd.func25,rfl,by kernel_rfl⟩
def z3A (fuel:Nat) (x0:(List D.Port)) (x1:Int):Option (Int):=(if(decide ((w64 (x1 - (x0.length:Int)))<0))=true then some (-1) else some (w64 (x1 - (x0.length:Int))))

theorem laws_szPortS_ok {W:Base}{w:World}(hE:Ext W w){b:Option Addr}{d:Nat}{x0:(List D.Port)}{x1:Int}(k:ty55.ro W [sl b x0 d] x0){fuel:Nat}{r:Int}(hm:z3A fuel x0 x1=some r):
  Calls Tryd.prog 25 ⟨[sl b x0 d,.int .i64 x1]⟩ w (Ret fun v w8=>v=.int .i64 r∧St w w8 []):=by
 refine into Tryd.func25 12 _ ?_;unfold z3A at hm;have hS:=St.start w;refine sq<|rg<|rr 1 ?_;refine rn<|sq<|rg<|rr 5 ?_;refine rn<|sq<|sq<|rg<|rr 2 ?_;refine rn<|ci hm (fun hm=>?_) (fun hm=>?_)
 ·refine sq<|rg<|rr 1 ?_;refine rn<|rt ?_;cases hm;exact⟨_,.cons (.tmp rfl) .nil,rfl,hS⟩
 ·refine sp<|sq<|rg<|rr 2 ?_;refine rn<|rt ?_;cases hm;exact⟨_,.cons (.tmp rfl) .nil,rfl,hS⟩

theorem zaX:Enters Tryd.prog 15:=⟨_,_,Tryd.func15,rfl,by kernel_rfl⟩
def z3B (fuel:Nat) (x0:D.Agent) (x1:Int):Option (Int):=((z3d fuel x0.Data x1).bind fun b=>(if(decide (b<0))=true then some (-1) else((z3A fuel x0.Ports b).bind fun d=>(if(decide (d<0))=true then some (-1) else some d))))

theorem laws_szAgent_ok {W:Base}{w:World}(hE:Ext W w){a0:List Value}{x0:D.Agent}{x1:Int}(b0:ty57.ro W a0 x0){fuel:Nat}{r:Int}(hm:z3B fuel x0 x1=some r):
  Calls Tryd.prog 15 ⟨[.agg ⟨a0⟩,.int .i64 x1]⟩ w (Ret fun v w8=>v=.int .i64 r∧St w w8 []):=by
 obtain⟨A1,k2,A4,k5,e7,h3,h6⟩:=z5n b0;subst e7;refine into Tryd.func15 18 _ ?_;unfold z3B at hm;have hS:=St.start w;refine sq<|rg<|nw hS (fun d0 j0 c0 d=>?_);refine rr 1 ?_;refine rn<|sq<|rg<|rr 1 ?_;refine l1 ((d.bring 0 rfl).box) 3 ?_;refine rr 1 ?_;obtain⟨e0,O,hm⟩:=bS hm;refine ca zaR (laws_szInt64S_ok (hE.trans d.ext) h3 O) (fun g0 k0 o=>?_);obtain⟨rfl,y⟩:=o;have b:=d.join y;refine rr 1 ?_;refine rn<|sq<|sq<|rg<|rr 2 ?_;refine rn<|ci hm (fun hm=>?_) (fun hm=>?_)
 ·refine sq<|rg<|rr 1 ?_;refine rn<|rt ?_;cases hm;exact⟨_,.cons (.tmp rfl) .nil,rfl,(b.taken 0)⟩
 ·refine sp<|sq<|rg<|rr 1 ?_;refine l1 ((b.bring 0 rfl).box) 4 ?_;refine rr 1 ?_;obtain⟨f0,Y,hm⟩:=bS hm;refine ca zaQ (laws_szPortS_ok (hE.trans b.ext) h6 Y) (fun i0 o0 G=>?_);obtain⟨rfl,H⟩:=G;have k:=b.join H;refine rr 1 ?_;refine rn<|sq<|sq<|rg<|rr 2 ?_;refine rn<|ci hm (fun hm=>?_) (fun hm=>?_)
  ·refine sq<|rg<|rr 1 ?_;refine rn<|rt ?_;cases hm;exact⟨_,.cons (.tmp rfl) .nil,rfl,(k.taken 0)⟩
  ·refine sp<|sq<|rg<|rr 2 ?_;refine rn<|rt ?_;cases hm;exact⟨_,.cons (.tmp rfl) .nil,rfl,(k.taken 0)⟩

theorem zbt:Enters Tryd.prog 9:=⟨_,_,Tryd.func9,rfl,by kernel_rfl⟩
def z4y (fuel:Nat) (t2:Int):Option Int:=some t2
def z2Y (fuel:Nat) (x0:(List D.Agent)) (s1:Int × Int):Option (Rd (Int × Int) (Int) (Int)):=(if(decide (s1.2<(x0.length:Int)))=true then((idx x0 s1.2).bind fun d=>((z3B fuel d s1.1).bind fun b=>(if(decide (b<0))=true then some (.ret (-1)) else some (.next (b,w64 (s1.2+1)))))) else some (.brk s1.1))
def z3e (fuel:Nat) (x0:(List D.Agent)) (x1:Int):Option (Int):=(if(decide ((w64 (x1 - (x0.length:Int)))<0))=true then some (-1) else((iter (z2Y fuel x0) fuel (w64 (x1 - (x0.length:Int)),0)).bind fun o=>aft o (z4y fuel)))

theorem laws_szAgentS_ok {W:Base}{w:World}(hE:Ext W w){H:Option Addr}{f0:Nat}{x0:(List D.Agent)}{x1:Int}(k0:ty22.ro W [sl H x0 f0] x0){fuel:Nat}{r:Int}(hm:z3e fuel x0 x1=some r):
  Calls Tryd.prog 9 ⟨[sl H x0 f0,.int .i64 x1]⟩ w (Ret fun v w8=>v=.int .i64 r∧St w w8 []):=by
 refine into Tryd.func9 27 _ ?_;unfold z3e at hm;have hS:=St.start w;refine sq<|rg<|rr 1 ?_;refine rn<|sq<|rg<|rr 5 ?_;refine rn<|sq<|sq<|rg<|rr 2 ?_;refine rn<|ci hm (fun hm=>?_) (fun hm=>?_)
 ·refine sq<|rg<|rr 1 ?_;refine rn<|rt ?_;cases hm;exact⟨_,.cons (.tmp rfl) .nil,rfl,hS⟩
 ·refine sp<|sq<|sq<|rg<|rr 1 ?_;refine rn ?_;obtain⟨o0,b0,hm⟩:=bS hm;refine ct (fun(t2:Int) F w9=>o0=.inl t2∧Ext w w9∧St w w9 []∧F=[(1,.int .i64 t2)]) ?_ ?_
  ·rintro t2 F w7 ⟨c0,u0,Y,rfl⟩;subst c0;rw [zR] at hm;unfold z4y at hm;refine sq<|rg<|rr 2 ?_;refine rn<|rt ?_;cases hm;exact⟨_,.cons (.tmp rfl) .nil,rfl,Y⟩
  ·refine bk<|wk [0,1,5] ?_;refine it (fun(s1:Int × Int) F w9=>Ext w w9∧St w w9 []∧F=[(0,sl H x0 f0),(1,.int .i64 s1.1),(5,.int .i64 s1.2)]) b0 ⟨(Ext.refl _),hS,rfl⟩ ?_;rintro s1 F E0 _ A0 ⟨g0,d,rfl⟩ b y;unfold z2Y at b;refine sq<|sq<|rg<|rr 4 ?_;refine rn<|ci b (fun b=>?_) (fun b=>?_)
   ·refine sp<|sq<|bk<|sq<|rg<|rr 2 ?_;obtain⟨G0,d0,b⟩:=bS b;refine ix (hE.trans d.ext) k0 d0 (fun B0 j0 a0 G=>?_);obtain⟨p0,v0,q0,y0,i0,r0,t0⟩:=z5n G;subst i0;refine lN (At.ext (hE.trans d.ext) a0) ?_;refine rr 1 ?_;obtain⟨C0,e0,b⟩:=bS b;refine ca zaX (laws_szAgent_ok (hE.trans d.ext) G e0) (fun D0 F0 O=>?_);obtain⟨rfl,k⟩:=O;have o:=d.join k;refine rr 1 ?_;refine rn<|sq<|rg<|rr 2 ?_;refine rn<|ci b (fun b=>?_) (fun b=>?_)
    ·refine sq<|rg<|rr 1 ?_;refine rn<|rt ?_;cases b;cases y;have hm:some _=some _:=hm;cases hm;exact⟨_,.cons (.tmp rfl) .nil,rfl,o⟩
    ·refine sp<|rg<|rr 3 ?_;refine rn ?_;cases b;exact⟨_,_,rfl,⟨(g0.trans k.ext),o,rfl⟩,rfl⟩
   ·refine xt ?_;cases b;exact⟨_,_,⟨y,g0,d,rfl⟩,rfl⟩

theorem zbx:Enters Tryd.prog 4:=⟨_,_,Tryd.func4,rfl,by kernel_rfl⟩
def z4b (fuel:Nat) (x0:D.Net) (x1:Int):Option (Int):=((z3e fuel x0.Agents x1).bind fun b=>(if(decide (b<0))=true then some (-1) else some b))

theorem laws_szNet_ok {W:Base}{w:World}(hE:Ext W w){G:List Value}{x0:D.Net}{x1:Int}(H:ty24.ro W G x0){fuel:Nat}{r:Int}(hm:z4b fuel x0 x1=some r):
  Calls Tryd.prog 4 ⟨[.agg ⟨G⟩,.int .i64 x1]⟩ w (Ret fun v w8=>v=.int .i64 r∧St w w8 []):=by
 obtain⟨A1,k2,e4,h3⟩:=z6h H;subst e4;refine into Tryd.func4 12 _ ?_;unfold z4b at hm;have hS:=St.start w;refine sq<|rg<|nw hS (fun g5 w6 e7 b=>?_);refine rr 1 ?_;refine rn<|sq<|rg<|rr 1 ?_;refine l1 ((b.bring 0 rfl).box) 0 ?_;refine rr 1 ?_;obtain⟨O,y,hm⟩:=bS hm;refine ca zbt (laws_szAgentS_ok (hE.trans b.ext) h3 y) (fun Y a0 k=>?_);obtain⟨rfl,o⟩:=k;have d:=b.join o;refine rr 1 ?_;refine rn<|sq<|sq<|rg<|rr 2 ?_;refine rn<|ci hm (fun hm=>?_) (fun hm=>?_)
 ·refine sq<|rg<|rr 1 ?_;refine rn<|rt ?_;cases hm;exact⟨_,.cons (.tmp rfl) .nil,rfl,(d.taken 0)⟩
 ·refine sp<|sq<|rg<|rr 2 ?_;refine rn<|rt ?_;cases hm;exact⟨_,.cons (.tmp rfl) .nil,rfl,(d.taken 0)⟩

theorem zaK:Enters Tryd.prog 38:=⟨_,_,Tryd.func38,rfl,by kernel_rfl⟩
def z4w (fuel:Nat) (b:(List Int)):Option (List Int):=some b
def z2W (fuel:Nat) (x0:(List Int)) (b:Int × (List Int)):Option (Rd (Int × (List Int)) ((List Int)) ((List Int))):=(if(decide (b.1<(x0.length:Int)))=true then((idx x0 b.1).bind fun d=>(if decide (0≤b.1∧b.1.toNat<b.2.length)=true then some (.next (w64 (b.1+1),(b.2.set b.1.toNat d))) else none)) else some (.brk b.2))
def z3b (fuel:Nat) (x0:(List Int)):Option ((List Int)):=(if decide (0≤(x0.length:Int)∧(x0.length:Int)≤4294967296)=true then((iter (z2W fuel x0) fuel (0,(List.replicate (x0.length:Int).toNat (0:Int)))).bind fun o=>aft o (z4w fuel)) else none)

theorem laws_toInt64S_ok {W:Base}{w:World}(hE:Ext W w){G:Option Addr}{j0:Nat}{x0:(List Int)}(t0:ty37.ro W [sl G x0 j0] x0){fuel:Nat}{r:(List Int)}(hm:z3b fuel x0=some r):
  Calls Tryd.prog 38 ⟨[sl G x0 j0]⟩ w (Ret fun v w8=>∃ A0 k0,v=sl A0 r k0∧St w w8 [ow ty37 A0 r k0]):=by
 refine into Tryd.func38 22 _ ?_;unfold z3b at hm;have hS:=St.start w;refine sq<|rg<|rr 1 ?_;refine rn<|sq<|rg<|rr 2 ?_;obtain⟨v0,hm⟩:=iS hm;have hz7:=of_decide_eq_true v0;refine mS (U:=tInt) (0:Int) hS hz7 (fun _=>⟨rfl,rfl⟩) (fun A2 k3 w4 e5 u0=>?_);refine rr 1 ?_;refine rn<|sq<|sq<|rg<|rr 1 ?_;refine rn ?_;obtain⟨y0,d0,hm⟩:=bS hm;refine ct (fun(p0:(List Int)) F w9=>y0=.inl p0∧St w w9 [Own ty37 [sl A2 (List.replicate (x0.length:Int).toNat (0:Int)) k3] p0]∧F=[(3,sl A2 (List.replicate (x0.length:Int).toNat (0:Int)) k3)]) ?_ ?_
 ·rintro p0 F D0 ⟨e0,o,rfl⟩;subst e0;rw [zR] at hm;unfold z4w at hm;refine sq<|rg<|rr 2 ?_;refine rn<|rt ?_;cases hm;have hn18:=(o.bring 0 rfl).lenEq;have H:=(o.bring 0 rfl).reLen hn18;exact⟨_,.cons (.tmp rfl) .nil,A2,k3,(by first | (simp only [sl,hn18];done) | (simp only [sl,hn18];rfl)),H⟩
 ·refine bk<|wk [0,3,4] ?_;refine it (fun(o0:Int × (List Int)) F w9=>St w w9 [Own ty37 [sl A2 (List.replicate (x0.length:Int).toNat (0:Int)) k3] o0.2]∧F=[(0,sl G x0 j0),(3,sl A2 (List.replicate (x0.length:Int).toNat (0:Int)) k3),(4,.int .i64 o0.1)]) d0 ⟨u0,rfl⟩ ?_;rintro o0 F E0 _ B0 ⟨d,rfl⟩ b f0;unfold z2W at b;refine sq<|sq<|rg<|rr 4 ?_;refine rn<|ci b (fun b=>?_) (fun b=>?_)
  ·refine sp<|sq<|bk<|rg<|rr 4 ?_;obtain⟨q0,i0,b⟩:=bS b;refine ix (hE.trans d.ext) t0 i0 (fun C0 r0 b0 g0=>?_);cases g0;refine l1 (At.ext (hE.trans d.ext) b0) 0 ?_;have y:=d.bring 0 rfl;obtain⟨c0,b⟩:=iS b;have k:=of_decide_eq_true c0;refine io y k.1 k.2 (fun q34 hq35=>?_);have O:=y.flat (T:=tInt) (cs:=[.int .i64 q0]) (x:=q0) ⟨rfl,rfl⟩;have Y:=O.bring 1 rfl;refine se Y k.2 hq35 (fun F0 a0=>?_);refine rn<|rg<|rr 3 ?_;refine rn ?_;cases b;exact⟨_,_,rfl,⟨a0,rfl⟩,rfl⟩
  ·refine xt ?_;cases b;exact⟨_,_,⟨f0,d,rfl⟩,rfl⟩

theorem zar:Enters Tryd.prog 59:=⟨_,_,Tryd.func59,rfl,by kernel_rfl⟩
def z3V (fuel:Nat) (x0:D.Port):Option (D.Port):=some (⟨x0.Agent,x0.Slot⟩:D.Port)

theorem laws_toPort_ok {W:Base}{w:World}(hE:Ext W w){Y:List Value}{x0:D.Port}(a0:z8K.ro W Y x0){fuel:Nat}{r:D.Port}(hm:z3V fuel x0=some r):
  Calls Tryd.prog 59 ⟨[.agg ⟨Y⟩]⟩ w (Ret fun v w8=>v=.agg ⟨[.int .i64 r.Agent,.int .i64 r.Slot]⟩∧St w w8 []):=by
 have e1:=z6N a0;subst e1;refine into Tryd.func59 11 _ ?_;unfold z3V at hm;have hS:=St.start w;refine sq<|rg<|nw hS (fun g2 w3 e4 b0=>?_);refine nw b0 (fun g6 w7 c0 y=>?_);refine rn<|sq<|rg<|nw y (fun e0 f0 d0 b=>?_);refine rn<|sq<|rg<|rr 1 ?_;refine l1 ((b.bring 2 rfl).box) 0 ?_;refine rr 1 ?_;have G:=b.bring 0 rfl;refine so (A:=[]) G 0 (fun g0 d=>?_);refine rn<|sq<|rg<|rr 1 ?_;refine l1 ((d.bring 2 rfl).box) 1 ?_;refine rr 1 ?_;have H:=d.bring 0 rfl;refine so (A:=[]) H 1 (fun i0 k=>?_);refine rn<|sq<|rg<|lN ((k.bring 0 rfl).box) ?_;have O:=k.bring 1 rfl;refine so (A:=[]) O 0 (fun j0 o=>?_);refine rn<|rt ?_;cases hm;exact⟨_,.cons (ra ((o.bring 0 rfl).box)) .nil,rfl,(o.taken 0)⟩

theorem zaJ:Enters Tryd.prog 39:=⟨_,_,Tryd.func39,rfl,by kernel_rfl⟩
def z4O (fuel:Nat) (b:(List D.Port)):Option (List D.Port):=some b
def z3q (fuel:Nat) (x0:(List D.Port)) (b:Int × (List D.Port)):Option (Rd (Int × (List D.Port)) ((List D.Port)) ((List D.Port))):=(if(decide (b.1<(x0.length:Int)))=true then((idx x0 b.1).bind fun k=>((z3V fuel k).bind fun d=>(if decide (0≤b.1∧b.1.toNat<b.2.length)=true then some (.next (w64 (b.1+1),(b.2.set b.1.toNat d))) else none))) else some (.brk b.2))
def z3y (fuel:Nat) (x0:(List D.Port)):Option ((List D.Port)):=(if decide (0≤(x0.length:Int)∧(x0.length:Int)≤4294967296)=true then((iter (z3q fuel x0) fuel (0,(List.replicate (x0.length:Int).toNat (⟨(0:Int),(0:Int)⟩:D.Port)))).bind fun o=>aft o (z4O fuel)) else none)

theorem laws_toPortS_ok {W:Base}{w:World}(hE:Ext W w){H:Option Addr}{r0:Nat}{x0:(List D.Port)}(B0:ty55.ro W [sl H x0 r0] x0){fuel:Nat}{r:(List D.Port)}(hm:z3y fuel x0=some r):
  Calls Tryd.prog 39 ⟨[sl H x0 r0]⟩ w (Ret fun v w8=>∃ A0 k0,v=sl A0 r k0∧St w w8 [ow ty60 A0 r k0]):=by
 refine into Tryd.func39 23 _ ?_;unfold z3y at hm;have hS:=St.start w;refine sq<|rg<|rr 1 ?_;refine rn<|sq<|rg<|rr 2 ?_;obtain⟨D0,hm⟩:=iS hm;have hz7:=of_decide_eq_true D0;refine mS (U:=ty64) (⟨(0:Int),(0:Int)⟩:D.Port) hS hz7 (fun _=>(z6g (c:=(⟨(0:Int),(0:Int)⟩:D.Port)) rfl)) (fun A2 k3 w4 e5 C0=>?_);refine rr 1 ?_;refine rn<|sq<|sq<|rg<|rr 1 ?_;refine rn ?_;obtain⟨E0,i0,hm⟩:=bS hm;refine ct (fun(u0:(List D.Port)) F w9=>E0=.inl u0∧St w w9 [Own ty60 [sl A2 (List.replicate (x0.length:Int).toNat (⟨(0:Int),(0:Int)⟩:D.Port)) k3] u0]∧F=[(3,sl A2 (List.replicate (x0.length:Int).toNat (⟨(0:Int),(0:Int)⟩:D.Port)) k3)]) ?_ ?_
 ·rintro u0 F K0 ⟨j0,o,rfl⟩;subst j0;rw [zR] at hm;unfold z4O at hm;refine sq<|rg<|rr 2 ?_;refine rn<|rt ?_;cases hm;have hn18:=(o.bring 0 rfl).lenEq;have a0:=(o.bring 0 rfl).reLen hn18;exact⟨_,.cons (.tmp rfl) .nil,A2,k3,(by first | (simp only [sl,hn18];done) | (simp only [sl,hn18];rfl)),a0⟩
 ·refine bk<|wk [0,3,4] ?_;refine it (fun(t0:Int × (List D.Port)) F w9=>St w w9 [Own ty60 [sl A2 (List.replicate (x0.length:Int).toNat (⟨(0:Int),(0:Int)⟩:D.Port)) k3] t0.2]∧F=[(0,sl H x0 r0),(3,sl A2 (List.replicate (x0.length:Int).toNat (⟨(0:Int),(0:Int)⟩:D.Port)) k3),(4,.int .i64 t0.1)]) i0 ⟨C0,rfl⟩ ?_;rintro t0 F M0 _ G0 ⟨d,rfl⟩ b o0;unfold z3q at b;refine sq<|sq<|rg<|rr 4 ?_;refine rn<|ci b (fun b=>?_) (fun b=>?_)
  ·refine sp<|sq<|bk<|rg<|rr 4 ?_;obtain⟨P0,p0,b⟩:=bS b;refine ix (hE.trans d.ext) B0 p0 (fun H0 y0 f0 G=>?_);have v0:=z6N G;subst v0;refine lN (At.ext (hE.trans d.ext) f0) ?_;obtain⟨F0,q0,b⟩:=bS b;refine ca zar (laws_toPort_ok (hE.trans d.ext) G q0) (fun J0 N0 O=>?_);obtain⟨rfl,Y⟩:=O;have b0:=d.join Y;have y:=b0.bring 0 rfl;obtain⟨g0,b⟩:=iS b;have k:=of_decide_eq_true g0;refine io y k.1 k.2 (fun q42 hq43=>?_);have c0:=z8H (c:=F0) (B:=_) y;have d0:=c0.bring 1 rfl;refine se d0 k.2 hq43 (fun O0 e0=>?_);refine rn<|rg<|rr 3 ?_;refine rn ?_;cases b;exact⟨_,_,rfl,⟨e0,rfl⟩,rfl⟩
  ·refine xt ?_;cases b;exact⟨_,_,⟨o0,d,rfl⟩,rfl⟩

theorem zaU:Enters Tryd.prog 19:=⟨_,_,Tryd.func19,rfl,by kernel_rfl⟩
def z3z (fuel:Nat) (x0:D.Agent):Option (D.Agent):=((z3b fuel x0.Data).bind fun b=>((z3y fuel x0.Ports).bind fun d=>some (⟨x0.Kind,x0.Level,x0.Value,b,d⟩:D.Agent)))

theorem laws_toAgent_ok {W:Base}{w:World}(hE:Ext W w){u0:List Value}{x0:D.Agent}(B0:ty57.ro W u0 x0){fuel:Nat}{r:D.Agent}(hm:z3z fuel x0=some r):
  Calls Tryd.prog 19 ⟨[.agg ⟨u0⟩]⟩ w (Ret fun v w8=>∃ A0 k0 A1 k1,v=.agg ⟨[.int .i64 r.Kind,.int .i64 r.Level,.int .i64 r.Value,sl A0 r.Data k0,sl A1 r.Ports k1]⟩∧St w w8 [ow ty37 A0 r.Data k0,ow ty60 A1 r.Ports k1]):=by
 obtain⟨A1,k2,A4,k5,e7,h3,h6⟩:=z5n B0;subst e7;refine into Tryd.func19 22 _ ?_;unfold z3z at hm;have hS:=St.start w;refine sq<|rg<|nw hS (fun H0 Q0 E0 c0=>?_);refine nw c0 (fun J0 R0 F0 d0=>?_);refine rn<|sq<|rg<|nw d0 (fun K0 S0 G0 k=>?_);refine rn<|sq<|rg<|rr 1 ?_;refine l1 ((k.bring 2 rfl).box) 0 ?_;refine rr 1 ?_;have e0:=k.bring 0 rfl;refine so (A:=[]) e0 0 (fun T0 o=>?_);refine rn<|sq<|rg<|rr 1 ?_;refine l1 ((o.bring 2 rfl).box) 1 ?_;refine rr 1 ?_;have f0:=o.bring 0 rfl;refine so (A:=[]) f0 1 (fun U0 y=>?_);refine rn<|sq<|rg<|rr 1 ?_;refine l1 ((y.bring 2 rfl).box) 2 ?_;refine rr 1 ?_;have g0:=y.bring 0 rfl;refine so (A:=[]) g0 2 (fun V0 b=>?_);refine rn<|sq<|rg<|rr 1 ?_;refine l1 ((b.bring 2 rfl).box) 3 ?_;obtain⟨M0,r0,hm⟩:=bS hm;refine ca zaK (laws_toInt64S_ok (hE.trans b.ext) h3 r0) (fun O0 X0 O=>?_);obtain⟨v0,C0,rfl,Y⟩:=O;have i0:=b.join Y;refine rr 1 ?_;have j0:=i0.bring 1 rfl;refine so (A:=[]) j0 3 (fun Y0 d=>?_);refine rn<|sq<|rg<|rr 1 ?_;refine l1 ((d.bring 3 rfl).box) 4 ?_;obtain⟨N0,t0,hm⟩:=bS hm;refine ca zaJ (laws_toPortS_ok (hE.trans d.ext) h6 t0) (fun P0 a1 a0=>?_);obtain⟨y0,D0,rfl,b0⟩:=a0;have o0:=d.join b0;refine rr 1 ?_;have p0:=o0.bring 1 rfl;refine so (A:=[]) p0 4 (fun b1 G=>?_);refine rn<|sq<|rg<|lN ((G.bring 0 rfl).box) ?_;have q0:=G.bring 3 rfl;refine so (A:=[]) q0 0 (fun c1 H=>?_);refine rn<|rt ?_;cases hm;exact⟨_,.cons (ra ((H.bring 0 rfl).box)) .nil,v0,C0,y0,D0,rfl,(((H.bring 2 rfl).bring 3 rfl).taken 2)⟩

theorem zb0:Enters Tryd.prog 12:=⟨_,_,Tryd.func12,rfl,by kernel_rfl⟩
def z4x (fuel:Nat) (b:(List D.Agent)):Option (List D.Agent):=some b
def z2X (fuel:Nat) (x0:(List D.Agent)) (b:Int × (List D.Agent)):Option (Rd (Int × (List D.Agent)) ((List D.Agent)) ((List D.Agent))):=(if(decide (b.1<(x0.length:Int)))=true then((idx x0 b.1).bind fun k=>((z3z fuel k).bind fun d=>(if decide (0≤b.1∧b.1.toNat<b.2.length)=true then some (.next (w64 (b.1+1),(b.2.set b.1.toNat d))) else none))) else some (.brk b.2))
def z3c (fuel:Nat) (x0:(List D.Agent)):Option ((List D.Agent)):=(if decide (0≤(x0.length:Int)∧(x0.length:Int)≤4294967296)=true then((iter (z2X fuel x0) fuel (0,(List.replicate (x0.length:Int).toNat (⟨(0:Int),(0:Int),(0:Int),([]:(List Int)),([]:(List D.Port))⟩:D.Agent)))).bind fun o=>aft o (z4x fuel)) else none)

theorem laws_toAgentS_ok {W:Base}{w:World}(hE:Ext W w){H:Option Addr}{u0:Nat}{x0:(List D.Agent)}(D0:ty22.ro W [sl H x0 u0] x0){fuel:Nat}{r:(List D.Agent)}(hm:z3c fuel x0=some r):
  Calls Tryd.prog 12 ⟨[sl H x0 u0]⟩ w (Ret fun v w8=>∃ A0 k0,v=sl A0 r k0∧St w w8 [ow ty28 A0 r k0]):=by
 refine into Tryd.func12 23 _ ?_;unfold z3c at hm;have hS:=St.start w;refine sq<|rg<|rr 1 ?_;refine rn<|sq<|rg<|rr 2 ?_;obtain⟨F0,hm⟩:=iS hm;have hz7:=of_decide_eq_true F0;refine mS (U:=ty62) (⟨(0:Int),(0:Int),(0:Int),([]:(List Int)),([]:(List D.Port))⟩:D.Agent) hS hz7 (fun _=>(z7v (c:=(⟨(0:Int),(0:Int),(0:Int),([]:(List Int)),([]:(List D.Port))⟩:D.Agent)) ⟨[],[],rfl,(slNilOwn tInt 2 _),⟨[],[],rfl,(slNilOwn ty64 64 _),rfl⟩⟩)) (fun A2 k3 w4 e5 E0=>?_);refine rr 1 ?_;refine rn<|sq<|sq<|rg<|rr 1 ?_;refine rn ?_;obtain⟨G0,o0,hm⟩:=bS hm;refine ct (fun(y0:(List D.Agent)) F w9=>G0=.inl y0∧St w w9 [Own ty28 [.slice A2 (List.replicate (x0.length:Int).toNat (⟨(0:Int),(0:Int),(0:Int),([]:(List Int)),([]:(List D.Port))⟩:D.Agent)).length k3] y0]∧F=[(3,.slice A2 (List.replicate (x0.length:Int).toNat (⟨(0:Int),(0:Int),(0:Int),([]:(List Int)),([]:(List D.Port))⟩:D.Agent)).length k3)]) ?_ ?_
 ·rintro y0 F Y0 ⟨p0,o,rfl⟩;subst p0;rw [zR] at hm;unfold z4x at hm;refine sq<|rg<|rr 2 ?_;refine rn<|rt ?_;cases hm;have hn18:=(o.bring 0 rfl).lenEq;have a0:=(o.bring 0 rfl).reLen hn18;exact⟨_,.cons (.tmp rfl) .nil,A2,k3,(by first | (simp only [sl,hn18];done) | (simp only [sl,hn18];rfl)),a0⟩
 ·refine bk<|wk [0,3,4] ?_;refine it (fun(v0:Int × (List D.Agent)) F w9=>St w w9 [Own ty28 [.slice A2 (List.replicate (x0.length:Int).toNat (⟨(0:Int),(0:Int),(0:Int),([]:(List Int)),([]:(List D.Port))⟩:D.Agent)).length k3] v0.2]∧F=[(0,sl H x0 u0),(3,.slice A2 (List.replicate (x0.length:Int).toNat (⟨(0:Int),(0:Int),(0:Int),([]:(List Int)),([]:(List D.Port))⟩:D.Agent)).length k3),(4,.int .i64 v0.1)]) o0 ⟨E0,rfl⟩ ?_;rintro v0 F a1 _ U0 ⟨d,rfl⟩ b q0;unfold z2X at b;refine sq<|sq<|rg<|rr 4 ?_;refine rn<|ci b (fun b=>?_) (fun b=>?_)
  ·refine sp<|sq<|bk<|rg<|rr 4 ?_;obtain⟨d1,r0,b⟩:=bS b;refine ix (hE.trans d.ext) D0 r0 (fun V0 C0 i0 G=>?_);obtain⟨J0,Q0,K0,R0,B0,O0,P0⟩:=z5n G;subst B0;refine lN (At.ext (hE.trans d.ext) i0) ?_;obtain⟨H0,t0,b⟩:=bS b;refine ca zaU (laws_toAgent_ok (hE.trans d.ext) G t0) (fun X0 b1 O=>?_);obtain⟨M0,S0,N0,T0,rfl,Y⟩:=O;have b0:=d.join Y;have y:=b0.bring 2 rfl;obtain⟨j0,b⟩:=iS b;have k:=of_decide_eq_true j0;refine io y k.1 k.2 (fun q52 hq53=>?_);have c0:=y.bring 2 rfl;have d0:=c0.bring 2 rfl;have e0:=z8J (c:=H0) (B:=_) d0;have f0:=e0.bring 1 rfl;refine se f0 k.2 hq53 (fun c1 g0=>?_);refine rn<|rg<|rr 3 ?_;refine rn ?_;cases b;exact⟨_,_,rfl,⟨g0,rfl⟩,rfl⟩
  ·refine xt ?_;cases b;exact⟨_,_,⟨q0,d,rfl⟩,rfl⟩

theorem z8f:Enters Tryd.prog 6:=⟨_,_,Tryd.func6,rfl,by kernel_rfl⟩
def z3a (fuel:Nat) (x0:D.Net):Option (D.Net):=((z3c fuel x0.Agents).bind fun b=>some (⟨b⟩:D.Net))

theorem laws_toNet_ok {W:Base}{w:World}(hE:Ext W w){c0:List Value}{x0:D.Net}(e0:ty24.ro W c0 x0){fuel:Nat}{r:D.Net}(hm:z3a fuel x0=some r):
  Calls Tryd.prog 6 ⟨[.agg ⟨c0⟩]⟩ w (Ret fun v w8=>∃ A0 k0,v=.agg ⟨[sl A0 r.Agents k0]⟩∧St w w8 [ow ty28 A0 r.Agents k0]):=by
 obtain⟨A1,k2,e4,h3⟩:=z6h e0;subst e4;refine into Tryd.func6 9 _ ?_;unfold z3a at hm;have hS:=St.start w;refine sq<|rg<|nw hS (fun g5 w6 e7 G=>?_);refine nw G (fun j0 r0 g0 H=>?_);refine rn<|sq<|rg<|nw H (fun o0 t0 i0 b=>?_);refine rn<|sq<|rg<|rr 1 ?_;refine l1 ((b.bring 2 rfl).box) 0 ?_;obtain⟨p0,b0,hm⟩:=bS hm;refine ca zb0 (laws_toAgentS_ok (hE.trans b.ext) h3 b0) (fun q0 u0 o=>?_);obtain⟨d0,f0,rfl,y⟩:=o;have O:=b.join y;refine rr 1 ?_;have Y:=O.bring 1 rfl;refine so (A:=[]) Y 0 (fun v0 d=>?_);refine rn<|sq<|rg<|lN ((d.bring 0 rfl).box) ?_;have a0:=d.bring 2 rfl;refine so (A:=[]) a0 0 (fun y0 k=>?_);refine rn<|rt ?_;cases hm;exact⟨_,.cons (ra ((k.bring 0 rfl).box)) .nil,d0,f0,rfl,((k.bring 2 rfl).taken 1)⟩

theorem zbw:Enters Tryd.prog 5:=⟨_,_,Tryd.func5,rfl,by kernel_rfl⟩
def z38 (fuel:Nat) (x0:D.Net):Option (Int × Int × Int):=((z4a fuel x0).bind fun d=>(if(!d)=true then some (0,0,1) else((z2e fuel x0).bind fun b=>(if(b.2.code != 0)=true then some (0,0,b.2.code) else some (b.2.steps,b.2.nodes,0)))))

theorem z60 {W:Base}{w:World}(hE:Ext W w){j0:List Value}{x0:D.Net}(G:ty30.ro W j0 x0){fuel:Nat}{r:Int × Int × Int}(hm:z38 fuel x0=some r):
  Calls Tryd.prog 5 ⟨[.agg ⟨j0⟩]⟩ w (Ret fun v w8=>v=.tuple ⟨[.int .i64 r.1,.int .i64 r.2.1,.int .i64 r.2.2]⟩∧St w w8 []):=by
 obtain⟨A1,k2,e4,h3⟩:=z1s G;subst e4;refine into Tryd.func5 30 _ ?_;unfold z38 at hm;have hS:=St.start w;refine sq<|rg<|nw hS (fun g5 w6 e7 y=>?_);refine rr 3 ?_;refine rn<|sq<|sq<|rg ?_;obtain⟨O0,g0,hm⟩:=bS hm;refine ca zb2 (z79 (Ext.refl _) (ty30.ext (hE.trans y.ext) G) ((y.bring 0 rfl).box) g0) (fun Q0 S0 H=>?_);obtain⟨rfl,O⟩:=H;have k:=y.join O;refine rr 1 ?_;refine rn<|ci hm (fun hm=>?_) (fun hm=>?_)
 ·refine sq<|rg<|rr 3 ?_;refine rn<|rt ?_;cases hm;exact⟨_,.cons (.tmp rfl) (.cons (.tmp rfl) (.cons (.tmp rfl) .nil)),rfl,(k.taken 0)⟩
 ·refine sp<|sq<|rg ?_;obtain⟨P0,i0,hm⟩:=bS hm;refine ca zb1 (z6j (Ext.refl _) (ty30.ext (hE.trans k.ext) G) ((k.bring 0 rfl).box) i0) (fun R0 T0 Y=>?_);obtain⟨q0,F0,r0,G0,C0,N0,A0,t0,H0,u0,J0,v0,K0,rfl,a0,o0,p0⟩:=Y;have b0:=k.join a0;obtain⟨y0,M0,k0,E0⟩:=z1s o0;subst k0;refine rr 3 ?_;refine nw b0 (fun D0 U0 B0 c0=>?_);have d0:=c0.bring 0 rfl;refine so (A:=[]) d0 0 (fun V0 b=>?_);refine rr 1 ?_;refine rn<|sq<|sq<|rg<|rr 3 ?_;refine l1 ((b.bring 3 rfl).box) 6 ?_;refine rr 1 ?_;refine rn<|ci hm (fun hm=>?_) (fun hm=>?_)
  ·refine sq<|dn 0 mixed 7 [([],127),([0],126),([1],125),([2],123),([],127),([4,4],127),([3,5,0,1,2,3,4,5],119)] b.ext (fun o=>?_);have e0:=b.step (Ext.draw _);refine dr 2 o [0,1,2,4,5] ?_;refine dw [2,3,4,20] ?_;refine dl o 3 ((b.bring 3 rfl).box) 6 ?_;refine dr 0 o [6] ?_;refine dd o ?_;refine rt ?_;cases hm;exact⟨_,.cons (.tmp rfl) (.cons (.tmp rfl) (.cons (.tmp rfl) .nil)),rfl,(e0.taken 0)⟩
  ·refine sp<|sq<|dn 0 mixed 11 [([],2047),([0],2046),([1],2045),([2],2043),([],2047),([4],2031),([5],2015),([6],1983),([3,0,1,2,3],2039),([7,8,0,1,2,3,4,5,6,7,8],1919),([9,0,1,2,3,4,5,6,7,8,9],2047)] b.ext (fun d=>?_);have f0:=b.step (Ext.draw _);refine dr 5 d [0,1,2,4,5,6] ?_;refine dw [2,3,4,24,28] ?_;refine dl d 3 ((b.bring 3 rfl).box) 1 ?_;refine dr 3 d [8] ?_;refine dl d 7 ((b.bring 3 rfl).box) 2 ?_;refine dr 0 d [9,10] ?_;refine dd d ?_;refine rt ?_;cases hm;exact⟨_,.cons (.tmp rfl) (.cons (.tmp rfl) (.cons (.tmp rfl) .nil)),rfl,(f0.taken 0)⟩

theorem zbv:Enters Tryd.prog 7:=⟨_,_,Tryd.func7,rfl,by kernel_rfl⟩
def z3j (fuel:Nat) (x0:D.Net):Option (Int × Int × Int):=((z2h fuel x0).bind fun b=>((b.1).elim (if(b.2.2 != 0)=true then some (0,0,b.2.2) else none) (fun m16=>(if(b.2.2 != 0)=true then some (0,0,b.2.2) else some (m16.entered,m16.nodes,0)))))

theorem z64 {W:Base}{w:World}(hE:Ext W w){i0:List Value}{x0:D.Net}(hT:Tab W) (j0:ty30.ro W i0 x0){fuel:Nat}{r:Int × Int × Int}(hm:z3j fuel x0=some r):
  Calls Tryd.prog 7 ⟨[.agg ⟨i0⟩]⟩ w (Ret fun v w8=>v=.tuple ⟨[.int .i64 r.1,.int .i64 r.2.1,.int .i64 r.2.2]⟩∧St w w8 []):=by
 obtain⟨A1,k2,e4,h3⟩:=z1s j0;subst e4;refine into Tryd.func7 25 _ ?_;unfold z3j at hm;have hS:=St.start w;refine sq<|rg<|nw hS (fun g5 w6 e7 k=>?_);refine rr 3 ?_;refine rn<|sq<|rg<|lN ((k.bring 0 rfl).box) ?_;obtain⟨O0,f0,hm⟩:=bS hm;refine ca zaZ (z6D (hE.trans k.ext) hT j0 f0) (fun P0 Q0 y=>?_)
 rcases y with⟨k0,t0,o0,u0,p0,rfl,G⟩ | ⟨m16,E0,v0,J0,y0,K0,A0,M0,B0,N0,k0,t0,o0,u0,q0,rfl,H,H0⟩
 ·rw [p0,Option.elim_none] at hm;have O:=k.join G;refine rr 4 ?_;refine nw O (fun F0 R0 C0 Y=>?_);refine rr 1 ?_;have a0:=Y.bring 0 rfl;refine so (A:=[]) a0 0 (fun S0 o=>?_);refine rr 1 ?_;refine rn<|sq<|sq<|rg<|rr 2 ?_;refine rn<|ci hm (fun hm=>?_) (fun hm=>?_)
  ·refine sq<|rg<|rr 4 ?_;refine rn<|rt ?_;cases hm;exact⟨_,.cons (.tmp rfl) (.cons (.tmp rfl) (.cons (.tmp rfl) .nil)),rfl,(o.taken 0)⟩
  ·refine sp<|sq<|dn 0 mixed 11 [([],2047),([0],2046),([1],2045),([2],2043),([],2047),([4],2031),([5],2015),([6],1983),([3,0,1,2,3],2039),([7,8,0,1,2,3,4,5,6,7,8],1919),([9,0,1,2,3,4,5,6,7,8,9],2047)] o.ext (fun g0=>?_);have r0:=o.step (Ext.draw _);refine dr 9 g0 [0,4] ?_;refine dw [2,3,4,17,21] ?_;cases hm
 ·rw [q0,Option.elim_some] at hm;have b0:=k.join H;refine rr 4 ?_;refine nw b0 (fun G0 T0 D0 c0=>?_);refine rr 1 ?_;have d0:=c0.bring 0 rfl;refine so (A:=[]) d0 0 (fun U0 d=>?_);refine rr 1 ?_;refine rn<|sq<|sq<|rg<|rr 2 ?_;refine rn<|ci hm (fun hm=>?_) (fun hm=>?_)
  ·refine sq<|rg<|rr 4 ?_;refine rn<|rt ?_;cases hm;exact⟨_,.cons (.tmp rfl) (.cons (.tmp rfl) (.cons (.tmp rfl) .nil)),rfl,(d.taken 0)⟩
  ·refine sp<|sq<|dn 0 mixed 11 [([],2047),([0],2046),([1],2045),([2],2043),([],2047),([4],2031),([5],2015),([6],1983),([3,0,1,2,3],2039),([7,8,0,1,2,3,4,5,6,7,8],1919),([9,0,1,2,3,4,5,6,7,8,9],2047)] d.ext (fun b=>?_);have e0:=d.step (Ext.draw _);refine dr 5 b [0,1,2,4,5,6] ?_;refine dw [2,3,4,19,23] ?_;refine dl b 3 ((d.bring 1 rfl).box) 1 ?_;refine dr 3 b [8] ?_;refine dl b 7 ((d.bring 1 rfl).box) 2 ?_;refine dr 0 b [9,10] ?_;refine dd b ?_;refine rt ?_;cases hm;exact⟨_,.cons (.tmp rfl) (.cons (.tmp rfl) (.cons (.tmp rfl) .nil)),rfl,(e0.taken 0)⟩

theorem zay:Enters Tryd.prog 52:=⟨_,_,Tryd.func52,rfl,by kernel_rfl⟩
def z4z (fuel:Nat) (t2:Unit):Option Bool:=some true
def z2Z (fuel:Nat) (x0:(List Int)) (x1:(List Int)) (s1:Int):Option (Rd (Int) (Unit) (Bool)):=(if(decide (s1<(x0.length:Int)))=true then((idx x0 s1).bind fun b=>((idx x1 s1).bind fun d=>(if(b != d)=true then some (.ret false) else some (.next (w64 (s1+1)))))) else some (.brk ()))
def z3f (fuel:Nat) (x0:(List Int)) (x1:(List Int)):Option (Bool):=(if((x0.length:Int) != (x1.length:Int))=true then some false else((iter (z2Z fuel x0 x1) fuel 0).bind fun o=>aft o (z4z fuel)))

theorem laws_eqInt64S_ok {W:Base}{w:World}(hE:Ext W w){G:Option Addr}{i0:Nat}{x0:(List Int)}{H:Option Addr}{j0:Nat}{x1:(List Int)}(q0:ty37.ro W [sl G x0 i0] x0) (r0:ty37.ro W [sl H x1 j0] x1){fuel:Nat}{r:Bool}(hm:z3f fuel x0 x1=some r):
  Calls Tryd.prog 52 ⟨[sl G x0 i0,sl H x1 j0]⟩ w (Ret fun v w8=>v=.bool r∧St w w8 []):=by
 refine into Tryd.func52 26 _ ?_;unfold z3f at hm;have hS:=St.start w;refine sq<|rg<|rr 1 ?_;refine rn<|sq<|sq<|rg<|rr 5 ?_;refine rn<|ci hm (fun hm=>?_) (fun hm=>?_)
 ·refine sq<|rg<|rr 1 ?_;refine rn<|rt ?_;cases hm;exact⟨_,.cons (.tmp rfl) .nil,rfl,hS⟩
 ·refine sp<|sq<|sq<|rg<|rr 1 ?_;refine rn ?_;obtain⟨t0,b0,hm⟩:=bS hm;refine ct (fun(t2:Unit) F w9=>t0=.inl t2∧Ext w w9∧St w w9 []∧F=[]) ?_ ?_
  ·rintro t2 F w7 ⟨c0,u0,O,rfl⟩;subst c0;rw [zR] at hm;unfold z4z at hm;refine sq<|rg<|rr 1 ?_;refine rn<|rt ?_;cases hm;exact⟨_,.cons (.tmp rfl) .nil,rfl,O⟩
  ·refine bk<|wk [0,1,5] ?_;refine it (fun(s1:Int) F w9=>Ext w w9∧St w w9 []∧F=[(0,sl G x0 i0),(1,sl H x1 j0),(5,.int .i64 s1)]) b0 ⟨(Ext.refl _),hS,rfl⟩ ?_;rintro s1 F B0 _ v0 ⟨k0,d,rfl⟩ b y;unfold z2Z at b;refine sq<|sq<|rg<|rr 4 ?_;refine rn<|ci b (fun b=>?_) (fun b=>?_)
   ·refine sp<|sq<|bk<|sq<|dn 0 mixed 9 [([],511),([],511),([0,1],508),([2],507),([],511),([],511),([4,5],463),([6],447),([3,7],375)] d.ext (fun k=>?_);have o:=d.step (Ext.draw _);refine dr 5 k [0,1,4,5] ?_;obtain⟨C0,f0,b⟩:=bS b;refine dx (hE.trans d.ext) k 2 q0 f0 (fun y0 o0 Y d0=>?_);cases d0;refine dl k 3 (At.ext (hE.trans d.ext) Y) 0 ?_;obtain⟨D0,g0,b⟩:=bS b;refine dx (hE.trans d.ext) k 6 r0 g0 (fun A0 p0 a0 e0=>?_);cases e0;refine dl k 7 (At.ext (hE.trans d.ext) a0) 0 ?_;refine dr 0 k [8] ?_;refine dw [0,1,5,25] ?_;refine dd k ?_;refine ci b (fun b=>?_) (fun b=>?_)
    ·refine sq<|rg<|rr 1 ?_;refine rn<|rt ?_;cases b;cases y;have hm:some _=some _:=hm;cases hm;exact⟨_,.cons (.tmp rfl) .nil,rfl,o⟩
    ·refine sp<|rg<|rr 3 ?_;refine rn ?_;cases b;exact⟨_,_,rfl,⟨(k0.trans (Ext.draw _)),o,rfl⟩,rfl⟩
   ·refine xt ?_;cases b;exact⟨_,_,⟨y,k0,d,rfl⟩,rfl⟩

theorem zaj:Enters Tryd.prog 67:=⟨_,_,Tryd.func67,rfl,by kernel_rfl⟩
def z3W (fuel:Nat) (x0:D.Port) (x1:D.Port):Option (Bool):=(if(x0.Agent != x1.Agent)=true then some false else(if(x0.Slot != x1.Slot)=true then some false else some true))

theorem laws_eqPort_ok {W:Base}{w:World}(hE:Ext W w){d:List Value}{x0:D.Port}{k:List Value}{x1:D.Port}(o:ty64.ro W d x0) (y:ty64.ro W k x1){fuel:Nat}{r:Bool}(hm:z3W fuel x0 x1=some r):
  Calls Tryd.prog 67 ⟨[.agg ⟨d⟩,.agg ⟨k⟩]⟩ w (Ret fun v w8=>v=.bool r∧St w w8 []):=by
 have e1:=zT o;subst e1;have e2:=zT y;subst e2;refine into Tryd.func67 15 _ ?_;unfold z3W at hm;have hS:=St.start w;refine sq<|rg<|nw hS (fun g3 w4 e5 G=>?_);refine nw G (fun g7 O H b=>?_);refine rr 1 ?_;refine rn<|sq<|sq<|rg<|rr 1 ?_;refine l1 ((b.bring 1 rfl).box) 0 ?_;refine rr 1 ?_;refine l1 ((b.bring 0 rfl).box) 0 ?_;refine rr 1 ?_;refine rn<|ci hm (fun hm=>?_) (fun hm=>?_)
 ·refine sq<|rg<|rr 1 ?_;refine rn<|rt ?_;cases hm;exact⟨_,.cons (.tmp rfl) .nil,rfl,(b.taken 0)⟩
 ·refine sp<|sq<|sq<|rg<|rr 1 ?_;refine l1 ((b.bring 1 rfl).box) 1 ?_;refine rr 1 ?_;refine l1 ((b.bring 0 rfl).box) 1 ?_;refine rr 1 ?_;refine rn<|ci hm (fun hm=>?_) (fun hm=>?_)
  ·refine sq<|rg<|rr 1 ?_;refine rn<|rt ?_;cases hm;exact⟨_,.cons (.tmp rfl) .nil,rfl,(b.taken 0)⟩
  ·refine sp<|sq<|rg<|rr 1 ?_;refine rn<|rt ?_;cases hm;exact⟨_,.cons (.tmp rfl) .nil,rfl,(b.taken 0)⟩

theorem zax:Enters Tryd.prog 53:=⟨_,_,Tryd.func53,rfl,by kernel_rfl⟩
def z4P (fuel:Nat) (t2:Unit):Option Bool:=some true
def z3r (fuel:Nat) (x0:(List D.Port)) (x1:(List D.Port)) (s1:Int):Option (Rd (Int) (Unit) (Bool)):=(if(decide (s1<(x0.length:Int)))=true then((idx x0 s1).bind fun d=>((idx x1 s1).bind fun k=>((z3W fuel d k).bind fun b=>(if(!b)=true then some (.ret false) else some (.next (w64 (s1+1))))))) else some (.brk ()))
def z3C (fuel:Nat) (x0:(List D.Port)) (x1:(List D.Port)):Option (Bool):=(if((x0.length:Int) != (x1.length:Int))=true then some false else((iter (z3r fuel x0 x1) fuel 0).bind fun o=>aft o (z4P fuel)))

theorem laws_eqPortS_ok {W:Base}{w:World}(hE:Ext W w){a0:Option Addr}{p0:Nat}{x0:(List D.Port)}{b0:Option Addr}{q0:Nat}{x1:(List D.Port)}(A0:ty60.ro W [sl a0 x0 p0] x0) (B0:ty60.ro W [sl b0 x1 q0] x1){fuel:Nat}{r:Bool}(hm:z3C fuel x0 x1=some r):
  Calls Tryd.prog 53 ⟨[sl a0 x0 p0,sl b0 x1 q0]⟩ w (Ret fun v w8=>v=.bool r∧St w w8 []):=by
 refine into Tryd.func53 27 _ ?_;unfold z3C at hm;have hS:=St.start w;refine sq<|rg<|rr 1 ?_;refine rn<|sq<|sq<|rg<|rr 5 ?_;refine rn<|ci hm (fun hm=>?_) (fun hm=>?_)
 ·refine sq<|rg<|rr 1 ?_;refine rn<|rt ?_;cases hm;exact⟨_,.cons (.tmp rfl) .nil,rfl,hS⟩
 ·refine sp<|sq<|sq<|rg<|rr 1 ?_;refine rn ?_;obtain⟨C0,g0,hm⟩:=bS hm;refine ct (fun(t2:Unit) F w9=>C0=.inl t2∧Ext w w9∧St w w9 []∧F=[]) ?_ ?_
  ·rintro t2 F w7 ⟨i0,D0,d0,rfl⟩;subst i0;rw [zR] at hm;unfold z4P at hm;refine sq<|rg<|rr 1 ?_;refine rn<|rt ?_;cases hm;exact⟨_,.cons (.tmp rfl) .nil,rfl,d0⟩
  ·refine bk<|wk [0,1,5] ?_;refine it (fun(s1:Int) F w9=>Ext w w9∧St w w9 []∧F=[(0,sl a0 x0 p0),(1,sl b0 x1 q0),(5,.int .i64 s1)]) g0 ⟨(Ext.refl _),hS,rfl⟩ ?_;rintro s1 F K0 _ E0 ⟨r0,k,rfl⟩ b H;unfold z3r at b;refine sq<|sq<|rg<|rr 4 ?_;refine rn<|ci b (fun b=>?_) (fun b=>?_)
   ·refine sp<|sq<|bk<|sq<|dn 0 mixed 10 [([],1023),([],1023),([0,1],1020),([2],1019),([],1023),([],1023),([4,5],975),([6],959),([3,7],887),([8],767)] k.ext (fun d=>?_);have y:=k.step (Ext.draw _);refine dr 6 d [0,1,4,5] ?_;obtain⟨N0,j0,b⟩:=bS b;refine dx (hE.trans k.ext) d 2 A0 j0 (fun F0 v0 e0 O=>?_);have t0:=zT O;subst t0;refine dL d 3 (At.ext (hE.trans k.ext) e0) ?_;obtain⟨O0,k0,b⟩:=bS b;refine dx (hE.trans k.ext) d 6 B0 k0 (fun G0 y0 f0 Y=>?_);have u0:=zT Y;subst u0;refine dL d 7 (At.ext (hE.trans k.ext) f0) ?_;obtain⟨H0,o0,b⟩:=bS b;refine o1 d 8 (mc d zaj (laws_eqPort_ok (hE.trans y.ext) O Y o0) (fun J0 M0 c0=>?_));obtain⟨rfl,o⟩:=c0;refine⟨o.ext,?_⟩;have G:=y.join o;refine dr 0 d [9] ?_;refine dw [0,1,5,26] ?_;refine dd d ?_;refine ci b (fun b=>?_) (fun b=>?_)
    ·refine sq<|rg<|rr 1 ?_;refine rn<|rt ?_;cases b;cases H;have hm:some _=some _:=hm;cases hm;exact⟨_,.cons (.tmp rfl) .nil,rfl,G⟩
    ·refine sp<|rg<|rr 3 ?_;refine rn ?_;cases b;exact⟨_,_,rfl,⟨((r0.trans (Ext.draw _)).trans o.ext),G,rfl⟩,rfl⟩
   ·refine xt ?_;cases b;exact⟨_,_,⟨H,r0,k,rfl⟩,rfl⟩

theorem zaS:Enters Tryd.prog 23:=⟨_,_,Tryd.func23,rfl,by kernel_rfl⟩
def z3D (fuel:Nat) (x0:D.Agent) (x1:D.Agent):Option (Bool):=(if(x0.Kind != x1.Kind)=true then some false else(if(x0.Level != x1.Level)=true then some false else(if(x0.Value != x1.Value)=true then some false else((z3f fuel x0.Data x1.Data).bind fun b=>(if(!b)=true then some false else((z3C fuel x0.Ports x1.Ports).bind fun d=>(if(!d)=true then some false else some true)))))))

theorem laws_eqAgent_ok {W:Base}{w:World}(hE:Ext W w){b0:List Value}{x0:D.Agent}{c0:List Value}{x1:D.Agent}(e0:ty62.ro W b0 x0) (i0:ty62.ro W c0 x1){fuel:Nat}{r:Bool}(hm:z3D fuel x0 x1=some r):
  Calls Tryd.prog 23 ⟨[.agg ⟨b0⟩,.agg ⟨c0⟩]⟩ w (Ret fun v w8=>v=.bool r∧St w w8 []):=by
 obtain⟨A1,k2,A4,k5,e7,h3,h6⟩:=zy e0;subst e7;obtain⟨j0,t0,k0,u0,d0,f0,g0⟩:=zy i0;subst d0;refine into Tryd.func23 32 _ ?_;unfold z3D at hm;have hS:=St.start w;refine sq<|rg<|nw hS (fun q0 C0 o0 O=>?_);refine nw O (fun r0 D0 p0 b=>?_);refine rr 1 ?_;refine rn<|sq<|sq<|rg<|rr 1 ?_;refine l1 ((b.bring 1 rfl).box) 0 ?_;refine rr 1 ?_;refine l1 ((b.bring 0 rfl).box) 0 ?_;refine rr 1 ?_;refine rn<|ci hm (fun hm=>?_) (fun hm=>?_)
 ·refine sq<|rg<|rr 1 ?_;refine rn<|rt ?_;cases hm;exact⟨_,.cons (.tmp rfl) .nil,rfl,(b.taken 0)⟩
 ·refine sp<|sq<|sq<|rg<|rr 1 ?_;refine l1 ((b.bring 1 rfl).box) 1 ?_;refine rr 1 ?_;refine l1 ((b.bring 0 rfl).box) 1 ?_;refine rr 1 ?_;refine rn<|ci hm (fun hm=>?_) (fun hm=>?_)
  ·refine sq<|rg<|rr 1 ?_;refine rn<|rt ?_;cases hm;exact⟨_,.cons (.tmp rfl) .nil,rfl,(b.taken 0)⟩
  ·refine sp<|sq<|sq<|rg<|rr 1 ?_;refine l1 ((b.bring 1 rfl).box) 2 ?_;refine rr 1 ?_;refine l1 ((b.bring 0 rfl).box) 2 ?_;refine rr 1 ?_;refine rn<|ci hm (fun hm=>?_) (fun hm=>?_)
   ·refine sq<|rg<|rr 1 ?_;refine rn<|rt ?_;cases hm;exact⟨_,.cons (.tmp rfl) .nil,rfl,(b.taken 0)⟩
   ·refine sp<|sq<|sq<|rg<|rr 1 ?_;refine l1 ((b.bring 1 rfl).box) 3 ?_;refine rr 1 ?_;refine l1 ((b.bring 0 rfl).box) 3 ?_;obtain⟨v0,Y,hm⟩:=bS hm;refine ca zay (laws_eqInt64S_ok (hE.trans b.ext) h3 f0 Y) (fun A0 E0 o=>?_);obtain⟨rfl,y⟩:=o;have d:=b.join y;refine rr 1 ?_;refine rn<|ci hm (fun hm=>?_) (fun hm=>?_)
    ·refine sq<|rg<|rr 1 ?_;refine rn<|rt ?_;cases hm;exact⟨_,.cons (.tmp rfl) .nil,rfl,(d.taken 0)⟩
    ·refine sp<|sq<|sq<|rg<|rr 1 ?_;refine l1 ((d.bring 1 rfl).box) 4 ?_;refine rr 1 ?_;refine l1 ((d.bring 0 rfl).box) 4 ?_;obtain⟨y0,a0,hm⟩:=bS hm;refine ca zax (laws_eqPortS_ok (hE.trans d.ext) h6 g0 a0) (fun B0 F0 G=>?_);obtain⟨rfl,H⟩:=G;have k:=d.join H;refine rr 1 ?_;refine rn<|ci hm (fun hm=>?_) (fun hm=>?_)
     ·refine sq<|rg<|rr 1 ?_;refine rn<|rt ?_;cases hm;exact⟨_,.cons (.tmp rfl) .nil,rfl,(k.taken 0)⟩
     ·refine sp<|sq<|rg<|rr 1 ?_;refine rn<|rt ?_;cases hm;exact⟨_,.cons (.tmp rfl) .nil,rfl,(k.taken 0)⟩

theorem zaY:Enters Tryd.prog 14:=⟨_,_,Tryd.func14,rfl,by kernel_rfl⟩
def z4A (fuel:Nat) (t2:Unit):Option Bool:=some true
def z30 (fuel:Nat) (x0:(List D.Agent)) (x1:(List D.Agent)) (s1:Int):Option (Rd (Int) (Unit) (Bool)):=(if(decide (s1<(x0.length:Int)))=true then((idx x0 s1).bind fun d=>((idx x1 s1).bind fun k=>((z3D fuel d k).bind fun b=>(if(!b)=true then some (.ret false) else some (.next (w64 (s1+1))))))) else some (.brk ()))
def z3g (fuel:Nat) (x0:(List D.Agent)) (x1:(List D.Agent)):Option (Bool):=(if((x0.length:Int) != (x1.length:Int))=true then some false else((iter (z30 fuel x0 x1) fuel 0).bind fun o=>aft o (z4A fuel)))

theorem laws_eqAgentS_ok {W:Base}{w:World}(hE:Ext W w){a0:Option Addr}{p0:Nat}{x0:(List D.Agent)}{b0:Option Addr}{q0:Nat}{x1:(List D.Agent)}(A0:ty28.ro W [sl a0 x0 p0] x0) (B0:ty28.ro W [sl b0 x1 q0] x1){fuel:Nat}{r:Bool}(hm:z3g fuel x0 x1=some r):
  Calls Tryd.prog 14 ⟨[sl a0 x0 p0,sl b0 x1 q0]⟩ w (Ret fun v w8=>v=.bool r∧St w w8 []):=by
 refine into Tryd.func14 27 _ ?_;unfold z3g at hm;have hS:=St.start w;refine sq<|rg<|rr 1 ?_;refine rn<|sq<|sq<|rg<|rr 5 ?_;refine rn<|ci hm (fun hm=>?_) (fun hm=>?_)
 ·refine sq<|rg<|rr 1 ?_;refine rn<|rt ?_;cases hm;exact⟨_,.cons (.tmp rfl) .nil,rfl,hS⟩
 ·refine sp<|sq<|sq<|rg<|rr 1 ?_;refine rn ?_;obtain⟨C0,g0,hm⟩:=bS hm;refine ct (fun(t2:Unit) F w9=>C0=.inl t2∧Ext w w9∧St w w9 []∧F=[]) ?_ ?_
  ·rintro t2 F w7 ⟨i0,N0,d0,rfl⟩;subst i0;rw [zR] at hm;unfold z4A at hm;refine sq<|rg<|rr 1 ?_;refine rn<|rt ?_;cases hm;exact⟨_,.cons (.tmp rfl) .nil,rfl,d0⟩
  ·refine bk<|wk [0,1,5] ?_;refine it (fun(s1:Int) F w9=>Ext w w9∧St w w9 []∧F=[(0,sl a0 x0 p0),(1,sl b0 x1 q0),(5,.int .i64 s1)]) g0 ⟨(Ext.refl _),hS,rfl⟩ ?_;rintro s1 F Y0 _ S0 ⟨r0,k,rfl⟩ b H;unfold z30 at b;refine sq<|sq<|rg<|rr 4 ?_;refine rn<|ci b (fun b=>?_) (fun b=>?_)
   ·refine sp<|sq<|bk<|sq<|dn 0 mixed 10 [([],1023),([],1023),([0,1],1020),([2],1019),([],1023),([],1023),([4,5],975),([6],959),([3,7],887),([8],767)] k.ext (fun d=>?_);have y:=k.step (Ext.draw _);refine dr 6 d [0,1,4,5] ?_;obtain⟨b1,j0,b⟩:=bS b;refine dx (hE.trans k.ext) d 2 A0 j0 (fun T0 v0 e0 O=>?_);obtain⟨D0,O0,E0,P0,t0,H0,J0⟩:=zy O;subst t0;refine dL d 3 (At.ext (hE.trans k.ext) e0) ?_;obtain⟨c1,k0,b⟩:=bS b;refine dx (hE.trans k.ext) d 6 B0 k0 (fun U0 y0 f0 Y=>?_);obtain⟨F0,Q0,G0,R0,u0,K0,M0⟩:=zy Y;subst u0;refine dL d 7 (At.ext (hE.trans k.ext) f0) ?_;obtain⟨V0,o0,b⟩:=bS b;refine o1 d 8 (mc d zaS (laws_eqAgent_ok (hE.trans y.ext) O Y o0) (fun X0 a1 c0=>?_));obtain⟨rfl,o⟩:=c0;refine⟨o.ext,?_⟩;have G:=y.join o;refine dr 0 d [9] ?_;refine dw [0,1,5,26] ?_;refine dd d ?_;refine ci b (fun b=>?_) (fun b=>?_)
    ·refine sq<|rg<|rr 1 ?_;refine rn<|rt ?_;cases b;cases H;have hm:some _=some _:=hm;cases hm;exact⟨_,.cons (.tmp rfl) .nil,rfl,G⟩
    ·refine sp<|rg<|rr 3 ?_;refine rn ?_;cases b;exact⟨_,_,rfl,⟨((r0.trans (Ext.draw _)).trans o.ext),G,rfl⟩,rfl⟩
   ·refine xt ?_;cases b;exact⟨_,_,⟨H,r0,k,rfl⟩,rfl⟩

theorem zbu:Enters Tryd.prog 8:=⟨_,_,Tryd.func8,rfl,by kernel_rfl⟩
def z4c (fuel:Nat) (x0:D.Net) (x1:D.Net):Option (Bool):=((z3g fuel x0.Agents x1.Agents).bind fun b=>(if(!b)=true then some false else some true))

theorem laws_eqNet_ok {W:Base}{w:World}(hE:Ext W w){H:List Value}{x0:D.Net}{O:List Value}{x1:D.Net}(a0:ty30.ro W H x0) (b0:ty30.ro W O x1){fuel:Nat}{r:Bool}(hm:z4c fuel x0 x1=some r):
  Calls Tryd.prog 8 ⟨[.agg ⟨H⟩,.agg ⟨O⟩]⟩ w (Ret fun v w8=>v=.bool r∧St w w8 []):=by
 obtain⟨A1,k2,e4,h3⟩:=z1s a0;subst e4;obtain⟨A5,k6,Y,h7⟩:=z1s b0;subst Y;refine into Tryd.func8 11 _ ?_;unfold z4c at hm;have hS:=St.start w;refine sq<|rg<|nw hS (fun e0 j0 c0 y=>?_);refine nw y (fun f0 k0 d0 b=>?_);refine rr 1 ?_;refine rn<|sq<|sq<|rg<|rr 1 ?_;refine l1 ((b.bring 1 rfl).box) 0 ?_;refine rr 1 ?_;refine l1 ((b.bring 0 rfl).box) 0 ?_;obtain⟨g0,G,hm⟩:=bS hm;refine ca zaY (laws_eqAgentS_ok (hE.trans b.ext) h3 h7 G) (fun i0 o0 k=>?_);obtain⟨rfl,o⟩:=k;have d:=b.join o;refine rr 1 ?_;refine rn<|ci hm (fun hm=>?_) (fun hm=>?_)
 ·refine sq<|rg<|rr 1 ?_;refine rn<|rt ?_;cases hm;exact⟨_,.cons (.tmp rfl) .nil,rfl,(d.taken 0)⟩
 ·refine sp<|sq<|rg<|rr 1 ?_;refine rn<|rt ?_;cases hm;exact⟨_,.cons (.tmp rfl) .nil,rfl,(d.taken 0)⟩

def zO (fuel:Nat) (x0:D.Net) (b:D.Net) (o:Bool):Option Bool:=(if o=true then some false else((z3a fuel x0).bind fun d=>((z4c fuel b d).bind fun k=>(if(!k)=true then some false else some true))))
def z22 (fuel:Nat) (x0:D.Net):Option (Bool):=((z4b fuel x0 1048576).bind fun o=>(if(decide (o<0))=true then some true else((z3a fuel x0).bind fun y=>((z38 fuel y).bind fun d=>((z3a fuel x0).bind fun b=>((z3j fuel b).bind fun k=>(if(k.1 != d.1)=true then zO fuel x0 b true else(if(k.2.1 != d.2.1)=true then zO fuel x0 b true else zO fuel x0 b (k.2.2 != d.2.2)))))))))

theorem laws_FnExactReadCost_ok {W:Base}{w:World}(hE:Ext W w){O0:List Value}{x0:D.Net}(hT:Tab W) (Y:ty24.ro W O0 x0){fuel:Nat}{r:Bool}(hm:z22 fuel x0=some r):
  Calls Tryd.prog 3 ⟨[.agg ⟨O0⟩]⟩ w (Ret fun v w8=>v=.bool r∧St w w8 []):=by
 obtain⟨A1,k2,e4,h3⟩:=z6h Y;subst e4;refine into Tryd.func3 49 _ ?_;unfold z22 at hm;have hS:=St.start w;refine sq<|rg<|nw hS (fun g5 w6 e7 y=>?_);refine rr 1 ?_;refine rn<|sq<|rg<|rr 1 ?_;refine rn<|sq<|rg<|lN ((y.bring 0 rfl).box) ?_;refine rr 1 ?_;obtain⟨e1,D0,hm⟩:=bS hm;refine ca zbx (laws_szNet_ok (hE.trans y.ext) Y D0) (fun g1 t1 g0=>?_);obtain⟨rfl,i0⟩:=g0;have k:=y.join i0;refine rr 1 ?_;refine rn<|sq<|sq<|rg<|rr 2 ?_;refine rn<|ci hm (fun hm=>?_) (fun hm=>?_)
 ·refine sq<|rg<|rr 1 ?_;refine rn<|rt ?_;cases hm;exact⟨_,.cons (.tmp rfl) .nil,rfl,(k.taken 0)⟩
 ·refine sp<|sq<|rg<|lN ((k.bring 0 rfl).box) ?_;obtain⟨S0,E0,hm⟩:=bS hm;refine ca z8f (laws_toNet_ok (hE.trans k.ext) Y E0) (fun i1 u1 j0=>?_);obtain⟨Y0,c1,rfl,k0⟩:=j0;have c0:=k.join k0;obtain⟨T0,F0,hm⟩:=bS hm;refine ca zbw (z60 (Ext.refl _) (z3Q S0 ((c0.bring 0 rfl).own)) F0) (fun j1 v1 o0=>?_);obtain⟨rfl,p0⟩:=o0;have G:=c0.join p0;refine rr 7 ?_;refine rn<|sq<|rg<|lN ((G.bring 1 rfl).box) ?_;obtain⟨f0,G0,hm⟩:=bS hm;refine ca z8f (laws_toNet_ok (hE.trans G.ext) Y G0) (fun k1 y1 q0=>?_);obtain⟨N0,Q0,rfl,r0⟩:=q0;have A0:=G.join r0;refine nw A0 (fun P0 B1 b1 B0=>?_);have C0:=B0.bring 0 rfl;refine so (A:=[]) C0 0 (fun C1 o=>?_);refine rn<|sq<|rg<|lN ((o.bring 0 rfl).box) ?_;obtain⟨U0,H0,hm⟩:=bS hm;refine ca zbv (z64 (Ext.refl _) (Tab.ext (hE.trans o.ext) hT) (z3Q f0 ((o.bring 1 rfl).own)) H0) (fun m1 X0 t0=>?_);obtain⟨rfl,u0⟩:=t0;have H:=o.join u0;refine rr 7 ?_;refine rn<|sq<|sq<|ct (fun(M0:Bool) F w9=>zO fuel x0 f0 M0=some r∧Ext X0 w9∧St w w9 [Box P0 [sl N0 f0.Agents Q0] 30,ow ty28 N0 f0.Agents Q0,Box g5 [sl A1 x0.Agents k2] 24]∧F=[(1,.pointer (some ⟨g5,0,none⟩)),(7,.pointer (some ⟨P0,0,none⟩)),(43,.bool M0)]) ?_ ?_
  ·rintro M0 F D1 ⟨hm,R0,d,rfl⟩;unfold zO at hm;refine ci hm (fun hm=>?_) (fun hm=>?_)
   ·refine sq<|rg<|rr 1 ?_;refine rn<|rt ?_;cases hm;exact⟨_,.cons (.tmp rfl) .nil,rfl,(d.taken 0)⟩
   ·refine sp<|sq<|sq<|dn 0 mixed 5 [([],31),([],31),([1],29),([0,2,2],26),([3],23)] d.ext (fun b=>?_);have d0:=d.step (Ext.draw _);refine dL b 0 ((d.bring 0 rfl).box) ?_;refine dL b 1 ((d.bring 2 rfl).box) ?_;obtain⟨V0,J0,hm⟩:=bS hm;refine o1 b 2 (mc b z8f (laws_toNet_ok (hE.trans d0.ext) Y J0) (fun n1 E1 v0=>?_));obtain⟨a1,d1,rfl,a0⟩:=v0;refine⟨a0.ext,?_⟩;have O:=d0.join a0;obtain⟨f1,K0,hm⟩:=bS hm;refine o1 b 3 (mc b zbu (laws_eqNet_ok (Ext.refl _) (z3Q f0 ((O.bring 2 rfl).own)) (z3Q V0 ((O.bring 0 rfl).own)) K0) (fun p1 F1 y0=>?_));obtain⟨rfl,b0⟩:=y0;refine⟨b0.ext,?_⟩;have e0:=O.join b0;refine dr 0 b [4] ?_;refine dw [48] ?_;refine dd b ?_;refine ci hm (fun hm=>?_) (fun hm=>?_)
    ·refine sq<|rg<|rr 1 ?_;refine rn<|rt ?_;cases hm;exact⟨_,.cons (.tmp rfl) .nil,rfl,(e0.taken 0)⟩
    ·refine sp<|sq<|rg<|rr 1 ?_;refine rn<|rt ?_;cases hm;exact⟨_,.cons (.tmp rfl) .nil,rfl,(e0.taken 0)⟩
  ·refine rg<|rr 4 ?_;refine rb 34 hm (fun hm=>?_) (fun hm=>?_)
   ·refine rr 9 ?_;refine rn ?_;exact⟨true,_,⟨hm,(Ext.refl _),(H.sel [0,1,3]),rfl⟩,rfl⟩
   ·refine rr 5 ?_;refine rb 39 hm (fun hm=>?_) (fun hm=>?_)
    ·refine rr 4 ?_;refine rn ?_;exact⟨true,_,⟨hm,(Ext.refl _),(H.sel [0,1,3]),rfl⟩,rfl⟩
    ·refine rr 4 ?_;refine rn ?_;exact⟨(U0.2.2 != T0.2.2),_,⟨hm,(Ext.refl _),(H.sel [0,1,3]),rfl⟩,rfl⟩

end Go.E


