/- Models of functions and proofs that the code runs as they say (written by program). Conditions: the model gives a value. -/
import Derived.Test.YtngggnjnenfgbaaGreatDoorFT
import Derived.Test.YtngggnjnenfgbaaGreatDoorMixed
namespace Go.E
open Go.RowKit Go.Proofs
set_option linter.unusedVariables false
set_option linter.unusedSimpArgs false
set_option maxHeartbeats 2000000
set_option maxRecDepth 100000

theorem zct:Enters Tryz.prog 57:=⟨_,_,Tryz.func57,rfl,by kernel_rfl⟩
def z3G (fuel:Nat) (x0:(List Int)) (x1:Int):Option (Int):=(if(decide ((w64 (x1 - (x0.length:Int)))<0))=true then some (-1) else some (w64 (x1 - (x0.length:Int))))

theorem laws_szInt64S_ok {W:Base}{w:World}(hE:Ext W w){b:Option Addr}{d:Nat}{x0:(List Int)}{x1:Int}(o:ty26.ro W [sl b x0 d] x0){fuel:Nat}{r:Int}(hm:z3G fuel x0 x1=some r):
  Calls Tryz.prog 57 ⟨[sl b x0 d,.int .i64 x1]⟩ w (Ret fun v w8=>v=.int .i64 r∧St w w8 []):=by
 refine into Tryz.func57 12 _ ?_;unfold z3G at hm;have hS:=St.start w;refine sq<|rg<|rr 1 ?_;refine rn<|sq<|rg<|rr 5 ?_;refine rn<|sq<|sq<|rg<|rr 2 ?_;refine rn<|ci hm (fun hm=>?_) (fun hm=>?_)
 ·refine sq<|rg<|rr 1 ?_;refine rn<|rt ?_;cases hm;exact⟨_,.cons (.tmp rfl) .nil,rfl,hS⟩
 ·refine sp<|sq<|rg<|rr 2 ?_;refine rn<|rt ?_;cases hm;exact⟨_,.cons (.tmp rfl) .nil,rfl,hS⟩

theorem zcs:Enters Tryz.prog 58:=⟨_,_,Tryz.func58,rfl,by kernel_rfl⟩
def z45 (fuel:Nat) (x0:(List D.Port)) (x1:Int):Option (Int):=(if(decide ((w64 (x1 - (x0.length:Int)))<0))=true then some (-1) else some (w64 (x1 - (x0.length:Int))))

theorem laws_szPortS_ok {W:Base}{w:World}(hE:Ext W w){b:Option Addr}{d:Nat}{x0:(List D.Port)}{x1:Int}(o:ty81.ro W [sl b x0 d] x0){fuel:Nat}{r:Int}(hm:z45 fuel x0 x1=some r):
  Calls Tryz.prog 58 ⟨[sl b x0 d,.int .i64 x1]⟩ w (Ret fun v w8=>v=.int .i64 r∧St w w8 []):=by
 refine into Tryz.func58 12 _ ?_;unfold z45 at hm;have hS:=St.start w;refine sq<|rg<|rr 1 ?_;refine rn<|sq<|rg<|rr 5 ?_;refine rn<|sq<|sq<|rg<|rr 2 ?_;refine rn<|ci hm (fun hm=>?_) (fun hm=>?_)
 ·refine sq<|rg<|rr 1 ?_;refine rn<|rt ?_;cases hm;exact⟨_,.cons (.tmp rfl) .nil,rfl,hS⟩
 ·refine sp<|sq<|rg<|rr 2 ?_;refine rn<|rt ?_;cases hm;exact⟨_,.cons (.tmp rfl) .nil,rfl,hS⟩

theorem zcA:Enters Tryz.prog 41:=⟨_,_,Tryz.func41,rfl,by kernel_rfl⟩
def z47 (fuel:Nat) (x0:D.Agent) (x1:Int):Option (Int):=((z3G fuel x0.Data x1).bind fun b=>(if(decide (b<0))=true then some (-1) else((z45 fuel x0.Ports b).bind fun d=>(if(decide (d<0))=true then some (-1) else some d))))

theorem laws_szAgent_ok {W:Base}{w:World}(hE:Ext W w){b0:List Value}{x0:D.Agent}{x1:Int}(c0:ty83.ro W b0 x0){fuel:Nat}{r:Int}(hm:z47 fuel x0 x1=some r):
  Calls Tryz.prog 41 ⟨[.agg ⟨b0⟩,.int .i64 x1]⟩ w (Ret fun v w8=>v=.int .i64 r∧St w w8 []):=by
 obtain⟨A1,k2,A4,k5,e7,h3,h6⟩:=z6h c0;subst e7;refine into Tryz.func41 18 _ ?_;unfold z47 at hm;have hS:=St.start w;refine sq<|rg<|nw hS (fun e0 k0 d0 d=>?_);refine rr 1 ?_;refine rn<|sq<|rg<|rr 1 ?_;refine l1 ((d.bring 0 rfl).box) 3 ?_;refine rr 1 ?_;obtain⟨f0,Y,hm⟩:=bS hm;refine ca zct (laws_szInt64S_ok (hE.trans d.ext) h3 Y) (fun i0 o0 y=>?_);obtain⟨rfl,G⟩:=y;have b:=d.join G;refine rr 1 ?_;refine rn<|sq<|sq<|rg<|rr 2 ?_;refine rn<|ci hm (fun hm=>?_) (fun hm=>?_)
 ·refine sq<|rg<|rr 1 ?_;refine rn<|rt ?_;cases hm;exact⟨_,.cons (.tmp rfl) .nil,rfl,(b.taken 0)⟩
 ·refine sp<|sq<|rg<|rr 1 ?_;refine l1 ((b.bring 0 rfl).box) 4 ?_;refine rr 1 ?_;obtain⟨g0,a0,hm⟩:=bS hm;refine ca zcs (laws_szPortS_ok (hE.trans b.ext) h6 a0) (fun j0 p0 H=>?_);obtain⟨rfl,O⟩:=H;have o:=b.join O;refine rr 1 ?_;refine rn<|sq<|sq<|rg<|rr 2 ?_;refine rn<|ci hm (fun hm=>?_) (fun hm=>?_)
  ·refine sq<|rg<|rr 1 ?_;refine rn<|rt ?_;cases hm;exact⟨_,.cons (.tmp rfl) .nil,rfl,(o.taken 0)⟩
  ·refine sp<|sq<|rg<|rr 2 ?_;refine rn<|rt ?_;cases hm;exact⟨_,.cons (.tmp rfl) .nil,rfl,(o.taken 0)⟩

theorem zcJ:Enters Tryz.prog 25:=⟨_,_,Tryz.func25,rfl,by kernel_rfl⟩
def z5j (fuel:Nat) (t2:Int):Option Int:=some t2
def z3s (fuel:Nat) (x0:(List D.Agent)) (s1:Int × Int):Option (Rd (Int × Int) (Int) (Int)):=(if(decide (s1.2<(x0.length:Int)))=true then((idx x0 s1.2).bind fun d=>((z47 fuel d s1.1).bind fun b=>(if(decide (b<0))=true then some (.ret (-1)) else some (.next (b,w64 (s1.2+1)))))) else some (.brk s1.1))
def z3H (fuel:Nat) (x0:(List D.Agent)) (x1:Int):Option (Int):=(if(decide ((w64 (x1 - (x0.length:Int)))<0))=true then some (-1) else((iter (z3s fuel x0) fuel (w64 (x1 - (x0.length:Int)),0)).bind fun o=>aft o (z5j fuel)))

theorem laws_szAgentS_ok {W:Base}{w:World}(hE:Ext W w){O:Option Addr}{g0:Nat}{x0:(List D.Agent)}{x1:Int}(o0:ty22.ro W [sl O x0 g0] x0){fuel:Nat}{r:Int}(hm:z3H fuel x0 x1=some r):
  Calls Tryz.prog 25 ⟨[sl O x0 g0,.int .i64 x1]⟩ w (Ret fun v w8=>v=.int .i64 r∧St w w8 []):=by
 refine into Tryz.func25 27 _ ?_;unfold z3H at hm;have hS:=St.start w;refine sq<|rg<|rr 1 ?_;refine rn<|sq<|rg<|rr 5 ?_;refine rn<|sq<|sq<|rg<|rr 2 ?_;refine rn<|ci hm (fun hm=>?_) (fun hm=>?_)
 ·refine sq<|rg<|rr 1 ?_;refine rn<|rt ?_;cases hm;exact⟨_,.cons (.tmp rfl) .nil,rfl,hS⟩
 ·refine sp<|sq<|sq<|rg<|rr 1 ?_;refine rn ?_;obtain⟨p0,c0,hm⟩:=bS hm;refine ct (fun(t2:Int) F w9=>p0=.inl t2∧Ext w w9∧St w w9 []∧F=[(1,.int .i64 t2)]) ?_ ?_
  ·rintro t2 F w7 ⟨d0,v0,a0,rfl⟩;subst d0;rw [zx] at hm;unfold z5j at hm;refine sq<|rg<|rr 2 ?_;refine rn<|rt ?_;cases hm;exact⟨_,.cons (.tmp rfl) .nil,rfl,a0⟩
  ·refine bk<|wk [0,1,5] ?_;refine it (fun(s1:Int × Int) F w9=>Ext w w9∧St w w9 []∧F=[(0,sl O x0 g0),(1,.int .i64 s1.1),(5,.int .i64 s1.2)]) c0 ⟨(Ext.refl _),hS,rfl⟩ ?_;rintro s1 F F0 _ B0 ⟨i0,d,rfl⟩ b G;unfold z3s at b;refine sq<|sq<|rg<|rr 4 ?_;refine rn<|ci b (fun b=>?_) (fun b=>?_)
   ·refine sp<|sq<|bk<|sq<|rg<|rr 2 ?_;obtain⟨H0,e0,b⟩:=bS b;refine ix (hE.trans d.ext) o0 e0 (fun C0 k0 b0 H=>?_);obtain⟨q0,y0,r0,A0,j0,t0,u0⟩:=z6h H;subst j0;refine lN (At.ext (hE.trans d.ext) b0) ?_;refine rr 1 ?_;obtain⟨D0,f0,b⟩:=bS b;refine ca zcA (laws_szAgent_ok (hE.trans d.ext) H f0) (fun E0 G0 Y=>?_);obtain⟨rfl,o⟩:=Y;have y:=d.join o;refine rr 1 ?_;refine rn<|sq<|rg<|rr 2 ?_;refine rn<|ci b (fun b=>?_) (fun b=>?_)
    ·refine sq<|rg<|rr 1 ?_;refine rn<|rt ?_;cases b;cases G;have hm:some _=some _:=hm;cases hm;exact⟨_,.cons (.tmp rfl) .nil,rfl,y⟩
    ·refine sp<|rg<|rr 3 ?_;refine rn ?_;cases b;exact⟨_,_,rfl,⟨(i0.trans o.ext),y,rfl⟩,rfl⟩
   ·refine xt ?_;cases b;exact⟨_,_,⟨G,i0,d,rfl⟩,rfl⟩

theorem zdb:Enters Tryz.prog 7:=⟨_,_,Tryz.func7,rfl,by kernel_rfl⟩
def z4M (fuel:Nat) (x0:D.Net) (x1:Int):Option (Int):=((z3H fuel x0.Agents x1).bind fun b=>(if(decide (b<0))=true then some (-1) else some b))

theorem laws_szNet_ok {W:Base}{w:World}(hE:Ext W w){H:List Value}{x0:D.Net}{x1:Int}(O:ty24.ro W H x0){fuel:Nat}{r:Int}(hm:z4M fuel x0 x1=some r):
  Calls Tryz.prog 7 ⟨[.agg ⟨H⟩,.int .i64 x1]⟩ w (Ret fun v w8=>v=.int .i64 r∧St w w8 []):=by
 obtain⟨A1,k2,e4,h3⟩:=z7a O;subst e4;refine into Tryz.func7 12 _ ?_;unfold z4M at hm;have hS:=St.start w;refine sq<|rg<|nw hS (fun g5 w6 e7 b=>?_);refine rr 1 ?_;refine rn<|sq<|rg<|rr 1 ?_;refine l1 ((b.bring 0 rfl).box) 0 ?_;refine rr 1 ?_;obtain⟨Y,G,hm⟩:=bS hm;refine ca zcJ (laws_szAgentS_ok (hE.trans b.ext) h3 G) (fun a0 b0 o=>?_);obtain⟨rfl,y⟩:=o;have d:=b.join y;refine rr 1 ?_;refine rn<|sq<|sq<|rg<|rr 2 ?_;refine rn<|ci hm (fun hm=>?_) (fun hm=>?_)
 ·refine sq<|rg<|rr 1 ?_;refine rn<|rt ?_;cases hm;exact⟨_,.cons (.tmp rfl) .nil,rfl,(d.taken 0)⟩
 ·refine sp<|sq<|rg<|rr 2 ?_;refine rn<|rt ?_;cases hm;exact⟨_,.cons (.tmp rfl) .nil,rfl,(d.taken 0)⟩

theorem zcm:Enters Tryz.prog 69:=⟨_,_,Tryz.func69,rfl,by kernel_rfl⟩
def z5h (fuel:Nat) (b:(List Int)):Option (List Int):=some b
def z3q (fuel:Nat) (x0:(List Int)) (b:Int × (List Int)):Option (Rd (Int × (List Int)) ((List Int)) ((List Int))):=(if(decide (b.1<(x0.length:Int)))=true then((idx x0 b.1).bind fun d=>(if decide (0≤b.1∧b.1.toNat<b.2.length)=true then some (.next (w64 (b.1+1),(b.2.set b.1.toNat d))) else none)) else some (.brk b.2))
def z3E (fuel:Nat) (x0:(List Int)):Option ((List Int)):=(if decide (0≤(x0.length:Int)∧(x0.length:Int)≤4294967296)=true then((iter (z3q fuel x0) fuel (0,(List.replicate (x0.length:Int).toNat (0:Int)))).bind fun o=>aft o (z5h fuel)) else none)

theorem laws_toInt64S_ok {W:Base}{w:World}(hE:Ext W w){H:Option Addr}{o0:Nat}{x0:(List Int)}(u0:ty26.ro W [sl H x0 o0] x0){fuel:Nat}{r:(List Int)}(hm:z3E fuel x0=some r):
  Calls Tryz.prog 69 ⟨[sl H x0 o0]⟩ w (Ret fun v w8=>∃ A0 k0,v=sl A0 r k0∧St w w8 [ow ty26 A0 r k0]):=by
 refine into Tryz.func69 22 _ ?_;unfold z3E at hm;have hS:=St.start w;refine sq<|rg<|rr 1 ?_;refine rn<|sq<|rg<|rr 2 ?_;obtain⟨y0,hm⟩:=iS hm;have hz7:=of_decide_eq_true y0;refine mS (U:=tInt) (0:Int) hS hz7 (fun _=>⟨rfl,rfl⟩) (fun A2 k3 w4 e5 v0=>?_);refine rr 1 ?_;refine rn<|sq<|sq<|rg<|rr 1 ?_;refine rn ?_;obtain⟨B0,e0,hm⟩:=bS hm;refine ct (fun(q0:(List Int)) F w9=>B0=.inl q0∧St w w9 [Own ty26 [sl A2 (List.replicate (x0.length:Int).toNat (0:Int)) k3] q0]∧F=[(3,sl A2 (List.replicate (x0.length:Int).toNat (0:Int)) k3)]) ?_ ?_
 ·rintro q0 F E0 ⟨f0,y,rfl⟩;subst f0;rw [zx] at hm;unfold z5h at hm;refine sq<|rg<|rr 2 ?_;refine rn<|rt ?_;cases hm;have hn18:=(y.bring 0 rfl).lenEq;have O:=(y.bring 0 rfl).reLen hn18;exact⟨_,.cons (.tmp rfl) .nil,A2,k3,(by first | (simp only [sl,hn18];done) | (simp only [sl,hn18];rfl)),O⟩
 ·refine bk<|wk [0,3,4] ?_;refine it (fun(p0:Int × (List Int)) F w9=>St w w9 [Own ty26 [sl A2 (List.replicate (x0.length:Int).toNat (0:Int)) k3] p0.2]∧F=[(0,sl H x0 o0),(3,sl A2 (List.replicate (x0.length:Int).toNat (0:Int)) k3),(4,.int .i64 p0.1)]) e0 ⟨v0,rfl⟩ ?_;rintro p0 F F0 _ C0 ⟨d,rfl⟩ b g0;unfold z3q at b;refine sq<|sq<|rg<|rr 4 ?_;refine rn<|ci b (fun b=>?_) (fun b=>?_)
  ·refine sp<|sq<|bk<|rg<|rr 4 ?_;obtain⟨r0,j0,b⟩:=bS b;refine ix (hE.trans d.ext) u0 j0 (fun D0 t0 c0 i0=>?_);cases i0;refine l1 (At.ext (hE.trans d.ext) c0) 0 ?_;have G:=d.bring 0 rfl;obtain⟨d0,b⟩:=iS b;have o:=of_decide_eq_true d0;refine io G o.1 o.2 (fun q34 hq35=>?_);have Y:=G.flat (T:=tInt) (cs:=[.int .i64 r0]) (x:=r0) ⟨rfl,rfl⟩;have a0:=Y.bring 1 rfl;refine se a0 o.2 hq35 (fun G0 b0=>?_);refine rn<|rg<|rr 3 ?_;refine rn ?_;cases b;exact⟨_,_,rfl,⟨b0,rfl⟩,rfl⟩
  ·refine xt ?_;cases b;exact⟨_,_,⟨g0,d,rfl⟩,rfl⟩

theorem zc4:Enters Tryz.prog 92:=⟨_,_,Tryz.func92,rfl,by kernel_rfl⟩
def z4s (fuel:Nat) (x0:D.Port):Option (D.Port):=some (⟨x0.Agent,x0.Slot⟩:D.Port)

theorem laws_toPort_ok {W:Base}{w:World}(hE:Ext W w){a0:List Value}{x0:D.Port}(b0:zac.ro W a0 x0){fuel:Nat}{r:D.Port}(hm:z4s fuel x0=some r):
  Calls Tryz.prog 92 ⟨[.agg ⟨a0⟩]⟩ w (Ret fun v w8=>v=.agg ⟨[.int .i64 r.Agent,.int .i64 r.Slot]⟩∧St w w8 []):=by
 have e1:=z7P b0;subst e1;refine into Tryz.func92 11 _ ?_;unfold z4s at hm;have hS:=St.start w;refine sq<|rg<|nw hS (fun g2 w3 e4 c0=>?_);refine nw c0 (fun g6 w7 d0 G=>?_);refine rn<|sq<|rg<|nw G (fun f0 g0 e0 b=>?_);refine rn<|sq<|rg<|rr 1 ?_;refine l1 ((b.bring 2 rfl).box) 0 ?_;refine rr 1 ?_;have H:=b.bring 0 rfl;refine so (A:=[]) H 0 (fun i0 d=>?_);refine rn<|sq<|rg<|rr 1 ?_;refine l1 ((d.bring 2 rfl).box) 1 ?_;refine rr 1 ?_;have O:=d.bring 0 rfl;refine so (A:=[]) O 1 (fun j0 o=>?_);refine rn<|sq<|rg<|lN ((o.bring 0 rfl).box) ?_;have Y:=o.bring 1 rfl;refine so (A:=[]) Y 0 (fun k0 y=>?_);refine rn<|rt ?_;cases hm;exact⟨_,.cons (ra ((y.bring 0 rfl).box)) .nil,rfl,(y.taken 0)⟩

theorem zck:Enters Tryz.prog 70:=⟨_,_,Tryz.func70,rfl,by kernel_rfl⟩
def z5A (fuel:Nat) (b:(List D.Port)):Option (List D.Port):=some b
def z3S (fuel:Nat) (x0:(List D.Port)) (b:Int × (List D.Port)):Option (Rd (Int × (List D.Port)) ((List D.Port)) ((List D.Port))):=(if(decide (b.1<(x0.length:Int)))=true then((idx x0 b.1).bind fun o=>((z4s fuel o).bind fun d=>(if decide (0≤b.1∧b.1.toNat<b.2.length)=true then some (.next (w64 (b.1+1),(b.2.set b.1.toNat d))) else none))) else some (.brk b.2))
def z43 (fuel:Nat) (x0:(List D.Port)):Option ((List D.Port)):=(if decide (0≤(x0.length:Int)∧(x0.length:Int)≤4294967296)=true then((iter (z3S fuel x0) fuel (0,(List.replicate (x0.length:Int).toNat (⟨(0:Int),(0:Int)⟩:D.Port)))).bind fun o=>aft o (z5A fuel)) else none)

theorem laws_toPortS_ok {W:Base}{w:World}(hE:Ext W w){O:Option Addr}{t0:Nat}{x0:(List D.Port)}(C0:ty81.ro W [sl O x0 t0] x0){fuel:Nat}{r:(List D.Port)}(hm:z43 fuel x0=some r):
  Calls Tryz.prog 70 ⟨[sl O x0 t0]⟩ w (Ret fun v w8=>∃ A0 k0,v=sl A0 r k0∧St w w8 [ow ty65 A0 r k0]):=by
 refine into Tryz.func70 23 _ ?_;unfold z43 at hm;have hS:=St.start w;refine sq<|rg<|rr 1 ?_;refine rn<|sq<|rg<|rr 2 ?_;obtain⟨E0,hm⟩:=iS hm;have hz7:=of_decide_eq_true E0;refine mS (U:=ty87) (⟨(0:Int),(0:Int)⟩:D.Port) hS hz7 (fun _=>(z79 (c:=(⟨(0:Int),(0:Int)⟩:D.Port)) rfl)) (fun A2 k3 w4 e5 D0=>?_);refine rr 1 ?_;refine rn<|sq<|sq<|rg<|rr 1 ?_;refine rn ?_;obtain⟨F0,j0,hm⟩:=bS hm;refine ct (fun(v0:(List D.Port)) F w9=>F0=.inl v0∧St w w9 [Own ty65 [sl A2 (List.replicate (x0.length:Int).toNat (⟨(0:Int),(0:Int)⟩:D.Port)) k3] v0]∧F=[(3,sl A2 (List.replicate (x0.length:Int).toNat (⟨(0:Int),(0:Int)⟩:D.Port)) k3)]) ?_ ?_
 ·rintro v0 F M0 ⟨o0,y,rfl⟩;subst o0;rw [zx] at hm;unfold z5A at hm;refine sq<|rg<|rr 2 ?_;refine rn<|rt ?_;cases hm;have hn18:=(y.bring 0 rfl).lenEq;have b0:=(y.bring 0 rfl).reLen hn18;exact⟨_,.cons (.tmp rfl) .nil,A2,k3,(by first | (simp only [sl,hn18];done) | (simp only [sl,hn18];rfl)),b0⟩
 ·refine bk<|wk [0,3,4] ?_;refine it (fun(u0:Int × (List D.Port)) F w9=>St w w9 [Own ty65 [sl A2 (List.replicate (x0.length:Int).toNat (⟨(0:Int),(0:Int)⟩:D.Port)) k3] u0.2]∧F=[(0,sl O x0 t0),(3,sl A2 (List.replicate (x0.length:Int).toNat (⟨(0:Int),(0:Int)⟩:D.Port)) k3),(4,.int .i64 u0.1)]) j0 ⟨D0,rfl⟩ ?_;rintro u0 F N0 _ H0 ⟨d,rfl⟩ b p0;unfold z3S at b;refine sq<|sq<|rg<|rr 4 ?_;refine rn<|ci b (fun b=>?_) (fun b=>?_)
  ·refine sp<|sq<|bk<|rg<|rr 4 ?_;obtain⟨Q0,q0,b⟩:=bS b;refine ix (hE.trans d.ext) C0 q0 (fun J0 B0 g0 H=>?_);have y0:=z7P H;subst y0;refine lN (At.ext (hE.trans d.ext) g0) ?_;obtain⟨G0,r0,b⟩:=bS b;refine ca zc4 (laws_toPort_ok (hE.trans d.ext) H r0) (fun K0 O0 Y=>?_);obtain⟨rfl,a0⟩:=Y;have c0:=d.join a0;have G:=c0.bring 0 rfl;obtain⟨i0,b⟩:=iS b;have o:=of_decide_eq_true i0;refine io G o.1 o.2 (fun q42 hq43=>?_);have d0:=z7N (c:=G0) (B:=_) G;have e0:=d0.bring 1 rfl;refine se e0 o.2 hq43 (fun P0 f0=>?_);refine rn<|rg<|rr 3 ?_;refine rn ?_;cases b;exact⟨_,_,rfl,⟨f0,rfl⟩,rfl⟩
  ·refine xt ?_;cases b;exact⟨_,_,⟨p0,d,rfl⟩,rfl⟩

theorem zcx:Enters Tryz.prog 45:=⟨_,_,Tryz.func45,rfl,by kernel_rfl⟩
def z44 (fuel:Nat) (x0:D.Agent):Option (D.Agent):=((z3E fuel x0.Data).bind fun b=>((z43 fuel x0.Ports).bind fun d=>some (⟨x0.Kind,x0.Level,x0.Value,b,d⟩:D.Agent)))

theorem laws_toAgent_ok {W:Base}{w:World}(hE:Ext W w){v0:List Value}{x0:D.Agent}(C0:ty83.ro W v0 x0){fuel:Nat}{r:D.Agent}(hm:z44 fuel x0=some r):
  Calls Tryz.prog 45 ⟨[.agg ⟨v0⟩]⟩ w (Ret fun v w8=>∃ A0 k0 A1 k1,v=.agg ⟨[.int .i64 r.Kind,.int .i64 r.Level,.int .i64 r.Value,sl A0 r.Data k0,sl A1 r.Ports k1]⟩∧St w w8 [ow ty26 A0 r.Data k0,ow ty65 A1 r.Ports k1]):=by
 obtain⟨A1,k2,A4,k5,e7,h3,h6⟩:=z6h C0;subst e7;refine into Tryz.func45 22 _ ?_;unfold z44 at hm;have hS:=St.start w;refine sq<|rg<|nw hS (fun J0 R0 F0 d0=>?_);refine nw d0 (fun K0 S0 G0 e0=>?_);refine rn<|sq<|rg<|nw e0 (fun M0 T0 H0 o=>?_);refine rn<|sq<|rg<|rr 1 ?_;refine l1 ((o.bring 2 rfl).box) 0 ?_;refine rr 1 ?_;have f0:=o.bring 0 rfl;refine so (A:=[]) f0 0 (fun U0 y=>?_);refine rn<|sq<|rg<|rr 1 ?_;refine l1 ((y.bring 2 rfl).box) 1 ?_;refine rr 1 ?_;have g0:=y.bring 0 rfl;refine so (A:=[]) g0 1 (fun V0 G=>?_);refine rn<|sq<|rg<|rr 1 ?_;refine l1 ((G.bring 2 rfl).box) 2 ?_;refine rr 1 ?_;have i0:=G.bring 0 rfl;refine so (A:=[]) i0 2 (fun X0 b=>?_);refine rn<|sq<|rg<|rr 1 ?_;refine l1 ((b.bring 2 rfl).box) 3 ?_;obtain⟨N0,t0,hm⟩:=bS hm;refine ca zcm (laws_toInt64S_ok (hE.trans b.ext) h3 t0) (fun P0 Y0 Y=>?_);obtain⟨y0,D0,rfl,a0⟩:=Y;have j0:=b.join a0;refine rr 1 ?_;have o0:=j0.bring 1 rfl;refine so (A:=[]) o0 3 (fun a1 d=>?_);refine rn<|sq<|rg<|rr 1 ?_;refine l1 ((d.bring 3 rfl).box) 4 ?_;obtain⟨O0,u0,hm⟩:=bS hm;refine ca zck (laws_toPortS_ok (hE.trans d.ext) h6 u0) (fun Q0 b1 b0=>?_);obtain⟨B0,E0,rfl,c0⟩:=b0;have p0:=d.join c0;refine rr 1 ?_;have q0:=p0.bring 1 rfl;refine so (A:=[]) q0 4 (fun d1 H=>?_);refine rn<|sq<|rg<|lN ((H.bring 0 rfl).box) ?_;have r0:=H.bring 3 rfl;refine so (A:=[]) r0 0 (fun e1 O=>?_);refine rn<|rt ?_;cases hm;exact⟨_,.cons (ra ((O.bring 0 rfl).box)) .nil,y0,D0,B0,E0,rfl,(((O.bring 2 rfl).bring 3 rfl).taken 2)⟩

theorem zcF:Enters Tryz.prog 29:=⟨_,_,Tryz.func29,rfl,by kernel_rfl⟩
def z5i (fuel:Nat) (b:(List D.Agent)):Option (List D.Agent):=some b
def z3r (fuel:Nat) (x0:(List D.Agent)) (b:Int × (List D.Agent)):Option (Rd (Int × (List D.Agent)) ((List D.Agent)) ((List D.Agent))):=(if(decide (b.1<(x0.length:Int)))=true then((idx x0 b.1).bind fun o=>((z44 fuel o).bind fun d=>(if decide (0≤b.1∧b.1.toNat<b.2.length)=true then some (.next (w64 (b.1+1),(b.2.set b.1.toNat d))) else none))) else some (.brk b.2))
def z3F (fuel:Nat) (x0:(List D.Agent)):Option ((List D.Agent)):=(if decide (0≤(x0.length:Int)∧(x0.length:Int)≤4294967296)=true then((iter (z3r fuel x0) fuel (0,(List.replicate (x0.length:Int).toNat (⟨(0:Int),(0:Int),(0:Int),([]:(List Int)),([]:(List D.Port))⟩:D.Agent)))).bind fun o=>aft o (z5i fuel)) else none)

theorem laws_toAgentS_ok {W:Base}{w:World}(hE:Ext W w){O:Option Addr}{v0:Nat}{x0:(List D.Agent)}(E0:ty22.ro W [sl O x0 v0] x0){fuel:Nat}{r:(List D.Agent)}(hm:z3F fuel x0=some r):
  Calls Tryz.prog 29 ⟨[sl O x0 v0]⟩ w (Ret fun v w8=>∃ A0 k0,v=sl A0 r k0∧St w w8 [ow ty29 A0 r k0]):=by
 refine into Tryz.func29 23 _ ?_;unfold z3F at hm;have hS:=St.start w;refine sq<|rg<|rr 1 ?_;refine rn<|sq<|rg<|rr 2 ?_;obtain⟨G0,hm⟩:=iS hm;have hz7:=of_decide_eq_true G0;refine mS (U:=ty67) (⟨(0:Int),(0:Int),(0:Int),([]:(List Int)),([]:(List D.Port))⟩:D.Agent) hS hz7 (fun _=>(z8D (c:=(⟨(0:Int),(0:Int),(0:Int),([]:(List Int)),([]:(List D.Port))⟩:D.Agent)) ⟨[],[],rfl,(slNilOwn tInt 2 _),⟨[],[],rfl,(slNilOwn ty87 87 _),rfl⟩⟩)) (fun A2 k3 w4 e5 F0=>?_);refine rr 1 ?_;refine rn<|sq<|sq<|rg<|rr 1 ?_;refine rn ?_;obtain⟨H0,p0,hm⟩:=bS hm;refine ct (fun(B0:(List D.Agent)) F w9=>H0=.inl B0∧St w w9 [Own ty29 [.slice A2 (List.replicate (x0.length:Int).toNat (⟨(0:Int),(0:Int),(0:Int),([]:(List Int)),([]:(List D.Port))⟩:D.Agent)).length k3] B0]∧F=[(3,.slice A2 (List.replicate (x0.length:Int).toNat (⟨(0:Int),(0:Int),(0:Int),([]:(List Int)),([]:(List D.Port))⟩:D.Agent)).length k3)]) ?_ ?_
 ·rintro B0 F a1 ⟨q0,y,rfl⟩;subst q0;rw [zx] at hm;unfold z5i at hm;refine sq<|rg<|rr 2 ?_;refine rn<|rt ?_;cases hm;have hn18:=(y.bring 0 rfl).lenEq;have b0:=(y.bring 0 rfl).reLen hn18;exact⟨_,.cons (.tmp rfl) .nil,A2,k3,(by first | (simp only [sl,hn18];done) | (simp only [sl,hn18];rfl)),b0⟩
 ·refine bk<|wk [0,3,4] ?_;refine it (fun(y0:Int × (List D.Agent)) F w9=>St w w9 [Own ty29 [.slice A2 (List.replicate (x0.length:Int).toNat (⟨(0:Int),(0:Int),(0:Int),([]:(List Int)),([]:(List D.Port))⟩:D.Agent)).length k3] y0.2]∧F=[(0,sl O x0 v0),(3,.slice A2 (List.replicate (x0.length:Int).toNat (⟨(0:Int),(0:Int),(0:Int),([]:(List Int)),([]:(List D.Port))⟩:D.Agent)).length k3),(4,.int .i64 y0.1)]) p0 ⟨F0,rfl⟩ ?_;rintro y0 F b1 _ V0 ⟨d,rfl⟩ b r0;unfold z3r at b;refine sq<|sq<|rg<|rr 4 ?_;refine rn<|ci b (fun b=>?_) (fun b=>?_)
  ·refine sp<|sq<|bk<|rg<|rr 4 ?_;obtain⟨f1,t0,b⟩:=bS b;refine ix (hE.trans d.ext) E0 t0 (fun X0 D0 j0 H=>?_);obtain⟨K0,R0,M0,S0,C0,P0,Q0⟩:=z6h H;subst C0;refine lN (At.ext (hE.trans d.ext) j0) ?_;obtain⟨J0,u0,b⟩:=bS b;refine ca zcx (laws_toAgent_ok (hE.trans d.ext) H u0) (fun Y0 d1 Y=>?_);obtain⟨N0,T0,O0,U0,rfl,a0⟩:=Y;have c0:=d.join a0;have G:=c0.bring 2 rfl;obtain⟨o0,b⟩:=iS b;have o:=of_decide_eq_true o0;refine io G o.1 o.2 (fun q52 hq53=>?_);have d0:=G.bring 2 rfl;have e0:=d0.bring 2 rfl;have f0:=z7O (c:=J0) (B:=_) e0;have g0:=f0.bring 1 rfl;refine se g0 o.2 hq53 (fun e1 i0=>?_);refine rn<|rg<|rr 3 ?_;refine rn ?_;cases b;exact⟨_,_,rfl,⟨i0,rfl⟩,rfl⟩
  ·refine xt ?_;cases b;exact⟨_,_,⟨r0,d,rfl⟩,rfl⟩

theorem z8r:Enters Tryz.prog 9:=⟨_,_,Tryz.func9,rfl,by kernel_rfl⟩
def z35 (fuel:Nat) (x0:D.Net):Option (D.Net):=((z3F fuel x0.Agents).bind fun b=>some (⟨b⟩:D.Net))

theorem laws_toNet_ok {W:Base}{w:World}(hE:Ext W w){d0:List Value}{x0:D.Net}(f0:ty24.ro W d0 x0){fuel:Nat}{r:D.Net}(hm:z35 fuel x0=some r):
  Calls Tryz.prog 9 ⟨[.agg ⟨d0⟩]⟩ w (Ret fun v w8=>∃ A0 k0,v=.agg ⟨[sl A0 r.Agents k0]⟩∧St w w8 [ow ty29 A0 r.Agents k0]):=by
 obtain⟨A1,k2,e4,h3⟩:=z7a f0;subst e4;refine into Tryz.func9 9 _ ?_;unfold z35 at hm;have hS:=St.start w;refine sq<|rg<|nw hS (fun g5 w6 e7 H=>?_);refine nw H (fun o0 t0 i0 O=>?_);refine rn<|sq<|rg<|nw O (fun p0 u0 j0 b=>?_);refine rn<|sq<|rg<|rr 1 ?_;refine l1 ((b.bring 2 rfl).box) 0 ?_;obtain⟨q0,c0,hm⟩:=bS hm;refine ca zcF (laws_toAgentS_ok (hE.trans b.ext) h3 c0) (fun r0 v0 y=>?_);obtain⟨e0,g0,rfl,G⟩:=y;have Y:=b.join G;refine rr 1 ?_;have a0:=Y.bring 1 rfl;refine so (A:=[]) a0 0 (fun y0 d=>?_);refine rn<|sq<|rg<|lN ((d.bring 0 rfl).box) ?_;have b0:=d.bring 2 rfl;refine so (A:=[]) b0 0 (fun B0 o=>?_);refine rn<|rt ?_;cases hm;exact⟨_,.cons (ra ((o.bring 0 rfl).box)) .nil,e0,g0,rfl,((o.bring 2 rfl).taken 1)⟩

theorem za0:Enters Tryz.prog 11:=⟨_,_,Tryz.func11,rfl,by kernel_rfl⟩
def z5k (fuel:Nat) (t2:Unit):Option Bool:=some true
def z3t (fuel:Nat) (x0:(List Int)) (x1:(List Int)) (s1:Int):Option (Rd (Int) (Unit) (Bool)):=(if(decide (s1<(x0.length:Int)))=true then((idx x0 s1).bind fun b=>((idx x1 s1).bind fun d=>(if(b != d)=true then some (.ret false) else some (.next (w64 (s1+1)))))) else some (.brk ()))
def z33 (fuel:Nat) (x0:(List Int)) (x1:(List Int)):Option (Bool):=(if((x0.length:Int) != (x1.length:Int))=true then some false else((iter (z3t fuel x0 x1) fuel 0).bind fun o=>aft o (z5k fuel)))

theorem laws_eqInt64S_ok {W:Base}{w:World}(hE:Ext W w){H:Option Addr}{j0:Nat}{x0:(List Int)}{O:Option Addr}{k0:Nat}{x1:(List Int)}(r0:ty26.ro W [sl H x0 j0] x0) (t0:ty26.ro W [sl O x1 k0] x1){fuel:Nat}{r:Bool}(hm:z33 fuel x0 x1=some r):
  Calls Tryz.prog 11 ⟨[sl H x0 j0,sl O x1 k0]⟩ w (Ret fun v w8=>v=.bool r∧St w w8 []):=by
 refine into Tryz.func11 26 _ ?_;unfold z33 at hm;have hS:=St.start w;refine sq<|rg<|rr 1 ?_;refine rn<|sq<|sq<|rg<|rr 5 ?_;refine rn<|ci hm (fun hm=>?_) (fun hm=>?_)
 ·refine sq<|rg<|rr 1 ?_;refine rn<|rt ?_;cases hm;exact⟨_,.cons (.tmp rfl) .nil,rfl,hS⟩
 ·refine sp<|sq<|sq<|rg<|rr 1 ?_;refine rn ?_;obtain⟨u0,c0,hm⟩:=bS hm;refine ct (fun(t2:Unit) F w9=>u0=.inl t2∧Ext w w9∧St w w9 []∧F=[]) ?_ ?_
  ·rintro t2 F w7 ⟨d0,v0,Y,rfl⟩;subst d0;rw [zx] at hm;unfold z5k at hm;refine sq<|rg<|rr 1 ?_;refine rn<|rt ?_;cases hm;exact⟨_,.cons (.tmp rfl) .nil,rfl,Y⟩
  ·refine bk<|wk [0,1,5] ?_;refine it (fun(s1:Int) F w9=>Ext w w9∧St w w9 []∧F=[(0,sl H x0 j0),(1,sl O x1 k0),(5,.int .i64 s1)]) c0 ⟨(Ext.refl _),hS,rfl⟩ ?_;rintro s1 F C0 _ y0 ⟨o0,d,rfl⟩ b G;unfold z3t at b;refine sq<|sq<|rg<|rr 4 ?_;refine rn<|ci b (fun b=>?_) (fun b=>?_)
   ·refine sp<|sq<|bk<|sq<|dn 0 mixed 9 [([],511),([],511),([0,1],508),([2],507),([],511),([],511),([4,5],463),([6],447),([3,7],375)] d.ext (fun o=>?_);have y:=d.step (Ext.draw _);refine dr 5 o [0,1,4,5] ?_;obtain⟨D0,g0,b⟩:=bS b;refine dx (hE.trans d.ext) o 2 r0 g0 (fun A0 p0 a0 e0=>?_);cases e0;refine dl o 3 (At.ext (hE.trans d.ext) a0) 0 ?_;obtain⟨E0,i0,b⟩:=bS b;refine dx (hE.trans d.ext) o 6 t0 i0 (fun B0 q0 b0 f0=>?_);cases f0;refine dl o 7 (At.ext (hE.trans d.ext) b0) 0 ?_;refine dr 0 o [8] ?_;refine dw [0,1,5,25] ?_;refine dd o ?_;refine ci b (fun b=>?_) (fun b=>?_)
    ·refine sq<|rg<|rr 1 ?_;refine rn<|rt ?_;cases b;cases G;have hm:some _=some _:=hm;cases hm;exact⟨_,.cons (.tmp rfl) .nil,rfl,y⟩
    ·refine sp<|rg<|rr 3 ?_;refine rn ?_;cases b;exact⟨_,_,rfl,⟨(o0.trans (Ext.draw _)),y,rfl⟩,rfl⟩
   ·refine xt ?_;cases b;exact⟨_,_,⟨G,o0,d,rfl⟩,rfl⟩

theorem zbu:Enters Tryz.prog 100:=⟨_,_,Tryz.func100,rfl,by kernel_rfl⟩
def z4t (fuel:Nat) (x0:D.Port) (x1:D.Port):Option (Bool):=(if(x0.Agent != x1.Agent)=true then some false else(if(x0.Slot != x1.Slot)=true then some false else some true))

theorem laws_eqPort_ok {W:Base}{w:World}(hE:Ext W w){d:List Value}{x0:D.Port}{o:List Value}{x1:D.Port}(y:ty87.ro W d x0) (G:ty87.ro W o x1){fuel:Nat}{r:Bool}(hm:z4t fuel x0 x1=some r):
  Calls Tryz.prog 100 ⟨[.agg ⟨d⟩,.agg ⟨o⟩]⟩ w (Ret fun v w8=>v=.bool r∧St w w8 []):=by
 have e1:=zV y;subst e1;have e2:=zV G;subst e2;refine into Tryz.func100 15 _ ?_;unfold z4t at hm;have hS:=St.start w;refine sq<|rg<|nw hS (fun g3 w4 e5 H=>?_);refine nw H (fun g7 Y O b=>?_);refine rr 1 ?_;refine rn<|sq<|sq<|rg<|rr 1 ?_;refine l1 ((b.bring 1 rfl).box) 0 ?_;refine rr 1 ?_;refine l1 ((b.bring 0 rfl).box) 0 ?_;refine rr 1 ?_;refine rn<|ci hm (fun hm=>?_) (fun hm=>?_)
 ·refine sq<|rg<|rr 1 ?_;refine rn<|rt ?_;cases hm;exact⟨_,.cons (.tmp rfl) .nil,rfl,(b.taken 0)⟩
 ·refine sp<|sq<|sq<|rg<|rr 1 ?_;refine l1 ((b.bring 1 rfl).box) 1 ?_;refine rr 1 ?_;refine l1 ((b.bring 0 rfl).box) 1 ?_;refine rr 1 ?_;refine rn<|ci hm (fun hm=>?_) (fun hm=>?_)
  ·refine sq<|rg<|rr 1 ?_;refine rn<|rt ?_;cases hm;exact⟨_,.cons (.tmp rfl) .nil,rfl,(b.taken 0)⟩
  ·refine sp<|sq<|rg<|rr 1 ?_;refine rn<|rt ?_;cases hm;exact⟨_,.cons (.tmp rfl) .nil,rfl,(b.taken 0)⟩

theorem zca:Enters Tryz.prog 83:=⟨_,_,Tryz.func83,rfl,by kernel_rfl⟩
def z5B (fuel:Nat) (t2:Unit):Option Bool:=some true
def z3T (fuel:Nat) (x0:(List D.Port)) (x1:(List D.Port)) (s1:Int):Option (Rd (Int) (Unit) (Bool)):=(if(decide (s1<(x0.length:Int)))=true then((idx x0 s1).bind fun d=>((idx x1 s1).bind fun o=>((z4t fuel d o).bind fun b=>(if(!b)=true then some (.ret false) else some (.next (w64 (s1+1))))))) else some (.brk ()))
def z49 (fuel:Nat) (x0:(List D.Port)) (x1:(List D.Port)):Option (Bool):=(if((x0.length:Int) != (x1.length:Int))=true then some false else((iter (z3T fuel x0 x1) fuel 0).bind fun o=>aft o (z5B fuel)))

theorem laws_eqPortS_ok {W:Base}{w:World}(hE:Ext W w){b0:Option Addr}{q0:Nat}{x0:(List D.Port)}{c0:Option Addr}{r0:Nat}{x1:(List D.Port)}(B0:ty65.ro W [sl b0 x0 q0] x0) (C0:ty65.ro W [sl c0 x1 r0] x1){fuel:Nat}{r:Bool}(hm:z49 fuel x0 x1=some r):
  Calls Tryz.prog 83 ⟨[sl b0 x0 q0,sl c0 x1 r0]⟩ w (Ret fun v w8=>v=.bool r∧St w w8 []):=by
 refine into Tryz.func83 27 _ ?_;unfold z49 at hm;have hS:=St.start w;refine sq<|rg<|rr 1 ?_;refine rn<|sq<|sq<|rg<|rr 5 ?_;refine rn<|ci hm (fun hm=>?_) (fun hm=>?_)
 ·refine sq<|rg<|rr 1 ?_;refine rn<|rt ?_;cases hm;exact⟨_,.cons (.tmp rfl) .nil,rfl,hS⟩
 ·refine sp<|sq<|sq<|rg<|rr 1 ?_;refine rn ?_;obtain⟨D0,i0,hm⟩:=bS hm;refine ct (fun(t2:Unit) F w9=>D0=.inl t2∧Ext w w9∧St w w9 []∧F=[]) ?_ ?_
  ·rintro t2 F w7 ⟨j0,E0,e0,rfl⟩;subst j0;rw [zx] at hm;unfold z5B at hm;refine sq<|rg<|rr 1 ?_;refine rn<|rt ?_;cases hm;exact⟨_,.cons (.tmp rfl) .nil,rfl,e0⟩
  ·refine bk<|wk [0,1,5] ?_;refine it (fun(s1:Int) F w9=>Ext w w9∧St w w9 []∧F=[(0,sl b0 x0 q0),(1,sl c0 x1 r0),(5,.int .i64 s1)]) i0 ⟨(Ext.refl _),hS,rfl⟩ ?_;rintro s1 F M0 _ F0 ⟨t0,o,rfl⟩ b O;unfold z3T at b;refine sq<|sq<|rg<|rr 4 ?_;refine rn<|ci b (fun b=>?_) (fun b=>?_)
   ·refine sp<|sq<|bk<|sq<|dn 0 mixed 10 [([],1023),([],1023),([0,1],1020),([2],1019),([],1023),([],1023),([4,5],975),([6],959),([3,7],887),([8],767)] o.ext (fun d=>?_);have G:=o.step (Ext.draw _);refine dr 6 d [0,1,4,5] ?_;obtain⟨O0,k0,b⟩:=bS b;refine dx (hE.trans o.ext) d 2 B0 k0 (fun G0 y0 f0 Y=>?_);have u0:=zV Y;subst u0;refine dL d 3 (At.ext (hE.trans o.ext) f0) ?_;obtain⟨P0,o0,b⟩:=bS b;refine dx (hE.trans o.ext) d 6 C0 o0 (fun H0 A0 g0 a0=>?_);have v0:=zV a0;subst v0;refine dL d 7 (At.ext (hE.trans o.ext) g0) ?_;obtain⟨J0,p0,b⟩:=bS b;refine o1 d 8 (mc d zbu (laws_eqPort_ok (hE.trans G.ext) Y a0 p0) (fun K0 N0 d0=>?_));obtain⟨rfl,y⟩:=d0;refine⟨y.ext,?_⟩;have H:=G.join y;refine dr 0 d [9] ?_;refine dw [0,1,5,26] ?_;refine dd d ?_;refine ci b (fun b=>?_) (fun b=>?_)
    ·refine sq<|rg<|rr 1 ?_;refine rn<|rt ?_;cases b;cases O;have hm:some _=some _:=hm;cases hm;exact⟨_,.cons (.tmp rfl) .nil,rfl,H⟩
    ·refine sp<|rg<|rr 3 ?_;refine rn ?_;cases b;exact⟨_,_,rfl,⟨((t0.trans (Ext.draw _)).trans y.ext),H,rfl⟩,rfl⟩
   ·refine xt ?_;cases b;exact⟨_,_,⟨O,t0,o,rfl⟩,rfl⟩

theorem zcv:Enters Tryz.prog 49:=⟨_,_,Tryz.func49,rfl,by kernel_rfl⟩
def z4a (fuel:Nat) (x0:D.Agent) (x1:D.Agent):Option (Bool):=(if(x0.Kind != x1.Kind)=true then some false else(if(x0.Level != x1.Level)=true then some false else(if(x0.Value != x1.Value)=true then some false else((z33 fuel x0.Data x1.Data).bind fun b=>(if(!b)=true then some false else((z49 fuel x0.Ports x1.Ports).bind fun d=>(if(!d)=true then some false else some true)))))))

theorem laws_eqAgent_ok {W:Base}{w:World}(hE:Ext W w){c0:List Value}{x0:D.Agent}{d0:List Value}{x1:D.Agent}(f0:ty67.ro W c0 x0) (j0:ty67.ro W d0 x1){fuel:Nat}{r:Bool}(hm:z4a fuel x0 x1=some r):
  Calls Tryz.prog 49 ⟨[.agg ⟨c0⟩,.agg ⟨d0⟩]⟩ w (Ret fun v w8=>v=.bool r∧St w w8 []):=by
 obtain⟨A1,k2,A4,k5,e7,h3,h6⟩:=zB f0;subst e7;obtain⟨k0,u0,o0,v0,e0,g0,i0⟩:=zB j0;subst e0;refine into Tryz.func49 32 _ ?_;unfold z4a at hm;have hS:=St.start w;refine sq<|rg<|nw hS (fun r0 D0 p0 Y=>?_);refine nw Y (fun t0 E0 q0 b=>?_);refine rr 1 ?_;refine rn<|sq<|sq<|rg<|rr 1 ?_;refine l1 ((b.bring 1 rfl).box) 0 ?_;refine rr 1 ?_;refine l1 ((b.bring 0 rfl).box) 0 ?_;refine rr 1 ?_;refine rn<|ci hm (fun hm=>?_) (fun hm=>?_)
 ·refine sq<|rg<|rr 1 ?_;refine rn<|rt ?_;cases hm;exact⟨_,.cons (.tmp rfl) .nil,rfl,(b.taken 0)⟩
 ·refine sp<|sq<|sq<|rg<|rr 1 ?_;refine l1 ((b.bring 1 rfl).box) 1 ?_;refine rr 1 ?_;refine l1 ((b.bring 0 rfl).box) 1 ?_;refine rr 1 ?_;refine rn<|ci hm (fun hm=>?_) (fun hm=>?_)
  ·refine sq<|rg<|rr 1 ?_;refine rn<|rt ?_;cases hm;exact⟨_,.cons (.tmp rfl) .nil,rfl,(b.taken 0)⟩
  ·refine sp<|sq<|sq<|rg<|rr 1 ?_;refine l1 ((b.bring 1 rfl).box) 2 ?_;refine rr 1 ?_;refine l1 ((b.bring 0 rfl).box) 2 ?_;refine rr 1 ?_;refine rn<|ci hm (fun hm=>?_) (fun hm=>?_)
   ·refine sq<|rg<|rr 1 ?_;refine rn<|rt ?_;cases hm;exact⟨_,.cons (.tmp rfl) .nil,rfl,(b.taken 0)⟩
   ·refine sp<|sq<|sq<|rg<|rr 1 ?_;refine l1 ((b.bring 1 rfl).box) 3 ?_;refine rr 1 ?_;refine l1 ((b.bring 0 rfl).box) 3 ?_;obtain⟨y0,a0,hm⟩:=bS hm;refine ca za0 (laws_eqInt64S_ok (hE.trans b.ext) h3 g0 a0) (fun B0 F0 y=>?_);obtain⟨rfl,G⟩:=y;have d:=b.join G;refine rr 1 ?_;refine rn<|ci hm (fun hm=>?_) (fun hm=>?_)
    ·refine sq<|rg<|rr 1 ?_;refine rn<|rt ?_;cases hm;exact⟨_,.cons (.tmp rfl) .nil,rfl,(d.taken 0)⟩
    ·refine sp<|sq<|sq<|rg<|rr 1 ?_;refine l1 ((d.bring 1 rfl).box) 4 ?_;refine rr 1 ?_;refine l1 ((d.bring 0 rfl).box) 4 ?_;obtain⟨A0,b0,hm⟩:=bS hm;refine ca zca (laws_eqPortS_ok (hE.trans d.ext) h6 i0 b0) (fun C0 G0 H=>?_);obtain⟨rfl,O⟩:=H;have o:=d.join O;refine rr 1 ?_;refine rn<|ci hm (fun hm=>?_) (fun hm=>?_)
     ·refine sq<|rg<|rr 1 ?_;refine rn<|rt ?_;cases hm;exact⟨_,.cons (.tmp rfl) .nil,rfl,(o.taken 0)⟩
     ·refine sp<|sq<|rg<|rr 1 ?_;refine rn<|rt ?_;cases hm;exact⟨_,.cons (.tmp rfl) .nil,rfl,(o.taken 0)⟩

theorem zcD:Enters Tryz.prog 31:=⟨_,_,Tryz.func31,rfl,by kernel_rfl⟩
def z5m (fuel:Nat) (t2:Unit):Option Bool:=some true
def z3u (fuel:Nat) (x0:(List D.Agent)) (x1:(List D.Agent)) (s1:Int):Option (Rd (Int) (Unit) (Bool)):=(if(decide (s1<(x0.length:Int)))=true then((idx x0 s1).bind fun d=>((idx x1 s1).bind fun o=>((z4a fuel d o).bind fun b=>(if(!b)=true then some (.ret false) else some (.next (w64 (s1+1))))))) else some (.brk ()))
def z3K (fuel:Nat) (x0:(List D.Agent)) (x1:(List D.Agent)):Option (Bool):=(if((x0.length:Int) != (x1.length:Int))=true then some false else((iter (z3u fuel x0 x1) fuel 0).bind fun o=>aft o (z5m fuel)))

theorem laws_eqAgentS_ok {W:Base}{w:World}(hE:Ext W w){b0:Option Addr}{q0:Nat}{x0:(List D.Agent)}{c0:Option Addr}{r0:Nat}{x1:(List D.Agent)}(B0:ty29.ro W [sl b0 x0 q0] x0) (C0:ty29.ro W [sl c0 x1 r0] x1){fuel:Nat}{r:Bool}(hm:z3K fuel x0 x1=some r):
  Calls Tryz.prog 31 ⟨[sl b0 x0 q0,sl c0 x1 r0]⟩ w (Ret fun v w8=>v=.bool r∧St w w8 []):=by
 refine into Tryz.func31 27 _ ?_;unfold z3K at hm;have hS:=St.start w;refine sq<|rg<|rr 1 ?_;refine rn<|sq<|sq<|rg<|rr 5 ?_;refine rn<|ci hm (fun hm=>?_) (fun hm=>?_)
 ·refine sq<|rg<|rr 1 ?_;refine rn<|rt ?_;cases hm;exact⟨_,.cons (.tmp rfl) .nil,rfl,hS⟩
 ·refine sp<|sq<|sq<|rg<|rr 1 ?_;refine rn ?_;obtain⟨D0,i0,hm⟩:=bS hm;refine ct (fun(t2:Unit) F w9=>D0=.inl t2∧Ext w w9∧St w w9 []∧F=[]) ?_ ?_
  ·rintro t2 F w7 ⟨j0,O0,e0,rfl⟩;subst j0;rw [zx] at hm;unfold z5m at hm;refine sq<|rg<|rr 1 ?_;refine rn<|rt ?_;cases hm;exact⟨_,.cons (.tmp rfl) .nil,rfl,e0⟩
  ·refine bk<|wk [0,1,5] ?_;refine it (fun(s1:Int) F w9=>Ext w w9∧St w w9 []∧F=[(0,sl b0 x0 q0),(1,sl c0 x1 r0),(5,.int .i64 s1)]) i0 ⟨(Ext.refl _),hS,rfl⟩ ?_;rintro s1 F a1 _ T0 ⟨t0,o,rfl⟩ b O;unfold z3u at b;refine sq<|sq<|rg<|rr 4 ?_;refine rn<|ci b (fun b=>?_) (fun b=>?_)
   ·refine sp<|sq<|bk<|sq<|dn 0 mixed 10 [([],1023),([],1023),([0,1],1020),([2],1019),([],1023),([],1023),([4,5],975),([6],959),([3,7],887),([8],767)] o.ext (fun d=>?_);have G:=o.step (Ext.draw _);refine dr 6 d [0,1,4,5] ?_;obtain⟨d1,k0,b⟩:=bS b;refine dx (hE.trans o.ext) d 2 B0 k0 (fun U0 y0 f0 Y=>?_);obtain⟨E0,P0,F0,Q0,u0,J0,K0⟩:=zB Y;subst u0;refine dL d 3 (At.ext (hE.trans o.ext) f0) ?_;obtain⟨e1,o0,b⟩:=bS b;refine dx (hE.trans o.ext) d 6 C0 o0 (fun V0 A0 g0 a0=>?_);obtain⟨G0,R0,H0,S0,v0,M0,N0⟩:=zB a0;subst v0;refine dL d 7 (At.ext (hE.trans o.ext) g0) ?_;obtain⟨X0,p0,b⟩:=bS b;refine o1 d 8 (mc d zcv (laws_eqAgent_ok (hE.trans G.ext) Y a0 p0) (fun Y0 b1 d0=>?_));obtain⟨rfl,y⟩:=d0;refine⟨y.ext,?_⟩;have H:=G.join y;refine dr 0 d [9] ?_;refine dw [0,1,5,26] ?_;refine dd d ?_;refine ci b (fun b=>?_) (fun b=>?_)
    ·refine sq<|rg<|rr 1 ?_;refine rn<|rt ?_;cases b;cases O;have hm:some _=some _:=hm;cases hm;exact⟨_,.cons (.tmp rfl) .nil,rfl,H⟩
    ·refine sp<|rg<|rr 3 ?_;refine rn ?_;cases b;exact⟨_,_,rfl,⟨((t0.trans (Ext.draw _)).trans y.ext),H,rfl⟩,rfl⟩
   ·refine xt ?_;cases b;exact⟨_,_,⟨O,t0,o,rfl⟩,rfl⟩

theorem zcN:Enters Tryz.prog 12:=⟨_,_,Tryz.func12,rfl,by kernel_rfl⟩
def z4N (fuel:Nat) (x0:D.Net) (x1:D.Net):Option (Bool):=((z3K fuel x0.Agents x1.Agents).bind fun b=>(if(!b)=true then some false else some true))

theorem laws_eqNet_ok {W:Base}{w:World}(hE:Ext W w){O:List Value}{x0:D.Net}{Y:List Value}{x1:D.Net}(b0:ty31.ro W O x0) (c0:ty31.ro W Y x1){fuel:Nat}{r:Bool}(hm:z4N fuel x0 x1=some r):
  Calls Tryz.prog 12 ⟨[.agg ⟨O⟩,.agg ⟨Y⟩]⟩ w (Ret fun v w8=>v=.bool r∧St w w8 []):=by
 obtain⟨A1,k2,e4,h3⟩:=z1C b0;subst e4;obtain⟨A5,k6,a0,h7⟩:=z1C c0;subst a0;refine into Tryz.func12 11 _ ?_;unfold z4N at hm;have hS:=St.start w;refine sq<|rg<|nw hS (fun f0 k0 d0 G=>?_);refine nw G (fun g0 o0 e0 b=>?_);refine rr 1 ?_;refine rn<|sq<|sq<|rg<|rr 1 ?_;refine l1 ((b.bring 1 rfl).box) 0 ?_;refine rr 1 ?_;refine l1 ((b.bring 0 rfl).box) 0 ?_;obtain⟨i0,H,hm⟩:=bS hm;refine ca zcD (laws_eqAgentS_ok (hE.trans b.ext) h3 h7 H) (fun j0 p0 o=>?_);obtain⟨rfl,y⟩:=o;have d:=b.join y;refine rr 1 ?_;refine rn<|ci hm (fun hm=>?_) (fun hm=>?_)
 ·refine sq<|rg<|rr 1 ?_;refine rn<|rt ?_;cases hm;exact⟨_,.cons (.tmp rfl) .nil,rfl,(d.taken 0)⟩
 ·refine sp<|sq<|rg<|rr 1 ?_;refine rn<|rt ?_;cases hm;exact⟨_,.cons (.tmp rfl) .nil,rfl,(d.taken 0)⟩

theorem z8w:Enters Tryz.prog 14:=⟨_,_,Tryz.func14,rfl,by kernel_rfl⟩
def z4S (fuel:Nat) (t2:Int × (List Int)):Option (Int × (List Int)):=some (t2.1,t2.2)
def z2C (fuel:Nat) (x0:(List Int)) (s1:Int × Int × (List Int)):Option (Rd (Int × Int × (List Int)) (Int × (List Int)) (Int × (List Int))):=(if(decide (s1.2.1<(x0.length:Int)))=true then(if decide (0≤s1.2.1∧s1.2.1.toNat<s1.2.2.length)=true then some (.next (w64 (s1.1+1),w64 (s1.2.1+1),(s1.2.2.set s1.2.1.toNat s1.1))) else none) else some (.brk (s1.1,s1.2.2)))
def z1u (fuel:Nat) (x0:(List Int)) (x1:Int):Option (Int × (List Int)):=((iter (z2C fuel x0) fuel (x1,0,x0)).bind fun o=>aft o (z4S fuel))

theorem laws_markInt64S_ok {W:Base}{w:World}{RR:List Res}{o:Option Addr}{y:Nat}{x0:(List Int)}{x1:Int}(hS:St W w (ow ty26 o x0 y::RR)){fuel:Nat}{r:Int × (List Int)}(hm:z1u fuel x0 x1=some r):
  Calls Tryz.prog 14 ⟨[sl o x0 y,.int .i64 x1]⟩ w (Ret fun v w8=>v=.int .i64 r.1∧St W w8 (Own ty26 [sl o x0 y] r.2::RR)):=by
 refine into Tryz.func14 19 _ ?_;unfold z1u at hm;refine sq<|rg<|rr 1 ?_;refine rn<|sq<|sq<|rg<|rr 1 ?_;refine rn ?_;obtain⟨o5,f0,hm⟩:=bS hm;refine ct (fun(t2:Int × (List Int)) F w9=>o5=.inl t2∧St W w9 (Own ty26 [sl o x0 y] t2.2::RR)∧F=[(1,.int .i64 t2.1)]) ?_ ?_
 ·rintro t2 F w4 ⟨c0,e0,rfl⟩;subst c0;rw [zx] at hm;unfold z4S at hm;refine sq<|rg<|rr 2 ?_;refine rn<|rt ?_;cases hm;exact⟨_,.cons (.tmp rfl) .nil,rfl,e0⟩
 ·refine bk<|wk [0,1,5] ?_;refine it (fun(s1:Int × Int × (List Int)) F w9=>St W w9 (Own ty26 [sl o x0 y] s1.2.2::RR)∧F=[(0,sl o x0 y),(1,.int .i64 s1.1),(5,.int .i64 s1.2.1)]) f0 ⟨hS,rfl⟩ ?_;rintro s1 F i0 _ g0 ⟨G,rfl⟩ b d0;unfold z2C at b;refine sq<|sq<|rg<|rr 4 ?_;refine rn<|ci b (fun b=>?_) (fun b=>?_)
  ·refine sp<|sq<|bk<|sq<|rg<|rr 3 ?_;have H:=G.bring 0 rfl;obtain⟨b0,b⟩:=iS b;have d:=of_decide_eq_true b0;refine io H d.1 d.2 (fun q19 hq20=>?_);have O:=H.flat (T:=tInt) (cs:=[.int .i64 s1.1]) (x:=s1.1) ⟨rfl,rfl⟩;have Y:=O.bring 1 rfl;refine se Y d.2 hq20 (fun j0 a0=>?_);refine rn<|rg<|rr 3 ?_;refine rn<|rg<|rr 3 ?_;refine rn ?_;cases b;exact⟨_,_,rfl,⟨a0,rfl⟩,rfl⟩
  ·refine xt ?_;cases b;exact⟨_,_,⟨d0,G,rfl⟩,rfl⟩

theorem zcu:Enters Tryz.prog 50:=⟨_,_,Tryz.func50,rfl,by kernel_rfl⟩
def z57 (fuel:Nat) (t2:Int × (List D.Port)):Option (Int × (List D.Port)):=some (t2.1,t2.2)
def z39 (fuel:Nat) (x0:(List D.Port)) (s1:Int × Int × (List D.Port)):Option (Rd (Int × Int × (List D.Port)) (Int × (List D.Port)) (Int × (List D.Port))):=(if(decide (s1.2.1<(x0.length:Int)))=true then((idx s1.2.2 s1.2.1).bind fun b=>some (.next (w64 ((w64 (s1.1+1))+1),w64 (s1.2.1+1),(s1.2.2.set s1.2.1.toNat (⟨s1.1,w64 (s1.1+1)⟩:D.Port))))) else some (.brk (s1.1,s1.2.2)))
def z3f (fuel:Nat) (x0:(List D.Port)) (x1:Int):Option (Int × (List D.Port)):=((iter (z39 fuel x0) fuel (x1,0,x0)).bind fun o=>aft o (z57 fuel))

theorem laws_markPortS_ok {W:Base}{w:World}{RR:List Res}{d:Option Addr}{o:Nat}{x0:(List D.Port)}{x1:Int}(hS:St W w (ow ty65 d x0 o::RR)){fuel:Nat}{r:Int × (List D.Port)}(hm:z3f fuel x0 x1=some r):
  Calls Tryz.prog 50 ⟨[sl d x0 o,.int .i64 x1]⟩ w (Ret fun v w8=>v=.int .i64 r.1∧St W w8 (Own ty65 [sl d x0 o] r.2::RR)):=by
 refine into Tryz.func50 27 _ ?_;unfold z3f at hm;refine sq<|rg<|rr 1 ?_;refine rn<|sq<|sq<|rg<|rr 1 ?_;refine rn ?_;obtain⟨o5,q0,hm⟩:=bS hm;refine ct (fun(t2:Int × (List D.Port)) F w9=>o5=.inl t2∧St W w9 (Own ty65 [sl d x0 o] t2.2::RR)∧F=[(1,.int .i64 t2.1)]) ?_ ?_
 ·rintro t2 F w4 ⟨i0,p0,rfl⟩;subst i0;rw [zx] at hm;unfold z57 at hm;refine sq<|rg<|rr 2 ?_;refine rn<|rt ?_;cases hm;exact⟨_,.cons (.tmp rfl) .nil,rfl,p0⟩
 ·refine bk<|wk [0,1,5] ?_;refine it (fun(s1:Int × Int × (List D.Port)) F w9=>St W w9 (Own ty65 [sl d x0 o] s1.2.2::RR)∧F=[(0,sl d x0 o),(1,.int .i64 s1.1),(5,.int .i64 s1.2.1)]) q0 ⟨hS,rfl⟩ ?_;rintro s1 F t0 _ r0 ⟨y,rfl⟩ b j0;unfold z39 at b;refine sq<|sq<|rg<|rr 4 ?_;refine rn<|ci b (fun b=>?_) (fun b=>?_)
  ·refine sp<|sq<|bk<|sq<|rg<|rr 3 ?_;have O:=y.bring 0 rfl;obtain⟨y0,H,b⟩:=bS b;refine fo O H (fun q19 o0 hq21 Y=>?_);obtain⟨k0,a0⟩:=za8 (Y.bring 1 rfl);subst k0;refine rr 1 ?_;have b0:=a0.bring 0 rfl;refine sh b0 hq21 0 (fun u0 G=>?_);refine rn<|sq<|rg<|rr 3 ?_;refine rn<|sq<|rg<|rr 3 ?_;refine ia (G.bring 0 rfl) (z6 H).1 (fun q28 hq29=>?_);refine rr 1 ?_;have c0:=G.bring 0 rfl;refine sh c0 hq29 1 (fun v0 d0=>?_);refine rn<|rg<|rr 3 ?_;refine rn<|rg<|rr 3 ?_;refine rn ?_;have e0:=z7N (c:=(⟨s1.1,w64 (s1.1+1)⟩:D.Port)) (B:=_) d0;have f0:=e0.bring 1 rfl;have g0:=St.unfocusN f0;cases b;exact⟨_,_,rfl,⟨g0,rfl⟩,rfl⟩
  ·refine xt ?_;cases b;exact⟨_,_,⟨j0,y,rfl⟩,rfl⟩

theorem zcC:Enters Tryz.prog 32:=⟨_,_,Tryz.func32,rfl,by kernel_rfl⟩
def z4T (fuel:Nat) (t2:Int × (List D.Agent)):Option (Int × (List D.Agent)):=some (t2.1,t2.2)
def z2D (fuel:Nat) (x0:(List D.Agent)) (s1:Int × Int × (List D.Agent)):Option (Rd (Int × Int × (List D.Agent)) (Int × (List D.Agent)) (Int × (List D.Agent))):=(if(decide (s1.2.1<(x0.length:Int)))=true then((idx s1.2.2 s1.2.1).bind fun o=>((z1u fuel o.Data (w64 ((w64 ((w64 (s1.1+1))+1))+1))).bind fun b=>((z3f fuel o.Ports b.1).bind fun d=>some (.next (d.1,w64 (s1.2.1+1),(s1.2.2.set s1.2.1.toNat (⟨s1.1,w64 (s1.1+1),w64 ((w64 (s1.1+1))+1),b.2,d.2⟩:D.Agent))))))) else some (.brk (s1.1,s1.2.2)))
def z31 (fuel:Nat) (x0:(List D.Agent)) (x1:Int):Option (Int × (List D.Agent)):=((iter (z2D fuel x0) fuel (x1,0,x0)).bind fun o=>aft o (z4T fuel))

theorem laws_markAgentS_ok {W:Base}{w:World}{RR:List Res}{d0:Option Addr}{e0:Nat}{x0:(List D.Agent)}{x1:Int}(hS:St W w (ow ty29 d0 x0 e0::RR)){fuel:Nat}{r:Int × (List D.Agent)}(hm:z31 fuel x0 x1=some r):
  Calls Tryz.prog 32 ⟨[sl d0 x0 e0,.int .i64 x1]⟩ w (Ret fun v w8=>v=.int .i64 r.1∧St W w8 (Own ty29 [sl d0 x0 e0] r.2::RR)):=by
 refine into Tryz.func32 48 _ ?_;unfold z31 at hm;refine sq<|rg<|rr 1 ?_;refine rn<|sq<|sq<|rg<|rr 1 ?_;refine rn ?_;obtain⟨o5,R0,hm⟩:=bS hm;refine ct (fun(t2:Int × (List D.Agent)) F w9=>o5=.inl t2∧St W w9 (Own ty29 [sl d0 x0 e0] t2.2::RR)∧F=[(1,.int .i64 t2.1)]) ?_ ?_
 ·rintro t2 F w4 ⟨J0,Q0,rfl⟩;subst J0;rw [zx] at hm;unfold z4T at hm;refine sq<|rg<|rr 2 ?_;refine rn<|rt ?_;cases hm;exact⟨_,.cons (.tmp rfl) .nil,rfl,Q0⟩
 ·refine bk<|wk [0,1,5] ?_;refine it (fun(s1:Int × Int × (List D.Agent)) F w9=>St W w9 (Own ty29 [sl d0 x0 e0] s1.2.2::RR)∧F=[(0,sl d0 x0 e0),(1,.int .i64 s1.1),(5,.int .i64 s1.2.1)]) R0 ⟨hS,rfl⟩ ?_;rintro s1 F Y0 _ U0 ⟨f0,rfl⟩ b K0;unfold z2D at b;refine sq<|sq<|rg<|rr 4 ?_;refine rn<|ci b (fun b=>?_) (fun b=>?_)
  ·refine sp<|sq<|bk<|sq<|rg<|rr 3 ?_;have r0:=f0.bring 0 rfl;obtain⟨o,d,b⟩:=bS b;refine fo r0 d (fun q19 P0 hq21 t0=>?_);obtain⟨G,b0,H,c0,O0,u0⟩:=za9 (t0.bring 1 rfl);subst O0;refine rr 1 ?_;have v0:=u0.bring 2 rfl;refine sh v0 hq21 0 (fun a1 g0=>?_);refine rn<|sq<|rg<|rr 3 ?_;refine rn<|sq<|rg<|rr 3 ?_;refine ia (g0.bring 0 rfl) (z6 d).1 (fun q32 hq33=>?_);refine rr 1 ?_;have y0:=g0.bring 0 rfl;refine sh y0 hq33 1 (fun b1 i0=>?_);refine rn<|sq<|rg<|rr 3 ?_;refine rn<|sq<|rg<|rr 3 ?_;refine ia (i0.bring 0 rfl) (z6 d).1 (fun q37 hq38=>?_);refine rr 1 ?_;have A0:=i0.bring 0 rfl;refine sh A0 hq38 2 (fun d1 O=>?_);refine rn<|sq<|rg<|rr 3 ?_;refine rn<|sq<|rg<|rr 2 ?_;refine ia (O.bring 0 rfl) (z6 d).1 (fun q42 hq43=>?_);refine rr 1 ?_;refine l1 ((O.bring 0 rfl).hole_atN hq43) 3 ?_;refine rr 1 ?_;obtain⟨y,M0,b⟩:=bS b;refine ca z8w (laws_markInt64S_ok (W:=W) (RR:=_) (x0:=o.Data) (x1:=w64 ((w64 ((w64 (s1.1+1))+1))+1)) (O.bring 1 rfl)  M0) (fun V0 e1 p0=>?_);obtain⟨rfl,Y⟩:=p0;refine rr 1 ?_;refine rn<|rg<|rr 2 ?_;refine ia (Y.bring 1 rfl) (z6 d).1 (fun q50 hq51=>?_);refine rr 1 ?_;refine l1 ((Y.bring 1 rfl).hole_atN hq51) 4 ?_;refine rr 1 ?_;obtain⟨o0,N0,b⟩:=bS b;refine ca zcu (laws_markPortS_ok (W:=W) (RR:=_) (x0:=o.Ports) (x1:=y.1) (Y.bring 2 rfl)  N0) (fun X0 f1 q0=>?_);obtain⟨rfl,j0⟩:=q0;refine rr 1 ?_;refine rn<|rg<|rr 3 ?_;refine rn ?_;have hn58:=(j0.bring 1 rfl).lenEq;have B0:=(j0.bring 1 rfl).reLen hn58;have k0:=(B0.bring 2 rfl).reHole (es':=[.int .i64 s1.1,.int .i64 (w64 (s1.1+1)),.int .i64 (w64 ((w64 (s1.1+1))+1)),.slice G y.2.length b0,.slice H o.Ports.length c0]) (by show([.int .i64 s1.1,.int .i64 (w64 (s1.1+1)),.int .i64 (w64 ((w64 (s1.1+1))+1)),.slice G o.Data.length b0,.slice H o.Ports.length c0]:List Value)=[.int .i64 s1.1,.int .i64 (w64 (s1.1+1)),.int .i64 (w64 ((w64 (s1.1+1))+1)),.slice G y.2.length b0,.slice H o.Ports.length c0];first | (simp only [sl,hn58];done) | (simp only [sl,hn58];rfl));have hn61:=(k0.bring 2 rfl).lenEq;have C0:=(k0.bring 2 rfl).reLen hn61;have a0:=(C0.bring 1 rfl).reHole (es':=[.int .i64 s1.1,.int .i64 (w64 (s1.1+1)),.int .i64 (w64 ((w64 (s1.1+1))+1)),.slice G y.2.length b0,.slice H o0.2.length c0]) (by show([.int .i64 s1.1,.int .i64 (w64 (s1.1+1)),.int .i64 (w64 ((w64 (s1.1+1))+1)),.slice G y.2.length b0,.slice H o.Ports.length c0]:List Value)=[.int .i64 s1.1,.int .i64 (w64 (s1.1+1)),.int .i64 (w64 ((w64 (s1.1+1))+1)),.slice G y.2.length b0,.slice H o0.2.length c0];first | (simp only [sl,hn61];done) | (simp only [sl,hn61];rfl));have S0:=(show ty26.ro _ [.slice G o.Data.length b0] y.2 from(Eq.symm hn58) ▸ ((a0.bring 2 rfl).own));have T0:=(show ty65.ro _ [.slice H o.Ports.length c0] o0.2 from(Eq.symm hn61) ▸ ((a0.bring 1 rfl).own));have D0:=a0.bring 1 rfl;have E0:=D0.bring 2 rfl;have F0:=z7O (c:=(⟨s1.1,w64 (s1.1+1),w64 ((w64 (s1.1+1))+1),y.2,o0.2⟩:D.Agent)) (B:=_) E0;have G0:=F0.bring 1 rfl;have H0:=St.unfocusN G0;cases b;exact⟨_,_,rfl,⟨H0,rfl⟩,rfl⟩
  ·refine xt ?_;cases b;exact⟨_,_,⟨K0,f0,rfl⟩,rfl⟩

theorem zcM:Enters Tryz.prog 13:=⟨_,_,Tryz.func13,rfl,by kernel_rfl⟩
def z48 (fuel:Nat) (x0:D.Net) (x1:Int):Option (Int × (List D.Agent)):=((z31 fuel x0.Agents x1).bind fun r5=>some (r5.1,r5.2))

theorem laws_markNet_ok {W:Base}{w:World}{RR:List Res}{x0:D.Net}{b:Option Addr}{d:Nat}{x1:Int}(hS:St W w (ow ty29 b x0.Agents d::RR)){fuel:Nat}{r:Int × (List D.Agent)}(hm:z48 fuel x0 x1=some r):
  Calls Tryz.prog 13 ⟨[.agg ⟨[sl b x0.Agents d]⟩,.int .i64 x1]⟩ w (Ret fun v w8=>v=.int .i64 r.1∧St W w8 (Own ty29 [sl b x0.Agents d] r.2::RR)):=by
 refine into Tryz.func13 10 _ ?_;unfold z48 at hm;refine sq<|rg<|nw hS (fun g1 w2 e3 G=>?_);refine rr 1 ?_;refine rn<|sq<|rg<|rr 1 ?_;refine l1 ((G.bring 0 rfl).box) 0 ?_;refine rr 1 ?_;obtain⟨r5,H,hm⟩:=bS hm;refine ca zcC (laws_markAgentS_ok (W:=W) (RR:=_) (x0:=x0.Agents) (x1:=x1) (G.bring 1 rfl)  H) (fun v7 O o=>?_);obtain⟨rfl,y⟩:=o;refine rr 1 ?_;refine rn<|sq<|rg<|rr 2 ?_;refine rn<|rt ?_;cases hm;exact⟨_,.cons (.tmp rfl) .nil,rfl,(y.bring 1 rfl).drop⟩

theorem z9Z:Enters Tryz.prog 15:=⟨_,_,Tryz.func15,rfl,by kernel_rfl⟩
def z4U (fuel:Nat) (t2:Int):Option Int:=some t2
def z1N (fuel:Nat) (x0:(List Int)) (s1:Int × Int):Option (Rd (Int × Int) (Int) (Int)):=(if(decide (s1.2<(x0.length:Int)))=true then((idx x0 s1.2).bind fun b=>(if(b != s1.1)=true then some (.ret (-1)) else some (.next (w64 (s1.1+1),w64 (s1.2+1))))) else some (.brk s1.1))
def z1v (fuel:Nat) (x0:(List Int)) (x1:Int):Option (Int):=((iter (z1N fuel x0) fuel (x1,0)).bind fun o=>aft o (z4U fuel))

theorem laws_heldInt64S_ok {W:Base}{w:World}(hE:Ext W w){y:Option Addr}{c0:Nat}{x0:(List Int)}{x1:Int}(f0:ty26.ro W [sl y x0 c0] x0){fuel:Nat}{r:Int}(hm:z1v fuel x0 x1=some r):
  Calls Tryz.prog 15 ⟨[sl y x0 c0,.int .i64 x1]⟩ w (Ret fun v w8=>v=.int .i64 r∧St w w8 []):=by
 refine into Tryz.func15 21 _ ?_;unfold z1v at hm;have hS:=St.start w;refine sq<|rg<|rr 1 ?_;refine rn<|sq<|sq<|rg<|rr 1 ?_;refine rn ?_;obtain⟨g0,O,hm⟩:=bS hm;refine ct (fun(t2:Int) F w9=>g0=.inl t2∧Ext w w9∧St w w9 []∧F=[(1,.int .i64 t2)]) ?_ ?_
 ·rintro t2 F w7 ⟨Y,i0,G,rfl⟩;subst Y;rw [zx] at hm;unfold z4U at hm;refine sq<|rg<|rr 2 ?_;refine rn<|rt ?_;cases hm;exact⟨_,.cons (.tmp rfl) .nil,rfl,G⟩
 ·refine bk<|wk [0,1,5] ?_;refine it (fun(s1:Int × Int) F w9=>Ext w w9∧St w w9 []∧F=[(0,sl y x0 c0),(1,.int .i64 s1.1),(5,.int .i64 s1.2)]) O ⟨(Ext.refl _),hS,rfl⟩ ?_;rintro s1 F o0 _ j0 ⟨d0,d,rfl⟩ b o;unfold z1N at b;refine sq<|sq<|rg<|rr 4 ?_;refine rn<|ci b (fun b=>?_) (fun b=>?_)
  ·refine sp<|sq<|bk<|sq<|sq<|rg<|rr 2 ?_;obtain⟨p0,b0,b⟩:=bS b;refine ix (hE.trans d.ext) f0 b0 (fun k0 e0 H a0=>?_);cases a0;refine l1 (At.ext (hE.trans d.ext) H) 0 ?_;refine rr 2 ?_;refine rn<|ci b (fun b=>?_) (fun b=>?_)
   ·refine sq<|rg<|rr 1 ?_;refine rn<|rt ?_;cases b;cases o;have hm:some _=some _:=hm;cases hm;exact⟨_,.cons (.tmp rfl) .nil,rfl,d⟩
   ·refine sp<|rg<|rr 3 ?_;refine rn<|rg<|rr 3 ?_;refine rn ?_;cases b;exact⟨_,_,rfl,⟨d0,d,rfl⟩,rfl⟩
  ·refine xt ?_;cases b;exact⟨_,_,⟨o,d0,d,rfl⟩,rfl⟩

end Go.E


