/- Models of functions and proofs that the code runs as they say (written by program). Conditions: the model gives a value. -/
import Derived.Test.YtngggnjnenfgbaaGreatDoorFT
import Derived.Test.YtngggnjnenfgbaaGreatDoorMixed
namespace Go.E
open Go.RowKit Go.Proofs
set_option linter.unusedVariables false
set_option linter.unusedSimpArgs false
set_option maxHeartbeats 2000000
set_option maxRecDepth 100000

theorem zbJ:Enters Tryz.prog 57:=⟨_,_,Tryz.func57,rfl,by kernel_rfl⟩
def z3u (fuel:Nat) (x0:(List Int)) (x1:Int):Option (Int):=(if(decide ((w64 (x1 - (x0.length:Int)))<0))=true then some (-1) else some (w64 (x1 - (x0.length:Int))))

theorem laws_szInt64S_ok {W:Base}{w:World}(hE:Ext W w){b:Option Addr}{d:Nat}{x0:(List Int)}{x1:Int}(o:ty26.ro W [sl b x0 d] x0){fuel:Nat}{r:Int}(hm:z3u fuel x0 x1=some r):
  Calls Tryz.prog 57 ⟨[sl b x0 d,.int .i64 x1]⟩ w (Ret fun v w8=>v=.int .i64 r∧St w w8 []):=by
 refine into Tryz.func57 12 _ ?_;unfold z3u at hm;have hS:=St.start w;refine sq<|rg<|rr 1 ?_;refine rn<|sq<|rg<|rr 5 ?_;refine rn<|sq<|sq<|rg<|rr 2 ?_;refine rn<|ci hm (fun hm=>?_) (fun hm=>?_)
 ·refine sq<|rg<|rr 1 ?_;refine rn<|rt ?_;cases hm;exact⟨_,.cons (.tmp rfl) .nil,rfl,hS⟩
 ·refine sp<|sq<|rg<|rr 2 ?_;refine rn<|rt ?_;cases hm;exact⟨_,.cons (.tmp rfl) .nil,rfl,hS⟩

theorem zbH:Enters Tryz.prog 58:=⟨_,_,Tryz.func58,rfl,by kernel_rfl⟩
def z3S (fuel:Nat) (x0:(List D.Port)) (x1:Int):Option (Int):=(if(decide ((w64 (x1 - (x0.length:Int)))<0))=true then some (-1) else some (w64 (x1 - (x0.length:Int))))

theorem laws_szPortS_ok {W:Base}{w:World}(hE:Ext W w){b:Option Addr}{d:Nat}{x0:(List D.Port)}{x1:Int}(o:ty81.ro W [sl b x0 d] x0){fuel:Nat}{r:Int}(hm:z3S fuel x0 x1=some r):
  Calls Tryz.prog 58 ⟨[sl b x0 d,.int .i64 x1]⟩ w (Ret fun v w8=>v=.int .i64 r∧St w w8 []):=by
 refine into Tryz.func58 12 _ ?_;unfold z3S at hm;have hS:=St.start w;refine sq<|rg<|rr 1 ?_;refine rn<|sq<|rg<|rr 5 ?_;refine rn<|sq<|sq<|rg<|rr 2 ?_;refine rn<|ci hm (fun hm=>?_) (fun hm=>?_)
 ·refine sq<|rg<|rr 1 ?_;refine rn<|rt ?_;cases hm;exact⟨_,.cons (.tmp rfl) .nil,rfl,hS⟩
 ·refine sp<|sq<|rg<|rr 2 ?_;refine rn<|rt ?_;cases hm;exact⟨_,.cons (.tmp rfl) .nil,rfl,hS⟩

theorem zbQ:Enters Tryz.prog 41:=⟨_,_,Tryz.func41,rfl,by kernel_rfl⟩
def z3T (fuel:Nat) (x0:D.Agent) (x1:Int):Option (Int):=((z3u fuel x0.Data x1).bind fun b=>(if(decide (b<0))=true then some (-1) else((z3S fuel x0.Ports b).bind fun d=>(if(decide (d<0))=true then some (-1) else some d))))

theorem laws_szAgent_ok {W:Base}{w:World}(hE:Ext W w){b0:List Value}{x0:D.Agent}{x1:Int}(c0:ty83.ro W b0 x0){fuel:Nat}{r:Int}(hm:z3T fuel x0 x1=some r):
  Calls Tryz.prog 41 ⟨[.agg ⟨b0⟩,.int .i64 x1]⟩ w (Ret fun v w8=>v=.int .i64 r∧St w w8 []):=by
 obtain⟨A1,k2,A4,k5,e7,h3,h6⟩:=z5U c0;subst e7;refine into Tryz.func41 18 _ ?_;unfold z3T at hm;have hS:=St.start w;refine sq<|rg<|nw hS (fun e0 k0 d0 d=>?_);refine rr 1 ?_;refine rn<|sq<|rg<|rr 1 ?_;refine l1 ((d.bring 0 rfl).box) 3 ?_;refine rr 1 ?_;obtain⟨f0,Y,hm⟩:=bS hm;refine ca zbJ (laws_szInt64S_ok (hE.trans d.ext) h3 Y) (fun i0 o0 y=>?_);obtain⟨rfl,G⟩:=y;have b:=d.join G;refine rr 1 ?_;refine rn<|sq<|sq<|rg<|rr 2 ?_;refine rn<|ci hm (fun hm=>?_) (fun hm=>?_)
 ·refine sq<|rg<|rr 1 ?_;refine rn<|rt ?_;cases hm;exact⟨_,.cons (.tmp rfl) .nil,rfl,(b.taken 0)⟩
 ·refine sp<|sq<|rg<|rr 1 ?_;refine l1 ((b.bring 0 rfl).box) 4 ?_;refine rr 1 ?_;obtain⟨g0,a0,hm⟩:=bS hm;refine ca zbH (laws_szPortS_ok (hE.trans b.ext) h6 a0) (fun j0 p0 H=>?_);obtain⟨rfl,O⟩:=H;have o:=b.join O;refine rr 1 ?_;refine rn<|sq<|sq<|rg<|rr 2 ?_;refine rn<|ci hm (fun hm=>?_) (fun hm=>?_)
  ·refine sq<|rg<|rr 1 ?_;refine rn<|rt ?_;cases hm;exact⟨_,.cons (.tmp rfl) .nil,rfl,(o.taken 0)⟩
  ·refine sp<|sq<|rg<|rr 2 ?_;refine rn<|rt ?_;cases hm;exact⟨_,.cons (.tmp rfl) .nil,rfl,(o.taken 0)⟩

theorem zbX:Enters Tryz.prog 25:=⟨_,_,Tryz.func25,rfl,by kernel_rfl⟩
def z4X (fuel:Nat) (t2:Int):Option Int:=some t2
def z3g (fuel:Nat) (x0:(List D.Agent)) (s1:Int × Int):Option (Rd (Int × Int) (Int) (Int)):=(if(decide (s1.2<(x0.length:Int)))=true then((idx x0 s1.2).bind fun d=>((z3T fuel d s1.1).bind fun b=>(if(decide (b<0))=true then some (.ret (-1)) else some (.next (b,w64 (s1.2+1)))))) else some (.brk s1.1))
def z3v (fuel:Nat) (x0:(List D.Agent)) (x1:Int):Option (Int):=(if(decide ((w64 (x1 - (x0.length:Int)))<0))=true then some (-1) else((iter (z3g fuel x0) fuel (w64 (x1 - (x0.length:Int)),0)).bind fun o=>aft o (z4X fuel)))

theorem laws_szAgentS_ok {W:Base}{w:World}(hE:Ext W w){O:Option Addr}{g0:Nat}{x0:(List D.Agent)}{x1:Int}(o0:ty22.ro W [sl O x0 g0] x0){fuel:Nat}{r:Int}(hm:z3v fuel x0 x1=some r):
  Calls Tryz.prog 25 ⟨[sl O x0 g0,.int .i64 x1]⟩ w (Ret fun v w8=>v=.int .i64 r∧St w w8 []):=by
 refine into Tryz.func25 27 _ ?_;unfold z3v at hm;have hS:=St.start w;refine sq<|rg<|rr 1 ?_;refine rn<|sq<|rg<|rr 5 ?_;refine rn<|sq<|sq<|rg<|rr 2 ?_;refine rn<|ci hm (fun hm=>?_) (fun hm=>?_)
 ·refine sq<|rg<|rr 1 ?_;refine rn<|rt ?_;cases hm;exact⟨_,.cons (.tmp rfl) .nil,rfl,hS⟩
 ·refine sp<|sq<|sq<|rg<|rr 1 ?_;refine rn ?_;obtain⟨p0,c0,hm⟩:=bS hm;refine ct (fun(t2:Int) F w9=>p0=.inl t2∧Ext w w9∧St w w9 []∧F=[(1,.int .i64 t2)]) ?_ ?_
  ·rintro t2 F w7 ⟨d0,v0,a0,rfl⟩;subst d0;rw [zK] at hm;unfold z4X at hm;refine sq<|rg<|rr 2 ?_;refine rn<|rt ?_;cases hm;exact⟨_,.cons (.tmp rfl) .nil,rfl,a0⟩
  ·refine bk<|wk [0,1,5] ?_;refine it (fun(s1:Int × Int) F w9=>Ext w w9∧St w w9 []∧F=[(0,sl O x0 g0),(1,.int .i64 s1.1),(5,.int .i64 s1.2)]) c0 ⟨(Ext.refl _),hS,rfl⟩ ?_;rintro s1 F F0 _ B0 ⟨i0,d,rfl⟩ b G;unfold z3g at b;refine sq<|sq<|rg<|rr 4 ?_;refine rn<|ci b (fun b=>?_) (fun b=>?_)
   ·refine sp<|sq<|bk<|sq<|rg<|rr 2 ?_;obtain⟨H0,e0,b⟩:=bS b;refine ix (hE.trans d.ext) o0 e0 (fun C0 k0 b0 H=>?_);obtain⟨q0,y0,r0,A0,j0,t0,u0⟩:=z5U H;subst j0;refine lN (At.ext (hE.trans d.ext) b0) ?_;refine rr 1 ?_;obtain⟨D0,f0,b⟩:=bS b;refine ca zbQ (laws_szAgent_ok (hE.trans d.ext) H f0) (fun E0 G0 Y=>?_);obtain⟨rfl,o⟩:=Y;have y:=d.join o;refine rr 1 ?_;refine rn<|sq<|rg<|rr 2 ?_;refine rn<|ci b (fun b=>?_) (fun b=>?_)
    ·refine sq<|rg<|rr 1 ?_;refine rn<|rt ?_;cases b;cases G;have hm:some _=some _:=hm;cases hm;exact⟨_,.cons (.tmp rfl) .nil,rfl,y⟩
    ·refine sp<|rg<|rr 3 ?_;refine rn ?_;cases b;exact⟨_,_,rfl,⟨(i0.trans o.ext),y,rfl⟩,rfl⟩
   ·refine xt ?_;cases b;exact⟨_,_,⟨G,i0,d,rfl⟩,rfl⟩

theorem zcq:Enters Tryz.prog 7:=⟨_,_,Tryz.func7,rfl,by kernel_rfl⟩
def z4s (fuel:Nat) (x0:D.Net) (x1:Int):Option (Int):=((z3v fuel x0.Agents x1).bind fun b=>(if(decide (b<0))=true then some (-1) else some b))

theorem laws_szNet_ok {W:Base}{w:World}(hE:Ext W w){H:List Value}{x0:D.Net}{x1:Int}(O:ty24.ro W H x0){fuel:Nat}{r:Int}(hm:z4s fuel x0 x1=some r):
  Calls Tryz.prog 7 ⟨[.agg ⟨H⟩,.int .i64 x1]⟩ w (Ret fun v w8=>v=.int .i64 r∧St w w8 []):=by
 obtain⟨A1,k2,e4,h3⟩:=z6Q O;subst e4;refine into Tryz.func7 12 _ ?_;unfold z4s at hm;have hS:=St.start w;refine sq<|rg<|nw hS (fun g5 w6 e7 b=>?_);refine rr 1 ?_;refine rn<|sq<|rg<|rr 1 ?_;refine l1 ((b.bring 0 rfl).box) 0 ?_;refine rr 1 ?_;obtain⟨Y,G,hm⟩:=bS hm;refine ca zbX (laws_szAgentS_ok (hE.trans b.ext) h3 G) (fun a0 b0 o=>?_);obtain⟨rfl,y⟩:=o;have d:=b.join y;refine rr 1 ?_;refine rn<|sq<|sq<|rg<|rr 2 ?_;refine rn<|ci hm (fun hm=>?_) (fun hm=>?_)
 ·refine sq<|rg<|rr 1 ?_;refine rn<|rt ?_;cases hm;exact⟨_,.cons (.tmp rfl) .nil,rfl,(d.taken 0)⟩
 ·refine sp<|sq<|rg<|rr 2 ?_;refine rn<|rt ?_;cases hm;exact⟨_,.cons (.tmp rfl) .nil,rfl,(d.taken 0)⟩

theorem zbB:Enters Tryz.prog 69:=⟨_,_,Tryz.func69,rfl,by kernel_rfl⟩
def z4V (fuel:Nat) (b:(List Int)):Option (List Int):=some b
def z3e (fuel:Nat) (x0:(List Int)) (b:Int × (List Int)):Option (Rd (Int × (List Int)) ((List Int)) ((List Int))):=(if(decide (b.1<(x0.length:Int)))=true then((idx x0 b.1).bind fun d=>(if decide (0≤b.1∧b.1.toNat<b.2.length)=true then some (.next (w64 (b.1+1),(b.2.set b.1.toNat d))) else none)) else some (.brk b.2))
def z3s (fuel:Nat) (x0:(List Int)):Option ((List Int)):=(if decide (0≤(x0.length:Int)∧(x0.length:Int)≤4294967296)=true then((iter (z3e fuel x0) fuel (0,(List.replicate (x0.length:Int).toNat (0:Int)))).bind fun o=>aft o (z4V fuel)) else none)

theorem laws_toInt64S_ok {W:Base}{w:World}(hE:Ext W w){H:Option Addr}{o0:Nat}{x0:(List Int)}(u0:ty26.ro W [sl H x0 o0] x0){fuel:Nat}{r:(List Int)}(hm:z3s fuel x0=some r):
  Calls Tryz.prog 69 ⟨[sl H x0 o0]⟩ w (Ret fun v w8=>∃ A0 k0,v=sl A0 r k0∧St w w8 [ow ty26 A0 r k0]):=by
 refine into Tryz.func69 22 _ ?_;unfold z3s at hm;have hS:=St.start w;refine sq<|rg<|rr 1 ?_;refine rn<|sq<|rg<|rr 2 ?_;obtain⟨y0,hm⟩:=iS hm;have hz7:=of_decide_eq_true y0;refine mS (U:=tInt) (0:Int) hS hz7 (fun _=>⟨rfl,rfl⟩) (fun A2 k3 w4 e5 v0=>?_);refine rr 1 ?_;refine rn<|sq<|sq<|rg<|rr 1 ?_;refine rn ?_;obtain⟨B0,e0,hm⟩:=bS hm;refine ct (fun(q0:(List Int)) F w9=>B0=.inl q0∧St w w9 [Own ty26 [sl A2 (List.replicate (x0.length:Int).toNat (0:Int)) k3] q0]∧F=[(3,sl A2 (List.replicate (x0.length:Int).toNat (0:Int)) k3)]) ?_ ?_
 ·rintro q0 F E0 ⟨f0,y,rfl⟩;subst f0;rw [zK] at hm;unfold z4V at hm;refine sq<|rg<|rr 2 ?_;refine rn<|rt ?_;cases hm;have hn18:=(y.bring 0 rfl).lenEq;have O:=(y.bring 0 rfl).reLen hn18;exact⟨_,.cons (.tmp rfl) .nil,A2,k3,(by first | (simp only [sl,hn18];done) | (simp only [sl,hn18];rfl)),O⟩
 ·refine bk<|wk [0,3,4] ?_;refine it (fun(p0:Int × (List Int)) F w9=>St w w9 [Own ty26 [sl A2 (List.replicate (x0.length:Int).toNat (0:Int)) k3] p0.2]∧F=[(0,sl H x0 o0),(3,sl A2 (List.replicate (x0.length:Int).toNat (0:Int)) k3),(4,.int .i64 p0.1)]) e0 ⟨v0,rfl⟩ ?_;rintro p0 F F0 _ C0 ⟨d,rfl⟩ b g0;unfold z3e at b;refine sq<|sq<|rg<|rr 4 ?_;refine rn<|ci b (fun b=>?_) (fun b=>?_)
  ·refine sp<|sq<|bk<|rg<|rr 4 ?_;obtain⟨r0,j0,b⟩:=bS b;refine ix (hE.trans d.ext) u0 j0 (fun D0 t0 c0 i0=>?_);cases i0;refine l1 (At.ext (hE.trans d.ext) c0) 0 ?_;have G:=d.bring 0 rfl;obtain⟨d0,b⟩:=iS b;have o:=of_decide_eq_true d0;refine io G o.1 o.2 (fun q34 hq35=>?_);have Y:=G.flat (T:=tInt) (cs:=[.int .i64 r0]) (x:=r0) ⟨rfl,rfl⟩;have a0:=Y.bring 1 rfl;refine se a0 o.2 hq35 (fun G0 b0=>?_);refine rn<|rg<|rr 3 ?_;refine rn ?_;cases b;exact⟨_,_,rfl,⟨b0,rfl⟩,rfl⟩
  ·refine xt ?_;cases b;exact⟨_,_,⟨g0,d,rfl⟩,rfl⟩

theorem zbj:Enters Tryz.prog 92:=⟨_,_,Tryz.func92,rfl,by kernel_rfl⟩
def z4d (fuel:Nat) (x0:D.Port):Option (D.Port):=some (⟨x0.Agent,x0.Slot⟩:D.Port)

theorem laws_toPort_ok {W:Base}{w:World}(hE:Ext W w){a0:List Value}{x0:D.Port}(b0:z9y.ro W a0 x0){fuel:Nat}{r:D.Port}(hm:z4d fuel x0=some r):
  Calls Tryz.prog 92 ⟨[.agg ⟨a0⟩]⟩ w (Ret fun v w8=>v=.agg ⟨[.int .i64 r.Agent,.int .i64 r.Slot]⟩∧St w w8 []):=by
 have e1:=z7v b0;subst e1;refine into Tryz.func92 11 _ ?_;unfold z4d at hm;have hS:=St.start w;refine sq<|rg<|nw hS (fun g2 w3 e4 c0=>?_);refine nw c0 (fun g6 w7 d0 G=>?_);refine rn<|sq<|rg<|nw G (fun f0 g0 e0 b=>?_);refine rn<|sq<|rg<|rr 1 ?_;refine l1 ((b.bring 2 rfl).box) 0 ?_;refine rr 1 ?_;have H:=b.bring 0 rfl;refine so (A:=[]) H 0 (fun i0 d=>?_);refine rn<|sq<|rg<|rr 1 ?_;refine l1 ((d.bring 2 rfl).box) 1 ?_;refine rr 1 ?_;have O:=d.bring 0 rfl;refine so (A:=[]) O 1 (fun j0 o=>?_);refine rn<|sq<|rg<|lN ((o.bring 0 rfl).box) ?_;have Y:=o.bring 1 rfl;refine so (A:=[]) Y 0 (fun k0 y=>?_);refine rn<|rt ?_;cases hm;exact⟨_,.cons (ra ((y.bring 0 rfl).box)) .nil,rfl,(y.taken 0)⟩

theorem zbA:Enters Tryz.prog 70:=⟨_,_,Tryz.func70,rfl,by kernel_rfl⟩
def z5e (fuel:Nat) (b:(List D.Port)):Option (List D.Port):=some b
def z3E (fuel:Nat) (x0:(List D.Port)) (b:Int × (List D.Port)):Option (Rd (Int × (List D.Port)) ((List D.Port)) ((List D.Port))):=(if(decide (b.1<(x0.length:Int)))=true then((idx x0 b.1).bind fun o=>((z4d fuel o).bind fun d=>(if decide (0≤b.1∧b.1.toNat<b.2.length)=true then some (.next (w64 (b.1+1),(b.2.set b.1.toNat d))) else none))) else some (.brk b.2))
def z3Q (fuel:Nat) (x0:(List D.Port)):Option ((List D.Port)):=(if decide (0≤(x0.length:Int)∧(x0.length:Int)≤4294967296)=true then((iter (z3E fuel x0) fuel (0,(List.replicate (x0.length:Int).toNat (⟨(0:Int),(0:Int)⟩:D.Port)))).bind fun o=>aft o (z5e fuel)) else none)

theorem laws_toPortS_ok {W:Base}{w:World}(hE:Ext W w){O:Option Addr}{t0:Nat}{x0:(List D.Port)}(C0:ty81.ro W [sl O x0 t0] x0){fuel:Nat}{r:(List D.Port)}(hm:z3Q fuel x0=some r):
  Calls Tryz.prog 70 ⟨[sl O x0 t0]⟩ w (Ret fun v w8=>∃ A0 k0,v=sl A0 r k0∧St w w8 [ow ty65 A0 r k0]):=by
 refine into Tryz.func70 23 _ ?_;unfold z3Q at hm;have hS:=St.start w;refine sq<|rg<|rr 1 ?_;refine rn<|sq<|rg<|rr 2 ?_;obtain⟨E0,hm⟩:=iS hm;have hz7:=of_decide_eq_true E0;refine mS (U:=ty87) (⟨(0:Int),(0:Int)⟩:D.Port) hS hz7 (fun _=>(z6P (c:=(⟨(0:Int),(0:Int)⟩:D.Port)) rfl)) (fun A2 k3 w4 e5 D0=>?_);refine rr 1 ?_;refine rn<|sq<|sq<|rg<|rr 1 ?_;refine rn ?_;obtain⟨F0,j0,hm⟩:=bS hm;refine ct (fun(v0:(List D.Port)) F w9=>F0=.inl v0∧St w w9 [Own ty65 [sl A2 (List.replicate (x0.length:Int).toNat (⟨(0:Int),(0:Int)⟩:D.Port)) k3] v0]∧F=[(3,sl A2 (List.replicate (x0.length:Int).toNat (⟨(0:Int),(0:Int)⟩:D.Port)) k3)]) ?_ ?_
 ·rintro v0 F M0 ⟨o0,y,rfl⟩;subst o0;rw [zK] at hm;unfold z5e at hm;refine sq<|rg<|rr 2 ?_;refine rn<|rt ?_;cases hm;have hn18:=(y.bring 0 rfl).lenEq;have b0:=(y.bring 0 rfl).reLen hn18;exact⟨_,.cons (.tmp rfl) .nil,A2,k3,(by first | (simp only [sl,hn18];done) | (simp only [sl,hn18];rfl)),b0⟩
 ·refine bk<|wk [0,3,4] ?_;refine it (fun(u0:Int × (List D.Port)) F w9=>St w w9 [Own ty65 [sl A2 (List.replicate (x0.length:Int).toNat (⟨(0:Int),(0:Int)⟩:D.Port)) k3] u0.2]∧F=[(0,sl O x0 t0),(3,sl A2 (List.replicate (x0.length:Int).toNat (⟨(0:Int),(0:Int)⟩:D.Port)) k3),(4,.int .i64 u0.1)]) j0 ⟨D0,rfl⟩ ?_;rintro u0 F N0 _ H0 ⟨d,rfl⟩ b p0;unfold z3E at b;refine sq<|sq<|rg<|rr 4 ?_;refine rn<|ci b (fun b=>?_) (fun b=>?_)
  ·refine sp<|sq<|bk<|rg<|rr 4 ?_;obtain⟨Q0,q0,b⟩:=bS b;refine ix (hE.trans d.ext) C0 q0 (fun J0 B0 g0 H=>?_);have y0:=z7v H;subst y0;refine lN (At.ext (hE.trans d.ext) g0) ?_;obtain⟨G0,r0,b⟩:=bS b;refine ca zbj (laws_toPort_ok (hE.trans d.ext) H r0) (fun K0 O0 Y=>?_);obtain⟨rfl,a0⟩:=Y;have c0:=d.join a0;have G:=c0.bring 0 rfl;obtain⟨i0,b⟩:=iS b;have o:=of_decide_eq_true i0;refine io G o.1 o.2 (fun q42 hq43=>?_);have d0:=z7t (c:=G0) (B:=_) G;have e0:=d0.bring 1 rfl;refine se e0 o.2 hq43 (fun P0 f0=>?_);refine rn<|rg<|rr 3 ?_;refine rn ?_;cases b;exact⟨_,_,rfl,⟨f0,rfl⟩,rfl⟩
  ·refine xt ?_;cases b;exact⟨_,_,⟨p0,d,rfl⟩,rfl⟩

theorem zbN:Enters Tryz.prog 45:=⟨_,_,Tryz.func45,rfl,by kernel_rfl⟩
def z3R (fuel:Nat) (x0:D.Agent):Option (D.Agent):=((z3s fuel x0.Data).bind fun b=>((z3Q fuel x0.Ports).bind fun d=>some (⟨x0.Kind,x0.Level,x0.Value,b,d⟩:D.Agent)))

theorem laws_toAgent_ok {W:Base}{w:World}(hE:Ext W w){v0:List Value}{x0:D.Agent}(C0:ty83.ro W v0 x0){fuel:Nat}{r:D.Agent}(hm:z3R fuel x0=some r):
  Calls Tryz.prog 45 ⟨[.agg ⟨v0⟩]⟩ w (Ret fun v w8=>∃ A0 k0 A1 k1,v=.agg ⟨[.int .i64 r.Kind,.int .i64 r.Level,.int .i64 r.Value,sl A0 r.Data k0,sl A1 r.Ports k1]⟩∧St w w8 [ow ty26 A0 r.Data k0,ow ty65 A1 r.Ports k1]):=by
 obtain⟨A1,k2,A4,k5,e7,h3,h6⟩:=z5U C0;subst e7;refine into Tryz.func45 22 _ ?_;unfold z3R at hm;have hS:=St.start w;refine sq<|rg<|nw hS (fun J0 R0 F0 d0=>?_);refine nw d0 (fun K0 S0 G0 e0=>?_);refine rn<|sq<|rg<|nw e0 (fun M0 T0 H0 o=>?_);refine rn<|sq<|rg<|rr 1 ?_;refine l1 ((o.bring 2 rfl).box) 0 ?_;refine rr 1 ?_;have f0:=o.bring 0 rfl;refine so (A:=[]) f0 0 (fun U0 y=>?_);refine rn<|sq<|rg<|rr 1 ?_;refine l1 ((y.bring 2 rfl).box) 1 ?_;refine rr 1 ?_;have g0:=y.bring 0 rfl;refine so (A:=[]) g0 1 (fun V0 G=>?_);refine rn<|sq<|rg<|rr 1 ?_;refine l1 ((G.bring 2 rfl).box) 2 ?_;refine rr 1 ?_;have i0:=G.bring 0 rfl;refine so (A:=[]) i0 2 (fun X0 b=>?_);refine rn<|sq<|rg<|rr 1 ?_;refine l1 ((b.bring 2 rfl).box) 3 ?_;obtain⟨N0,t0,hm⟩:=bS hm;refine ca zbB (laws_toInt64S_ok (hE.trans b.ext) h3 t0) (fun P0 Y0 Y=>?_);obtain⟨y0,D0,rfl,a0⟩:=Y;have j0:=b.join a0;refine rr 1 ?_;have o0:=j0.bring 1 rfl;refine so (A:=[]) o0 3 (fun a1 d=>?_);refine rn<|sq<|rg<|rr 1 ?_;refine l1 ((d.bring 3 rfl).box) 4 ?_;obtain⟨O0,u0,hm⟩:=bS hm;refine ca zbA (laws_toPortS_ok (hE.trans d.ext) h6 u0) (fun Q0 b1 b0=>?_);obtain⟨B0,E0,rfl,c0⟩:=b0;have p0:=d.join c0;refine rr 1 ?_;have q0:=p0.bring 1 rfl;refine so (A:=[]) q0 4 (fun d1 H=>?_);refine rn<|sq<|rg<|lN ((H.bring 0 rfl).box) ?_;have r0:=H.bring 3 rfl;refine so (A:=[]) r0 0 (fun e1 O=>?_);refine rn<|rt ?_;cases hm;exact⟨_,.cons (ra ((O.bring 0 rfl).box)) .nil,y0,D0,B0,E0,rfl,(((O.bring 2 rfl).bring 3 rfl).taken 2)⟩

theorem zbU:Enters Tryz.prog 29:=⟨_,_,Tryz.func29,rfl,by kernel_rfl⟩
def z4W (fuel:Nat) (b:(List D.Agent)):Option (List D.Agent):=some b
def z3f (fuel:Nat) (x0:(List D.Agent)) (b:Int × (List D.Agent)):Option (Rd (Int × (List D.Agent)) ((List D.Agent)) ((List D.Agent))):=(if(decide (b.1<(x0.length:Int)))=true then((idx x0 b.1).bind fun o=>((z3R fuel o).bind fun d=>(if decide (0≤b.1∧b.1.toNat<b.2.length)=true then some (.next (w64 (b.1+1),(b.2.set b.1.toNat d))) else none))) else some (.brk b.2))
def z3t (fuel:Nat) (x0:(List D.Agent)):Option ((List D.Agent)):=(if decide (0≤(x0.length:Int)∧(x0.length:Int)≤4294967296)=true then((iter (z3f fuel x0) fuel (0,(List.replicate (x0.length:Int).toNat (⟨(0:Int),(0:Int),(0:Int),([]:(List Int)),([]:(List D.Port))⟩:D.Agent)))).bind fun o=>aft o (z4W fuel)) else none)

theorem laws_toAgentS_ok {W:Base}{w:World}(hE:Ext W w){O:Option Addr}{v0:Nat}{x0:(List D.Agent)}(E0:ty22.ro W [sl O x0 v0] x0){fuel:Nat}{r:(List D.Agent)}(hm:z3t fuel x0=some r):
  Calls Tryz.prog 29 ⟨[sl O x0 v0]⟩ w (Ret fun v w8=>∃ A0 k0,v=sl A0 r k0∧St w w8 [ow ty29 A0 r k0]):=by
 refine into Tryz.func29 23 _ ?_;unfold z3t at hm;have hS:=St.start w;refine sq<|rg<|rr 1 ?_;refine rn<|sq<|rg<|rr 2 ?_;obtain⟨G0,hm⟩:=iS hm;have hz7:=of_decide_eq_true G0;refine mS (U:=ty67) (⟨(0:Int),(0:Int),(0:Int),([]:(List Int)),([]:(List D.Port))⟩:D.Agent) hS hz7 (fun _=>(z8b (c:=(⟨(0:Int),(0:Int),(0:Int),([]:(List Int)),([]:(List D.Port))⟩:D.Agent)) ⟨[],[],rfl,(slNilOwn tInt 2 _),⟨[],[],rfl,(slNilOwn ty87 87 _),rfl⟩⟩)) (fun A2 k3 w4 e5 F0=>?_);refine rr 1 ?_;refine rn<|sq<|sq<|rg<|rr 1 ?_;refine rn ?_;obtain⟨H0,p0,hm⟩:=bS hm;refine ct (fun(B0:(List D.Agent)) F w9=>H0=.inl B0∧St w w9 [Own ty29 [.slice A2 (List.replicate (x0.length:Int).toNat (⟨(0:Int),(0:Int),(0:Int),([]:(List Int)),([]:(List D.Port))⟩:D.Agent)).length k3] B0]∧F=[(3,.slice A2 (List.replicate (x0.length:Int).toNat (⟨(0:Int),(0:Int),(0:Int),([]:(List Int)),([]:(List D.Port))⟩:D.Agent)).length k3)]) ?_ ?_
 ·rintro B0 F a1 ⟨q0,y,rfl⟩;subst q0;rw [zK] at hm;unfold z4W at hm;refine sq<|rg<|rr 2 ?_;refine rn<|rt ?_;cases hm;have hn18:=(y.bring 0 rfl).lenEq;have b0:=(y.bring 0 rfl).reLen hn18;exact⟨_,.cons (.tmp rfl) .nil,A2,k3,(by first | (simp only [sl,hn18];done) | (simp only [sl,hn18];rfl)),b0⟩
 ·refine bk<|wk [0,3,4] ?_;refine it (fun(y0:Int × (List D.Agent)) F w9=>St w w9 [Own ty29 [.slice A2 (List.replicate (x0.length:Int).toNat (⟨(0:Int),(0:Int),(0:Int),([]:(List Int)),([]:(List D.Port))⟩:D.Agent)).length k3] y0.2]∧F=[(0,sl O x0 v0),(3,.slice A2 (List.replicate (x0.length:Int).toNat (⟨(0:Int),(0:Int),(0:Int),([]:(List Int)),([]:(List D.Port))⟩:D.Agent)).length k3),(4,.int .i64 y0.1)]) p0 ⟨F0,rfl⟩ ?_;rintro y0 F b1 _ V0 ⟨d,rfl⟩ b r0;unfold z3f at b;refine sq<|sq<|rg<|rr 4 ?_;refine rn<|ci b (fun b=>?_) (fun b=>?_)
  ·refine sp<|sq<|bk<|rg<|rr 4 ?_;obtain⟨f1,t0,b⟩:=bS b;refine ix (hE.trans d.ext) E0 t0 (fun X0 D0 j0 H=>?_);obtain⟨K0,R0,M0,S0,C0,P0,Q0⟩:=z5U H;subst C0;refine lN (At.ext (hE.trans d.ext) j0) ?_;obtain⟨J0,u0,b⟩:=bS b;refine ca zbN (laws_toAgent_ok (hE.trans d.ext) H u0) (fun Y0 d1 Y=>?_);obtain⟨N0,T0,O0,U0,rfl,a0⟩:=Y;have c0:=d.join a0;have G:=c0.bring 2 rfl;obtain⟨o0,b⟩:=iS b;have o:=of_decide_eq_true o0;refine io G o.1 o.2 (fun q52 hq53=>?_);have d0:=G.bring 2 rfl;have e0:=d0.bring 2 rfl;have f0:=z7u (c:=J0) (B:=_) e0;have g0:=f0.bring 1 rfl;refine se g0 o.2 hq53 (fun e1 i0=>?_);refine rn<|rg<|rr 3 ?_;refine rn ?_;cases b;exact⟨_,_,rfl,⟨i0,rfl⟩,rfl⟩
  ·refine xt ?_;cases b;exact⟨_,_,⟨r0,d,rfl⟩,rfl⟩

theorem z80:Enters Tryz.prog 9:=⟨_,_,Tryz.func9,rfl,by kernel_rfl⟩
def z2W (fuel:Nat) (x0:D.Net):Option (D.Net):=((z3t fuel x0.Agents).bind fun b=>some (⟨b⟩:D.Net))

theorem laws_toNet_ok {W:Base}{w:World}(hE:Ext W w){d0:List Value}{x0:D.Net}(f0:ty24.ro W d0 x0){fuel:Nat}{r:D.Net}(hm:z2W fuel x0=some r):
  Calls Tryz.prog 9 ⟨[.agg ⟨d0⟩]⟩ w (Ret fun v w8=>∃ A0 k0,v=.agg ⟨[sl A0 r.Agents k0]⟩∧St w w8 [ow ty29 A0 r.Agents k0]):=by
 obtain⟨A1,k2,e4,h3⟩:=z6Q f0;subst e4;refine into Tryz.func9 9 _ ?_;unfold z2W at hm;have hS:=St.start w;refine sq<|rg<|nw hS (fun g5 w6 e7 H=>?_);refine nw H (fun o0 t0 i0 O=>?_);refine rn<|sq<|rg<|nw O (fun p0 u0 j0 b=>?_);refine rn<|sq<|rg<|rr 1 ?_;refine l1 ((b.bring 2 rfl).box) 0 ?_;obtain⟨q0,c0,hm⟩:=bS hm;refine ca zbU (laws_toAgentS_ok (hE.trans b.ext) h3 c0) (fun r0 v0 y=>?_);obtain⟨e0,g0,rfl,G⟩:=y;have Y:=b.join G;refine rr 1 ?_;have a0:=Y.bring 1 rfl;refine so (A:=[]) a0 0 (fun y0 d=>?_);refine rn<|sq<|rg<|lN ((d.bring 0 rfl).box) ?_;have b0:=d.bring 2 rfl;refine so (A:=[]) b0 0 (fun B0 o=>?_);refine rn<|rt ?_;cases hm;exact⟨_,.cons (ra ((o.bring 0 rfl).box)) .nil,e0,g0,rfl,((o.bring 2 rfl).taken 1)⟩

theorem zcp:Enters Tryz.prog 8:=⟨_,_,Tryz.func8,rfl,by kernel_rfl⟩
def z2f (fuel:Nat) (x0:D.Net):Option ((List Int) × Int):=((z4r fuel x0).bind fun d=>(if(!d)=true then some (([]:(List Int)),1) else((z2r fuel x0).bind fun b=>(if(b.2.code != 0)=true then some (([]:(List Int)),b.2.code) else((z1V fuel b.2.origins).bind fun o=>some (o,0))))))

theorem z5R {W:Base}{w:World}(hE:Ext W w){t0:List Value}{x0:D.Net}(G:ty31.ro W t0 x0){fuel:Nat}{r:(List Int) × Int}(hm:z2f fuel x0=some r):
  Calls Tryz.prog 8 ⟨[.agg ⟨t0⟩]⟩ w (Ret fun v w8=>∃ A0 k0,v=.tuple ⟨[sl A0 r.1 k0,.int .i64 r.2]⟩∧St w w8 [ow ty26 A0 r.1 k0]):=by
 obtain⟨A1,k2,e4,h3⟩:=z1y G;subst e4;refine into Tryz.func8 28 _ ?_;unfold z2f at hm;have hS:=St.start w;refine sq<|rg<|nw hS (fun g5 w6 e7 y=>?_);refine rr 2 ?_;refine rn<|sq<|sq<|rg ?_;obtain⟨g1,p0,hm⟩:=bS hm;refine ca zbW (z7T (Ext.refl _) (ty31.ext (hE.trans y.ext) G) ((y.bring 0 rfl).box) p0) (fun k1 p1 H=>?_);obtain⟨rfl,O⟩:=H;have o:=y.join O;refine rr 1 ?_;refine rn<|ci hm (fun hm=>?_) (fun hm=>?_)
 ·refine sq<|rg<|n0 (U:=tInt) o (fun u0 E0 t1 Q0 d0=>?_);refine rr 2 ?_;refine rn<|rt ?_;cases hm;exact⟨_,.cons (.tmp rfl) (.cons (.tmp rfl) .nil),u0,E0,rfl,(d0.taken 1)⟩
 ·refine sp<|sq<|rg ?_;obtain⟨i1,q0,hm⟩:=bS hm;refine ca zbV (z6T (Ext.refl _) (ty31.ext (hE.trans o.ext) G) ((o.bring 0 rfl).box) q0) (fun m1 u1 Y=>?_);obtain⟨H0,X0,J0,Y0,T0,f1,P0,K0,a1,M0,b1,N0,d1,rfl,a0,C0,D0⟩:=Y;have e0:=o.join a0;obtain⟨O0,e1,B0,V0⟩:=z1y C0;subst B0;refine rr 3 ?_;refine nw e0 (fun U0 v1 R0 f0=>?_);have g0:=f0.bring 0 rfl;refine so (A:=[]) g0 0 (fun y1 b=>?_);refine rr 1 ?_;refine rn<|sq<|sq<|rg<|rr 3 ?_;refine l1 ((b.bring 3 rfl).box) 6 ?_;refine rr 1 ?_;refine rn<|ci hm (fun hm=>?_) (fun hm=>?_)
  ·refine sq<|dn 0 mixed 7 [([],127),([],127),([1],125),([2],123),([3],119),([0,0],126),([4,5,0,1,2,3,4,5],111)] b.ext (fun d=>?_);have i0:=b.step (Ext.draw _);refine dr 4 d [1,2,3] ?_;refine dw [2,3,21] ?_;refine dl d 4 ((b.bring 3 rfl).box) 6 ?_;refine o1 d 0 (m0 (U:=tInt) i0 d (fun v0 F0 B1 S0 j0=>?_));refine dr 0 d [5,6] ?_;refine dd d ?_;refine rt ?_;cases hm;exact⟨_,.cons (.tmp rfl) (.cons (.tmp rfl) .nil),v0,F0,rfl,(j0.taken 1)⟩
  ·refine sp<|sq<|rg<|rr 3 ?_;refine l1 ((b.bring 3 rfl).box) 4 ?_;obtain⟨j1,r0,hm⟩:=bS hm;refine ca z67 (z3M (Ext.refl _) ((b.bring 5 rfl).own) r0) (fun n1 C1 b0=>?_);obtain⟨y0,G0,rfl,c0⟩:=b0;have o0:=b.join c0;refine rr 2 ?_;refine rn<|rt ?_;cases hm;exact⟨_,.cons (.tmp rfl) (.cons (.tmp rfl) .nil),y0,G0,rfl,(o0.taken 1)⟩

theorem z9o:Enters Tryz.prog 10:=⟨_,_,Tryz.func10,rfl,by kernel_rfl⟩
def z1C (fuel:Nat) (x0:D.Net):Option ((List Int) × Int):=((z2u fuel x0).bind fun b=>((b.1).elim (if(b.2.2 != 0)=true then some ([],b.2.2) else none) (fun m16=>(if(b.2.2 != 0)=true then some ([],b.2.2) else some (m16.origins,0)))))

theorem z4N {W:Base}{w:World}(hE:Ext W w){i0:List Value}{x0:D.Net}(hT:Tab W) (j0:ty31.ro W i0 x0){fuel:Nat}{r:(List Int) × Int}(hm:z1C fuel x0=some r):
  Calls Tryz.prog 10 ⟨[.agg ⟨i0⟩]⟩ w (Ret fun v w8=>∃ A0 k0,v=.tuple ⟨[sl A0 r.1 k0,.int .i64 r.2]⟩∧St w w8 [ow ty26 A0 r.1 k0]):=by
 obtain⟨A1,k2,e4,h3⟩:=z1y j0;subst e4;refine into Tryz.func10 20 _ ?_;unfold z1C at hm;have hS:=St.start w;refine sq<|rg<|nw hS (fun g5 w6 e7 b=>?_);refine rr 2 ?_;refine rn<|sq<|rg<|lN ((b.bring 0 rfl).box) ?_;obtain⟨P0,g0,hm⟩:=bS hm;refine ca zbT (z7e (hE.trans b.ext) hT j0 g0) (fun Q0 R0 o=>?_)
 rcases o with⟨p0,v0,q0,y0,r0,rfl,y⟩ | ⟨m16,G0,B0,M0,o0,u0,C0,N0,D0,O0,p0,v0,q0,y0,t0,rfl,G,K0⟩
 ·rw [r0,Option.elim_none] at hm;have H:=b.join y;refine rr 4 ?_;refine nw H (fun H0 S0 E0 O=>?_);refine rr 1 ?_;have Y:=O.bring 0 rfl;refine so (A:=[]) Y 0 (fun T0 a0=>?_);refine rr 1 ?_;refine rn<|sq<|sq<|rg<|rr 2 ?_;refine rn<|ci hm (fun hm=>?_) (fun hm=>?_)
  ·refine sq<|rg<|rr 3 ?_;refine rn<|rt ?_;cases hm;have b0:=a0.nilSl tInt 2;exact⟨_,.cons (.tmp rfl) (.cons (.tmp rfl) .nil),none,0,rfl,(b0.taken 1)⟩
  ·refine sp<|sq<|rg<|rr 1 ?_;cases hm
 ·rw [t0,Option.elim_some] at hm;have c0:=b.join G;refine rr 4 ?_;refine nw c0 (fun J0 U0 F0 d0=>?_);refine rr 1 ?_;have e0:=d0.bring 0 rfl;refine so (A:=[]) e0 0 (fun V0 d=>?_);refine rr 1 ?_;refine rn<|sq<|sq<|rg<|rr 2 ?_;refine rn<|ci hm (fun hm=>?_) (fun hm=>?_)
  ·refine sq<|rg<|rr 3 ?_;refine rn<|rt ?_;cases hm;have f0:=d.nilSl tInt 2;exact⟨_,.cons (.tmp rfl) (.cons (.tmp rfl) .nil),none,0,rfl,(f0.taken 1)⟩
  ·refine sp<|sq<|rg<|rr 3 ?_;refine l1 ((d.bring 1 rfl).box) 3 ?_;refine rr 2 ?_;refine rn<|rt ?_;cases hm;exact⟨_,.cons (.tmp rfl) (.cons (.tmp rfl) .nil),o0,u0,rfl,((d.bring 2 rfl).taken 1)⟩

theorem z6L:Enters Tryz.prog 11:=⟨_,_,Tryz.func11,rfl,by kernel_rfl⟩
def z4Y (fuel:Nat) (t2:Unit):Option Bool:=some true
def z3h (fuel:Nat) (x0:(List Int)) (x1:(List Int)) (s1:Int):Option (Rd (Int) (Unit) (Bool)):=(if(decide (s1<(x0.length:Int)))=true then((idx x0 s1).bind fun b=>((idx x1 s1).bind fun d=>(if(b != d)=true then some (.ret false) else some (.next (w64 (s1+1)))))) else some (.brk ()))
def z1z (fuel:Nat) (x0:(List Int)) (x1:(List Int)):Option (Bool):=(if((x0.length:Int) != (x1.length:Int))=true then some false else((iter (z3h fuel x0 x1) fuel 0).bind fun o=>aft o (z4Y fuel)))

theorem laws_eqInt64S_ok {W:Base}{w:World}(hE:Ext W w){H:Option Addr}{j0:Nat}{x0:(List Int)}{O:Option Addr}{k0:Nat}{x1:(List Int)}(r0:ty26.ro W [sl H x0 j0] x0) (t0:ty26.ro W [sl O x1 k0] x1){fuel:Nat}{r:Bool}(hm:z1z fuel x0 x1=some r):
  Calls Tryz.prog 11 ⟨[sl H x0 j0,sl O x1 k0]⟩ w (Ret fun v w8=>v=.bool r∧St w w8 []):=by
 refine into Tryz.func11 26 _ ?_;unfold z1z at hm;have hS:=St.start w;refine sq<|rg<|rr 1 ?_;refine rn<|sq<|sq<|rg<|rr 5 ?_;refine rn<|ci hm (fun hm=>?_) (fun hm=>?_)
 ·refine sq<|rg<|rr 1 ?_;refine rn<|rt ?_;cases hm;exact⟨_,.cons (.tmp rfl) .nil,rfl,hS⟩
 ·refine sp<|sq<|sq<|rg<|rr 1 ?_;refine rn ?_;obtain⟨u0,c0,hm⟩:=bS hm;refine ct (fun(t2:Unit) F w9=>u0=.inl t2∧Ext w w9∧St w w9 []∧F=[]) ?_ ?_
  ·rintro t2 F w7 ⟨d0,v0,Y,rfl⟩;subst d0;rw [zK] at hm;unfold z4Y at hm;refine sq<|rg<|rr 1 ?_;refine rn<|rt ?_;cases hm;exact⟨_,.cons (.tmp rfl) .nil,rfl,Y⟩
  ·refine bk<|wk [0,1,5] ?_;refine it (fun(s1:Int) F w9=>Ext w w9∧St w w9 []∧F=[(0,sl H x0 j0),(1,sl O x1 k0),(5,.int .i64 s1)]) c0 ⟨(Ext.refl _),hS,rfl⟩ ?_;rintro s1 F C0 _ y0 ⟨o0,d,rfl⟩ b G;unfold z3h at b;refine sq<|sq<|rg<|rr 4 ?_;refine rn<|ci b (fun b=>?_) (fun b=>?_)
   ·refine sp<|sq<|bk<|sq<|dn 0 mixed 9 [([],511),([],511),([0,1],508),([2],507),([],511),([],511),([4,5],463),([6],447),([3,7],375)] d.ext (fun o=>?_);have y:=d.step (Ext.draw _);refine dr 5 o [0,1,4,5] ?_;obtain⟨D0,g0,b⟩:=bS b;refine dx (hE.trans d.ext) o 2 r0 g0 (fun A0 p0 a0 e0=>?_);cases e0;refine dl o 3 (At.ext (hE.trans d.ext) a0) 0 ?_;obtain⟨E0,i0,b⟩:=bS b;refine dx (hE.trans d.ext) o 6 t0 i0 (fun B0 q0 b0 f0=>?_);cases f0;refine dl o 7 (At.ext (hE.trans d.ext) b0) 0 ?_;refine dr 0 o [8] ?_;refine dw [0,1,5,25] ?_;refine dd o ?_;refine ci b (fun b=>?_) (fun b=>?_)
    ·refine sq<|rg<|rr 1 ?_;refine rn<|rt ?_;cases b;cases G;have hm:some _=some _:=hm;cases hm;exact⟨_,.cons (.tmp rfl) .nil,rfl,y⟩
    ·refine sp<|rg<|rr 3 ?_;refine rn ?_;cases b;exact⟨_,_,rfl,⟨(o0.trans (Ext.draw _)),y,rfl⟩,rfl⟩
   ·refine xt ?_;cases b;exact⟨_,_,⟨G,o0,d,rfl⟩,rfl⟩

theorem zaM:Enters Tryz.prog 100:=⟨_,_,Tryz.func100,rfl,by kernel_rfl⟩
def z4e (fuel:Nat) (x0:D.Port) (x1:D.Port):Option (Bool):=(if(x0.Agent != x1.Agent)=true then some false else(if(x0.Slot != x1.Slot)=true then some false else some true))

theorem laws_eqPort_ok {W:Base}{w:World}(hE:Ext W w){d:List Value}{x0:D.Port}{o:List Value}{x1:D.Port}(y:ty87.ro W d x0) (G:ty87.ro W o x1){fuel:Nat}{r:Bool}(hm:z4e fuel x0 x1=some r):
  Calls Tryz.prog 100 ⟨[.agg ⟨d⟩,.agg ⟨o⟩]⟩ w (Ret fun v w8=>v=.bool r∧St w w8 []):=by
 have e1:=zX y;subst e1;have e2:=zX G;subst e2;refine into Tryz.func100 15 _ ?_;unfold z4e at hm;have hS:=St.start w;refine sq<|rg<|nw hS (fun g3 w4 e5 H=>?_);refine nw H (fun g7 Y O b=>?_);refine rr 1 ?_;refine rn<|sq<|sq<|rg<|rr 1 ?_;refine l1 ((b.bring 1 rfl).box) 0 ?_;refine rr 1 ?_;refine l1 ((b.bring 0 rfl).box) 0 ?_;refine rr 1 ?_;refine rn<|ci hm (fun hm=>?_) (fun hm=>?_)
 ·refine sq<|rg<|rr 1 ?_;refine rn<|rt ?_;cases hm;exact⟨_,.cons (.tmp rfl) .nil,rfl,(b.taken 0)⟩
 ·refine sp<|sq<|sq<|rg<|rr 1 ?_;refine l1 ((b.bring 1 rfl).box) 1 ?_;refine rr 1 ?_;refine l1 ((b.bring 0 rfl).box) 1 ?_;refine rr 1 ?_;refine rn<|ci hm (fun hm=>?_) (fun hm=>?_)
  ·refine sq<|rg<|rr 1 ?_;refine rn<|rt ?_;cases hm;exact⟨_,.cons (.tmp rfl) .nil,rfl,(b.taken 0)⟩
  ·refine sp<|sq<|rg<|rr 1 ?_;refine rn<|rt ?_;cases hm;exact⟨_,.cons (.tmp rfl) .nil,rfl,(b.taken 0)⟩

theorem zbq:Enters Tryz.prog 83:=⟨_,_,Tryz.func83,rfl,by kernel_rfl⟩
def z5f (fuel:Nat) (t2:Unit):Option Bool:=some true
def z3F (fuel:Nat) (x0:(List D.Port)) (x1:(List D.Port)) (s1:Int):Option (Rd (Int) (Unit) (Bool)):=(if(decide (s1<(x0.length:Int)))=true then((idx x0 s1).bind fun d=>((idx x1 s1).bind fun o=>((z4e fuel d o).bind fun b=>(if(!b)=true then some (.ret false) else some (.next (w64 (s1+1))))))) else some (.brk ()))
def z3V (fuel:Nat) (x0:(List D.Port)) (x1:(List D.Port)):Option (Bool):=(if((x0.length:Int) != (x1.length:Int))=true then some false else((iter (z3F fuel x0 x1) fuel 0).bind fun o=>aft o (z5f fuel)))

theorem laws_eqPortS_ok {W:Base}{w:World}(hE:Ext W w){b0:Option Addr}{q0:Nat}{x0:(List D.Port)}{c0:Option Addr}{r0:Nat}{x1:(List D.Port)}(B0:ty65.ro W [sl b0 x0 q0] x0) (C0:ty65.ro W [sl c0 x1 r0] x1){fuel:Nat}{r:Bool}(hm:z3V fuel x0 x1=some r):
  Calls Tryz.prog 83 ⟨[sl b0 x0 q0,sl c0 x1 r0]⟩ w (Ret fun v w8=>v=.bool r∧St w w8 []):=by
 refine into Tryz.func83 27 _ ?_;unfold z3V at hm;have hS:=St.start w;refine sq<|rg<|rr 1 ?_;refine rn<|sq<|sq<|rg<|rr 5 ?_;refine rn<|ci hm (fun hm=>?_) (fun hm=>?_)
 ·refine sq<|rg<|rr 1 ?_;refine rn<|rt ?_;cases hm;exact⟨_,.cons (.tmp rfl) .nil,rfl,hS⟩
 ·refine sp<|sq<|sq<|rg<|rr 1 ?_;refine rn ?_;obtain⟨D0,i0,hm⟩:=bS hm;refine ct (fun(t2:Unit) F w9=>D0=.inl t2∧Ext w w9∧St w w9 []∧F=[]) ?_ ?_
  ·rintro t2 F w7 ⟨j0,E0,e0,rfl⟩;subst j0;rw [zK] at hm;unfold z5f at hm;refine sq<|rg<|rr 1 ?_;refine rn<|rt ?_;cases hm;exact⟨_,.cons (.tmp rfl) .nil,rfl,e0⟩
  ·refine bk<|wk [0,1,5] ?_;refine it (fun(s1:Int) F w9=>Ext w w9∧St w w9 []∧F=[(0,sl b0 x0 q0),(1,sl c0 x1 r0),(5,.int .i64 s1)]) i0 ⟨(Ext.refl _),hS,rfl⟩ ?_;rintro s1 F M0 _ F0 ⟨t0,o,rfl⟩ b O;unfold z3F at b;refine sq<|sq<|rg<|rr 4 ?_;refine rn<|ci b (fun b=>?_) (fun b=>?_)
   ·refine sp<|sq<|bk<|sq<|dn 0 mixed 10 [([],1023),([],1023),([0,1],1020),([2],1019),([],1023),([],1023),([4,5],975),([6],959),([3,7],887),([8],767)] o.ext (fun d=>?_);have G:=o.step (Ext.draw _);refine dr 6 d [0,1,4,5] ?_;obtain⟨O0,k0,b⟩:=bS b;refine dx (hE.trans o.ext) d 2 B0 k0 (fun G0 y0 f0 Y=>?_);have u0:=zX Y;subst u0;refine dL d 3 (At.ext (hE.trans o.ext) f0) ?_;obtain⟨P0,o0,b⟩:=bS b;refine dx (hE.trans o.ext) d 6 C0 o0 (fun H0 A0 g0 a0=>?_);have v0:=zX a0;subst v0;refine dL d 7 (At.ext (hE.trans o.ext) g0) ?_;obtain⟨J0,p0,b⟩:=bS b;refine o1 d 8 (mc d zaM (laws_eqPort_ok (hE.trans G.ext) Y a0 p0) (fun K0 N0 d0=>?_));obtain⟨rfl,y⟩:=d0;refine⟨y.ext,?_⟩;have H:=G.join y;refine dr 0 d [9] ?_;refine dw [0,1,5,26] ?_;refine dd d ?_;refine ci b (fun b=>?_) (fun b=>?_)
    ·refine sq<|rg<|rr 1 ?_;refine rn<|rt ?_;cases b;cases O;have hm:some _=some _:=hm;cases hm;exact⟨_,.cons (.tmp rfl) .nil,rfl,H⟩
    ·refine sp<|rg<|rr 3 ?_;refine rn ?_;cases b;exact⟨_,_,rfl,⟨((t0.trans (Ext.draw _)).trans y.ext),H,rfl⟩,rfl⟩
   ·refine xt ?_;cases b;exact⟨_,_,⟨O,t0,o,rfl⟩,rfl⟩

theorem zbL:Enters Tryz.prog 49:=⟨_,_,Tryz.func49,rfl,by kernel_rfl⟩
def z3W (fuel:Nat) (x0:D.Agent) (x1:D.Agent):Option (Bool):=(if(x0.Kind != x1.Kind)=true then some false else(if(x0.Level != x1.Level)=true then some false else(if(x0.Value != x1.Value)=true then some false else((z1z fuel x0.Data x1.Data).bind fun b=>(if(!b)=true then some false else((z3V fuel x0.Ports x1.Ports).bind fun d=>(if(!d)=true then some false else some true)))))))

theorem laws_eqAgent_ok {W:Base}{w:World}(hE:Ext W w){c0:List Value}{x0:D.Agent}{d0:List Value}{x1:D.Agent}(f0:ty67.ro W c0 x0) (j0:ty67.ro W d0 x1){fuel:Nat}{r:Bool}(hm:z3W fuel x0 x1=some r):
  Calls Tryz.prog 49 ⟨[.agg ⟨c0⟩,.agg ⟨d0⟩]⟩ w (Ret fun v w8=>v=.bool r∧St w w8 []):=by
 obtain⟨A1,k2,A4,k5,e7,h3,h6⟩:=zB f0;subst e7;obtain⟨k0,u0,o0,v0,e0,g0,i0⟩:=zB j0;subst e0;refine into Tryz.func49 32 _ ?_;unfold z3W at hm;have hS:=St.start w;refine sq<|rg<|nw hS (fun r0 D0 p0 Y=>?_);refine nw Y (fun t0 E0 q0 b=>?_);refine rr 1 ?_;refine rn<|sq<|sq<|rg<|rr 1 ?_;refine l1 ((b.bring 1 rfl).box) 0 ?_;refine rr 1 ?_;refine l1 ((b.bring 0 rfl).box) 0 ?_;refine rr 1 ?_;refine rn<|ci hm (fun hm=>?_) (fun hm=>?_)
 ·refine sq<|rg<|rr 1 ?_;refine rn<|rt ?_;cases hm;exact⟨_,.cons (.tmp rfl) .nil,rfl,(b.taken 0)⟩
 ·refine sp<|sq<|sq<|rg<|rr 1 ?_;refine l1 ((b.bring 1 rfl).box) 1 ?_;refine rr 1 ?_;refine l1 ((b.bring 0 rfl).box) 1 ?_;refine rr 1 ?_;refine rn<|ci hm (fun hm=>?_) (fun hm=>?_)
  ·refine sq<|rg<|rr 1 ?_;refine rn<|rt ?_;cases hm;exact⟨_,.cons (.tmp rfl) .nil,rfl,(b.taken 0)⟩
  ·refine sp<|sq<|sq<|rg<|rr 1 ?_;refine l1 ((b.bring 1 rfl).box) 2 ?_;refine rr 1 ?_;refine l1 ((b.bring 0 rfl).box) 2 ?_;refine rr 1 ?_;refine rn<|ci hm (fun hm=>?_) (fun hm=>?_)
   ·refine sq<|rg<|rr 1 ?_;refine rn<|rt ?_;cases hm;exact⟨_,.cons (.tmp rfl) .nil,rfl,(b.taken 0)⟩
   ·refine sp<|sq<|sq<|rg<|rr 1 ?_;refine l1 ((b.bring 1 rfl).box) 3 ?_;refine rr 1 ?_;refine l1 ((b.bring 0 rfl).box) 3 ?_;obtain⟨y0,a0,hm⟩:=bS hm;refine ca z6L (laws_eqInt64S_ok (hE.trans b.ext) h3 g0 a0) (fun B0 F0 y=>?_);obtain⟨rfl,G⟩:=y;have d:=b.join G;refine rr 1 ?_;refine rn<|ci hm (fun hm=>?_) (fun hm=>?_)
    ·refine sq<|rg<|rr 1 ?_;refine rn<|rt ?_;cases hm;exact⟨_,.cons (.tmp rfl) .nil,rfl,(d.taken 0)⟩
    ·refine sp<|sq<|sq<|rg<|rr 1 ?_;refine l1 ((d.bring 1 rfl).box) 4 ?_;refine rr 1 ?_;refine l1 ((d.bring 0 rfl).box) 4 ?_;obtain⟨A0,b0,hm⟩:=bS hm;refine ca zbq (laws_eqPortS_ok (hE.trans d.ext) h6 i0 b0) (fun C0 G0 H=>?_);obtain⟨rfl,O⟩:=H;have o:=d.join O;refine rr 1 ?_;refine rn<|ci hm (fun hm=>?_) (fun hm=>?_)
     ·refine sq<|rg<|rr 1 ?_;refine rn<|rt ?_;cases hm;exact⟨_,.cons (.tmp rfl) .nil,rfl,(o.taken 0)⟩
     ·refine sp<|sq<|rg<|rr 1 ?_;refine rn<|rt ?_;cases hm;exact⟨_,.cons (.tmp rfl) .nil,rfl,(o.taken 0)⟩

theorem zbS:Enters Tryz.prog 31:=⟨_,_,Tryz.func31,rfl,by kernel_rfl⟩
def z4Z (fuel:Nat) (t2:Unit):Option Bool:=some true
def z3i (fuel:Nat) (x0:(List D.Agent)) (x1:(List D.Agent)) (s1:Int):Option (Rd (Int) (Unit) (Bool)):=(if(decide (s1<(x0.length:Int)))=true then((idx x0 s1).bind fun d=>((idx x1 s1).bind fun o=>((z3W fuel d o).bind fun b=>(if(!b)=true then some (.ret false) else some (.next (w64 (s1+1))))))) else some (.brk ()))
def z3w (fuel:Nat) (x0:(List D.Agent)) (x1:(List D.Agent)):Option (Bool):=(if((x0.length:Int) != (x1.length:Int))=true then some false else((iter (z3i fuel x0 x1) fuel 0).bind fun o=>aft o (z4Z fuel)))

theorem laws_eqAgentS_ok {W:Base}{w:World}(hE:Ext W w){b0:Option Addr}{q0:Nat}{x0:(List D.Agent)}{c0:Option Addr}{r0:Nat}{x1:(List D.Agent)}(B0:ty29.ro W [sl b0 x0 q0] x0) (C0:ty29.ro W [sl c0 x1 r0] x1){fuel:Nat}{r:Bool}(hm:z3w fuel x0 x1=some r):
  Calls Tryz.prog 31 ⟨[sl b0 x0 q0,sl c0 x1 r0]⟩ w (Ret fun v w8=>v=.bool r∧St w w8 []):=by
 refine into Tryz.func31 27 _ ?_;unfold z3w at hm;have hS:=St.start w;refine sq<|rg<|rr 1 ?_;refine rn<|sq<|sq<|rg<|rr 5 ?_;refine rn<|ci hm (fun hm=>?_) (fun hm=>?_)
 ·refine sq<|rg<|rr 1 ?_;refine rn<|rt ?_;cases hm;exact⟨_,.cons (.tmp rfl) .nil,rfl,hS⟩
 ·refine sp<|sq<|sq<|rg<|rr 1 ?_;refine rn ?_;obtain⟨D0,i0,hm⟩:=bS hm;refine ct (fun(t2:Unit) F w9=>D0=.inl t2∧Ext w w9∧St w w9 []∧F=[]) ?_ ?_
  ·rintro t2 F w7 ⟨j0,O0,e0,rfl⟩;subst j0;rw [zK] at hm;unfold z4Z at hm;refine sq<|rg<|rr 1 ?_;refine rn<|rt ?_;cases hm;exact⟨_,.cons (.tmp rfl) .nil,rfl,e0⟩
  ·refine bk<|wk [0,1,5] ?_;refine it (fun(s1:Int) F w9=>Ext w w9∧St w w9 []∧F=[(0,sl b0 x0 q0),(1,sl c0 x1 r0),(5,.int .i64 s1)]) i0 ⟨(Ext.refl _),hS,rfl⟩ ?_;rintro s1 F a1 _ T0 ⟨t0,o,rfl⟩ b O;unfold z3i at b;refine sq<|sq<|rg<|rr 4 ?_;refine rn<|ci b (fun b=>?_) (fun b=>?_)
   ·refine sp<|sq<|bk<|sq<|dn 0 mixed 10 [([],1023),([],1023),([0,1],1020),([2],1019),([],1023),([],1023),([4,5],975),([6],959),([3,7],887),([8],767)] o.ext (fun d=>?_);have G:=o.step (Ext.draw _);refine dr 6 d [0,1,4,5] ?_;obtain⟨d1,k0,b⟩:=bS b;refine dx (hE.trans o.ext) d 2 B0 k0 (fun U0 y0 f0 Y=>?_);obtain⟨E0,P0,F0,Q0,u0,J0,K0⟩:=zB Y;subst u0;refine dL d 3 (At.ext (hE.trans o.ext) f0) ?_;obtain⟨e1,o0,b⟩:=bS b;refine dx (hE.trans o.ext) d 6 C0 o0 (fun V0 A0 g0 a0=>?_);obtain⟨G0,R0,H0,S0,v0,M0,N0⟩:=zB a0;subst v0;refine dL d 7 (At.ext (hE.trans o.ext) g0) ?_;obtain⟨X0,p0,b⟩:=bS b;refine o1 d 8 (mc d zbL (laws_eqAgent_ok (hE.trans G.ext) Y a0 p0) (fun Y0 b1 d0=>?_));obtain⟨rfl,y⟩:=d0;refine⟨y.ext,?_⟩;have H:=G.join y;refine dr 0 d [9] ?_;refine dw [0,1,5,26] ?_;refine dd d ?_;refine ci b (fun b=>?_) (fun b=>?_)
    ·refine sq<|rg<|rr 1 ?_;refine rn<|rt ?_;cases b;cases O;have hm:some _=some _:=hm;cases hm;exact⟨_,.cons (.tmp rfl) .nil,rfl,H⟩
    ·refine sp<|rg<|rr 3 ?_;refine rn ?_;cases b;exact⟨_,_,rfl,⟨((t0.trans (Ext.draw _)).trans y.ext),H,rfl⟩,rfl⟩
   ·refine xt ?_;cases b;exact⟨_,_,⟨O,t0,o,rfl⟩,rfl⟩

theorem zbZ:Enters Tryz.prog 12:=⟨_,_,Tryz.func12,rfl,by kernel_rfl⟩
def z4t (fuel:Nat) (x0:D.Net) (x1:D.Net):Option (Bool):=((z3w fuel x0.Agents x1.Agents).bind fun b=>(if(!b)=true then some false else some true))

theorem laws_eqNet_ok {W:Base}{w:World}(hE:Ext W w){O:List Value}{x0:D.Net}{Y:List Value}{x1:D.Net}(b0:ty31.ro W O x0) (c0:ty31.ro W Y x1){fuel:Nat}{r:Bool}(hm:z4t fuel x0 x1=some r):
  Calls Tryz.prog 12 ⟨[.agg ⟨O⟩,.agg ⟨Y⟩]⟩ w (Ret fun v w8=>v=.bool r∧St w w8 []):=by
 obtain⟨A1,k2,e4,h3⟩:=z1y b0;subst e4;obtain⟨A5,k6,a0,h7⟩:=z1y c0;subst a0;refine into Tryz.func12 11 _ ?_;unfold z4t at hm;have hS:=St.start w;refine sq<|rg<|nw hS (fun f0 k0 d0 G=>?_);refine nw G (fun g0 o0 e0 b=>?_);refine rr 1 ?_;refine rn<|sq<|sq<|rg<|rr 1 ?_;refine l1 ((b.bring 1 rfl).box) 0 ?_;refine rr 1 ?_;refine l1 ((b.bring 0 rfl).box) 0 ?_;obtain⟨i0,H,hm⟩:=bS hm;refine ca zbS (laws_eqAgentS_ok (hE.trans b.ext) h3 h7 H) (fun j0 p0 o=>?_);obtain⟨rfl,y⟩:=o;have d:=b.join y;refine rr 1 ?_;refine rn<|ci hm (fun hm=>?_) (fun hm=>?_)
 ·refine sq<|rg<|rr 1 ?_;refine rn<|rt ?_;cases hm;exact⟨_,.cons (.tmp rfl) .nil,rfl,(d.taken 0)⟩
 ·refine sp<|sq<|rg<|rr 1 ?_;refine rn<|rt ?_;cases hm;exact⟨_,.cons (.tmp rfl) .nil,rfl,(d.taken 0)⟩

theorem z9n:Enters Tryz.prog 14:=⟨_,_,Tryz.func14,rfl,by kernel_rfl⟩
def z4w (fuel:Nat) (t2:Int × (List Int)):Option (Int × (List Int)):=some (t2.1,t2.2)
def z2w (fuel:Nat) (x0:(List Int)) (s1:Int × Int × (List Int)):Option (Rd (Int × Int × (List Int)) (Int × (List Int)) (Int × (List Int))):=(if(decide (s1.2.1<(x0.length:Int)))=true then(if decide (0≤s1.2.1∧s1.2.1.toNat<s1.2.2.length)=true then some (.next (w64 (s1.1+1),w64 (s1.2.1+1),(s1.2.2.set s1.2.1.toNat s1.1))) else none) else some (.brk (s1.1,s1.2.2)))
def z22 (fuel:Nat) (x0:(List Int)) (x1:Int):Option (Int × (List Int)):=((iter (z2w fuel x0) fuel (x1,0,x0)).bind fun o=>aft o (z4w fuel))

theorem laws_markInt64S_ok {W:Base}{w:World}{RR:List Res}{o:Option Addr}{y:Nat}{x0:(List Int)}{x1:Int}(hS:St W w (ow ty26 o x0 y::RR)){fuel:Nat}{r:Int × (List Int)}(hm:z22 fuel x0 x1=some r):
  Calls Tryz.prog 14 ⟨[sl o x0 y,.int .i64 x1]⟩ w (Ret fun v w8=>v=.int .i64 r.1∧St W w8 (Own ty26 [sl o x0 y] r.2::RR)):=by
 refine into Tryz.func14 19 _ ?_;unfold z22 at hm;refine sq<|rg<|rr 1 ?_;refine rn<|sq<|sq<|rg<|rr 1 ?_;refine rn ?_;obtain⟨o5,f0,hm⟩:=bS hm;refine ct (fun(t2:Int × (List Int)) F w9=>o5=.inl t2∧St W w9 (Own ty26 [sl o x0 y] t2.2::RR)∧F=[(1,.int .i64 t2.1)]) ?_ ?_
 ·rintro t2 F w4 ⟨c0,e0,rfl⟩;subst c0;rw [zK] at hm;unfold z4w at hm;refine sq<|rg<|rr 2 ?_;refine rn<|rt ?_;cases hm;exact⟨_,.cons (.tmp rfl) .nil,rfl,e0⟩
 ·refine bk<|wk [0,1,5] ?_;refine it (fun(s1:Int × Int × (List Int)) F w9=>St W w9 (Own ty26 [sl o x0 y] s1.2.2::RR)∧F=[(0,sl o x0 y),(1,.int .i64 s1.1),(5,.int .i64 s1.2.1)]) f0 ⟨hS,rfl⟩ ?_;rintro s1 F i0 _ g0 ⟨G,rfl⟩ b d0;unfold z2w at b;refine sq<|sq<|rg<|rr 4 ?_;refine rn<|ci b (fun b=>?_) (fun b=>?_)
  ·refine sp<|sq<|bk<|sq<|rg<|rr 3 ?_;have H:=G.bring 0 rfl;obtain⟨b0,b⟩:=iS b;have d:=of_decide_eq_true b0;refine io H d.1 d.2 (fun q19 hq20=>?_);have O:=H.flat (T:=tInt) (cs:=[.int .i64 s1.1]) (x:=s1.1) ⟨rfl,rfl⟩;have Y:=O.bring 1 rfl;refine se Y d.2 hq20 (fun j0 a0=>?_);refine rn<|rg<|rr 3 ?_;refine rn<|rg<|rr 3 ?_;refine rn ?_;cases b;exact⟨_,_,rfl,⟨a0,rfl⟩,rfl⟩
  ·refine xt ?_;cases b;exact⟨_,_,⟨d0,G,rfl⟩,rfl⟩

theorem zbK:Enters Tryz.prog 50:=⟨_,_,Tryz.func50,rfl,by kernel_rfl⟩
def z4K (fuel:Nat) (t2:Int × (List D.Port)):Option (Int × (List D.Port)):=some (t2.1,t2.2)
def z2Z (fuel:Nat) (x0:(List D.Port)) (s1:Int × Int × (List D.Port)):Option (Rd (Int × Int × (List D.Port)) (Int × (List D.Port)) (Int × (List D.Port))):=(if(decide (s1.2.1<(x0.length:Int)))=true then((idx s1.2.2 s1.2.1).bind fun b=>some (.next (w64 ((w64 (s1.1+1))+1),w64 (s1.2.1+1),(s1.2.2.set s1.2.1.toNat (⟨s1.1,w64 (s1.1+1)⟩:D.Port))))) else some (.brk (s1.1,s1.2.2)))
def z35 (fuel:Nat) (x0:(List D.Port)) (x1:Int):Option (Int × (List D.Port)):=((iter (z2Z fuel x0) fuel (x1,0,x0)).bind fun o=>aft o (z4K fuel))

theorem laws_markPortS_ok {W:Base}{w:World}{RR:List Res}{d:Option Addr}{o:Nat}{x0:(List D.Port)}{x1:Int}(hS:St W w (ow ty65 d x0 o::RR)){fuel:Nat}{r:Int × (List D.Port)}(hm:z35 fuel x0 x1=some r):
  Calls Tryz.prog 50 ⟨[sl d x0 o,.int .i64 x1]⟩ w (Ret fun v w8=>v=.int .i64 r.1∧St W w8 (Own ty65 [sl d x0 o] r.2::RR)):=by
 refine into Tryz.func50 27 _ ?_;unfold z35 at hm;refine sq<|rg<|rr 1 ?_;refine rn<|sq<|sq<|rg<|rr 1 ?_;refine rn ?_;obtain⟨o5,q0,hm⟩:=bS hm;refine ct (fun(t2:Int × (List D.Port)) F w9=>o5=.inl t2∧St W w9 (Own ty65 [sl d x0 o] t2.2::RR)∧F=[(1,.int .i64 t2.1)]) ?_ ?_
 ·rintro t2 F w4 ⟨i0,p0,rfl⟩;subst i0;rw [zK] at hm;unfold z4K at hm;refine sq<|rg<|rr 2 ?_;refine rn<|rt ?_;cases hm;exact⟨_,.cons (.tmp rfl) .nil,rfl,p0⟩
 ·refine bk<|wk [0,1,5] ?_;refine it (fun(s1:Int × Int × (List D.Port)) F w9=>St W w9 (Own ty65 [sl d x0 o] s1.2.2::RR)∧F=[(0,sl d x0 o),(1,.int .i64 s1.1),(5,.int .i64 s1.2.1)]) q0 ⟨hS,rfl⟩ ?_;rintro s1 F t0 _ r0 ⟨y,rfl⟩ b j0;unfold z2Z at b;refine sq<|sq<|rg<|rr 4 ?_;refine rn<|ci b (fun b=>?_) (fun b=>?_)
  ·refine sp<|sq<|bk<|sq<|rg<|rr 3 ?_;have O:=y.bring 0 rfl;obtain⟨y0,H,b⟩:=bS b;refine fo O H (fun q19 o0 hq21 Y=>?_);obtain⟨k0,a0⟩:=z9w (Y.bring 1 rfl);subst k0;refine rr 1 ?_;have b0:=a0.bring 0 rfl;refine sh b0 hq21 0 (fun u0 G=>?_);refine rn<|sq<|rg<|rr 3 ?_;refine rn<|sq<|rg<|rr 3 ?_;refine ia (G.bring 0 rfl) (z6 H).1 (fun q28 hq29=>?_);refine rr 1 ?_;have c0:=G.bring 0 rfl;refine sh c0 hq29 1 (fun v0 d0=>?_);refine rn<|rg<|rr 3 ?_;refine rn<|rg<|rr 3 ?_;refine rn ?_;have e0:=z7t (c:=(⟨s1.1,w64 (s1.1+1)⟩:D.Port)) (B:=_) d0;have f0:=e0.bring 1 rfl;have g0:=St.unfocusN f0;cases b;exact⟨_,_,rfl,⟨g0,rfl⟩,rfl⟩
  ·refine xt ?_;cases b;exact⟨_,_,⟨j0,y,rfl⟩,rfl⟩

theorem zbR:Enters Tryz.prog 32:=⟨_,_,Tryz.func32,rfl,by kernel_rfl⟩
def z4x (fuel:Nat) (t2:Int × (List D.Agent)):Option (Int × (List D.Agent)):=some (t2.1,t2.2)
def z2x (fuel:Nat) (x0:(List D.Agent)) (s1:Int × Int × (List D.Agent)):Option (Rd (Int × Int × (List D.Agent)) (Int × (List D.Agent)) (Int × (List D.Agent))):=(if(decide (s1.2.1<(x0.length:Int)))=true then((idx s1.2.2 s1.2.1).bind fun o=>((z22 fuel o.Data (w64 ((w64 ((w64 (s1.1+1))+1))+1))).bind fun b=>((z35 fuel o.Ports b.1).bind fun d=>some (.next (d.1,w64 (s1.2.1+1),(s1.2.2.set s1.2.1.toNat (⟨s1.1,w64 (s1.1+1),w64 ((w64 (s1.1+1))+1),b.2,d.2⟩:D.Agent))))))) else some (.brk (s1.1,s1.2.2)))
def z2V (fuel:Nat) (x0:(List D.Agent)) (x1:Int):Option (Int × (List D.Agent)):=((iter (z2x fuel x0) fuel (x1,0,x0)).bind fun o=>aft o (z4x fuel))

theorem laws_markAgentS_ok {W:Base}{w:World}{RR:List Res}{d0:Option Addr}{e0:Nat}{x0:(List D.Agent)}{x1:Int}(hS:St W w (ow ty29 d0 x0 e0::RR)){fuel:Nat}{r:Int × (List D.Agent)}(hm:z2V fuel x0 x1=some r):
  Calls Tryz.prog 32 ⟨[sl d0 x0 e0,.int .i64 x1]⟩ w (Ret fun v w8=>v=.int .i64 r.1∧St W w8 (Own ty29 [sl d0 x0 e0] r.2::RR)):=by
 refine into Tryz.func32 48 _ ?_;unfold z2V at hm;refine sq<|rg<|rr 1 ?_;refine rn<|sq<|sq<|rg<|rr 1 ?_;refine rn ?_;obtain⟨o5,R0,hm⟩:=bS hm;refine ct (fun(t2:Int × (List D.Agent)) F w9=>o5=.inl t2∧St W w9 (Own ty29 [sl d0 x0 e0] t2.2::RR)∧F=[(1,.int .i64 t2.1)]) ?_ ?_
 ·rintro t2 F w4 ⟨J0,Q0,rfl⟩;subst J0;rw [zK] at hm;unfold z4x at hm;refine sq<|rg<|rr 2 ?_;refine rn<|rt ?_;cases hm;exact⟨_,.cons (.tmp rfl) .nil,rfl,Q0⟩
 ·refine bk<|wk [0,1,5] ?_;refine it (fun(s1:Int × Int × (List D.Agent)) F w9=>St W w9 (Own ty29 [sl d0 x0 e0] s1.2.2::RR)∧F=[(0,sl d0 x0 e0),(1,.int .i64 s1.1),(5,.int .i64 s1.2.1)]) R0 ⟨hS,rfl⟩ ?_;rintro s1 F Y0 _ U0 ⟨f0,rfl⟩ b K0;unfold z2x at b;refine sq<|sq<|rg<|rr 4 ?_;refine rn<|ci b (fun b=>?_) (fun b=>?_)
  ·refine sp<|sq<|bk<|sq<|rg<|rr 3 ?_;have r0:=f0.bring 0 rfl;obtain⟨o,d,b⟩:=bS b;refine fo r0 d (fun q19 P0 hq21 t0=>?_);obtain⟨G,b0,H,c0,O0,u0⟩:=z9x (t0.bring 1 rfl);subst O0;refine rr 1 ?_;have v0:=u0.bring 2 rfl;refine sh v0 hq21 0 (fun a1 g0=>?_);refine rn<|sq<|rg<|rr 3 ?_;refine rn<|sq<|rg<|rr 3 ?_;refine ia (g0.bring 0 rfl) (z6 d).1 (fun q32 hq33=>?_);refine rr 1 ?_;have y0:=g0.bring 0 rfl;refine sh y0 hq33 1 (fun b1 i0=>?_);refine rn<|sq<|rg<|rr 3 ?_;refine rn<|sq<|rg<|rr 3 ?_;refine ia (i0.bring 0 rfl) (z6 d).1 (fun q37 hq38=>?_);refine rr 1 ?_;have A0:=i0.bring 0 rfl;refine sh A0 hq38 2 (fun d1 O=>?_);refine rn<|sq<|rg<|rr 3 ?_;refine rn<|sq<|rg<|rr 2 ?_;refine ia (O.bring 0 rfl) (z6 d).1 (fun q42 hq43=>?_);refine rr 1 ?_;refine l1 ((O.bring 0 rfl).hole_atN hq43) 3 ?_;refine rr 1 ?_;obtain⟨y,M0,b⟩:=bS b;refine ca z9n (laws_markInt64S_ok (W:=W) (RR:=_) (x0:=o.Data) (x1:=w64 ((w64 ((w64 (s1.1+1))+1))+1)) (O.bring 1 rfl)  M0) (fun V0 e1 p0=>?_);obtain⟨rfl,Y⟩:=p0;refine rr 1 ?_;refine rn<|rg<|rr 2 ?_;refine ia (Y.bring 1 rfl) (z6 d).1 (fun q50 hq51=>?_);refine rr 1 ?_;refine l1 ((Y.bring 1 rfl).hole_atN hq51) 4 ?_;refine rr 1 ?_;obtain⟨o0,N0,b⟩:=bS b;refine ca zbK (laws_markPortS_ok (W:=W) (RR:=_) (x0:=o.Ports) (x1:=y.1) (Y.bring 2 rfl)  N0) (fun X0 f1 q0=>?_);obtain⟨rfl,j0⟩:=q0;refine rr 1 ?_;refine rn<|rg<|rr 3 ?_;refine rn ?_;have hn58:=(j0.bring 1 rfl).lenEq;have B0:=(j0.bring 1 rfl).reLen hn58;have k0:=(B0.bring 2 rfl).reHole (es':=[.int .i64 s1.1,.int .i64 (w64 (s1.1+1)),.int .i64 (w64 ((w64 (s1.1+1))+1)),.slice G y.2.length b0,.slice H o.Ports.length c0]) (by show([.int .i64 s1.1,.int .i64 (w64 (s1.1+1)),.int .i64 (w64 ((w64 (s1.1+1))+1)),.slice G o.Data.length b0,.slice H o.Ports.length c0]:List Value)=[.int .i64 s1.1,.int .i64 (w64 (s1.1+1)),.int .i64 (w64 ((w64 (s1.1+1))+1)),.slice G y.2.length b0,.slice H o.Ports.length c0];first | (simp only [sl,hn58];done) | (simp only [sl,hn58];rfl));have hn61:=(k0.bring 2 rfl).lenEq;have C0:=(k0.bring 2 rfl).reLen hn61;have a0:=(C0.bring 1 rfl).reHole (es':=[.int .i64 s1.1,.int .i64 (w64 (s1.1+1)),.int .i64 (w64 ((w64 (s1.1+1))+1)),.slice G y.2.length b0,.slice H o0.2.length c0]) (by show([.int .i64 s1.1,.int .i64 (w64 (s1.1+1)),.int .i64 (w64 ((w64 (s1.1+1))+1)),.slice G y.2.length b0,.slice H o.Ports.length c0]:List Value)=[.int .i64 s1.1,.int .i64 (w64 (s1.1+1)),.int .i64 (w64 ((w64 (s1.1+1))+1)),.slice G y.2.length b0,.slice H o0.2.length c0];first | (simp only [sl,hn61];done) | (simp only [sl,hn61];rfl));have S0:=(show ty26.ro _ [.slice G o.Data.length b0] y.2 from(Eq.symm hn58) ▸ ((a0.bring 2 rfl).own));have T0:=(show ty65.ro _ [.slice H o.Ports.length c0] o0.2 from(Eq.symm hn61) ▸ ((a0.bring 1 rfl).own));have D0:=a0.bring 1 rfl;have E0:=D0.bring 2 rfl;have F0:=z7u (c:=(⟨s1.1,w64 (s1.1+1),w64 ((w64 (s1.1+1))+1),y.2,o0.2⟩:D.Agent)) (B:=_) E0;have G0:=F0.bring 1 rfl;have H0:=St.unfocusN G0;cases b;exact⟨_,_,rfl,⟨H0,rfl⟩,rfl⟩
  ·refine xt ?_;cases b;exact⟨_,_,⟨K0,f0,rfl⟩,rfl⟩

theorem zbY:Enters Tryz.prog 13:=⟨_,_,Tryz.func13,rfl,by kernel_rfl⟩
def z3U (fuel:Nat) (x0:D.Net) (x1:Int):Option (Int × (List D.Agent)):=((z2V fuel x0.Agents x1).bind fun r5=>some (r5.1,r5.2))

theorem laws_markNet_ok {W:Base}{w:World}{RR:List Res}{x0:D.Net}{b:Option Addr}{d:Nat}{x1:Int}(hS:St W w (ow ty29 b x0.Agents d::RR)){fuel:Nat}{r:Int × (List D.Agent)}(hm:z3U fuel x0 x1=some r):
  Calls Tryz.prog 13 ⟨[.agg ⟨[sl b x0.Agents d]⟩,.int .i64 x1]⟩ w (Ret fun v w8=>v=.int .i64 r.1∧St W w8 (Own ty29 [sl b x0.Agents d] r.2::RR)):=by
 refine into Tryz.func13 10 _ ?_;unfold z3U at hm;refine sq<|rg<|nw hS (fun g1 w2 e3 G=>?_);refine rr 1 ?_;refine rn<|sq<|rg<|rr 1 ?_;refine l1 ((G.bring 0 rfl).box) 0 ?_;refine rr 1 ?_;obtain⟨r5,H,hm⟩:=bS hm;refine ca zbR (laws_markAgentS_ok (W:=W) (RR:=_) (x0:=x0.Agents) (x1:=x1) (G.bring 1 rfl)  H) (fun v7 O o=>?_);obtain⟨rfl,y⟩:=o;refine rr 1 ?_;refine rn<|sq<|rg<|rr 2 ?_;refine rn<|rt ?_;cases hm;exact⟨_,.cons (.tmp rfl) .nil,rfl,(y.bring 1 rfl).drop⟩

theorem z9m:Enters Tryz.prog 15:=⟨_,_,Tryz.func15,rfl,by kernel_rfl⟩
def z4y (fuel:Nat) (t2:Int):Option Int:=some t2
def z1J (fuel:Nat) (x0:(List Int)) (s1:Int × Int):Option (Rd (Int × Int) (Int) (Int)):=(if(decide (s1.2<(x0.length:Int)))=true then((idx x0 s1.2).bind fun b=>(if(b != s1.1)=true then some (.ret (-1)) else some (.next (w64 (s1.1+1),w64 (s1.2+1))))) else some (.brk s1.1))
def z23 (fuel:Nat) (x0:(List Int)) (x1:Int):Option (Int):=((iter (z1J fuel x0) fuel (x1,0)).bind fun o=>aft o (z4y fuel))

theorem laws_heldInt64S_ok {W:Base}{w:World}(hE:Ext W w){y:Option Addr}{c0:Nat}{x0:(List Int)}{x1:Int}(f0:ty26.ro W [sl y x0 c0] x0){fuel:Nat}{r:Int}(hm:z23 fuel x0 x1=some r):
  Calls Tryz.prog 15 ⟨[sl y x0 c0,.int .i64 x1]⟩ w (Ret fun v w8=>v=.int .i64 r∧St w w8 []):=by
 refine into Tryz.func15 21 _ ?_;unfold z23 at hm;have hS:=St.start w;refine sq<|rg<|rr 1 ?_;refine rn<|sq<|sq<|rg<|rr 1 ?_;refine rn ?_;obtain⟨g0,O,hm⟩:=bS hm;refine ct (fun(t2:Int) F w9=>g0=.inl t2∧Ext w w9∧St w w9 []∧F=[(1,.int .i64 t2)]) ?_ ?_
 ·rintro t2 F w7 ⟨Y,i0,G,rfl⟩;subst Y;rw [zK] at hm;unfold z4y at hm;refine sq<|rg<|rr 2 ?_;refine rn<|rt ?_;cases hm;exact⟨_,.cons (.tmp rfl) .nil,rfl,G⟩
 ·refine bk<|wk [0,1,5] ?_;refine it (fun(s1:Int × Int) F w9=>Ext w w9∧St w w9 []∧F=[(0,sl y x0 c0),(1,.int .i64 s1.1),(5,.int .i64 s1.2)]) O ⟨(Ext.refl _),hS,rfl⟩ ?_;rintro s1 F o0 _ j0 ⟨d0,d,rfl⟩ b o;unfold z1J at b;refine sq<|sq<|rg<|rr 4 ?_;refine rn<|ci b (fun b=>?_) (fun b=>?_)
  ·refine sp<|sq<|bk<|sq<|sq<|rg<|rr 2 ?_;obtain⟨p0,b0,b⟩:=bS b;refine ix (hE.trans d.ext) f0 b0 (fun k0 e0 H a0=>?_);cases a0;refine l1 (At.ext (hE.trans d.ext) H) 0 ?_;refine rr 2 ?_;refine rn<|ci b (fun b=>?_) (fun b=>?_)
   ·refine sq<|rg<|rr 1 ?_;refine rn<|rt ?_;cases b;cases o;have hm:some _=some _:=hm;cases hm;exact⟨_,.cons (.tmp rfl) .nil,rfl,d⟩
   ·refine sp<|rg<|rr 3 ?_;refine rn<|rg<|rr 3 ?_;refine rn ?_;cases b;exact⟨_,_,rfl,⟨d0,d,rfl⟩,rfl⟩
  ·refine xt ?_;cases b;exact⟨_,_,⟨o,d0,d,rfl⟩,rfl⟩

def zV (fuel:Nat) (o:Int × (List Int)) (d:Bool):Option Bool:=(if d=true then some false else((z23 fuel o.2 1).bind fun b=>(if(decide (b<0))=true then some false else(if(b != o.1)=true then some false else some true))))
def zA (fuel:Nat) (x0:D.Net) (H:(List Int) × Int) (O:(List Int) × Int) (Y:Bool):Option Bool:=(if Y=true then some false else((z22 fuel O.1 1).bind fun o=>((z23 fuel o.2 1).bind fun b=>(if(decide (b<0))=true then some false else(if(b != o.1)=true then some false else((z2W fuel x0).bind fun y=>((z1C fuel y).bind fun d=>((z1z fuel d.1 H.1).bind fun G=>(if(!G)=true then zV fuel o true else zV fuel o (d.2 != H.2))))))))))
def zW (fuel:Nat) (x0:D.Net) (b:(List Int) × Int) (y:D.Net) (d:(List Int) × Int) (Y:Bool):Option Bool:=(if Y=true then some false else((z2W fuel x0).bind fun G=>((z4t fuel y G).bind fun H=>(if(!H)=true then some false else((z3U fuel y 1).bind fun O=>(if(decide (O.1<0))=true then zA fuel x0 b d true else((z1z fuel d.1 b.1).bind fun o=>(if(!o)=true then zA fuel x0 b d true else zA fuel x0 b d (d.2 != b.2)))))))))
def z1w (fuel:Nat) (x0:D.Net):Option (Bool):=((z4s fuel x0 1048576).bind fun G=>(if(decide (G<0))=true then some true else((z2W fuel x0).bind fun H=>((z2f fuel H).bind fun b=>((z2W fuel x0).bind fun y=>((z1C fuel y).bind fun d=>((z1z fuel d.1 b.1).bind fun o=>(if(!o)=true then zW fuel x0 b y d true else zW fuel x0 b y d (d.2 != b.2)))))))))

theorem laws_FnExactReadOrigins_ok {W:Base}{w:World}(hE:Ext W w){b2:List Value}{x0:D.Net}(hT:Tab W) (C0:ty24.ro W b2 x0){fuel:Nat}{r:Bool}(hm:z1w fuel x0=some r):
  Calls Tryz.prog 3 ⟨[.agg ⟨b2⟩]⟩ w (Ret fun v w8=>v=.bool r∧St w w8 []):=by
 obtain⟨A1,k2,e4,h3⟩:=z6Q C0;subst e4;refine into Tryz.func3 96 _ ?_;unfold z1w at hm;have hS:=St.start w;refine sq<|rg<|nw hS (fun g5 w6 e7 t0=>?_);refine rr 1 ?_;refine rn<|sq<|rg<|rr 1 ?_;refine rn<|sq<|rg<|lN ((t0.bring 0 rfl).box) ?_;refine rr 1 ?_;obtain⟨W2,L1,hm⟩:=bS hm;refine ca zcq (laws_szNet_ok (hE.trans t0.ext) C0 L1) (fun a3 k3 m1=>?_);obtain⟨rfl,n1⟩:=m1;have e0:=t0.join n1;refine rr 1 ?_;refine rn<|sq<|sq<|rg<|rr 2 ?_;refine rn<|ci hm (fun hm=>?_) (fun hm=>?_)
 ·refine sq<|rg<|rr 1 ?_;refine rn<|rt ?_;cases hm;exact⟨_,.cons (.tmp rfl) .nil,rfl,(e0.taken 0)⟩
 ·refine sp<|sq<|rg<|lN ((e0.bring 0 rfl).box) ?_;obtain⟨v2,M1,hm⟩:=bS hm;refine ca z80 (laws_toNet_ok (hE.trans e0.ext) C0 M1) (fun b3 m3 p1=>?_);obtain⟨R2,U2,rfl,t1⟩:=p1;have U0:=e0.join t1;obtain⟨c0,N1,hm⟩:=bS hm;refine ca zcp (z5R (Ext.refl _) (z3L v2 ((U0.bring 0 rfl).own)) N1) (fun c3 n3 u1=>?_);obtain⟨j1,k1,rfl,v1⟩:=u1;have u0:=U0.join v1;refine rr 5 ?_;refine rn<|sq<|rg<|lN ((u0.bring 2 rfl).box) ?_;obtain⟨D0,O1,hm⟩:=bS hm;refine ca z80 (laws_toNet_ok (hE.trans u0.ext) C0 O1) (fun d3 o3 y1=>?_);obtain⟨a2,f2,rfl,B1⟩:=y1;have H1:=u0.join B1;refine nw H1 (fun d2 p3 T2 J1=>?_);have K1:=J1.bring 0 rfl;refine so (A:=[]) K1 0 (fun q3 f0=>?_);refine rn<|sq<|rg<|lN ((f0.bring 0 rfl).box) ?_;obtain⟨d0,P1,hm⟩:=bS hm;refine ca z9o (z4N (Ext.refl _) (Tab.ext (hE.trans f0.ext) hT) (z3L D0 ((f0.bring 1 rfl).own)) P1) (fun e3 P2 C1=>?_);obtain⟨i0,r0,rfl,D1⟩:=C1;have v0:=f0.join D1;refine rr 5 ?_;refine rn<|sq<|sq<|ct (fun(W1:Bool) F w9=>zW fuel x0 c0 D0 d0 W1=some r∧Ext P2 w9∧St w w9 [ow ty26 i0 d0.1 r0,Box d2 [sl a2 D0.Agents f2] 31,ow ty29 a2 D0.Agents f2,ow ty26 j1 c0.1 k1,Box g5 [sl A1 x0.Agents k2] 24]∧F=[(1,.pointer (some ⟨g5,0,none⟩)),(4,sl j1 c0.1 k1),(5,.int .i64 c0.2),(6,.pointer (some ⟨d2,0,none⟩)),(7,sl i0 d0.1 r0),(8,.int .i64 d0.2),(40,.bool W1)]) ?_ ?_
  ·rintro W1 F r3 ⟨hm,j2,b0,rfl⟩;unfold zW at hm;refine ci hm (fun hm=>?_) (fun hm=>?_)
   ·refine sq<|rg<|rr 1 ?_;refine rn<|rt ?_;cases hm;exact⟨_,.cons (.tmp rfl) .nil,rfl,(b0.taken 0)⟩
   ·refine sp<|sq<|sq<|dn 0 mixed 5 [([],31),([],31),([1],29),([0,2,2],26),([3],23)] b0.ext (fun d=>?_);have V0:=b0.step (Ext.draw _);refine dL d 0 ((b0.bring 1 rfl).box) ?_;refine dL d 1 ((b0.bring 4 rfl).box) ?_;obtain⟨y2,Q1,hm⟩:=bS hm;refine o1 d 2 (mc d z80 (laws_toNet_ok (hE.trans V0.ext) C0 Q1) (fun f3 s3 E1=>?_));obtain⟨S2,V2,rfl,S0⟩:=E1;refine⟨S0.ext,?_⟩;have y0:=V0.join S0;obtain⟨X2,R1,hm⟩:=bS hm;refine o1 d 3 (mc d zbZ (laws_eqNet_ok (Ext.refl _) (z3L D0 ((y0.bring 3 rfl).own)) (z3L y2 ((y0.bring 0 rfl).own)) R1) (fun g3 t3 F1=>?_));obtain⟨rfl,T0⟩:=F1;refine⟨T0.ext,?_⟩;have A0:=y0.join T0;refine dr 0 d [4] ?_;refine dd d ?_;refine ci hm (fun hm=>?_) (fun hm=>?_)
    ·refine sq<|rg<|rr 1 ?_;refine rn<|rt ?_;cases hm;exact⟨_,.cons (.tmp rfl) .nil,rfl,(A0.taken 0)⟩
    ·refine sp<|sq<|rg<|rr 1 ?_;refine rn<|sq<|rg<|lN ((A0.bring 2 rfl).box) ?_;refine rr 1 ?_;obtain⟨Y2,S1,hm⟩:=bS hm;refine ca zbY (laws_markNet_ok (W:=w) (RR:=_) (x0:=D0) (x1:=1) (A0.bring 3 rfl)  S1) (fun i3 Q2 G1=>?_);obtain⟨rfl,g0⟩:=G1;refine rr 1 ?_;refine rn<|sq<|sq<|ct (fun(X1:Bool) F w9=>zA fuel x0 c0 d0 X1=some r∧Ext Q2 w9∧St w w9 [ow ty26 i0 d0.1 r0,ow ty26 j1 c0.1 k1,Box g5 [sl A1 x0.Agents k2] 24]∧F=[(1,.pointer (some ⟨g5,0,none⟩)),(4,sl j1 c0.1 k1),(5,.int .i64 c0.2),(7,sl i0 d0.1 r0),(61,.bool X1)]) ?_ ?_
     ·rintro X1 F u3 ⟨hm,m2,X0,rfl⟩;unfold zA at hm;refine ci hm (fun hm=>?_) (fun hm=>?_)
      ·refine sq<|rg<|rr 1 ?_;refine rn<|rt ?_;cases hm;exact⟨_,.cons (.tmp rfl) .nil,rfl,(X0.taken 0)⟩
      ·refine sp<|sq<|rg<|rr 1 ?_;refine rn<|sq<|rg<|rr 2 ?_;obtain⟨i1,T1,hm⟩:=bS hm;refine ca z9n (laws_markInt64S_ok (W:=w) (RR:=_) (x0:=d0.1) (x1:=1) X0  T1) (fun j3 v3 E0=>?_);obtain⟨rfl,j0⟩:=E0;refine rr 1 ?_;refine rn<|sq<|rg<|rr 1 ?_;refine rn<|sq<|rg<|rr 2 ?_;have hn102:=(j0.bring 0 rfl).lenEq;have k0:=(j0.bring 0 rfl).reLen hn102;refine kn (u:=.slice i0 i1.2.length r0) 65 rfl (by simp only [sl,hn102]) ?_;obtain⟨p2,Y0,hm⟩:=bS hm;refine ca z9m (laws_heldInt64S_ok (Ext.refl _) ((k0.bring 0 rfl).own) Y0) (fun A2 H2 F0=>?_);obtain⟨rfl,G0⟩:=F0;have b:=k0.join G0;refine rr 1 ?_;refine rn<|sq<|sq<|rg<|rr 2 ?_;refine rn<|ci hm (fun hm=>?_) (fun hm=>?_)
       ·refine sq<|rg<|rr 1 ?_;refine rn<|rt ?_;cases hm;exact⟨_,.cons (.tmp rfl) .nil,rfl,(b.taken 0)⟩
       ·refine sp<|sq<|sq<|rg<|rr 3 ?_;refine rn<|ci hm (fun hm=>?_) (fun hm=>?_)
        ·refine sq<|rg<|rr 1 ?_;refine rn<|rt ?_;cases hm;exact⟨_,.cons (.tmp rfl) .nil,rfl,(b.taken 0)⟩
        ·refine sp<|sq<|rg<|lN ((b.bring 2 rfl).box) ?_;obtain⟨U1,a1,hm⟩:=bS hm;refine ca z80 (laws_toNet_ok (hE.trans b.ext) C0 a1) (fun B2 J2 H0=>?_);obtain⟨g2,n2,rfl,J0⟩:=H0;have H:=b.join J0;obtain⟨V1,b1,hm⟩:=bS hm;refine ca z9o (z4N (Ext.refl _) (Tab.ext (hE.trans H.ext) hT) (z3L U1 ((H.bring 0 rfl).own)) b1) (fun C2 Y1 K0=>?_);obtain⟨i2,o2,rfl,M0⟩:=K0;have O:=H.join M0;refine rr 5 ?_;refine rn<|sq<|sq<|ct (fun(B0:Bool) F w9=>zV fuel i1 B0=some r∧Ext Y1 w9∧St w w9 [ow ty26 i0 i1.2 r0]∧F=[(7,sl i0 d0.1 r0),(10,.int .i64 i1.1),(87,.bool B0)]) ?_ ?_
         ·rintro B0 F K2 ⟨hm,e2,Y,rfl⟩;unfold zV at hm;refine ci hm (fun hm=>?_) (fun hm=>?_)
          ·refine sq<|rg<|rr 1 ?_;refine rn<|rt ?_;cases hm;exact⟨_,.cons (.tmp rfl) .nil,rfl,(Y.taken 0)⟩
          ·refine sp<|sq<|rg<|rr 1 ?_;refine rn<|sq<|rg<|rr 2 ?_;refine kn (u:=.slice i0 i1.2.length r0) 88 rfl (by simp only [sl,hn102]) ?_;obtain⟨q2,d1,hm⟩:=bS hm;refine ca z9m (laws_heldInt64S_ok (Ext.refl _) ((Y.bring 0 rfl).own) d1) (fun D2 L2 N0=>?_);obtain⟨rfl,O0⟩:=N0;have a0:=Y.join O0;refine rr 1 ?_;refine rn<|sq<|sq<|rg<|rr 2 ?_;refine rn<|ci hm (fun hm=>?_) (fun hm=>?_)
           ·refine sq<|rg<|rr 1 ?_;refine rn<|rt ?_;cases hm;exact⟨_,.cons (.tmp rfl) .nil,rfl,(a0.taken 0)⟩
           ·refine sp<|sq<|sq<|rg<|rr 3 ?_;refine rn<|ci hm (fun hm=>?_) (fun hm=>?_)
            ·refine sq<|rg<|rr 1 ?_;refine rn<|rt ?_;cases hm;exact⟨_,.cons (.tmp rfl) .nil,rfl,(a0.taken 0)⟩
            ·refine sp<|sq<|rg<|rr 1 ?_;refine rn<|rt ?_;cases hm;exact⟨_,.cons (.tmp rfl) .nil,rfl,(a0.taken 0)⟩
         ·refine rg<|rr 2 ?_;obtain⟨r2,e1,hm⟩:=bS hm;refine ca z6L (laws_eqInt64S_ok (Ext.refl _) ((O.bring 0 rfl).own) ((O.bring 3 rfl).own) e1) (fun E2 M2 P0=>?_);obtain⟨rfl,o⟩:=P0;have o0:=O.join o;refine rr 2 ?_;refine rb 83 hm (fun hm=>?_) (fun hm=>?_)
          ·refine rr 4 ?_;refine rn ?_;exact⟨true,_,⟨hm,o.ext,((o0.bring 2 rfl).taken 1),rfl⟩,rfl⟩
          ·refine rr 4 ?_;refine rn ?_;exact⟨(V1.2 != c0.2),_,⟨hm,o.ext,((o0.bring 2 rfl).taken 1),rfl⟩,rfl⟩
     ·refine rg<|rr 3 ?_;refine rb 51 hm (fun hm=>?_) (fun hm=>?_)
      ·refine rr 10 ?_;refine rn ?_;exact⟨true,_,⟨hm,(Ext.refl _),(g0.sel [2,4,5]),rfl⟩,rfl⟩
      ·refine rr 2 ?_;obtain⟨s2,f1,hm⟩:=bS hm;refine ca z6L (laws_eqInt64S_ok (Ext.refl _) ((g0.bring 2 rfl).own) ((g0.bring 4 rfl).own) f1) (fun F2 N2 Q0=>?_);obtain⟨rfl,y⟩:=Q0;have p0:=g0.join y;refine rr 3 ?_;refine rb 57 hm (fun hm=>?_) (fun hm=>?_)
       ·refine rr 4 ?_;refine rn ?_;exact⟨true,_,⟨hm,y.ext,(p0.sel [2,4,5]),rfl⟩,rfl⟩
       ·refine rr 4 ?_;refine rn ?_;exact⟨(d0.2 != c0.2),_,⟨hm,y.ext,(p0.sel [2,4,5]),rfl⟩,rfl⟩
  ·refine rg<|rr 2 ?_;obtain⟨u2,g1,hm⟩:=bS hm;refine ca z6L (laws_eqInt64S_ok (Ext.refl _) ((v0.bring 0 rfl).own) ((v0.bring 3 rfl).own) g1) (fun G2 O2 R0=>?_);obtain⟨rfl,G⟩:=R0;have q0:=v0.join G;refine rr 2 ?_;refine rb 36 hm (fun hm=>?_) (fun hm=>?_)
   ·refine rr 4 ?_;refine rn ?_;exact⟨true,_,⟨hm,G.ext,(q0.sel [0,1,2,3,5]),rfl⟩,rfl⟩
   ·refine rr 4 ?_;refine rn ?_;exact⟨(d0.2 != c0.2),_,⟨hm,G.ext,(q0.sel [0,1,2,3,5]),rfl⟩,rfl⟩

end Go.E


