/- Models of functions and proofs that the code runs as they say (written by program). Conditions: the model gives a value. -/
import Derived.Test.YtngggnjnenfgbaaGreatDoorFT
import Derived.Test.YtngggnjnenfgbaaGreatDoorMixed
namespace Go.E
open Go.RowKit Go.Proofs
set_option linter.unusedVariables false
set_option linter.unusedSimpArgs false
set_option maxHeartbeats 2000000
set_option maxRecDepth 100000

theorem zdS:Enters Tryz.prog 57:=⟨_,_,Tryz.func57,rfl,by kernel_rfl⟩
def z4v (fuel:Nat) (x0:(List Int)) (x1:Int):Option (Int):=(if(decide ((w64 (x1 - (x0.length:Int)))<0))=true then some (-1) else some (w64 (x1 - (x0.length:Int))))

theorem laws_szInt64S_ok {W:Base}{w:World}(hE:Ext W w){b:Option Addr}{d:Nat}{x0:(List Int)}{x1:Int}(o:ty26.ro W [sl b x0 d] x0){fuel:Nat}{r:Int}(hm:z4v fuel x0 x1=some r):
  Calls Tryz.prog 57 ⟨[sl b x0 d,.int .i64 x1]⟩ w (Ret fun v w8=>v=.int .i64 r∧St w w8 []):=by
 refine into Tryz.func57 12 _ ?_;unfold z4v at hm;have hS:=St.start w;refine sq<|rg<|rr 1 ?_;refine rn<|sq<|rg<|rr 5 ?_;refine rn<|sq<|sq<|rg<|rr 2 ?_;refine rn<|ci hm (fun hm=>?_) (fun hm=>?_)
 ·refine sq<|rg<|rr 1 ?_;refine rn<|rt ?_;cases hm;exact⟨_,.cons (.tmp rfl) .nil,rfl,hS⟩
 ·refine sp<|sq<|rg<|rr 2 ?_;refine rn<|rt ?_;cases hm;exact⟨_,.cons (.tmp rfl) .nil,rfl,hS⟩

theorem zdR:Enters Tryz.prog 58:=⟨_,_,Tryz.func58,rfl,by kernel_rfl⟩
def z4Q (fuel:Nat) (x0:(List D.Port)) (x1:Int):Option (Int):=(if(decide ((w64 (x1 - (x0.length:Int)))<0))=true then some (-1) else some (w64 (x1 - (x0.length:Int))))

theorem laws_szPortS_ok {W:Base}{w:World}(hE:Ext W w){b:Option Addr}{d:Nat}{x0:(List D.Port)}{x1:Int}(o:ty81.ro W [sl b x0 d] x0){fuel:Nat}{r:Int}(hm:z4Q fuel x0 x1=some r):
  Calls Tryz.prog 58 ⟨[sl b x0 d,.int .i64 x1]⟩ w (Ret fun v w8=>v=.int .i64 r∧St w w8 []):=by
 refine into Tryz.func58 12 _ ?_;unfold z4Q at hm;have hS:=St.start w;refine sq<|rg<|rr 1 ?_;refine rn<|sq<|rg<|rr 5 ?_;refine rn<|sq<|sq<|rg<|rr 2 ?_;refine rn<|ci hm (fun hm=>?_) (fun hm=>?_)
 ·refine sq<|rg<|rr 1 ?_;refine rn<|rt ?_;cases hm;exact⟨_,.cons (.tmp rfl) .nil,rfl,hS⟩
 ·refine sp<|sq<|rg<|rr 2 ?_;refine rn<|rt ?_;cases hm;exact⟨_,.cons (.tmp rfl) .nil,rfl,hS⟩

theorem ze2:Enters Tryz.prog 41:=⟨_,_,Tryz.func41,rfl,by kernel_rfl⟩
def z4R (fuel:Nat) (x0:D.Agent) (x1:Int):Option (Int):=((z4v fuel x0.Data x1).bind fun b=>(if(decide (b<0))=true then some (-1) else((z4Q fuel x0.Ports b).bind fun d=>(if(decide (d<0))=true then some (-1) else some d))))

theorem laws_szAgent_ok {W:Base}{w:World}(hE:Ext W w){b0:List Value}{x0:D.Agent}{x1:Int}(c0:ty83.ro W b0 x0){fuel:Nat}{r:Int}(hm:z4R fuel x0 x1=some r):
  Calls Tryz.prog 41 ⟨[.agg ⟨b0⟩,.int .i64 x1]⟩ w (Ret fun v w8=>v=.int .i64 r∧St w w8 []):=by
 obtain⟨A1,k2,A4,k5,e7,h3,h6⟩:=z7d c0;subst e7;refine into Tryz.func41 18 _ ?_;unfold z4R at hm;have hS:=St.start w;refine sq<|rg<|nw hS (fun e0 k0 d0 d=>?_);refine rr 1 ?_;refine rn<|sq<|rg<|rr 1 ?_;refine l1 ((d.bring 0 rfl).box) 3 ?_;refine rr 1 ?_;obtain⟨f0,Y,hm⟩:=bS hm;refine ca zdS (laws_szInt64S_ok (hE.trans d.ext) h3 Y) (fun i0 o0 y=>?_);obtain⟨rfl,G⟩:=y;have b:=d.join G;refine rr 1 ?_;refine rn<|sq<|sq<|rg<|rr 2 ?_;refine rn<|ci hm (fun hm=>?_) (fun hm=>?_)
 ·refine sq<|rg<|rr 1 ?_;refine rn<|rt ?_;cases hm;exact⟨_,.cons (.tmp rfl) .nil,rfl,(b.taken 0)⟩
 ·refine sp<|sq<|rg<|rr 1 ?_;refine l1 ((b.bring 0 rfl).box) 4 ?_;refine rr 1 ?_;obtain⟨g0,a0,hm⟩:=bS hm;refine ca zdR (laws_szPortS_ok (hE.trans b.ext) h6 a0) (fun j0 p0 H=>?_);obtain⟨rfl,O⟩:=H;have o:=b.join O;refine rr 1 ?_;refine rn<|sq<|sq<|rg<|rr 2 ?_;refine rn<|ci hm (fun hm=>?_) (fun hm=>?_)
  ·refine sq<|rg<|rr 1 ?_;refine rn<|rt ?_;cases hm;exact⟨_,.cons (.tmp rfl) .nil,rfl,(o.taken 0)⟩
  ·refine sp<|sq<|rg<|rr 2 ?_;refine rn<|rt ?_;cases hm;exact⟨_,.cons (.tmp rfl) .nil,rfl,(o.taken 0)⟩

theorem zee:Enters Tryz.prog 25:=⟨_,_,Tryz.func25,rfl,by kernel_rfl⟩
def z66 (fuel:Nat) (t2:Int):Option Int:=some t2
def z4g (fuel:Nat) (x0:(List D.Agent)) (s1:Int × Int):Option (Rd (Int × Int) (Int) (Int)):=(if(decide (s1.2<(x0.length:Int)))=true then((idx x0 s1.2).bind fun d=>((z4R fuel d s1.1).bind fun b=>(if(decide (b<0))=true then some (.ret (-1)) else some (.next (b,w64 (s1.2+1)))))) else some (.brk s1.1))
def z4w (fuel:Nat) (x0:(List D.Agent)) (x1:Int):Option (Int):=(if(decide ((w64 (x1 - (x0.length:Int)))<0))=true then some (-1) else((iter (z4g fuel x0) fuel (w64 (x1 - (x0.length:Int)),0)).bind fun o=>aft o (z66 fuel)))

theorem laws_szAgentS_ok {W:Base}{w:World}(hE:Ext W w){O:Option Addr}{g0:Nat}{x0:(List D.Agent)}{x1:Int}(o0:ty22.ro W [sl O x0 g0] x0){fuel:Nat}{r:Int}(hm:z4w fuel x0 x1=some r):
  Calls Tryz.prog 25 ⟨[sl O x0 g0,.int .i64 x1]⟩ w (Ret fun v w8=>v=.int .i64 r∧St w w8 []):=by
 refine into Tryz.func25 27 _ ?_;unfold z4w at hm;have hS:=St.start w;refine sq<|rg<|rr 1 ?_;refine rn<|sq<|rg<|rr 5 ?_;refine rn<|sq<|sq<|rg<|rr 2 ?_;refine rn<|ci hm (fun hm=>?_) (fun hm=>?_)
 ·refine sq<|rg<|rr 1 ?_;refine rn<|rt ?_;cases hm;exact⟨_,.cons (.tmp rfl) .nil,rfl,hS⟩
 ·refine sp<|sq<|sq<|rg<|rr 1 ?_;refine rn ?_;obtain⟨p0,c0,hm⟩:=bS hm;refine ct (fun(t2:Int) F w9=>p0=.inl t2∧Ext w w9∧St w w9 []∧F=[(1,.int .i64 t2)]) ?_ ?_
  ·rintro t2 F w7 ⟨d0,v0,a0,rfl⟩;subst d0;rw [zq] at hm;unfold z66 at hm;refine sq<|rg<|rr 2 ?_;refine rn<|rt ?_;cases hm;exact⟨_,.cons (.tmp rfl) .nil,rfl,a0⟩
  ·refine bk<|wk [0,1,5] ?_;refine it (fun(s1:Int × Int) F w9=>Ext w w9∧St w w9 []∧F=[(0,sl O x0 g0),(1,.int .i64 s1.1),(5,.int .i64 s1.2)]) c0 ⟨(Ext.refl _),hS,rfl⟩ ?_;rintro s1 F F0 _ B0 ⟨i0,d,rfl⟩ b G;unfold z4g at b;refine sq<|sq<|rg<|rr 4 ?_;refine rn<|ci b (fun b=>?_) (fun b=>?_)
   ·refine sp<|sq<|bk<|sq<|rg<|rr 2 ?_;obtain⟨H0,e0,b⟩:=bS b;refine ix (hE.trans d.ext) o0 e0 (fun C0 k0 b0 H=>?_);obtain⟨q0,y0,r0,A0,j0,t0,u0⟩:=z7d H;subst j0;refine lN (At.ext (hE.trans d.ext) b0) ?_;refine rr 1 ?_;obtain⟨D0,f0,b⟩:=bS b;refine ca ze2 (laws_szAgent_ok (hE.trans d.ext) H f0) (fun E0 G0 Y=>?_);obtain⟨rfl,o⟩:=Y;have y:=d.join o;refine rr 1 ?_;refine rn<|sq<|rg<|rr 2 ?_;refine rn<|ci b (fun b=>?_) (fun b=>?_)
    ·refine sq<|rg<|rr 1 ?_;refine rn<|rt ?_;cases b;cases G;have hm:some _=some _:=hm;cases hm;exact⟨_,.cons (.tmp rfl) .nil,rfl,y⟩
    ·refine sp<|rg<|rr 3 ?_;refine rn ?_;cases b;exact⟨_,_,rfl,⟨(i0.trans o.ext),y,rfl⟩,rfl⟩
   ·refine xt ?_;cases b;exact⟨_,_,⟨G,i0,d,rfl⟩,rfl⟩

theorem zeK:Enters Tryz.prog 7:=⟨_,_,Tryz.func7,rfl,by kernel_rfl⟩
def z5z (fuel:Nat) (x0:D.Net) (x1:Int):Option (Int):=((z4w fuel x0.Agents x1).bind fun b=>(if(decide (b<0))=true then some (-1) else some b))

theorem laws_szNet_ok {W:Base}{w:World}(hE:Ext W w){H:List Value}{x0:D.Net}{x1:Int}(O:ty24.ro W H x0){fuel:Nat}{r:Int}(hm:z5z fuel x0 x1=some r):
  Calls Tryz.prog 7 ⟨[.agg ⟨H⟩,.int .i64 x1]⟩ w (Ret fun v w8=>v=.int .i64 r∧St w w8 []):=by
 obtain⟨A1,k2,e4,h3⟩:=z8j O;subst e4;refine into Tryz.func7 12 _ ?_;unfold z5z at hm;have hS:=St.start w;refine sq<|rg<|nw hS (fun g5 w6 e7 b=>?_);refine rr 1 ?_;refine rn<|sq<|rg<|rr 1 ?_;refine l1 ((b.bring 0 rfl).box) 0 ?_;refine rr 1 ?_;obtain⟨Y,G,hm⟩:=bS hm;refine ca zee (laws_szAgentS_ok (hE.trans b.ext) h3 G) (fun a0 b0 o=>?_);obtain⟨rfl,y⟩:=o;have d:=b.join y;refine rr 1 ?_;refine rn<|sq<|sq<|rg<|rr 2 ?_;refine rn<|ci hm (fun hm=>?_) (fun hm=>?_)
 ·refine sq<|rg<|rr 1 ?_;refine rn<|rt ?_;cases hm;exact⟨_,.cons (.tmp rfl) .nil,rfl,(d.taken 0)⟩
 ·refine sp<|sq<|rg<|rr 2 ?_;refine rn<|rt ?_;cases hm;exact⟨_,.cons (.tmp rfl) .nil,rfl,(d.taken 0)⟩

theorem zdL:Enters Tryz.prog 69:=⟨_,_,Tryz.func69,rfl,by kernel_rfl⟩
def z64 (fuel:Nat) (b:(List Int)):Option (List Int):=some b
def z4e (fuel:Nat) (x0:(List Int)) (b:Int × (List Int)):Option (Rd (Int × (List Int)) ((List Int)) ((List Int))):=(if(decide (b.1<(x0.length:Int)))=true then((idx x0 b.1).bind fun d=>(if decide (0≤b.1∧b.1.toNat<b.2.length)=true then some (.next (w64 (b.1+1),(b.2.set b.1.toNat d))) else none)) else some (.brk b.2))
def z4t (fuel:Nat) (x0:(List Int)):Option ((List Int)):=(if decide (0≤(x0.length:Int)∧(x0.length:Int)≤4294967296)=true then((iter (z4e fuel x0) fuel (0,(List.replicate (x0.length:Int).toNat (0:Int)))).bind fun o=>aft o (z64 fuel)) else none)

theorem laws_toInt64S_ok {W:Base}{w:World}(hE:Ext W w){H:Option Addr}{o0:Nat}{x0:(List Int)}(u0:ty26.ro W [sl H x0 o0] x0){fuel:Nat}{r:(List Int)}(hm:z4t fuel x0=some r):
  Calls Tryz.prog 69 ⟨[sl H x0 o0]⟩ w (Ret fun v w8=>∃ A0 k0,v=sl A0 r k0∧St w w8 [ow ty26 A0 r k0]):=by
 refine into Tryz.func69 22 _ ?_;unfold z4t at hm;have hS:=St.start w;refine sq<|rg<|rr 1 ?_;refine rn<|sq<|rg<|rr 2 ?_;obtain⟨y0,hm⟩:=iS hm;have hz7:=of_decide_eq_true y0;refine mS (U:=tInt) (0:Int) hS hz7 (fun _=>⟨rfl,rfl⟩) (fun A2 k3 w4 e5 v0=>?_);refine rr 1 ?_;refine rn<|sq<|sq<|rg<|rr 1 ?_;refine rn ?_;obtain⟨B0,e0,hm⟩:=bS hm;refine ct (fun(q0:(List Int)) F w9=>B0=.inl q0∧St w w9 [Own ty26 [sl A2 (List.replicate (x0.length:Int).toNat (0:Int)) k3] q0]∧F=[(3,sl A2 (List.replicate (x0.length:Int).toNat (0:Int)) k3)]) ?_ ?_
 ·rintro q0 F E0 ⟨f0,y,rfl⟩;subst f0;rw [zq] at hm;unfold z64 at hm;refine sq<|rg<|rr 2 ?_;refine rn<|rt ?_;cases hm;have hn18:=(y.bring 0 rfl).lenEq;have O:=(y.bring 0 rfl).reLen hn18;exact⟨_,.cons (.tmp rfl) .nil,A2,k3,(by first | (simp only [sl,hn18];done) | (simp only [sl,hn18];rfl)),O⟩
 ·refine bk<|wk [0,3,4] ?_;refine it (fun(p0:Int × (List Int)) F w9=>St w w9 [Own ty26 [sl A2 (List.replicate (x0.length:Int).toNat (0:Int)) k3] p0.2]∧F=[(0,sl H x0 o0),(3,sl A2 (List.replicate (x0.length:Int).toNat (0:Int)) k3),(4,.int .i64 p0.1)]) e0 ⟨v0,rfl⟩ ?_;rintro p0 F F0 _ C0 ⟨d,rfl⟩ b g0;unfold z4e at b;refine sq<|sq<|rg<|rr 4 ?_;refine rn<|ci b (fun b=>?_) (fun b=>?_)
  ·refine sp<|sq<|bk<|rg<|rr 4 ?_;obtain⟨r0,j0,b⟩:=bS b;refine ix (hE.trans d.ext) u0 j0 (fun D0 t0 c0 i0=>?_);cases i0;refine l1 (At.ext (hE.trans d.ext) c0) 0 ?_;have G:=d.bring 0 rfl;obtain⟨d0,b⟩:=iS b;have o:=of_decide_eq_true d0;refine io G o.1 o.2 (fun q34 hq35=>?_);have Y:=G.flat (T:=tInt) (cs:=[.int .i64 r0]) (x:=r0) ⟨rfl,rfl⟩;have a0:=Y.bring 1 rfl;refine se a0 o.2 hq35 (fun G0 b0=>?_);refine rn<|rg<|rr 3 ?_;refine rn ?_;cases b;exact⟨_,_,rfl,⟨b0,rfl⟩,rfl⟩
  ·refine xt ?_;cases b;exact⟨_,_,⟨g0,d,rfl⟩,rfl⟩

theorem zdr:Enters Tryz.prog 92:=⟨_,_,Tryz.func92,rfl,by kernel_rfl⟩
def z5i (fuel:Nat) (x0:D.Port):Option (D.Port):=some (⟨x0.Agent,x0.Slot⟩:D.Port)

theorem laws_toPort_ok {W:Base}{w:World}(hE:Ext W w){a0:List Value}{x0:D.Port}(b0:zbw.ro W a0 x0){fuel:Nat}{r:D.Port}(hm:z5i fuel x0=some r):
  Calls Tryz.prog 92 ⟨[.agg ⟨a0⟩]⟩ w (Ret fun v w8=>v=.agg ⟨[.int .i64 r.Agent,.int .i64 r.Slot]⟩∧St w w8 []):=by
 have e1:=z94 b0;subst e1;refine into Tryz.func92 11 _ ?_;unfold z5i at hm;have hS:=St.start w;refine sq<|rg<|nw hS (fun g2 w3 e4 c0=>?_);refine nw c0 (fun g6 w7 d0 G=>?_);refine rn<|sq<|rg<|nw G (fun f0 g0 e0 b=>?_);refine rn<|sq<|rg<|rr 1 ?_;refine l1 ((b.bring 2 rfl).box) 0 ?_;refine rr 1 ?_;have H:=b.bring 0 rfl;refine so (A:=[]) H 0 (fun i0 d=>?_);refine rn<|sq<|rg<|rr 1 ?_;refine l1 ((d.bring 2 rfl).box) 1 ?_;refine rr 1 ?_;have O:=d.bring 0 rfl;refine so (A:=[]) O 1 (fun j0 o=>?_);refine rn<|sq<|rg<|lN ((o.bring 0 rfl).box) ?_;have Y:=o.bring 1 rfl;refine so (A:=[]) Y 0 (fun k0 y=>?_);refine rn<|rt ?_;cases hm;exact⟨_,.cons (ra ((y.bring 0 rfl).box)) .nil,rfl,(y.taken 0)⟩

theorem zdK:Enters Tryz.prog 70:=⟨_,_,Tryz.func70,rfl,by kernel_rfl⟩
def z6o (fuel:Nat) (b:(List D.Port)):Option (List D.Port):=some b
def z4C (fuel:Nat) (x0:(List D.Port)) (b:Int × (List D.Port)):Option (Rd (Int × (List D.Port)) ((List D.Port)) ((List D.Port))):=(if(decide (b.1<(x0.length:Int)))=true then((idx x0 b.1).bind fun o=>((z5i fuel o).bind fun d=>(if decide (0≤b.1∧b.1.toNat<b.2.length)=true then some (.next (w64 (b.1+1),(b.2.set b.1.toNat d))) else none))) else some (.brk b.2))
def z4O (fuel:Nat) (x0:(List D.Port)):Option ((List D.Port)):=(if decide (0≤(x0.length:Int)∧(x0.length:Int)≤4294967296)=true then((iter (z4C fuel x0) fuel (0,(List.replicate (x0.length:Int).toNat (⟨(0:Int),(0:Int)⟩:D.Port)))).bind fun o=>aft o (z6o fuel)) else none)

theorem laws_toPortS_ok {W:Base}{w:World}(hE:Ext W w){O:Option Addr}{t0:Nat}{x0:(List D.Port)}(C0:ty81.ro W [sl O x0 t0] x0){fuel:Nat}{r:(List D.Port)}(hm:z4O fuel x0=some r):
  Calls Tryz.prog 70 ⟨[sl O x0 t0]⟩ w (Ret fun v w8=>∃ A0 k0,v=sl A0 r k0∧St w w8 [ow ty65 A0 r k0]):=by
 refine into Tryz.func70 23 _ ?_;unfold z4O at hm;have hS:=St.start w;refine sq<|rg<|rr 1 ?_;refine rn<|sq<|rg<|rr 2 ?_;obtain⟨E0,hm⟩:=iS hm;have hz7:=of_decide_eq_true E0;refine mS (U:=ty87) (⟨(0:Int),(0:Int)⟩:D.Port) hS hz7 (fun _=>(z8i (c:=(⟨(0:Int),(0:Int)⟩:D.Port)) rfl)) (fun A2 k3 w4 e5 D0=>?_);refine rr 1 ?_;refine rn<|sq<|sq<|rg<|rr 1 ?_;refine rn ?_;obtain⟨F0,j0,hm⟩:=bS hm;refine ct (fun(v0:(List D.Port)) F w9=>F0=.inl v0∧St w w9 [Own ty65 [sl A2 (List.replicate (x0.length:Int).toNat (⟨(0:Int),(0:Int)⟩:D.Port)) k3] v0]∧F=[(3,sl A2 (List.replicate (x0.length:Int).toNat (⟨(0:Int),(0:Int)⟩:D.Port)) k3)]) ?_ ?_
 ·rintro v0 F M0 ⟨o0,y,rfl⟩;subst o0;rw [zq] at hm;unfold z6o at hm;refine sq<|rg<|rr 2 ?_;refine rn<|rt ?_;cases hm;have hn18:=(y.bring 0 rfl).lenEq;have b0:=(y.bring 0 rfl).reLen hn18;exact⟨_,.cons (.tmp rfl) .nil,A2,k3,(by first | (simp only [sl,hn18];done) | (simp only [sl,hn18];rfl)),b0⟩
 ·refine bk<|wk [0,3,4] ?_;refine it (fun(u0:Int × (List D.Port)) F w9=>St w w9 [Own ty65 [sl A2 (List.replicate (x0.length:Int).toNat (⟨(0:Int),(0:Int)⟩:D.Port)) k3] u0.2]∧F=[(0,sl O x0 t0),(3,sl A2 (List.replicate (x0.length:Int).toNat (⟨(0:Int),(0:Int)⟩:D.Port)) k3),(4,.int .i64 u0.1)]) j0 ⟨D0,rfl⟩ ?_;rintro u0 F N0 _ H0 ⟨d,rfl⟩ b p0;unfold z4C at b;refine sq<|sq<|rg<|rr 4 ?_;refine rn<|ci b (fun b=>?_) (fun b=>?_)
  ·refine sp<|sq<|bk<|rg<|rr 4 ?_;obtain⟨Q0,q0,b⟩:=bS b;refine ix (hE.trans d.ext) C0 q0 (fun J0 B0 g0 H=>?_);have y0:=z94 H;subst y0;refine lN (At.ext (hE.trans d.ext) g0) ?_;obtain⟨G0,r0,b⟩:=bS b;refine ca zdr (laws_toPort_ok (hE.trans d.ext) H r0) (fun K0 O0 Y=>?_);obtain⟨rfl,a0⟩:=Y;have c0:=d.join a0;have G:=c0.bring 0 rfl;obtain⟨i0,b⟩:=iS b;have o:=of_decide_eq_true i0;refine io G o.1 o.2 (fun q42 hq43=>?_);have d0:=z92 (c:=G0) (B:=_) G;have e0:=d0.bring 1 rfl;refine se e0 o.2 hq43 (fun P0 f0=>?_);refine rn<|rg<|rr 3 ?_;refine rn ?_;cases b;exact⟨_,_,rfl,⟨f0,rfl⟩,rfl⟩
  ·refine xt ?_;cases b;exact⟨_,_,⟨p0,d,rfl⟩,rfl⟩

theorem zdZ:Enters Tryz.prog 45:=⟨_,_,Tryz.func45,rfl,by kernel_rfl⟩
def z4P (fuel:Nat) (x0:D.Agent):Option (D.Agent):=((z4t fuel x0.Data).bind fun b=>((z4O fuel x0.Ports).bind fun d=>some (⟨x0.Kind,x0.Level,x0.Value,b,d⟩:D.Agent)))

theorem laws_toAgent_ok {W:Base}{w:World}(hE:Ext W w){v0:List Value}{x0:D.Agent}(C0:ty83.ro W v0 x0){fuel:Nat}{r:D.Agent}(hm:z4P fuel x0=some r):
  Calls Tryz.prog 45 ⟨[.agg ⟨v0⟩]⟩ w (Ret fun v w8=>∃ A0 k0 A1 k1,v=.agg ⟨[.int .i64 r.Kind,.int .i64 r.Level,.int .i64 r.Value,sl A0 r.Data k0,sl A1 r.Ports k1]⟩∧St w w8 [ow ty26 A0 r.Data k0,ow ty65 A1 r.Ports k1]):=by
 obtain⟨A1,k2,A4,k5,e7,h3,h6⟩:=z7d C0;subst e7;refine into Tryz.func45 22 _ ?_;unfold z4P at hm;have hS:=St.start w;refine sq<|rg<|nw hS (fun J0 R0 F0 d0=>?_);refine nw d0 (fun K0 S0 G0 e0=>?_);refine rn<|sq<|rg<|nw e0 (fun M0 T0 H0 o=>?_);refine rn<|sq<|rg<|rr 1 ?_;refine l1 ((o.bring 2 rfl).box) 0 ?_;refine rr 1 ?_;have f0:=o.bring 0 rfl;refine so (A:=[]) f0 0 (fun U0 y=>?_);refine rn<|sq<|rg<|rr 1 ?_;refine l1 ((y.bring 2 rfl).box) 1 ?_;refine rr 1 ?_;have g0:=y.bring 0 rfl;refine so (A:=[]) g0 1 (fun V0 G=>?_);refine rn<|sq<|rg<|rr 1 ?_;refine l1 ((G.bring 2 rfl).box) 2 ?_;refine rr 1 ?_;have i0:=G.bring 0 rfl;refine so (A:=[]) i0 2 (fun X0 b=>?_);refine rn<|sq<|rg<|rr 1 ?_;refine l1 ((b.bring 2 rfl).box) 3 ?_;obtain⟨N0,t0,hm⟩:=bS hm;refine ca zdL (laws_toInt64S_ok (hE.trans b.ext) h3 t0) (fun P0 Y0 Y=>?_);obtain⟨y0,D0,rfl,a0⟩:=Y;have j0:=b.join a0;refine rr 1 ?_;have o0:=j0.bring 1 rfl;refine so (A:=[]) o0 3 (fun a1 d=>?_);refine rn<|sq<|rg<|rr 1 ?_;refine l1 ((d.bring 3 rfl).box) 4 ?_;obtain⟨O0,u0,hm⟩:=bS hm;refine ca zdK (laws_toPortS_ok (hE.trans d.ext) h6 u0) (fun Q0 b1 b0=>?_);obtain⟨B0,E0,rfl,c0⟩:=b0;have p0:=d.join c0;refine rr 1 ?_;have q0:=p0.bring 1 rfl;refine so (A:=[]) q0 4 (fun d1 H=>?_);refine rn<|sq<|rg<|lN ((H.bring 0 rfl).box) ?_;have r0:=H.bring 3 rfl;refine so (A:=[]) r0 0 (fun e1 O=>?_);refine rn<|rt ?_;cases hm;exact⟨_,.cons (ra ((O.bring 0 rfl).box)) .nil,y0,D0,B0,E0,rfl,(((O.bring 2 rfl).bring 3 rfl).taken 2)⟩

theorem zeb:Enters Tryz.prog 29:=⟨_,_,Tryz.func29,rfl,by kernel_rfl⟩
def z65 (fuel:Nat) (b:(List D.Agent)):Option (List D.Agent):=some b
def z4f (fuel:Nat) (x0:(List D.Agent)) (b:Int × (List D.Agent)):Option (Rd (Int × (List D.Agent)) ((List D.Agent)) ((List D.Agent))):=(if(decide (b.1<(x0.length:Int)))=true then((idx x0 b.1).bind fun o=>((z4P fuel o).bind fun d=>(if decide (0≤b.1∧b.1.toNat<b.2.length)=true then some (.next (w64 (b.1+1),(b.2.set b.1.toNat d))) else none))) else some (.brk b.2))
def z4u (fuel:Nat) (x0:(List D.Agent)):Option ((List D.Agent)):=(if decide (0≤(x0.length:Int)∧(x0.length:Int)≤4294967296)=true then((iter (z4f fuel x0) fuel (0,(List.replicate (x0.length:Int).toNat (⟨(0:Int),(0:Int),(0:Int),([]:(List Int)),([]:(List D.Port))⟩:D.Agent)))).bind fun o=>aft o (z65 fuel)) else none)

theorem laws_toAgentS_ok {W:Base}{w:World}(hE:Ext W w){O:Option Addr}{v0:Nat}{x0:(List D.Agent)}(E0:ty22.ro W [sl O x0 v0] x0){fuel:Nat}{r:(List D.Agent)}(hm:z4u fuel x0=some r):
  Calls Tryz.prog 29 ⟨[sl O x0 v0]⟩ w (Ret fun v w8=>∃ A0 k0,v=sl A0 r k0∧St w w8 [ow ty29 A0 r k0]):=by
 refine into Tryz.func29 23 _ ?_;unfold z4u at hm;have hS:=St.start w;refine sq<|rg<|rr 1 ?_;refine rn<|sq<|rg<|rr 2 ?_;obtain⟨G0,hm⟩:=iS hm;have hz7:=of_decide_eq_true G0;refine mS (U:=ty67) (⟨(0:Int),(0:Int),(0:Int),([]:(List Int)),([]:(List D.Port))⟩:D.Agent) hS hz7 (fun _=>(z9T (c:=(⟨(0:Int),(0:Int),(0:Int),([]:(List Int)),([]:(List D.Port))⟩:D.Agent)) ⟨[],[],rfl,(slNilOwn tInt 2 _),⟨[],[],rfl,(slNilOwn ty87 87 _),rfl⟩⟩)) (fun A2 k3 w4 e5 F0=>?_);refine rr 1 ?_;refine rn<|sq<|sq<|rg<|rr 1 ?_;refine rn ?_;obtain⟨H0,p0,hm⟩:=bS hm;refine ct (fun(B0:(List D.Agent)) F w9=>H0=.inl B0∧St w w9 [Own ty29 [.slice A2 (List.replicate (x0.length:Int).toNat (⟨(0:Int),(0:Int),(0:Int),([]:(List Int)),([]:(List D.Port))⟩:D.Agent)).length k3] B0]∧F=[(3,.slice A2 (List.replicate (x0.length:Int).toNat (⟨(0:Int),(0:Int),(0:Int),([]:(List Int)),([]:(List D.Port))⟩:D.Agent)).length k3)]) ?_ ?_
 ·rintro B0 F a1 ⟨q0,y,rfl⟩;subst q0;rw [zq] at hm;unfold z65 at hm;refine sq<|rg<|rr 2 ?_;refine rn<|rt ?_;cases hm;have hn18:=(y.bring 0 rfl).lenEq;have b0:=(y.bring 0 rfl).reLen hn18;exact⟨_,.cons (.tmp rfl) .nil,A2,k3,(by first | (simp only [sl,hn18];done) | (simp only [sl,hn18];rfl)),b0⟩
 ·refine bk<|wk [0,3,4] ?_;refine it (fun(y0:Int × (List D.Agent)) F w9=>St w w9 [Own ty29 [.slice A2 (List.replicate (x0.length:Int).toNat (⟨(0:Int),(0:Int),(0:Int),([]:(List Int)),([]:(List D.Port))⟩:D.Agent)).length k3] y0.2]∧F=[(0,sl O x0 v0),(3,.slice A2 (List.replicate (x0.length:Int).toNat (⟨(0:Int),(0:Int),(0:Int),([]:(List Int)),([]:(List D.Port))⟩:D.Agent)).length k3),(4,.int .i64 y0.1)]) p0 ⟨F0,rfl⟩ ?_;rintro y0 F b1 _ V0 ⟨d,rfl⟩ b r0;unfold z4f at b;refine sq<|sq<|rg<|rr 4 ?_;refine rn<|ci b (fun b=>?_) (fun b=>?_)
  ·refine sp<|sq<|bk<|rg<|rr 4 ?_;obtain⟨f1,t0,b⟩:=bS b;refine ix (hE.trans d.ext) E0 t0 (fun X0 D0 j0 H=>?_);obtain⟨K0,R0,M0,S0,C0,P0,Q0⟩:=z7d H;subst C0;refine lN (At.ext (hE.trans d.ext) j0) ?_;obtain⟨J0,u0,b⟩:=bS b;refine ca zdZ (laws_toAgent_ok (hE.trans d.ext) H u0) (fun Y0 d1 Y=>?_);obtain⟨N0,T0,O0,U0,rfl,a0⟩:=Y;have c0:=d.join a0;have G:=c0.bring 2 rfl;obtain⟨o0,b⟩:=iS b;have o:=of_decide_eq_true o0;refine io G o.1 o.2 (fun q52 hq53=>?_);have d0:=G.bring 2 rfl;have e0:=d0.bring 2 rfl;have f0:=z93 (c:=J0) (B:=_) e0;have g0:=f0.bring 1 rfl;refine se g0 o.2 hq53 (fun e1 i0=>?_);refine rn<|rg<|rr 3 ?_;refine rn ?_;cases b;exact⟨_,_,rfl,⟨i0,rfl⟩,rfl⟩
  ·refine xt ?_;cases b;exact⟨_,_,⟨r0,d,rfl⟩,rfl⟩

theorem z9F:Enters Tryz.prog 9:=⟨_,_,Tryz.func9,rfl,by kernel_rfl⟩
def z3R (fuel:Nat) (x0:D.Net):Option (D.Net):=((z4u fuel x0.Agents).bind fun b=>some (⟨b⟩:D.Net))

theorem laws_toNet_ok {W:Base}{w:World}(hE:Ext W w){d0:List Value}{x0:D.Net}(f0:ty24.ro W d0 x0){fuel:Nat}{r:D.Net}(hm:z3R fuel x0=some r):
  Calls Tryz.prog 9 ⟨[.agg ⟨d0⟩]⟩ w (Ret fun v w8=>∃ A0 k0,v=.agg ⟨[sl A0 r.Agents k0]⟩∧St w w8 [ow ty29 A0 r.Agents k0]):=by
 obtain⟨A1,k2,e4,h3⟩:=z8j f0;subst e4;refine into Tryz.func9 9 _ ?_;unfold z3R at hm;have hS:=St.start w;refine sq<|rg<|nw hS (fun g5 w6 e7 H=>?_);refine nw H (fun o0 t0 i0 O=>?_);refine rn<|sq<|rg<|nw O (fun p0 u0 j0 b=>?_);refine rn<|sq<|rg<|rr 1 ?_;refine l1 ((b.bring 2 rfl).box) 0 ?_;obtain⟨q0,c0,hm⟩:=bS hm;refine ca zeb (laws_toAgentS_ok (hE.trans b.ext) h3 c0) (fun r0 v0 y=>?_);obtain⟨e0,g0,rfl,G⟩:=y;have Y:=b.join G;refine rr 1 ?_;have a0:=Y.bring 1 rfl;refine so (A:=[]) a0 0 (fun y0 d=>?_);refine rn<|sq<|rg<|lN ((d.bring 0 rfl).box) ?_;have b0:=d.bring 2 rfl;refine so (A:=[]) b0 0 (fun B0 o=>?_);refine rn<|rt ?_;cases hm;exact⟨_,.cons (ra ((o.bring 0 rfl).box)) .nil,e0,g0,rfl,((o.bring 2 rfl).taken 1)⟩

theorem z8e:Enters Tryz.prog 11:=⟨_,_,Tryz.func11,rfl,by kernel_rfl⟩
def z67 (fuel:Nat) (t2:Unit):Option Bool:=some true
def z4h (fuel:Nat) (x0:(List Int)) (x1:(List Int)) (s1:Int):Option (Rd (Int) (Unit) (Bool)):=(if(decide (s1<(x0.length:Int)))=true then((idx x0 s1).bind fun b=>((idx x1 s1).bind fun d=>(if(b != d)=true then some (.ret false) else some (.next (w64 (s1+1)))))) else some (.brk ()))
def z1M (fuel:Nat) (x0:(List Int)) (x1:(List Int)):Option (Bool):=(if((x0.length:Int) != (x1.length:Int))=true then some false else((iter (z4h fuel x0 x1) fuel 0).bind fun o=>aft o (z67 fuel)))

theorem laws_eqInt64S_ok {W:Base}{w:World}(hE:Ext W w){H:Option Addr}{j0:Nat}{x0:(List Int)}{O:Option Addr}{k0:Nat}{x1:(List Int)}(r0:ty26.ro W [sl H x0 j0] x0) (t0:ty26.ro W [sl O x1 k0] x1){fuel:Nat}{r:Bool}(hm:z1M fuel x0 x1=some r):
  Calls Tryz.prog 11 ⟨[sl H x0 j0,sl O x1 k0]⟩ w (Ret fun v w8=>v=.bool r∧St w w8 []):=by
 refine into Tryz.func11 26 _ ?_;unfold z1M at hm;have hS:=St.start w;refine sq<|rg<|rr 1 ?_;refine rn<|sq<|sq<|rg<|rr 5 ?_;refine rn<|ci hm (fun hm=>?_) (fun hm=>?_)
 ·refine sq<|rg<|rr 1 ?_;refine rn<|rt ?_;cases hm;exact⟨_,.cons (.tmp rfl) .nil,rfl,hS⟩
 ·refine sp<|sq<|sq<|rg<|rr 1 ?_;refine rn ?_;obtain⟨u0,c0,hm⟩:=bS hm;refine ct (fun(t2:Unit) F w9=>u0=.inl t2∧Ext w w9∧St w w9 []∧F=[]) ?_ ?_
  ·rintro t2 F w7 ⟨d0,v0,Y,rfl⟩;subst d0;rw [zq] at hm;unfold z67 at hm;refine sq<|rg<|rr 1 ?_;refine rn<|rt ?_;cases hm;exact⟨_,.cons (.tmp rfl) .nil,rfl,Y⟩
  ·refine bk<|wk [0,1,5] ?_;refine it (fun(s1:Int) F w9=>Ext w w9∧St w w9 []∧F=[(0,sl H x0 j0),(1,sl O x1 k0),(5,.int .i64 s1)]) c0 ⟨(Ext.refl _),hS,rfl⟩ ?_;rintro s1 F C0 _ y0 ⟨o0,d,rfl⟩ b G;unfold z4h at b;refine sq<|sq<|rg<|rr 4 ?_;refine rn<|ci b (fun b=>?_) (fun b=>?_)
   ·refine sp<|sq<|bk<|sq<|dn 0 mixed 9 [([],511),([],511),([0,1],508),([2],507),([],511),([],511),([4,5],463),([6],447),([3,7],375)] d.ext (fun o=>?_);have y:=d.step (Ext.draw _);refine dr 5 o [0,1,4,5] ?_;obtain⟨D0,g0,b⟩:=bS b;refine dx (hE.trans d.ext) o 2 r0 g0 (fun A0 p0 a0 e0=>?_);cases e0;refine dl o 3 (At.ext (hE.trans d.ext) a0) 0 ?_;obtain⟨E0,i0,b⟩:=bS b;refine dx (hE.trans d.ext) o 6 t0 i0 (fun B0 q0 b0 f0=>?_);cases f0;refine dl o 7 (At.ext (hE.trans d.ext) b0) 0 ?_;refine dr 0 o [8] ?_;refine dw [0,1,5,25] ?_;refine dd o ?_;refine ci b (fun b=>?_) (fun b=>?_)
    ·refine sq<|rg<|rr 1 ?_;refine rn<|rt ?_;cases b;cases G;have hm:some _=some _:=hm;cases hm;exact⟨_,.cons (.tmp rfl) .nil,rfl,y⟩
    ·refine sp<|rg<|rr 3 ?_;refine rn ?_;cases b;exact⟨_,_,rfl,⟨(o0.trans (Ext.draw _)),y,rfl⟩,rfl⟩
   ·refine xt ?_;cases b;exact⟨_,_,⟨G,o0,d,rfl⟩,rfl⟩

theorem zcP:Enters Tryz.prog 100:=⟨_,_,Tryz.func100,rfl,by kernel_rfl⟩
def z5j (fuel:Nat) (x0:D.Port) (x1:D.Port):Option (Bool):=(if(x0.Agent != x1.Agent)=true then some false else(if(x0.Slot != x1.Slot)=true then some false else some true))

theorem laws_eqPort_ok {W:Base}{w:World}(hE:Ext W w){d:List Value}{x0:D.Port}{o:List Value}{x1:D.Port}(y:ty87.ro W d x0) (G:ty87.ro W o x1){fuel:Nat}{r:Bool}(hm:z5j fuel x0 x1=some r):
  Calls Tryz.prog 100 ⟨[.agg ⟨d⟩,.agg ⟨o⟩]⟩ w (Ret fun v w8=>v=.bool r∧St w w8 []):=by
 have e1:=zS y;subst e1;have e2:=zS G;subst e2;refine into Tryz.func100 15 _ ?_;unfold z5j at hm;have hS:=St.start w;refine sq<|rg<|nw hS (fun g3 w4 e5 H=>?_);refine nw H (fun g7 Y O b=>?_);refine rr 1 ?_;refine rn<|sq<|sq<|rg<|rr 1 ?_;refine l1 ((b.bring 1 rfl).box) 0 ?_;refine rr 1 ?_;refine l1 ((b.bring 0 rfl).box) 0 ?_;refine rr 1 ?_;refine rn<|ci hm (fun hm=>?_) (fun hm=>?_)
 ·refine sq<|rg<|rr 1 ?_;refine rn<|rt ?_;cases hm;exact⟨_,.cons (.tmp rfl) .nil,rfl,(b.taken 0)⟩
 ·refine sp<|sq<|sq<|rg<|rr 1 ?_;refine l1 ((b.bring 1 rfl).box) 1 ?_;refine rr 1 ?_;refine l1 ((b.bring 0 rfl).box) 1 ?_;refine rr 1 ?_;refine rn<|ci hm (fun hm=>?_) (fun hm=>?_)
  ·refine sq<|rg<|rr 1 ?_;refine rn<|rt ?_;cases hm;exact⟨_,.cons (.tmp rfl) .nil,rfl,(b.taken 0)⟩
  ·refine sp<|sq<|rg<|rr 1 ?_;refine rn<|rt ?_;cases hm;exact⟨_,.cons (.tmp rfl) .nil,rfl,(b.taken 0)⟩

theorem zdz:Enters Tryz.prog 83:=⟨_,_,Tryz.func83,rfl,by kernel_rfl⟩
def z6p (fuel:Nat) (t2:Unit):Option Bool:=some true
def z4D (fuel:Nat) (x0:(List D.Port)) (x1:(List D.Port)) (s1:Int):Option (Rd (Int) (Unit) (Bool)):=(if(decide (s1<(x0.length:Int)))=true then((idx x0 s1).bind fun d=>((idx x1 s1).bind fun o=>((z5j fuel d o).bind fun b=>(if(!b)=true then some (.ret false) else some (.next (w64 (s1+1))))))) else some (.brk ()))
def z4T (fuel:Nat) (x0:(List D.Port)) (x1:(List D.Port)):Option (Bool):=(if((x0.length:Int) != (x1.length:Int))=true then some false else((iter (z4D fuel x0 x1) fuel 0).bind fun o=>aft o (z6p fuel)))

theorem laws_eqPortS_ok {W:Base}{w:World}(hE:Ext W w){b0:Option Addr}{q0:Nat}{x0:(List D.Port)}{c0:Option Addr}{r0:Nat}{x1:(List D.Port)}(B0:ty65.ro W [sl b0 x0 q0] x0) (C0:ty65.ro W [sl c0 x1 r0] x1){fuel:Nat}{r:Bool}(hm:z4T fuel x0 x1=some r):
  Calls Tryz.prog 83 ⟨[sl b0 x0 q0,sl c0 x1 r0]⟩ w (Ret fun v w8=>v=.bool r∧St w w8 []):=by
 refine into Tryz.func83 27 _ ?_;unfold z4T at hm;have hS:=St.start w;refine sq<|rg<|rr 1 ?_;refine rn<|sq<|sq<|rg<|rr 5 ?_;refine rn<|ci hm (fun hm=>?_) (fun hm=>?_)
 ·refine sq<|rg<|rr 1 ?_;refine rn<|rt ?_;cases hm;exact⟨_,.cons (.tmp rfl) .nil,rfl,hS⟩
 ·refine sp<|sq<|sq<|rg<|rr 1 ?_;refine rn ?_;obtain⟨D0,i0,hm⟩:=bS hm;refine ct (fun(t2:Unit) F w9=>D0=.inl t2∧Ext w w9∧St w w9 []∧F=[]) ?_ ?_
  ·rintro t2 F w7 ⟨j0,E0,e0,rfl⟩;subst j0;rw [zq] at hm;unfold z6p at hm;refine sq<|rg<|rr 1 ?_;refine rn<|rt ?_;cases hm;exact⟨_,.cons (.tmp rfl) .nil,rfl,e0⟩
  ·refine bk<|wk [0,1,5] ?_;refine it (fun(s1:Int) F w9=>Ext w w9∧St w w9 []∧F=[(0,sl b0 x0 q0),(1,sl c0 x1 r0),(5,.int .i64 s1)]) i0 ⟨(Ext.refl _),hS,rfl⟩ ?_;rintro s1 F M0 _ F0 ⟨t0,o,rfl⟩ b O;unfold z4D at b;refine sq<|sq<|rg<|rr 4 ?_;refine rn<|ci b (fun b=>?_) (fun b=>?_)
   ·refine sp<|sq<|bk<|sq<|dn 0 mixed 10 [([],1023),([],1023),([0,1],1020),([2],1019),([],1023),([],1023),([4,5],975),([6],959),([3,7],887),([8],767)] o.ext (fun d=>?_);have G:=o.step (Ext.draw _);refine dr 6 d [0,1,4,5] ?_;obtain⟨O0,k0,b⟩:=bS b;refine dx (hE.trans o.ext) d 2 B0 k0 (fun G0 y0 f0 Y=>?_);have u0:=zS Y;subst u0;refine dL d 3 (At.ext (hE.trans o.ext) f0) ?_;obtain⟨P0,o0,b⟩:=bS b;refine dx (hE.trans o.ext) d 6 C0 o0 (fun H0 A0 g0 a0=>?_);have v0:=zS a0;subst v0;refine dL d 7 (At.ext (hE.trans o.ext) g0) ?_;obtain⟨J0,p0,b⟩:=bS b;refine o1 d 8 (mc d zcP (laws_eqPort_ok (hE.trans G.ext) Y a0 p0) (fun K0 N0 d0=>?_));obtain⟨rfl,y⟩:=d0;refine⟨y.ext,?_⟩;have H:=G.join y;refine dr 0 d [9] ?_;refine dw [0,1,5,26] ?_;refine dd d ?_;refine ci b (fun b=>?_) (fun b=>?_)
    ·refine sq<|rg<|rr 1 ?_;refine rn<|rt ?_;cases b;cases O;have hm:some _=some _:=hm;cases hm;exact⟨_,.cons (.tmp rfl) .nil,rfl,H⟩
    ·refine sp<|rg<|rr 3 ?_;refine rn ?_;cases b;exact⟨_,_,rfl,⟨((t0.trans (Ext.draw _)).trans y.ext),H,rfl⟩,rfl⟩
   ·refine xt ?_;cases b;exact⟨_,_,⟨O,t0,o,rfl⟩,rfl⟩

theorem zdY:Enters Tryz.prog 49:=⟨_,_,Tryz.func49,rfl,by kernel_rfl⟩
def z4U (fuel:Nat) (x0:D.Agent) (x1:D.Agent):Option (Bool):=(if(x0.Kind != x1.Kind)=true then some false else(if(x0.Level != x1.Level)=true then some false else(if(x0.Value != x1.Value)=true then some false else((z1M fuel x0.Data x1.Data).bind fun b=>(if(!b)=true then some false else((z4T fuel x0.Ports x1.Ports).bind fun d=>(if(!d)=true then some false else some true)))))))

theorem laws_eqAgent_ok {W:Base}{w:World}(hE:Ext W w){c0:List Value}{x0:D.Agent}{d0:List Value}{x1:D.Agent}(f0:ty67.ro W c0 x0) (j0:ty67.ro W d0 x1){fuel:Nat}{r:Bool}(hm:z4U fuel x0 x1=some r):
  Calls Tryz.prog 49 ⟨[.agg ⟨c0⟩,.agg ⟨d0⟩]⟩ w (Ret fun v w8=>v=.bool r∧St w w8 []):=by
 obtain⟨A1,k2,A4,k5,e7,h3,h6⟩:=za f0;subst e7;obtain⟨k0,u0,o0,v0,e0,g0,i0⟩:=za j0;subst e0;refine into Tryz.func49 32 _ ?_;unfold z4U at hm;have hS:=St.start w;refine sq<|rg<|nw hS (fun r0 D0 p0 Y=>?_);refine nw Y (fun t0 E0 q0 b=>?_);refine rr 1 ?_;refine rn<|sq<|sq<|rg<|rr 1 ?_;refine l1 ((b.bring 1 rfl).box) 0 ?_;refine rr 1 ?_;refine l1 ((b.bring 0 rfl).box) 0 ?_;refine rr 1 ?_;refine rn<|ci hm (fun hm=>?_) (fun hm=>?_)
 ·refine sq<|rg<|rr 1 ?_;refine rn<|rt ?_;cases hm;exact⟨_,.cons (.tmp rfl) .nil,rfl,(b.taken 0)⟩
 ·refine sp<|sq<|sq<|rg<|rr 1 ?_;refine l1 ((b.bring 1 rfl).box) 1 ?_;refine rr 1 ?_;refine l1 ((b.bring 0 rfl).box) 1 ?_;refine rr 1 ?_;refine rn<|ci hm (fun hm=>?_) (fun hm=>?_)
  ·refine sq<|rg<|rr 1 ?_;refine rn<|rt ?_;cases hm;exact⟨_,.cons (.tmp rfl) .nil,rfl,(b.taken 0)⟩
  ·refine sp<|sq<|sq<|rg<|rr 1 ?_;refine l1 ((b.bring 1 rfl).box) 2 ?_;refine rr 1 ?_;refine l1 ((b.bring 0 rfl).box) 2 ?_;refine rr 1 ?_;refine rn<|ci hm (fun hm=>?_) (fun hm=>?_)
   ·refine sq<|rg<|rr 1 ?_;refine rn<|rt ?_;cases hm;exact⟨_,.cons (.tmp rfl) .nil,rfl,(b.taken 0)⟩
   ·refine sp<|sq<|sq<|rg<|rr 1 ?_;refine l1 ((b.bring 1 rfl).box) 3 ?_;refine rr 1 ?_;refine l1 ((b.bring 0 rfl).box) 3 ?_;obtain⟨y0,a0,hm⟩:=bS hm;refine ca z8e (laws_eqInt64S_ok (hE.trans b.ext) h3 g0 a0) (fun B0 F0 y=>?_);obtain⟨rfl,G⟩:=y;have d:=b.join G;refine rr 1 ?_;refine rn<|ci hm (fun hm=>?_) (fun hm=>?_)
    ·refine sq<|rg<|rr 1 ?_;refine rn<|rt ?_;cases hm;exact⟨_,.cons (.tmp rfl) .nil,rfl,(d.taken 0)⟩
    ·refine sp<|sq<|sq<|rg<|rr 1 ?_;refine l1 ((d.bring 1 rfl).box) 4 ?_;refine rr 1 ?_;refine l1 ((d.bring 0 rfl).box) 4 ?_;obtain⟨A0,b0,hm⟩:=bS hm;refine ca zdz (laws_eqPortS_ok (hE.trans d.ext) h6 i0 b0) (fun C0 G0 H=>?_);obtain⟨rfl,O⟩:=H;have o:=d.join O;refine rr 1 ?_;refine rn<|ci hm (fun hm=>?_) (fun hm=>?_)
     ·refine sq<|rg<|rr 1 ?_;refine rn<|rt ?_;cases hm;exact⟨_,.cons (.tmp rfl) .nil,rfl,(o.taken 0)⟩
     ·refine sp<|sq<|rg<|rr 1 ?_;refine rn<|rt ?_;cases hm;exact⟨_,.cons (.tmp rfl) .nil,rfl,(o.taken 0)⟩

theorem ze9:Enters Tryz.prog 31:=⟨_,_,Tryz.func31,rfl,by kernel_rfl⟩
def z68 (fuel:Nat) (t2:Unit):Option Bool:=some true
def z4i (fuel:Nat) (x0:(List D.Agent)) (x1:(List D.Agent)) (s1:Int):Option (Rd (Int) (Unit) (Bool)):=(if(decide (s1<(x0.length:Int)))=true then((idx x0 s1).bind fun d=>((idx x1 s1).bind fun o=>((z4U fuel d o).bind fun b=>(if(!b)=true then some (.ret false) else some (.next (w64 (s1+1))))))) else some (.brk ()))
def z4x (fuel:Nat) (x0:(List D.Agent)) (x1:(List D.Agent)):Option (Bool):=(if((x0.length:Int) != (x1.length:Int))=true then some false else((iter (z4i fuel x0 x1) fuel 0).bind fun o=>aft o (z68 fuel)))

theorem laws_eqAgentS_ok {W:Base}{w:World}(hE:Ext W w){b0:Option Addr}{q0:Nat}{x0:(List D.Agent)}{c0:Option Addr}{r0:Nat}{x1:(List D.Agent)}(B0:ty29.ro W [sl b0 x0 q0] x0) (C0:ty29.ro W [sl c0 x1 r0] x1){fuel:Nat}{r:Bool}(hm:z4x fuel x0 x1=some r):
  Calls Tryz.prog 31 ⟨[sl b0 x0 q0,sl c0 x1 r0]⟩ w (Ret fun v w8=>v=.bool r∧St w w8 []):=by
 refine into Tryz.func31 27 _ ?_;unfold z4x at hm;have hS:=St.start w;refine sq<|rg<|rr 1 ?_;refine rn<|sq<|sq<|rg<|rr 5 ?_;refine rn<|ci hm (fun hm=>?_) (fun hm=>?_)
 ·refine sq<|rg<|rr 1 ?_;refine rn<|rt ?_;cases hm;exact⟨_,.cons (.tmp rfl) .nil,rfl,hS⟩
 ·refine sp<|sq<|sq<|rg<|rr 1 ?_;refine rn ?_;obtain⟨D0,i0,hm⟩:=bS hm;refine ct (fun(t2:Unit) F w9=>D0=.inl t2∧Ext w w9∧St w w9 []∧F=[]) ?_ ?_
  ·rintro t2 F w7 ⟨j0,O0,e0,rfl⟩;subst j0;rw [zq] at hm;unfold z68 at hm;refine sq<|rg<|rr 1 ?_;refine rn<|rt ?_;cases hm;exact⟨_,.cons (.tmp rfl) .nil,rfl,e0⟩
  ·refine bk<|wk [0,1,5] ?_;refine it (fun(s1:Int) F w9=>Ext w w9∧St w w9 []∧F=[(0,sl b0 x0 q0),(1,sl c0 x1 r0),(5,.int .i64 s1)]) i0 ⟨(Ext.refl _),hS,rfl⟩ ?_;rintro s1 F a1 _ T0 ⟨t0,o,rfl⟩ b O;unfold z4i at b;refine sq<|sq<|rg<|rr 4 ?_;refine rn<|ci b (fun b=>?_) (fun b=>?_)
   ·refine sp<|sq<|bk<|sq<|dn 0 mixed 10 [([],1023),([],1023),([0,1],1020),([2],1019),([],1023),([],1023),([4,5],975),([6],959),([3,7],887),([8],767)] o.ext (fun d=>?_);have G:=o.step (Ext.draw _);refine dr 6 d [0,1,4,5] ?_;obtain⟨d1,k0,b⟩:=bS b;refine dx (hE.trans o.ext) d 2 B0 k0 (fun U0 y0 f0 Y=>?_);obtain⟨E0,P0,F0,Q0,u0,J0,K0⟩:=za Y;subst u0;refine dL d 3 (At.ext (hE.trans o.ext) f0) ?_;obtain⟨e1,o0,b⟩:=bS b;refine dx (hE.trans o.ext) d 6 C0 o0 (fun V0 A0 g0 a0=>?_);obtain⟨G0,R0,H0,S0,v0,M0,N0⟩:=za a0;subst v0;refine dL d 7 (At.ext (hE.trans o.ext) g0) ?_;obtain⟨X0,p0,b⟩:=bS b;refine o1 d 8 (mc d zdY (laws_eqAgent_ok (hE.trans G.ext) Y a0 p0) (fun Y0 b1 d0=>?_));obtain⟨rfl,y⟩:=d0;refine⟨y.ext,?_⟩;have H:=G.join y;refine dr 0 d [9] ?_;refine dw [0,1,5,26] ?_;refine dd d ?_;refine ci b (fun b=>?_) (fun b=>?_)
    ·refine sq<|rg<|rr 1 ?_;refine rn<|rt ?_;cases b;cases O;have hm:some _=some _:=hm;cases hm;exact⟨_,.cons (.tmp rfl) .nil,rfl,H⟩
    ·refine sp<|rg<|rr 3 ?_;refine rn ?_;cases b;exact⟨_,_,rfl,⟨((t0.trans (Ext.draw _)).trans y.ext),H,rfl⟩,rfl⟩
   ·refine xt ?_;cases b;exact⟨_,_,⟨O,t0,o,rfl⟩,rfl⟩

theorem zeh:Enters Tryz.prog 12:=⟨_,_,Tryz.func12,rfl,by kernel_rfl⟩
def z5A (fuel:Nat) (x0:D.Net) (x1:D.Net):Option (Bool):=((z4x fuel x0.Agents x1.Agents).bind fun b=>(if(!b)=true then some false else some true))

theorem laws_eqNet_ok {W:Base}{w:World}(hE:Ext W w){O:List Value}{x0:D.Net}{Y:List Value}{x1:D.Net}(b0:ty31.ro W O x0) (c0:ty31.ro W Y x1){fuel:Nat}{r:Bool}(hm:z5A fuel x0 x1=some r):
  Calls Tryz.prog 12 ⟨[.agg ⟨O⟩,.agg ⟨Y⟩]⟩ w (Ret fun v w8=>v=.bool r∧St w w8 []):=by
 obtain⟨A1,k2,e4,h3⟩:=zK b0;subst e4;obtain⟨A5,k6,a0,h7⟩:=zK c0;subst a0;refine into Tryz.func12 11 _ ?_;unfold z5A at hm;have hS:=St.start w;refine sq<|rg<|nw hS (fun f0 k0 d0 G=>?_);refine nw G (fun g0 o0 e0 b=>?_);refine rr 1 ?_;refine rn<|sq<|sq<|rg<|rr 1 ?_;refine l1 ((b.bring 1 rfl).box) 0 ?_;refine rr 1 ?_;refine l1 ((b.bring 0 rfl).box) 0 ?_;obtain⟨i0,H,hm⟩:=bS hm;refine ca ze9 (laws_eqAgentS_ok (hE.trans b.ext) h3 h7 H) (fun j0 p0 o=>?_);obtain⟨rfl,y⟩:=o;have d:=b.join y;refine rr 1 ?_;refine rn<|ci hm (fun hm=>?_) (fun hm=>?_)
 ·refine sq<|rg<|rr 1 ?_;refine rn<|rt ?_;cases hm;exact⟨_,.cons (.tmp rfl) .nil,rfl,(d.taken 0)⟩
 ·refine sp<|sq<|rg<|rr 1 ?_;refine rn<|rt ?_;cases hm;exact⟨_,.cons (.tmp rfl) .nil,rfl,(d.taken 0)⟩

theorem zbk:Enters Tryz.prog 14:=⟨_,_,Tryz.func14,rfl,by kernel_rfl⟩
def z5E (fuel:Nat) (t2:Int × (List Int)):Option (Int × (List Int)):=some (t2.1,t2.2)
def z3e (fuel:Nat) (x0:(List Int)) (s1:Int × Int × (List Int)):Option (Rd (Int × Int × (List Int)) (Int × (List Int)) (Int × (List Int))):=(if(decide (s1.2.1<(x0.length:Int)))=true then(if decide (0≤s1.2.1∧s1.2.1.toNat<s1.2.2.length)=true then some (.next (w64 (s1.1+1),w64 (s1.2.1+1),(s1.2.2.set s1.2.1.toNat s1.1))) else none) else some (.brk (s1.1,s1.2.2)))
def z2r (fuel:Nat) (x0:(List Int)) (x1:Int):Option (Int × (List Int)):=((iter (z3e fuel x0) fuel (x1,0,x0)).bind fun o=>aft o (z5E fuel))

theorem laws_markInt64S_ok {W:Base}{w:World}{RR:List Res}{o:Option Addr}{y:Nat}{x0:(List Int)}{x1:Int}(hS:St W w (ow ty26 o x0 y::RR)){fuel:Nat}{r:Int × (List Int)}(hm:z2r fuel x0 x1=some r):
  Calls Tryz.prog 14 ⟨[sl o x0 y,.int .i64 x1]⟩ w (Ret fun v w8=>v=.int .i64 r.1∧St W w8 (Own ty26 [sl o x0 y] r.2::RR)):=by
 refine into Tryz.func14 19 _ ?_;unfold z2r at hm;refine sq<|rg<|rr 1 ?_;refine rn<|sq<|sq<|rg<|rr 1 ?_;refine rn ?_;obtain⟨o5,f0,hm⟩:=bS hm;refine ct (fun(t2:Int × (List Int)) F w9=>o5=.inl t2∧St W w9 (Own ty26 [sl o x0 y] t2.2::RR)∧F=[(1,.int .i64 t2.1)]) ?_ ?_
 ·rintro t2 F w4 ⟨c0,e0,rfl⟩;subst c0;rw [zq] at hm;unfold z5E at hm;refine sq<|rg<|rr 2 ?_;refine rn<|rt ?_;cases hm;exact⟨_,.cons (.tmp rfl) .nil,rfl,e0⟩
 ·refine bk<|wk [0,1,5] ?_;refine it (fun(s1:Int × Int × (List Int)) F w9=>St W w9 (Own ty26 [sl o x0 y] s1.2.2::RR)∧F=[(0,sl o x0 y),(1,.int .i64 s1.1),(5,.int .i64 s1.2.1)]) f0 ⟨hS,rfl⟩ ?_;rintro s1 F i0 _ g0 ⟨G,rfl⟩ b d0;unfold z3e at b;refine sq<|sq<|rg<|rr 4 ?_;refine rn<|ci b (fun b=>?_) (fun b=>?_)
  ·refine sp<|sq<|bk<|sq<|rg<|rr 3 ?_;have H:=G.bring 0 rfl;obtain⟨b0,b⟩:=iS b;have d:=of_decide_eq_true b0;refine io H d.1 d.2 (fun q19 hq20=>?_);have O:=H.flat (T:=tInt) (cs:=[.int .i64 s1.1]) (x:=s1.1) ⟨rfl,rfl⟩;have Y:=O.bring 1 rfl;refine se Y d.2 hq20 (fun j0 a0=>?_);refine rn<|rg<|rr 3 ?_;refine rn<|rg<|rr 3 ?_;refine rn ?_;cases b;exact⟨_,_,rfl,⟨a0,rfl⟩,rfl⟩
  ·refine xt ?_;cases b;exact⟨_,_,⟨d0,G,rfl⟩,rfl⟩

theorem zdX:Enters Tryz.prog 50:=⟨_,_,Tryz.func50,rfl,by kernel_rfl⟩
def z5T (fuel:Nat) (t2:Int × (List D.Port)):Option (Int × (List D.Port)):=some (t2.1,t2.2)
def z3U (fuel:Nat) (x0:(List D.Port)) (s1:Int × Int × (List D.Port)):Option (Rd (Int × Int × (List D.Port)) (Int × (List D.Port)) (Int × (List D.Port))):=(if(decide (s1.2.1<(x0.length:Int)))=true then((idx s1.2.2 s1.2.1).bind fun b=>some (.next (w64 ((w64 (s1.1+1))+1),w64 (s1.2.1+1),(s1.2.2.set s1.2.1.toNat (⟨s1.1,w64 (s1.1+1)⟩:D.Port))))) else some (.brk (s1.1,s1.2.2)))
def z41 (fuel:Nat) (x0:(List D.Port)) (x1:Int):Option (Int × (List D.Port)):=((iter (z3U fuel x0) fuel (x1,0,x0)).bind fun o=>aft o (z5T fuel))

theorem laws_markPortS_ok {W:Base}{w:World}{RR:List Res}{d:Option Addr}{o:Nat}{x0:(List D.Port)}{x1:Int}(hS:St W w (ow ty65 d x0 o::RR)){fuel:Nat}{r:Int × (List D.Port)}(hm:z41 fuel x0 x1=some r):
  Calls Tryz.prog 50 ⟨[sl d x0 o,.int .i64 x1]⟩ w (Ret fun v w8=>v=.int .i64 r.1∧St W w8 (Own ty65 [sl d x0 o] r.2::RR)):=by
 refine into Tryz.func50 27 _ ?_;unfold z41 at hm;refine sq<|rg<|rr 1 ?_;refine rn<|sq<|sq<|rg<|rr 1 ?_;refine rn ?_;obtain⟨o5,q0,hm⟩:=bS hm;refine ct (fun(t2:Int × (List D.Port)) F w9=>o5=.inl t2∧St W w9 (Own ty65 [sl d x0 o] t2.2::RR)∧F=[(1,.int .i64 t2.1)]) ?_ ?_
 ·rintro t2 F w4 ⟨i0,p0,rfl⟩;subst i0;rw [zq] at hm;unfold z5T at hm;refine sq<|rg<|rr 2 ?_;refine rn<|rt ?_;cases hm;exact⟨_,.cons (.tmp rfl) .nil,rfl,p0⟩
 ·refine bk<|wk [0,1,5] ?_;refine it (fun(s1:Int × Int × (List D.Port)) F w9=>St W w9 (Own ty65 [sl d x0 o] s1.2.2::RR)∧F=[(0,sl d x0 o),(1,.int .i64 s1.1),(5,.int .i64 s1.2.1)]) q0 ⟨hS,rfl⟩ ?_;rintro s1 F t0 _ r0 ⟨y,rfl⟩ b j0;unfold z3U at b;refine sq<|sq<|rg<|rr 4 ?_;refine rn<|ci b (fun b=>?_) (fun b=>?_)
  ·refine sp<|sq<|bk<|sq<|rg<|rr 3 ?_;have O:=y.bring 0 rfl;obtain⟨y0,H,b⟩:=bS b;refine fo O H (fun q19 o0 hq21 Y=>?_);obtain⟨k0,a0⟩:=zbu (Y.bring 1 rfl);subst k0;refine rr 1 ?_;have b0:=a0.bring 0 rfl;refine sh b0 hq21 0 (fun u0 G=>?_);refine rn<|sq<|rg<|rr 3 ?_;refine rn<|sq<|rg<|rr 3 ?_;refine ia (G.bring 0 rfl) (z6 H).1 (fun q28 hq29=>?_);refine rr 1 ?_;have c0:=G.bring 0 rfl;refine sh c0 hq29 1 (fun v0 d0=>?_);refine rn<|rg<|rr 3 ?_;refine rn<|rg<|rr 3 ?_;refine rn ?_;have e0:=z92 (c:=(⟨s1.1,w64 (s1.1+1)⟩:D.Port)) (B:=_) d0;have f0:=e0.bring 1 rfl;have g0:=St.unfocusN f0;cases b;exact⟨_,_,rfl,⟨g0,rfl⟩,rfl⟩
  ·refine xt ?_;cases b;exact⟨_,_,⟨j0,y,rfl⟩,rfl⟩

theorem ze8:Enters Tryz.prog 32:=⟨_,_,Tryz.func32,rfl,by kernel_rfl⟩
def z5F (fuel:Nat) (t2:Int × (List D.Agent)):Option (Int × (List D.Agent)):=some (t2.1,t2.2)
def z3f (fuel:Nat) (x0:(List D.Agent)) (s1:Int × Int × (List D.Agent)):Option (Rd (Int × Int × (List D.Agent)) (Int × (List D.Agent)) (Int × (List D.Agent))):=(if(decide (s1.2.1<(x0.length:Int)))=true then((idx s1.2.2 s1.2.1).bind fun o=>((z2r fuel o.Data (w64 ((w64 ((w64 (s1.1+1))+1))+1))).bind fun b=>((z41 fuel o.Ports b.1).bind fun d=>some (.next (d.1,w64 (s1.2.1+1),(s1.2.2.set s1.2.1.toNat (⟨s1.1,w64 (s1.1+1),w64 ((w64 (s1.1+1))+1),b.2,d.2⟩:D.Agent))))))) else some (.brk (s1.1,s1.2.2)))
def z3L (fuel:Nat) (x0:(List D.Agent)) (x1:Int):Option (Int × (List D.Agent)):=((iter (z3f fuel x0) fuel (x1,0,x0)).bind fun o=>aft o (z5F fuel))

theorem laws_markAgentS_ok {W:Base}{w:World}{RR:List Res}{d0:Option Addr}{e0:Nat}{x0:(List D.Agent)}{x1:Int}(hS:St W w (ow ty29 d0 x0 e0::RR)){fuel:Nat}{r:Int × (List D.Agent)}(hm:z3L fuel x0 x1=some r):
  Calls Tryz.prog 32 ⟨[sl d0 x0 e0,.int .i64 x1]⟩ w (Ret fun v w8=>v=.int .i64 r.1∧St W w8 (Own ty29 [sl d0 x0 e0] r.2::RR)):=by
 refine into Tryz.func32 48 _ ?_;unfold z3L at hm;refine sq<|rg<|rr 1 ?_;refine rn<|sq<|sq<|rg<|rr 1 ?_;refine rn ?_;obtain⟨o5,R0,hm⟩:=bS hm;refine ct (fun(t2:Int × (List D.Agent)) F w9=>o5=.inl t2∧St W w9 (Own ty29 [sl d0 x0 e0] t2.2::RR)∧F=[(1,.int .i64 t2.1)]) ?_ ?_
 ·rintro t2 F w4 ⟨J0,Q0,rfl⟩;subst J0;rw [zq] at hm;unfold z5F at hm;refine sq<|rg<|rr 2 ?_;refine rn<|rt ?_;cases hm;exact⟨_,.cons (.tmp rfl) .nil,rfl,Q0⟩
 ·refine bk<|wk [0,1,5] ?_;refine it (fun(s1:Int × Int × (List D.Agent)) F w9=>St W w9 (Own ty29 [sl d0 x0 e0] s1.2.2::RR)∧F=[(0,sl d0 x0 e0),(1,.int .i64 s1.1),(5,.int .i64 s1.2.1)]) R0 ⟨hS,rfl⟩ ?_;rintro s1 F Y0 _ U0 ⟨f0,rfl⟩ b K0;unfold z3f at b;refine sq<|sq<|rg<|rr 4 ?_;refine rn<|ci b (fun b=>?_) (fun b=>?_)
  ·refine sp<|sq<|bk<|sq<|rg<|rr 3 ?_;have r0:=f0.bring 0 rfl;obtain⟨o,d,b⟩:=bS b;refine fo r0 d (fun q19 P0 hq21 t0=>?_);obtain⟨G,b0,H,c0,O0,u0⟩:=zbv (t0.bring 1 rfl);subst O0;refine rr 1 ?_;have v0:=u0.bring 2 rfl;refine sh v0 hq21 0 (fun a1 g0=>?_);refine rn<|sq<|rg<|rr 3 ?_;refine rn<|sq<|rg<|rr 3 ?_;refine ia (g0.bring 0 rfl) (z6 d).1 (fun q32 hq33=>?_);refine rr 1 ?_;have y0:=g0.bring 0 rfl;refine sh y0 hq33 1 (fun b1 i0=>?_);refine rn<|sq<|rg<|rr 3 ?_;refine rn<|sq<|rg<|rr 3 ?_;refine ia (i0.bring 0 rfl) (z6 d).1 (fun q37 hq38=>?_);refine rr 1 ?_;have A0:=i0.bring 0 rfl;refine sh A0 hq38 2 (fun d1 O=>?_);refine rn<|sq<|rg<|rr 3 ?_;refine rn<|sq<|rg<|rr 2 ?_;refine ia (O.bring 0 rfl) (z6 d).1 (fun q42 hq43=>?_);refine rr 1 ?_;refine l1 ((O.bring 0 rfl).hole_atN hq43) 3 ?_;refine rr 1 ?_;obtain⟨y,M0,b⟩:=bS b;refine ca zbk (laws_markInt64S_ok (W:=W) (RR:=_) (x0:=o.Data) (x1:=w64 ((w64 ((w64 (s1.1+1))+1))+1)) (O.bring 1 rfl)  M0) (fun V0 e1 p0=>?_);obtain⟨rfl,Y⟩:=p0;refine rr 1 ?_;refine rn<|rg<|rr 2 ?_;refine ia (Y.bring 1 rfl) (z6 d).1 (fun q50 hq51=>?_);refine rr 1 ?_;refine l1 ((Y.bring 1 rfl).hole_atN hq51) 4 ?_;refine rr 1 ?_;obtain⟨o0,N0,b⟩:=bS b;refine ca zdX (laws_markPortS_ok (W:=W) (RR:=_) (x0:=o.Ports) (x1:=y.1) (Y.bring 2 rfl)  N0) (fun X0 f1 q0=>?_);obtain⟨rfl,j0⟩:=q0;refine rr 1 ?_;refine rn<|rg<|rr 3 ?_;refine rn ?_;have hn58:=(j0.bring 1 rfl).lenEq;have B0:=(j0.bring 1 rfl).reLen hn58;have k0:=(B0.bring 2 rfl).reHole (es':=[.int .i64 s1.1,.int .i64 (w64 (s1.1+1)),.int .i64 (w64 ((w64 (s1.1+1))+1)),.slice G y.2.length b0,.slice H o.Ports.length c0]) (by show([.int .i64 s1.1,.int .i64 (w64 (s1.1+1)),.int .i64 (w64 ((w64 (s1.1+1))+1)),.slice G o.Data.length b0,.slice H o.Ports.length c0]:List Value)=[.int .i64 s1.1,.int .i64 (w64 (s1.1+1)),.int .i64 (w64 ((w64 (s1.1+1))+1)),.slice G y.2.length b0,.slice H o.Ports.length c0];first | (simp only [sl,hn58];done) | (simp only [sl,hn58];rfl));have hn61:=(k0.bring 2 rfl).lenEq;have C0:=(k0.bring 2 rfl).reLen hn61;have a0:=(C0.bring 1 rfl).reHole (es':=[.int .i64 s1.1,.int .i64 (w64 (s1.1+1)),.int .i64 (w64 ((w64 (s1.1+1))+1)),.slice G y.2.length b0,.slice H o0.2.length c0]) (by show([.int .i64 s1.1,.int .i64 (w64 (s1.1+1)),.int .i64 (w64 ((w64 (s1.1+1))+1)),.slice G y.2.length b0,.slice H o.Ports.length c0]:List Value)=[.int .i64 s1.1,.int .i64 (w64 (s1.1+1)),.int .i64 (w64 ((w64 (s1.1+1))+1)),.slice G y.2.length b0,.slice H o0.2.length c0];first | (simp only [sl,hn61];done) | (simp only [sl,hn61];rfl));have S0:=(show ty26.ro _ [.slice G o.Data.length b0] y.2 from(Eq.symm hn58) ▸ ((a0.bring 2 rfl).own));have T0:=(show ty65.ro _ [.slice H o.Ports.length c0] o0.2 from(Eq.symm hn61) ▸ ((a0.bring 1 rfl).own));have D0:=a0.bring 1 rfl;have E0:=D0.bring 2 rfl;have F0:=z93 (c:=(⟨s1.1,w64 (s1.1+1),w64 ((w64 (s1.1+1))+1),y.2,o0.2⟩:D.Agent)) (B:=_) E0;have G0:=F0.bring 1 rfl;have H0:=St.unfocusN G0;cases b;exact⟨_,_,rfl,⟨H0,rfl⟩,rfl⟩
  ·refine xt ?_;cases b;exact⟨_,_,⟨K0,f0,rfl⟩,rfl⟩

theorem zeg:Enters Tryz.prog 13:=⟨_,_,Tryz.func13,rfl,by kernel_rfl⟩
def z4S (fuel:Nat) (x0:D.Net) (x1:Int):Option (Int × (List D.Agent)):=((z3L fuel x0.Agents x1).bind fun r5=>some (r5.1,r5.2))

theorem laws_markNet_ok {W:Base}{w:World}{RR:List Res}{x0:D.Net}{b:Option Addr}{d:Nat}{x1:Int}(hS:St W w (ow ty29 b x0.Agents d::RR)){fuel:Nat}{r:Int × (List D.Agent)}(hm:z4S fuel x0 x1=some r):
  Calls Tryz.prog 13 ⟨[.agg ⟨[sl b x0.Agents d]⟩,.int .i64 x1]⟩ w (Ret fun v w8=>v=.int .i64 r.1∧St W w8 (Own ty29 [sl b x0.Agents d] r.2::RR)):=by
 refine into Tryz.func13 10 _ ?_;unfold z4S at hm;refine sq<|rg<|nw hS (fun g1 w2 e3 G=>?_);refine rr 1 ?_;refine rn<|sq<|rg<|rr 1 ?_;refine l1 ((G.bring 0 rfl).box) 0 ?_;refine rr 1 ?_;obtain⟨r5,H,hm⟩:=bS hm;refine ca ze8 (laws_markAgentS_ok (W:=W) (RR:=_) (x0:=x0.Agents) (x1:=x1) (G.bring 1 rfl)  H) (fun v7 O o=>?_);obtain⟨rfl,y⟩:=o;refine rr 1 ?_;refine rn<|sq<|rg<|rr 2 ?_;refine rn<|rt ?_;cases hm;exact⟨_,.cons (.tmp rfl) .nil,rfl,(y.bring 1 rfl).drop⟩

theorem zbj:Enters Tryz.prog 15:=⟨_,_,Tryz.func15,rfl,by kernel_rfl⟩
def z5G (fuel:Nat) (t2:Int):Option Int:=some t2
def z26 (fuel:Nat) (x0:(List Int)) (s1:Int × Int):Option (Rd (Int × Int) (Int) (Int)):=(if(decide (s1.2<(x0.length:Int)))=true then((idx x0 s1.2).bind fun b=>(if(b != s1.1)=true then some (.ret (-1)) else some (.next (w64 (s1.1+1),w64 (s1.2+1))))) else some (.brk s1.1))
def z2s (fuel:Nat) (x0:(List Int)) (x1:Int):Option (Int):=((iter (z26 fuel x0) fuel (x1,0)).bind fun o=>aft o (z5G fuel))

theorem laws_heldInt64S_ok {W:Base}{w:World}(hE:Ext W w){y:Option Addr}{c0:Nat}{x0:(List Int)}{x1:Int}(f0:ty26.ro W [sl y x0 c0] x0){fuel:Nat}{r:Int}(hm:z2s fuel x0 x1=some r):
  Calls Tryz.prog 15 ⟨[sl y x0 c0,.int .i64 x1]⟩ w (Ret fun v w8=>v=.int .i64 r∧St w w8 []):=by
 refine into Tryz.func15 21 _ ?_;unfold z2s at hm;have hS:=St.start w;refine sq<|rg<|rr 1 ?_;refine rn<|sq<|sq<|rg<|rr 1 ?_;refine rn ?_;obtain⟨g0,O,hm⟩:=bS hm;refine ct (fun(t2:Int) F w9=>g0=.inl t2∧Ext w w9∧St w w9 []∧F=[(1,.int .i64 t2)]) ?_ ?_
 ·rintro t2 F w7 ⟨Y,i0,G,rfl⟩;subst Y;rw [zq] at hm;unfold z5G at hm;refine sq<|rg<|rr 2 ?_;refine rn<|rt ?_;cases hm;exact⟨_,.cons (.tmp rfl) .nil,rfl,G⟩
 ·refine bk<|wk [0,1,5] ?_;refine it (fun(s1:Int × Int) F w9=>Ext w w9∧St w w9 []∧F=[(0,sl y x0 c0),(1,.int .i64 s1.1),(5,.int .i64 s1.2)]) O ⟨(Ext.refl _),hS,rfl⟩ ?_;rintro s1 F o0 _ j0 ⟨d0,d,rfl⟩ b o;unfold z26 at b;refine sq<|sq<|rg<|rr 4 ?_;refine rn<|ci b (fun b=>?_) (fun b=>?_)
  ·refine sp<|sq<|bk<|sq<|sq<|rg<|rr 2 ?_;obtain⟨p0,b0,b⟩:=bS b;refine ix (hE.trans d.ext) f0 b0 (fun k0 e0 H a0=>?_);cases a0;refine l1 (At.ext (hE.trans d.ext) H) 0 ?_;refine rr 2 ?_;refine rn<|ci b (fun b=>?_) (fun b=>?_)
   ·refine sq<|rg<|rr 1 ?_;refine rn<|rt ?_;cases b;cases o;have hm:some _=some _:=hm;cases hm;exact⟨_,.cons (.tmp rfl) .nil,rfl,d⟩
   ·refine sp<|rg<|rr 3 ?_;refine rn<|rg<|rr 3 ?_;refine rn ?_;cases b;exact⟨_,_,rfl,⟨d0,d,rfl⟩,rfl⟩
  ·refine xt ?_;cases b;exact⟨_,_,⟨o,d0,d,rfl⟩,rfl⟩

theorem ze6:Enters Tryz.prog 37:=⟨_,_,Tryz.func37,rfl,by kernel_rfl⟩
def z5c (fuel:Nat) (b:D.Core × D.l16Walk) (d:(List Int)):Option ((List Int) × D.Core × Int):=some (d,(⟨b.1.Kind,b.1.Value,b.1.Data,b.1.Kids⟩:D.Core),0)
def z2M (fuel:Nat) (d:Int × (List Int)) (b:(List Int)):Option (Rd (Int × (List Int)) ((List Int)) ((List Int) × D.Core × Int)):=some (.next (w64 (d.1+1),b))
def z2N (fuel:Nat) (b:Int × (List Int)) (d:Bool):Option (Rd (Int × (List Int)) ((List Int)) ((List Int) × D.Core × Int)):=(if d=true then(if decide ((b.2.length:Int)+(([b.1]:(List Int)).length:Int)≤4294967296)=true then z2M fuel b (b.2++([b.1]:(List Int))) else none) else z2M fuel b b.2)
def z1O (fuel:Nat) (x1:Int) (o:D.Core × D.l16Walk) (b:Int × (List Int)):Option (Rd (Int × (List Int)) ((List Int)) ((List Int) × D.Core × Int)):=(if(decide (b.1<(o.2.origins.length:Int)))=true then(if(decide (x1≥0))=true then((idx o.2.origins b.1).bind fun d=>z2N fuel b (d == x1)) else z2N fuel b false) else some (.brk b.2))
def z5d (fuel:Nat) (x0:D.Net) (x1:Int):Option ((List Int) × D.Core × Int):=((z38 fuel x0).bind fun b=>(if(b.2.code != 0)=true then some (([]:(List Int)),(⟨0,0,[],[]⟩:D.Core),b.2.code) else((iter (z1O fuel x1 b) fuel (0,([]:(List Int)))).bind fun o=>aft o (z5c fuel b))))

theorem z7V {W:Base}{w:World}(hE:Ext W w){U1:Addr}{P1:List Value}{x0:D.Net}{x1:Int}(R1:ty31.ro W P1 x0) (b2:At W U1 P1){fuel:Nat}{r:(List Int) × D.Core × Int}(hm:z5d fuel x0 x1=some r):
  Calls Tryz.prog 37 ⟨[.pointer (some U1),.int .i64 x1]⟩ w (Ret fun v w8=>∃ A0 k0 A1 k1 A2 k2,v=.tuple ⟨[sl A0 r.1 k0,.agg ⟨[.int .i64 r.2.1.Kind,.int .i64 r.2.1.Value,sl A1 r.2.1.Data k1,sl A2 r.2.1.Kids k2]⟩,.int .i64 r.2.2]⟩∧St w w8 [ow ty26 A0 r.1 k0,ow ty26 A1 r.2.1.Data k1,ow ty38 A2 r.2.1.Kids k2]):=by
 obtain⟨A1,k2,e4,h3⟩:=zK R1;subst e4;refine into Tryz.func37 56 _ ?_;unfold z5d at hm;have hS:=St.start w;refine sq<|rg<|rr 1 ?_;refine nw hS (fun g5 w6 e7 J0=>?_);refine rr 1 ?_;refine rn<|sq<|rg<|rr 1 ?_;obtain⟨d,J1,hm⟩:=bS hm;refine ca zec (z8n (hE.trans J0.ext) R1 b2 J1) (fun H2 J2 i1=>?_);obtain⟨a0,e0,b0,f0,E0,L1,u2,B0,F0,C0,G0,D0,H0,rfl,j1,d2,e2⟩:=i1;have m1:=J0.join j1;obtain⟨s2,G2,a2,D2⟩:=zK d2;subst a2;refine rr 3 ?_;refine nw m1 (fun i0 K2 v2 n1=>?_);have p1:=n1.bring 0 rfl;refine so (A:=[]) p1 0 (fun L2 c0=>?_);refine rr 1 ?_;refine rn<|sq<|sq<|rg<|rr 3 ?_;refine l1 ((c0.bring 3 rfl).box) 6 ?_;refine rr 1 ?_;refine rn<|ci hm (fun hm=>?_) (fun hm=>?_)
 ·refine sq<|dn 128 mixed 9 [([],511),([],511),([],511),([2],507),([3],503),([4],495),([0,0],510),([1,6,0,1,6],509),([5,7,0,1,2,3,4,5,6,7],479)] c0.ext (fun o=>?_);have r0:=c0.step (Ext.draw _);refine dr 6 o [2,3,4] ?_;refine dw [4,5,6,25] ?_;refine dp o 1 rfl (fun _=>qb) ?_;refine da o [0,5] (by simp) ?_;intro E2 hi55;simp only [List.mem_cons,List.not_mem_nil,or_false] at hi55
  rcases hi55 with rfl | rfl
  ·refine m0 (U:=tInt) r0 o (fun O1 T1 M2 y2 t0=>?_);refine dr 3 o [6] ?_;refine da o [5,7] (by simp) ?_;intro F2 hi62;simp only [List.mem_cons,List.not_mem_nil,or_false] at hi62
   rcases hi62 with rfl | rfl
   ·refine mq o rfl (q1 ((t0.bring 4 rfl).box) 6) ?_;have t1:=t0.bring 8 rfl;refine o1 o 7 (ms (A:=[]) t1 o 0 (fun N2 Q0=>?_));refine dr 0 o [8] ?_;refine dd o ?_;refine rt ?_;cases hm;have u1:=Q0.nilSl tInt 2;have v1:=u1.nilSl ty40 40;exact⟨_,.cons (.tmp rfl) (.cons (ra ((Q0.bring 0 rfl).box)) (.cons (.tmp rfl) .nil)),O1,T1,none,0,none,0,rfl,(v1.sel [3,1,0])⟩
   ·have y1:=t0.bring 8 rfl;refine ms (A:=[]) y1 o 0 (fun O2 u0=>?_);refine o1 o 5 (mq o rfl (q1 ((u0.bring 5 rfl).box) 6) ?_);refine dr 0 o [8] ?_;refine dd o ?_;refine rt ?_;cases hm;have B1:=u0.nilSl tInt 2;have C1:=B1.nilSl ty40 40;exact⟨_,.cons (.tmp rfl) (.cons (ra ((u0.bring 0 rfl).box)) (.cons (.tmp rfl) .nil)),O1,T1,none,0,none,0,rfl,(C1.sel [3,1,0])⟩
  ·refine mq o rfl (q1 ((r0.bring 3 rfl).box) 6) ?_;refine o1 o 0 (m0 (U:=tInt) r0 o (fun W1 g2 P2 B2 D1=>?_));refine dr 2 o [6] ?_;have E1:=D1.bring 8 rfl;refine o1 o 7 (ms (A:=[]) E1 o 0 (fun Q2 R0=>?_));refine dr 0 o [8] ?_;refine dd o ?_;refine rt ?_;cases hm;have F1:=R0.nilSl tInt 2;have G1:=F1.nilSl ty40 40;exact⟨_,.cons (.tmp rfl) (.cons (ra ((R0.bring 0 rfl).box)) (.cons (.tmp rfl) .nil)),W1,g2,none,0,none,0,rfl,(G1.sel [3,1,0])⟩
 ·refine sp<|sq<|rg<|n0 (U:=tInt) c0 (fun X1 i2 R2 C2 H1=>?_);refine rr 1 ?_;refine rn<|sq<|sq<|rg<|rr 1 ?_;refine rn ?_;obtain⟨j2,U0,hm⟩:=bS hm;refine ct (fun(f1:(List Int)) F w9=>∃ d1 e1,j2=.inl f1∧St w w9 [ow ty26 d1 f1 e1,Box i0 [.int .i64 d.1.Kind,.int .i64 d.1.Value,sl a0 d.1.Data e0,sl b0 d.1.Kids f0] 40,ow ty26 a0 d.1.Data e0,ow ty38 b0 d.1.Kids f0,Box g5 [.int .i64 0,.int .i64 0,.slice none 0 0,.slice none 0 0] 40]∧F=[(5,.pointer (some ⟨g5,0,none⟩)),(7,.pointer (some ⟨i0,0,none⟩)),(9,sl d1 f1 e1)]) ?_ ?_
  ·rintro f1 F S2 ⟨d1,e1,V0,O,rfl⟩;subst V0;rw [zq] at hm;unfold z5c at hm;refine sq<|dn 8 mixed 5 [([],31),([],31),([0,0],30),([1,2,0,1,2],29),([3,0,1,2,3],31)] O.ext (fun G=>?_);have K0:=O.step (Ext.draw _);refine dr 3 G [0,2] ?_;refine dL G 1 ((O.bring 1 rfl).box) ?_;have M0:=K0.bring 4 rfl;refine o1 G 3 (ms (A:=[]) M0 G 0 (fun n2 j0=>?_));refine dr 0 G [4] ?_;refine dd G ?_;refine rt ?_;cases hm;exact⟨_,.cons (.tmp rfl) (.cons (ra ((j0.bring 0 rfl).box)) (.cons (.tmp rfl) .nil)),d1,e1,a0,e0,b0,f0,rfl,(j0.sel [1,3,4])⟩
  ·refine bk<|wk [1,5,7,8,9,10] ?_;refine it (fun(H:Int × (List Int)) F w9=>∃ q0 v0,St w w9 [ow ty26 q0 H.2 v0,Box i0 [.int .i64 d.1.Kind,.int .i64 d.1.Value,sl a0 d.1.Data e0,sl b0 d.1.Kids f0] 40,ow ty26 a0 d.1.Data e0,ow ty38 b0 d.1.Kids f0,Box E0 [.pointer (some L1),.int .i64 d.2.steps,.int .i64 d.2.nodes,sl B0 d.2.entered F0,sl C0 d.2.origins G0,sl D0 d.2.labels H0,.int .i64 d.2.code] 55,ow ty26 B0 d.2.entered F0,ow ty26 C0 d.2.origins G0,ow ty53 D0 d.2.labels H0,Box g5 [.int .i64 0,.int .i64 0,.slice none 0 0,.slice none 0 0] 40]∧F=[(1,.int .i64 x1),(5,.pointer (some ⟨g5,0,none⟩)),(7,.pointer (some ⟨i0,0,none⟩)),(8,.pointer (some ⟨E0,0,none⟩)),(9,sl q0 H.2 v0),(10,.int .i64 H.1)]) U0 ⟨X1,i2,H1,rfl⟩ ?_;rintro H F M1 _ b1 ⟨q0,v0,y,rfl⟩ b X0;unfold z1O at b;refine sq<|sq<|rg<|rr 4 ?_;refine l1 ((y.bring 4 rfl).box) 4 ?_;refine rr 2 ?_;refine rn<|ci b (fun b=>?_) (fun b=>?_)
   ·refine sp<|sq<|bk<|sq<|ct (fun(y0:Bool) F w9=>z2N fuel H y0=some b1∧Ext M1 w9∧St w w9 [ow ty26 q0 H.2 v0,Box i0 [.int .i64 d.1.Kind,.int .i64 d.1.Value,sl a0 d.1.Data e0,sl b0 d.1.Kids f0] 40,ow ty26 a0 d.1.Data e0,ow ty38 b0 d.1.Kids f0,Box E0 [.pointer (some L1),.int .i64 d.2.steps,.int .i64 d.2.nodes,sl B0 d.2.entered F0,sl C0 d.2.origins G0,sl D0 d.2.labels H0,.int .i64 d.2.code] 55,ow ty26 B0 d.2.entered F0,ow ty26 C0 d.2.origins G0,ow ty53 D0 d.2.labels H0,Box g5 [.int .i64 0,.int .i64 0,.slice none 0 0,.slice none 0 0] 40]∧F=[(1,.int .i64 x1),(5,.pointer (some ⟨g5,0,none⟩)),(7,.pointer (some ⟨i0,0,none⟩)),(8,.pointer (some ⟨E0,0,none⟩)),(9,sl q0 H.2 v0),(10,.int .i64 H.1),(49,.bool y0)]) ?_ ?_
    ·rintro y0 F o2 ⟨b,S1,o0,rfl⟩;unfold z2N at b;refine ct (fun(g0:(List Int)) F w9=>∃ Y d0,z2M fuel H g0=some b1∧St w w9 [ow ty26 Y g0 d0,Box i0 [.int .i64 d.1.Kind,.int .i64 d.1.Value,sl a0 d.1.Data e0,sl b0 d.1.Kids f0] 40,ow ty26 a0 d.1.Data e0,ow ty38 b0 d.1.Kids f0,Box E0 [.pointer (some L1),.int .i64 d.2.steps,.int .i64 d.2.nodes,sl B0 d.2.entered F0,sl C0 d.2.origins G0,sl D0 d.2.labels H0,.int .i64 d.2.code] 55,ow ty26 B0 d.2.entered F0,ow ty26 C0 d.2.origins G0,ow ty53 D0 d.2.labels H0,Box g5 [.int .i64 0,.int .i64 0,.slice none 0 0,.slice none 0 0] 40]∧F=[(1,.int .i64 x1),(5,.pointer (some ⟨g5,0,none⟩)),(7,.pointer (some ⟨i0,0,none⟩)),(8,.pointer (some ⟨E0,0,none⟩)),(9,sl Y g0 d0),(10,.int .i64 H.1)]) ?_ ?_
     ·rintro g0 F p2 ⟨Y,d0,b,N0,rfl⟩;unfold z2M at b;refine rg<|rr 3 ?_;refine rn ?_;cases b;exact⟨_,_,rfl,⟨Y,d0,N0,rfl⟩,rfl⟩
     ·refine ci b (fun b=>?_) (fun b=>?_)
      ·refine rg<|rr 2 ?_;refine ns (o0.flatEls (U:=tInt) (els:=[.int .i64 H.1]) (ys:=[H.1]) ⟨[.int .i64 H.1],_,[],[],rfl,rfl,⟨rfl,rfl⟩,⟨rfl,rfl⟩⟩) (fun V1 f2 q2 Y1 O0=>?_);have p0:=O0.bring 1 rfl;obtain⟨T0,b⟩:=iS b;refine ap Flat.int p0 ((p0.bring 1 rfl).own) T0 (fun g1 K1 r2 P0=>?_);refine rr 1 ?_;refine rn ?_;exact⟨(H.2++([H.1]:(List Int))),_,⟨g1,K1,b,(P0.sel [0,2,3,4,5,6,7,8,9]),rfl⟩,rfl⟩
      ·refine sp ?_;exact⟨H.2,_,⟨q0,v0,b,o0,rfl⟩,rfl⟩
    ·refine rg<|rr 3 ?_;refine rb 39 b (fun b=>?_) (fun b=>?_)
     ·refine rr 3 ?_;refine l1 ((y.bring 4 rfl).box) 4 ?_;refine rr 1 ?_;obtain⟨N1,a1,b⟩:=bS b;refine ix (Ext.refl _) ((y.bring 6 rfl).own) a1 (fun m2 Q1 S0 Y0=>?_);cases Y0;refine l1 S0 0 ?_;refine rr 3 ?_;refine rn ?_;exact⟨(N1 == x1),_,⟨b,(Ext.refl _),y,rfl⟩,rfl⟩
     ·refine rr 10 ?_;refine rn ?_;exact⟨false,_,⟨b,(Ext.refl _),y,rfl⟩,rfl⟩
   ·refine xt ?_;cases b;exact⟨_,_,⟨q0,v0,X0,(y.sel [0,1,2,3,8]),rfl⟩,rfl⟩

theorem zef:Enters Tryz.prog 23:=⟨_,_,Tryz.func23,rfl,by kernel_rfl⟩
def z4s (fuel:Nat) (x0:D.Net) (x1:Int):Option ((List Int) × Int):=((z4L fuel x0 x1).bind fun b=>(if(b.2 != 0)=true then some (([]:(List Int)),b.2) else((z1P fuel x0 b.1).bind fun o=>((z5d fuel x0 o).bind fun d=>some (d.1,d.2.2)))))

theorem z81 {W:Base}{w:World}(hE:Ext W w){t0:List Value}{x0:D.Net}{x1:Int}(y:ty31.ro W t0 x0){fuel:Nat}{r:(List Int) × Int}(hm:z4s fuel x0 x1=some r):
  Calls Tryz.prog 23 ⟨[.agg ⟨t0⟩,.int .i64 x1]⟩ w (Ret fun v w8=>∃ A0 k0,v=.tuple ⟨[sl A0 r.1 k0,.int .i64 r.2]⟩∧St w w8 [ow ty26 A0 r.1 k0]):=by
 obtain⟨A1,k2,e4,h3⟩:=zK y;subst e4;refine into Tryz.func23 28 _ ?_;unfold z4s at hm;have hS:=St.start w;refine sq<|rg<|nw hS (fun g5 w6 e7 d=>?_);refine rr 2 ?_;refine rn<|sq<|rg<|rr 1 ?_;obtain⟨C0,p0,hm⟩:=bS hm;refine ca ze7 (z8p (Ext.refl _) (ty31.ext (hE.trans d.ext) y) ((d.bring 0 rfl).box) p0) (fun Q0 T0 G=>?_);obtain⟨rfl,H⟩:=G;have c0:=d.join H;refine rr 3 ?_;refine nw c0 (fun J0 U0 F0 d0=>?_);have e0:=d0.bring 0 rfl;refine so (A:=[]) e0 0 (fun V0 b=>?_);refine rr 1 ?_;refine rn<|sq<|sq<|rg<|rr 2 ?_;refine rn<|ci hm (fun hm=>?_) (fun hm=>?_)
 ·refine sq<|rg<|n0 (U:=tInt) b (fun u0 y0 X0 G0 f0=>?_);refine rr 3 ?_;refine rn<|rt ?_;cases hm;exact⟨_,.cons (.tmp rfl) (.cons (.tmp rfl) .nil),u0,y0,rfl,(f0.taken 1)⟩
 ·refine sp<|sq<|rg<|lN ((b.bring 0 rfl).box) ?_;obtain⟨O0,q0,hm⟩:=bS hm;refine ca ze5 (z78 (Ext.refl _) (ty31.ext (hE.trans b.ext) y) ((b.bring 1 rfl).box) (z9R C0.1) q0) (fun R0 Y0 O=>?_);obtain⟨rfl,Y⟩:=O;have o:=b.join Y;obtain⟨P0,r0,hm⟩:=bS hm;refine ca ze6 (z7V (Ext.refl _) (ty31.ext (hE.trans o.ext) y) ((o.bring 1 rfl).box) r0) (fun S0 a1 a0=>?_);obtain⟨v0,B0,D0,M0,E0,N0,rfl,b0⟩:=a0;have g0:=o.join b0;refine rr 4 ?_;refine nw g0 (fun K0 b1 H0 i0=>?_);refine rr 1 ?_;have j0:=i0.bring 0 rfl;refine so (A:=[]) j0 0 (fun d1 o0=>?_);refine rr 1 ?_;refine rn<|sq<|rg<|rr 4 ?_;refine rn<|rt ?_;cases hm;exact⟨_,.cons (.tmp rfl) (.cons (.tmp rfl) .nil),v0,B0,rfl,((o0.bring 1 rfl).taken 1)⟩

theorem ze3:Enters Tryz.prog 40:=⟨_,_,Tryz.func40,rfl,by kernel_rfl⟩
def z5C (fuel:Nat) (b:Option D.reading × D.Core × Int) (d:(List Int)):Option (D.Core × (List Int) × Int):=some ((⟨b.2.1.Kind,b.2.1.Value,b.2.1.Data,b.2.1.Kids⟩:D.Core),d,0)
def z43 (fuel:Nat) (d:(List Int) × Int) (b:(List Int)):Option (Rd ((List Int) × Int) ((List Int)) (D.Core × (List Int) × Int)):=some (.next (b,w64 (d.2+1)))
def z44 (fuel:Nat) (b:(List Int) × Int) (d:Bool):Option (Rd ((List Int) × Int) ((List Int)) (D.Core × (List Int) × Int)):=(if d=true then(if decide ((b.1.length:Int)+(([b.2]:(List Int)).length:Int)≤4294967296)=true then z43 fuel b (b.1++([b.2]:(List Int))) else none) else z43 fuel b b.1)
def z2L (fuel:Nat) (m25:D.reading) (o:Int) (b:(List Int) × Int):Option (Rd ((List Int) × Int) ((List Int)) (D.Core × (List Int) × Int)):=(if(decide (b.2<(m25.origins.length:Int)))=true then((idx m25.origins b.2).bind fun d=>(if(decide (o≥0))=true then z44 fuel b (d == o) else z44 fuel b false)) else some (.brk b.1))
def z5K (fuel:Nat) (x0:D.Net) (x1:D.Pair):Option (D.Core × (List Int) × Int):=((z3b fuel x0).bind fun b=>((b.1).elim (if(b.2.2 != 0)=true then some ((⟨0,0,[],[]⟩:D.Core),[],b.2.2) else((z1k fuel x0 x1).bind fun y=>none)) (fun m25=>(if(b.2.2 != 0)=true then some ((⟨0,0,[],[]⟩:D.Core),[],b.2.2) else((z1k fuel x0 x1).bind fun d=>((iter (z2L fuel m25 d) fuel ([],0)).bind fun o=>aft o (z5C fuel b)))))))

theorem z8Z {W:Base}{w:World}(hE:Ext W w){S1:List Value}{x0:D.Net}{T1:List Value}{x1:D.Pair}(hT:Tab W) (T0:ty31.ro W S1 x0) (a1:ty71.ro W T1 x1){fuel:Nat}{r:D.Core × (List Int) × Int}(hm:z5K fuel x0 x1=some r):
  Calls Tryz.prog 40 ⟨[.agg ⟨S1⟩,.agg ⟨T1⟩]⟩ w (Ret fun v w8=>∃ A0 k0 A1 k1 A2 k2,v=.tuple ⟨[.agg ⟨[.int .i64 r.1.Kind,.int .i64 r.1.Value,sl A0 r.1.Data k0,sl A1 r.1.Kids k1]⟩,sl A2 r.2.1 k2,.int .i64 r.2.2]⟩∧St w w8 [ow ty26 A0 r.1.Data k0,ow ty38 A1 r.1.Kids k1,ow ty26 A2 r.2.1 k2]):=by
 obtain⟨A1,k2,e4,h3⟩:=zK T0;subst e4;have e5:=z6g a1;subst e5;refine into Tryz.func40 50 _ ?_;unfold z5K at hm;have hS:=St.start w;refine sq<|rg<|nw hS (fun g6 w7 r2 m1=>?_);refine nw m1 (fun B2 N2 s2 n1=>?_);refine nw n1 (fun g0 O2 u2 d0=>?_);refine rr 2 ?_;refine rn<|sq<|rg<|lN ((d0.bring 2 rfl).box) ?_;obtain⟨d,M1,hm⟩:=bS hm;refine ca zea (z8M (hE.trans d0.ext) hT T0 M1) (fun K2 P2 b1=>?_)
 rcases b1 with⟨O,a0,Y,b0,Y1,rfl,d1⟩ | ⟨m25,C2,o2,F2,u0,v0,p2,G2,q2,H2,O,a0,Y,b0,a2,rfl,e1,E2⟩
 ·rw [Y1,Option.elim_none] at hm;have p1:=d0.join d1;refine rr 4 ?_;refine nw p1 (fun D2 Q2 v2 t1=>?_);refine rr 1 ?_;have u1:=t1.bring 0 rfl;refine so (A:=[]) u1 0 (fun R2 G=>?_);refine rr 1 ?_;refine rn<|sq<|sq<|rg<|rr 2 ?_;refine rn<|ci hm (fun hm=>?_) (fun hm=>?_)
  ·refine sq<|rg<|qt (qb) ?_;refine rr 1 ?_;have v1:=G.bring 3 rfl;refine so (A:=[]) v1 0 (fun S2 F0=>?_);refine rr 2 ?_;refine rn<|rt ?_;cases hm;have y1:=F0.nilSl tInt 2;have B1:=y1.nilSl ty40 40;have C1:=B1.nilSl tInt 2;exact⟨_,.cons (ra ((F0.bring 0 rfl).box)) (.cons (.tmp rfl) (.cons (.tmp rfl) .nil)),none,0,none,0,none,0,rfl,(C1.sel [2,1,0])⟩
  ·refine sp<|sq<|rg<|lN ((G.bring 4 rfl).box) ?_;obtain⟨J2,N1,hm⟩:=bS hm;refine ca zbg (z5q (Ext.refl _) (ty31.ext (hE.trans G.ext) T0) ((G.bring 5 rfl).box) (ty71.ext (hE.trans G.ext) a1) N1) (fun L2 T2 f1=>?_);obtain⟨rfl,g1⟩:=f1;have b2:=G.join g1;refine rr 1 ?_;refine rn<|sq<|rg<|rr 1 ?_;refine rn<|sq<|sq<|rg<|rr 1 ?_;cases hm
 ·rw [a2,Option.elim_some] at hm;have D1:=d0.join e1;refine rr 4 ?_;refine nw D1 (fun i0 U2 y2 E1=>?_);refine rr 1 ?_;have F1:=E1.bring 0 rfl;refine so (A:=[]) F1 0 (fun V2 H=>?_);refine rr 1 ?_;refine rn<|sq<|sq<|rg<|rr 2 ?_;refine rn<|ci hm (fun hm=>?_) (fun hm=>?_)
  ·refine sq<|rg<|qt (qb) ?_;refine rr 1 ?_;have G1:=H.bring 7 rfl;refine so (A:=[]) G1 0 (fun W2 G0=>?_);refine rr 2 ?_;refine rn<|rt ?_;cases hm;have H1:=G0.nilSl tInt 2;have J1:=H1.nilSl ty40 40;have K1:=J1.nilSl tInt 2;exact⟨_,.cons (ra ((G0.bring 0 rfl).box)) (.cons (.tmp rfl) (.cons (.tmp rfl) .nil)),none,0,none,0,none,0,rfl,(K1.sel [2,1,0])⟩
  ·refine sp<|sq<|rg<|lN ((H.bring 8 rfl).box) ?_;obtain⟨V0,O1,hm⟩:=bS hm;refine ca zbg (z5q (Ext.refl _) (ty31.ext (hE.trans H.ext) T0) ((H.bring 9 rfl).box) (ty71.ext (hE.trans H.ext) a1) O1) (fun M2 X2 i1=>?_);obtain⟨rfl,j1⟩:=i1;have H0:=H.join j1;refine rr 1 ?_;refine rn<|sq<|rg<|rr 1 ?_;refine rn<|sq<|sq<|rg<|rr 3 ?_;refine l1 ((H0.bring 1 rfl).box) 3 ?_;refine rr 2 ?_;refine rn ?_;obtain⟨e2,L1,hm⟩:=bS hm;refine ct (fun(X0:(List Int)) F w9=>∃ S0 U0,e2=.inl X0∧St w w9 [ow ty26 S0 X0 U0,Box i0 [.int .i64 d.2.1.Kind,.int .i64 d.2.1.Value,sl O d.2.1.Data a0,sl Y d.2.1.Kids b0] 40,ow ty26 O d.2.1.Data a0,ow ty38 Y d.2.1.Kids b0,Box g0 [.int .i64 0,.int .i64 0,.slice none 0 0,.slice none 0 0] 40]∧F=[(4,.pointer (some ⟨g0,0,none⟩)),(8,.pointer (some ⟨i0,0,none⟩)),(11,sl S0 X0 U0)]) ?_ ?_
   ·rintro X0 F Y2 ⟨S0,U0,N0,J0,rfl⟩;subst N0;rw [zq] at hm;unfold z5C at hm;refine sq<|rg<|lN ((J0.bring 1 rfl).box) ?_;refine rr 1 ?_;have y0:=J0.bring 4 rfl;refine so (A:=[]) y0 0 (fun g2 j0=>?_);refine rr 2 ?_;refine rn<|rt ?_;cases hm;exact⟨_,.cons (ra ((j0.bring 0 rfl).box)) (.cons (.tmp rfl) (.cons (.tmp rfl) .nil)),O,a0,Y,b0,S0,U0,rfl,(j0.sel [3,4,1])⟩
   ·refine bk ?_;have B0:=H0.nilSl tInt 2;refine wk [4,8,10,11,29,30,31] ?_;refine it (fun(o:(List Int) × Int) F w9=>∃ q0 r0,St w w9 [ow ty26 q0 o.1 r0,Box i0 [.int .i64 d.2.1.Kind,.int .i64 d.2.1.Value,sl O d.2.1.Data a0,sl Y d.2.1.Kids b0] 40,ow ty26 u0 m25.origins v0,ow ty26 O d.2.1.Data a0,ow ty38 Y d.2.1.Kids b0,Box g0 [.int .i64 0,.int .i64 0,.slice none 0 0,.slice none 0 0] 40]∧F=[(4,.pointer (some ⟨g0,0,none⟩)),(8,.pointer (some ⟨i0,0,none⟩)),(10,.int .i64 V0),(11,sl q0 o.1 r0),(29,sl u0 m25.origins v0),(30,.int .i64 (m25.origins.length:Int)),(31,.int .i64 o.2)]) L1 ⟨none,0,(B0.sel [0,1,3,6,7,8]),rfl⟩ ?_;rintro o F Q1 _ R0 ⟨q0,r0,y,rfl⟩ b O0;unfold z2L at b;refine sq<|rg<|rr 1 ?_;refine rn<|sq<|ci b (fun b=>?_) (fun b=>?_)
    ·refine sp<|sq<|bk<|sq<|rg<|rr 1 ?_;obtain⟨R1,Q0,b⟩:=bS b;refine ix (Ext.refl _) ((y.bring 2 rfl).own) Q0 (fun f2 U1 K0 P0=>?_);cases P0;refine l1 K0 0 ?_;refine rr 2 ?_;refine rn<|sq<|ct (fun(t0:Bool) F w9=>z44 fuel o t0=some R0∧Ext Q1 w9∧St w w9 [ow ty26 q0 o.1 r0,Box i0 [.int .i64 d.2.1.Kind,.int .i64 d.2.1.Value,sl O d.2.1.Data a0,sl Y d.2.1.Kids b0] 40,ow ty26 u0 m25.origins v0,ow ty26 O d.2.1.Data a0,ow ty38 Y d.2.1.Kids b0,Box g0 [.int .i64 0,.int .i64 0,.slice none 0 0,.slice none 0 0] 40]∧F=[(4,.pointer (some ⟨g0,0,none⟩)),(8,.pointer (some ⟨i0,0,none⟩)),(10,.int .i64 V0),(11,sl q0 o.1 r0),(12,.int .i64 o.2),(29,sl u0 m25.origins v0),(30,.int .i64 (m25.origins.length:Int)),(31,.int .i64 o.2),(42,.bool t0)]) ?_ ?_
     ·rintro t0 F i2 ⟨b,V1,o0,rfl⟩;unfold z44 at b;refine ct (fun(f0:(List Int)) F w9=>∃ c0 e0,z43 fuel o f0=some R0∧St w w9 [ow ty26 c0 f0 e0,Box i0 [.int .i64 d.2.1.Kind,.int .i64 d.2.1.Value,sl O d.2.1.Data a0,sl Y d.2.1.Kids b0] 40,ow ty26 u0 m25.origins v0,ow ty26 O d.2.1.Data a0,ow ty38 Y d.2.1.Kids b0,Box g0 [.int .i64 0,.int .i64 0,.slice none 0 0,.slice none 0 0] 40]∧F=[(4,.pointer (some ⟨g0,0,none⟩)),(8,.pointer (some ⟨i0,0,none⟩)),(10,.int .i64 V0),(11,sl c0 f0 e0),(29,sl u0 m25.origins v0),(30,.int .i64 (m25.origins.length:Int)),(31,.int .i64 o.2)]) ?_ ?_
      ·rintro f0 F j2 ⟨c0,e0,b,C0,rfl⟩;unfold z43 at b;refine rg<|rr 2 ?_;refine rn ?_;cases b;exact⟨_,_,rfl,⟨c0,e0,C0,rfl⟩,rfl⟩
      ·refine ci b (fun b=>?_) (fun b=>?_)
       ·refine rg<|rr 2 ?_;refine ns (o0.flatEls (U:=tInt) (els:=[.int .i64 o.2]) (ys:=[o.2]) ⟨[.int .i64 o.2],_,[],[],rfl,rfl,⟨rfl,rfl⟩,⟨rfl,rfl⟩⟩) (fun W1 d2 m2 X1 D0=>?_);have p0:=D0.bring 1 rfl;obtain⟨M0,b⟩:=iS b;refine ap Flat.int p0 ((p0.bring 1 rfl).own) M0 (fun Y0 P1 n2 E0=>?_);refine rr 1 ?_;refine rn ?_;exact⟨(o.1++([o.2]:(List Int))),_,⟨Y0,P1,b,(E0.sel [0,2,3,4,5,6]),rfl⟩,rfl⟩
       ·refine sp ?_;exact⟨o.1,_,⟨q0,r0,b,o0,rfl⟩,rfl⟩
     ·refine rg<|rr 3 ?_;refine rb 38 b (fun b=>?_) (fun b=>?_)
      ·refine rr 4 ?_;refine rn ?_;exact⟨(R1 == V0),_,⟨b,(Ext.refl _),y,rfl⟩,rfl⟩
      ·refine rr 4 ?_;refine rn ?_;exact⟨false,_,⟨b,(Ext.refl _),y,rfl⟩,rfl⟩
    ·refine xt ?_;cases b;exact⟨_,_,⟨q0,r0,O0,(y.sel [0,1,3,4,5]),rfl⟩,rfl⟩

theorem zbi:Enters Tryz.prog 24:=⟨_,_,Tryz.func24,rfl,by kernel_rfl⟩
def z3P (fuel:Nat) (x0:D.Net) (x1:Int):Option ((List Int) × Int):=((z5m fuel x0 x1).bind fun b=>(if(b.2 != 0)=true then some ([],b.2) else((z5K fuel x0 b.1).bind fun d=>some (d.2.1,d.2.2))))

theorem z6F {W:Base}{w:World}(hE:Ext W w){o0:List Value}{x0:D.Net}{x1:Int}(hT:Tab W) (o:ty31.ro W o0 x0){fuel:Nat}{r:(List Int) × Int}(hm:z3P fuel x0 x1=some r):
  Calls Tryz.prog 24 ⟨[.agg ⟨o0⟩,.int .i64 x1]⟩ w (Ret fun v w8=>∃ A0 k0,v=.tuple ⟨[sl A0 r.1 k0,.int .i64 r.2]⟩∧St w w8 [ow ty26 A0 r.1 k0]):=by
 obtain⟨A1,k2,e4,h3⟩:=zK o;subst e4;refine into Tryz.func24 28 _ ?_;unfold z3P at hm;have hS:=St.start w;refine sq<|rg<|nw hS (fun g5 w6 e7 d=>?_);refine rr 2 ?_;refine rn<|sq<|rg<|lN ((d.bring 0 rfl).box) ?_;refine rr 1 ?_;obtain⟨r0,i0,hm⟩:=bS hm;refine ca ze4 (z8Y (hE.trans d.ext) o i0) (fun G0 J0 y=>?_);obtain⟨rfl,G⟩:=y;have Y:=d.join G;refine rr 3 ?_;refine nw Y (fun B0 K0 v0 a0=>?_);have b0:=a0.bring 0 rfl;refine so (A:=[]) b0 0 (fun M0 b=>?_);refine rr 1 ?_;refine rn<|sq<|sq<|rg<|rr 2 ?_;refine rn<|ci hm (fun hm=>?_) (fun hm=>?_)
 ·refine sq<|rg<|rr 3 ?_;refine rn<|rt ?_;cases hm;have c0:=b.nilSl tInt 2;exact⟨_,.cons (.tmp rfl) (.cons (.tmp rfl) .nil),none,0,rfl,(c0.taken 1)⟩
 ·refine sp<|sq<|rg<|lN ((b.bring 1 rfl).box) ?_;refine lN ((b.bring 0 rfl).box) ?_;obtain⟨F0,j0,hm⟩:=bS hm;refine ca ze3 (z8Z (hE.trans b.ext) hT o (z9R r0.1) j0) (fun H0 N0 H=>?_);obtain⟨t0,D0,u0,E0,p0,q0,rfl,O⟩:=H;have d0:=b.join O;refine rr 4 ?_;refine nw d0 (fun C0 O0 y0 e0=>?_);have f0:=e0.bring 0 rfl;refine so (A:=[]) f0 0 (fun P0 g0=>?_);refine rr 2 ?_;refine rn<|sq<|rg<|rr 4 ?_;refine rn<|rt ?_;cases hm;exact⟨_,.cons (.tmp rfl) (.cons (.tmp rfl) .nil),p0,q0,rfl,((g0.bring 3 rfl).taken 1)⟩

end Go.E


