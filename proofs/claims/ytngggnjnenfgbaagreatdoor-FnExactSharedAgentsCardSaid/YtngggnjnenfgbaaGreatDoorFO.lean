/- Models of functions and proofs that the code runs as they say (written by program). Conditions: the model gives a value. -/
import Derived.Test.YtngggnjnenfgbaaGreatDoorFT
import Derived.Test.YtngggnjnenfgbaaGreatDoorMixed
namespace Go.E
open Go.RowKit Go.Proofs
set_option linter.unusedVariables false
set_option linter.unusedSimpArgs false
set_option maxHeartbeats 2000000
set_option maxRecDepth 100000

theorem zci:Enters Tryz.prog 57:=⟨_,_,Tryz.func57,rfl,by kernel_rfl⟩
def z3N (fuel:Nat) (x0:(List Int)) (x1:Int):Option (Int):=(if(decide ((w64 (x1 - (x0.length:Int)))<0))=true then some (-1) else some (w64 (x1 - (x0.length:Int))))

theorem laws_szInt64S_ok {W:Base}{w:World}(hE:Ext W w){b:Option Addr}{d:Nat}{x0:(List Int)}{x1:Int}(o:ty26.ro W [sl b x0 d] x0){fuel:Nat}{r:Int}(hm:z3N fuel x0 x1=some r):
  Calls Tryz.prog 57 ⟨[sl b x0 d,.int .i64 x1]⟩ w (Ret fun v w8=>v=.int .i64 r∧St w w8 []):=by
 refine into Tryz.func57 12 _ ?_;unfold z3N at hm;have hS:=St.start w;refine sq<|rg<|rr 1 ?_;refine rn<|sq<|rg<|rr 5 ?_;refine rn<|sq<|sq<|rg<|rr 2 ?_;refine rn<|ci hm (fun hm=>?_) (fun hm=>?_)
 ·refine sq<|rg<|rr 1 ?_;refine rn<|rt ?_;cases hm;exact⟨_,.cons (.tmp rfl) .nil,rfl,hS⟩
 ·refine sp<|sq<|rg<|rr 2 ?_;refine rn<|rt ?_;cases hm;exact⟨_,.cons (.tmp rfl) .nil,rfl,hS⟩

theorem zch:Enters Tryz.prog 58:=⟨_,_,Tryz.func58,rfl,by kernel_rfl⟩
def z4a (fuel:Nat) (x0:(List D.Port)) (x1:Int):Option (Int):=(if(decide ((w64 (x1 - (x0.length:Int)))<0))=true then some (-1) else some (w64 (x1 - (x0.length:Int))))

theorem laws_szPortS_ok {W:Base}{w:World}(hE:Ext W w){b:Option Addr}{d:Nat}{x0:(List D.Port)}{x1:Int}(o:ty81.ro W [sl b x0 d] x0){fuel:Nat}{r:Int}(hm:z4a fuel x0 x1=some r):
  Calls Tryz.prog 58 ⟨[sl b x0 d,.int .i64 x1]⟩ w (Ret fun v w8=>v=.int .i64 r∧St w w8 []):=by
 refine into Tryz.func58 12 _ ?_;unfold z4a at hm;have hS:=St.start w;refine sq<|rg<|rr 1 ?_;refine rn<|sq<|rg<|rr 5 ?_;refine rn<|sq<|sq<|rg<|rr 2 ?_;refine rn<|ci hm (fun hm=>?_) (fun hm=>?_)
 ·refine sq<|rg<|rr 1 ?_;refine rn<|rt ?_;cases hm;exact⟨_,.cons (.tmp rfl) .nil,rfl,hS⟩
 ·refine sp<|sq<|rg<|rr 2 ?_;refine rn<|rt ?_;cases hm;exact⟨_,.cons (.tmp rfl) .nil,rfl,hS⟩

theorem zcq:Enters Tryz.prog 41:=⟨_,_,Tryz.func41,rfl,by kernel_rfl⟩
def z4b (fuel:Nat) (x0:D.Agent) (x1:Int):Option (Int):=((z3N fuel x0.Data x1).bind fun b=>(if(decide (b<0))=true then some (-1) else((z4a fuel x0.Ports b).bind fun d=>(if(decide (d<0))=true then some (-1) else some d))))

theorem laws_szAgent_ok {W:Base}{w:World}(hE:Ext W w){b0:List Value}{x0:D.Agent}{x1:Int}(c0:ty83.ro W b0 x0){fuel:Nat}{r:Int}(hm:z4b fuel x0 x1=some r):
  Calls Tryz.prog 41 ⟨[.agg ⟨b0⟩,.int .i64 x1]⟩ w (Ret fun v w8=>v=.int .i64 r∧St w w8 []):=by
 obtain⟨A1,k2,A4,k5,e7,h3,h6⟩:=z6i c0;subst e7;refine into Tryz.func41 18 _ ?_;unfold z4b at hm;have hS:=St.start w;refine sq<|rg<|nw hS (fun e0 k0 d0 d=>?_);refine rr 1 ?_;refine rn<|sq<|rg<|rr 1 ?_;refine l1 ((d.bring 0 rfl).box) 3 ?_;refine rr 1 ?_;obtain⟨f0,Y,hm⟩:=bS hm;refine ca zci (laws_szInt64S_ok (hE.trans d.ext) h3 Y) (fun i0 o0 y=>?_);obtain⟨rfl,G⟩:=y;have b:=d.join G;refine rr 1 ?_;refine rn<|sq<|sq<|rg<|rr 2 ?_;refine rn<|ci hm (fun hm=>?_) (fun hm=>?_)
 ·refine sq<|rg<|rr 1 ?_;refine rn<|rt ?_;cases hm;exact⟨_,.cons (.tmp rfl) .nil,rfl,(b.taken 0)⟩
 ·refine sp<|sq<|rg<|rr 1 ?_;refine l1 ((b.bring 0 rfl).box) 4 ?_;refine rr 1 ?_;obtain⟨g0,a0,hm⟩:=bS hm;refine ca zch (laws_szPortS_ok (hE.trans b.ext) h6 a0) (fun j0 p0 H=>?_);obtain⟨rfl,O⟩:=H;have o:=b.join O;refine rr 1 ?_;refine rn<|sq<|sq<|rg<|rr 2 ?_;refine rn<|ci hm (fun hm=>?_) (fun hm=>?_)
  ·refine sq<|rg<|rr 1 ?_;refine rn<|rt ?_;cases hm;exact⟨_,.cons (.tmp rfl) .nil,rfl,(o.taken 0)⟩
  ·refine sp<|sq<|rg<|rr 2 ?_;refine rn<|rt ?_;cases hm;exact⟨_,.cons (.tmp rfl) .nil,rfl,(o.taken 0)⟩

theorem zcu:Enters Tryz.prog 25:=⟨_,_,Tryz.func25,rfl,by kernel_rfl⟩
def z5h (fuel:Nat) (t2:Int):Option Int:=some t2
def z3y (fuel:Nat) (x0:(List D.Agent)) (s1:Int × Int):Option (Rd (Int × Int) (Int) (Int)):=(if(decide (s1.2<(x0.length:Int)))=true then((idx x0 s1.2).bind fun d=>((z4b fuel d s1.1).bind fun b=>(if(decide (b<0))=true then some (.ret (-1)) else some (.next (b,w64 (s1.2+1)))))) else some (.brk s1.1))
def z3O (fuel:Nat) (x0:(List D.Agent)) (x1:Int):Option (Int):=(if(decide ((w64 (x1 - (x0.length:Int)))<0))=true then some (-1) else((iter (z3y fuel x0) fuel (w64 (x1 - (x0.length:Int)),0)).bind fun o=>aft o (z5h fuel)))

theorem laws_szAgentS_ok {W:Base}{w:World}(hE:Ext W w){O:Option Addr}{g0:Nat}{x0:(List D.Agent)}{x1:Int}(o0:ty22.ro W [sl O x0 g0] x0){fuel:Nat}{r:Int}(hm:z3O fuel x0 x1=some r):
  Calls Tryz.prog 25 ⟨[sl O x0 g0,.int .i64 x1]⟩ w (Ret fun v w8=>v=.int .i64 r∧St w w8 []):=by
 refine into Tryz.func25 27 _ ?_;unfold z3O at hm;have hS:=St.start w;refine sq<|rg<|rr 1 ?_;refine rn<|sq<|rg<|rr 5 ?_;refine rn<|sq<|sq<|rg<|rr 2 ?_;refine rn<|ci hm (fun hm=>?_) (fun hm=>?_)
 ·refine sq<|rg<|rr 1 ?_;refine rn<|rt ?_;cases hm;exact⟨_,.cons (.tmp rfl) .nil,rfl,hS⟩
 ·refine sp<|sq<|sq<|rg<|rr 1 ?_;refine rn ?_;obtain⟨p0,c0,hm⟩:=bS hm;refine ct (fun(t2:Int) F w9=>p0=.inl t2∧Ext w w9∧St w w9 []∧F=[(1,.int .i64 t2)]) ?_ ?_
  ·rintro t2 F w7 ⟨d0,v0,a0,rfl⟩;subst d0;rw [zt] at hm;unfold z5h at hm;refine sq<|rg<|rr 2 ?_;refine rn<|rt ?_;cases hm;exact⟨_,.cons (.tmp rfl) .nil,rfl,a0⟩
  ·refine bk<|wk [0,1,5] ?_;refine it (fun(s1:Int × Int) F w9=>Ext w w9∧St w w9 []∧F=[(0,sl O x0 g0),(1,.int .i64 s1.1),(5,.int .i64 s1.2)]) c0 ⟨(Ext.refl _),hS,rfl⟩ ?_;rintro s1 F F0 _ B0 ⟨i0,d,rfl⟩ b G;unfold z3y at b;refine sq<|sq<|rg<|rr 4 ?_;refine rn<|ci b (fun b=>?_) (fun b=>?_)
   ·refine sp<|sq<|bk<|sq<|rg<|rr 2 ?_;obtain⟨H0,e0,b⟩:=bS b;refine ix (hE.trans d.ext) o0 e0 (fun C0 k0 b0 H=>?_);obtain⟨q0,y0,r0,A0,j0,t0,u0⟩:=z6i H;subst j0;refine lN (At.ext (hE.trans d.ext) b0) ?_;refine rr 1 ?_;obtain⟨D0,f0,b⟩:=bS b;refine ca zcq (laws_szAgent_ok (hE.trans d.ext) H f0) (fun E0 G0 Y=>?_);obtain⟨rfl,o⟩:=Y;have y:=d.join o;refine rr 1 ?_;refine rn<|sq<|rg<|rr 2 ?_;refine rn<|ci b (fun b=>?_) (fun b=>?_)
    ·refine sq<|rg<|rr 1 ?_;refine rn<|rt ?_;cases b;cases G;have hm:some _=some _:=hm;cases hm;exact⟨_,.cons (.tmp rfl) .nil,rfl,y⟩
    ·refine sp<|rg<|rr 3 ?_;refine rn ?_;cases b;exact⟨_,_,rfl,⟨(i0.trans o.ext),y,rfl⟩,rfl⟩
   ·refine xt ?_;cases b;exact⟨_,_,⟨G,i0,d,rfl⟩,rfl⟩

theorem zba:Enters Tryz.prog 7:=⟨_,_,Tryz.func7,rfl,by kernel_rfl⟩
def z4p (fuel:Nat) (x0:D.Net) (x1:Int):Option (Int):=((z3O fuel x0.Agents x1).bind fun b=>(if(decide (b<0))=true then some (-1) else some b))

theorem laws_szNet_ok {W:Base}{w:World}(hE:Ext W w){H:List Value}{x0:D.Net}{x1:Int}(O:ty24.ro W H x0){fuel:Nat}{r:Int}(hm:z4p fuel x0 x1=some r):
  Calls Tryz.prog 7 ⟨[.agg ⟨H⟩,.int .i64 x1]⟩ w (Ret fun v w8=>v=.int .i64 r∧St w w8 []):=by
 obtain⟨A1,k2,e4,h3⟩:=z6j O;subst e4;refine into Tryz.func7 12 _ ?_;unfold z4p at hm;have hS:=St.start w;refine sq<|rg<|nw hS (fun g5 w6 e7 b=>?_);refine rr 1 ?_;refine rn<|sq<|rg<|rr 1 ?_;refine l1 ((b.bring 0 rfl).box) 0 ?_;refine rr 1 ?_;obtain⟨Y,G,hm⟩:=bS hm;refine ca zcu (laws_szAgentS_ok (hE.trans b.ext) h3 G) (fun a0 b0 o=>?_);obtain⟨rfl,y⟩:=o;have d:=b.join y;refine rr 1 ?_;refine rn<|sq<|sq<|rg<|rr 2 ?_;refine rn<|ci hm (fun hm=>?_) (fun hm=>?_)
 ·refine sq<|rg<|rr 1 ?_;refine rn<|rt ?_;cases hm;exact⟨_,.cons (.tmp rfl) .nil,rfl,(d.taken 0)⟩
 ·refine sp<|sq<|rg<|rr 2 ?_;refine rn<|rt ?_;cases hm;exact⟨_,.cons (.tmp rfl) .nil,rfl,(d.taken 0)⟩

theorem zcb:Enters Tryz.prog 69:=⟨_,_,Tryz.func69,rfl,by kernel_rfl⟩
def z5f (fuel:Nat) (b:(List Int)):Option (List Int):=some b
def z3w (fuel:Nat) (x0:(List Int)) (b:Int × (List Int)):Option (Rd (Int × (List Int)) ((List Int)) ((List Int))):=(if(decide (b.1<(x0.length:Int)))=true then((idx x0 b.1).bind fun d=>(if decide (0≤b.1∧b.1.toNat<b.2.length)=true then some (.next (w64 (b.1+1),(b.2.set b.1.toNat d))) else none)) else some (.brk b.2))
def z3L (fuel:Nat) (x0:(List Int)):Option ((List Int)):=(if decide (0≤(x0.length:Int)∧(x0.length:Int)≤4294967296)=true then((iter (z3w fuel x0) fuel (0,(List.replicate (x0.length:Int).toNat (0:Int)))).bind fun o=>aft o (z5f fuel)) else none)

theorem laws_toInt64S_ok {W:Base}{w:World}(hE:Ext W w){H:Option Addr}{o0:Nat}{x0:(List Int)}(u0:ty26.ro W [sl H x0 o0] x0){fuel:Nat}{r:(List Int)}(hm:z3L fuel x0=some r):
  Calls Tryz.prog 69 ⟨[sl H x0 o0]⟩ w (Ret fun v w8=>∃ A0 k0,v=sl A0 r k0∧St w w8 [ow ty26 A0 r k0]):=by
 refine into Tryz.func69 22 _ ?_;unfold z3L at hm;have hS:=St.start w;refine sq<|rg<|rr 1 ?_;refine rn<|sq<|rg<|rr 2 ?_;obtain⟨y0,hm⟩:=iS hm;have hz7:=of_decide_eq_true y0;refine mS (U:=tInt) (0:Int) hS hz7 (fun _=>⟨rfl,rfl⟩) (fun A2 k3 w4 e5 v0=>?_);refine rr 1 ?_;refine rn<|sq<|sq<|rg<|rr 1 ?_;refine rn ?_;obtain⟨B0,e0,hm⟩:=bS hm;refine ct (fun(q0:(List Int)) F w9=>B0=.inl q0∧St w w9 [Own ty26 [sl A2 (List.replicate (x0.length:Int).toNat (0:Int)) k3] q0]∧F=[(3,sl A2 (List.replicate (x0.length:Int).toNat (0:Int)) k3)]) ?_ ?_
 ·rintro q0 F E0 ⟨f0,y,rfl⟩;subst f0;rw [zt] at hm;unfold z5f at hm;refine sq<|rg<|rr 2 ?_;refine rn<|rt ?_;cases hm;have hn18:=(y.bring 0 rfl).lenEq;have O:=(y.bring 0 rfl).reLen hn18;exact⟨_,.cons (.tmp rfl) .nil,A2,k3,(by first | (simp only [sl,hn18];done) | (simp only [sl,hn18];rfl)),O⟩
 ·refine bk<|wk [0,3,4] ?_;refine it (fun(p0:Int × (List Int)) F w9=>St w w9 [Own ty26 [sl A2 (List.replicate (x0.length:Int).toNat (0:Int)) k3] p0.2]∧F=[(0,sl H x0 o0),(3,sl A2 (List.replicate (x0.length:Int).toNat (0:Int)) k3),(4,.int .i64 p0.1)]) e0 ⟨v0,rfl⟩ ?_;rintro p0 F F0 _ C0 ⟨d,rfl⟩ b g0;unfold z3w at b;refine sq<|sq<|rg<|rr 4 ?_;refine rn<|ci b (fun b=>?_) (fun b=>?_)
  ·refine sp<|sq<|bk<|rg<|rr 4 ?_;obtain⟨r0,j0,b⟩:=bS b;refine ix (hE.trans d.ext) u0 j0 (fun D0 t0 c0 i0=>?_);cases i0;refine l1 (At.ext (hE.trans d.ext) c0) 0 ?_;have G:=d.bring 0 rfl;obtain⟨d0,b⟩:=iS b;have o:=of_decide_eq_true d0;refine io G o.1 o.2 (fun q34 hq35=>?_);have Y:=G.flat (T:=tInt) (cs:=[.int .i64 r0]) (x:=r0) ⟨rfl,rfl⟩;have a0:=Y.bring 1 rfl;refine se a0 o.2 hq35 (fun G0 b0=>?_);refine rn<|rg<|rr 3 ?_;refine rn ?_;cases b;exact⟨_,_,rfl,⟨b0,rfl⟩,rfl⟩
  ·refine xt ?_;cases b;exact⟨_,_,⟨g0,d,rfl⟩,rfl⟩

theorem zbU:Enters Tryz.prog 92:=⟨_,_,Tryz.func92,rfl,by kernel_rfl⟩
def z4x (fuel:Nat) (x0:D.Port):Option (D.Port):=some (⟨x0.Agent,x0.Slot⟩:D.Port)

theorem laws_toPort_ok {W:Base}{w:World}(hE:Ext W w){a0:List Value}{x0:D.Port}(b0:zaa.ro W a0 x0){fuel:Nat}{r:D.Port}(hm:z4x fuel x0=some r):
  Calls Tryz.prog 92 ⟨[.agg ⟨a0⟩]⟩ w (Ret fun v w8=>v=.agg ⟨[.int .i64 r.Agent,.int .i64 r.Slot]⟩∧St w w8 []):=by
 have e1:=z7U b0;subst e1;refine into Tryz.func92 11 _ ?_;unfold z4x at hm;have hS:=St.start w;refine sq<|rg<|nw hS (fun g2 w3 e4 c0=>?_);refine nw c0 (fun g6 w7 d0 G=>?_);refine rn<|sq<|rg<|nw G (fun f0 g0 e0 b=>?_);refine rn<|sq<|rg<|rr 1 ?_;refine l1 ((b.bring 2 rfl).box) 0 ?_;refine rr 1 ?_;have H:=b.bring 0 rfl;refine so (A:=[]) H 0 (fun i0 d=>?_);refine rn<|sq<|rg<|rr 1 ?_;refine l1 ((d.bring 2 rfl).box) 1 ?_;refine rr 1 ?_;have O:=d.bring 0 rfl;refine so (A:=[]) O 1 (fun j0 o=>?_);refine rn<|sq<|rg<|lN ((o.bring 0 rfl).box) ?_;have Y:=o.bring 1 rfl;refine so (A:=[]) Y 0 (fun k0 y=>?_);refine rn<|rt ?_;cases hm;exact⟨_,.cons (ra ((y.bring 0 rfl).box)) .nil,rfl,(y.taken 0)⟩

theorem zca:Enters Tryz.prog 70:=⟨_,_,Tryz.func70,rfl,by kernel_rfl⟩
def z5x (fuel:Nat) (b:(List D.Port)):Option (List D.Port):=some b
def z3W (fuel:Nat) (x0:(List D.Port)) (b:Int × (List D.Port)):Option (Rd (Int × (List D.Port)) ((List D.Port)) ((List D.Port))):=(if(decide (b.1<(x0.length:Int)))=true then((idx x0 b.1).bind fun o=>((z4x fuel o).bind fun d=>(if decide (0≤b.1∧b.1.toNat<b.2.length)=true then some (.next (w64 (b.1+1),(b.2.set b.1.toNat d))) else none))) else some (.brk b.2))
def z48 (fuel:Nat) (x0:(List D.Port)):Option ((List D.Port)):=(if decide (0≤(x0.length:Int)∧(x0.length:Int)≤4294967296)=true then((iter (z3W fuel x0) fuel (0,(List.replicate (x0.length:Int).toNat (⟨(0:Int),(0:Int)⟩:D.Port)))).bind fun o=>aft o (z5x fuel)) else none)

theorem laws_toPortS_ok {W:Base}{w:World}(hE:Ext W w){O:Option Addr}{t0:Nat}{x0:(List D.Port)}(C0:ty81.ro W [sl O x0 t0] x0){fuel:Nat}{r:(List D.Port)}(hm:z48 fuel x0=some r):
  Calls Tryz.prog 70 ⟨[sl O x0 t0]⟩ w (Ret fun v w8=>∃ A0 k0,v=sl A0 r k0∧St w w8 [ow ty65 A0 r k0]):=by
 refine into Tryz.func70 23 _ ?_;unfold z48 at hm;have hS:=St.start w;refine sq<|rg<|rr 1 ?_;refine rn<|sq<|rg<|rr 2 ?_;obtain⟨E0,hm⟩:=iS hm;have hz7:=of_decide_eq_true E0;refine mS (U:=ty87) (⟨(0:Int),(0:Int)⟩:D.Port) hS hz7 (fun _=>(z7g (c:=(⟨(0:Int),(0:Int)⟩:D.Port)) rfl)) (fun A2 k3 w4 e5 D0=>?_);refine rr 1 ?_;refine rn<|sq<|sq<|rg<|rr 1 ?_;refine rn ?_;obtain⟨F0,j0,hm⟩:=bS hm;refine ct (fun(v0:(List D.Port)) F w9=>F0=.inl v0∧St w w9 [Own ty65 [sl A2 (List.replicate (x0.length:Int).toNat (⟨(0:Int),(0:Int)⟩:D.Port)) k3] v0]∧F=[(3,sl A2 (List.replicate (x0.length:Int).toNat (⟨(0:Int),(0:Int)⟩:D.Port)) k3)]) ?_ ?_
 ·rintro v0 F M0 ⟨o0,y,rfl⟩;subst o0;rw [zt] at hm;unfold z5x at hm;refine sq<|rg<|rr 2 ?_;refine rn<|rt ?_;cases hm;have hn18:=(y.bring 0 rfl).lenEq;have b0:=(y.bring 0 rfl).reLen hn18;exact⟨_,.cons (.tmp rfl) .nil,A2,k3,(by first | (simp only [sl,hn18];done) | (simp only [sl,hn18];rfl)),b0⟩
 ·refine bk<|wk [0,3,4] ?_;refine it (fun(u0:Int × (List D.Port)) F w9=>St w w9 [Own ty65 [sl A2 (List.replicate (x0.length:Int).toNat (⟨(0:Int),(0:Int)⟩:D.Port)) k3] u0.2]∧F=[(0,sl O x0 t0),(3,sl A2 (List.replicate (x0.length:Int).toNat (⟨(0:Int),(0:Int)⟩:D.Port)) k3),(4,.int .i64 u0.1)]) j0 ⟨D0,rfl⟩ ?_;rintro u0 F N0 _ H0 ⟨d,rfl⟩ b p0;unfold z3W at b;refine sq<|sq<|rg<|rr 4 ?_;refine rn<|ci b (fun b=>?_) (fun b=>?_)
  ·refine sp<|sq<|bk<|rg<|rr 4 ?_;obtain⟨Q0,q0,b⟩:=bS b;refine ix (hE.trans d.ext) C0 q0 (fun J0 B0 g0 H=>?_);have y0:=z7U H;subst y0;refine lN (At.ext (hE.trans d.ext) g0) ?_;obtain⟨G0,r0,b⟩:=bS b;refine ca zbU (laws_toPort_ok (hE.trans d.ext) H r0) (fun K0 O0 Y=>?_);obtain⟨rfl,a0⟩:=Y;have c0:=d.join a0;have G:=c0.bring 0 rfl;obtain⟨i0,b⟩:=iS b;have o:=of_decide_eq_true i0;refine io G o.1 o.2 (fun q42 hq43=>?_);have d0:=z7S (c:=G0) (B:=_) G;have e0:=d0.bring 1 rfl;refine se e0 o.2 hq43 (fun P0 f0=>?_);refine rn<|rg<|rr 3 ?_;refine rn ?_;cases b;exact⟨_,_,rfl,⟨f0,rfl⟩,rfl⟩
  ·refine xt ?_;cases b;exact⟨_,_,⟨p0,d,rfl⟩,rfl⟩

theorem zcn:Enters Tryz.prog 45:=⟨_,_,Tryz.func45,rfl,by kernel_rfl⟩
def z49 (fuel:Nat) (x0:D.Agent):Option (D.Agent):=((z3L fuel x0.Data).bind fun b=>((z48 fuel x0.Ports).bind fun d=>some (⟨x0.Kind,x0.Level,x0.Value,b,d⟩:D.Agent)))

theorem laws_toAgent_ok {W:Base}{w:World}(hE:Ext W w){v0:List Value}{x0:D.Agent}(C0:ty83.ro W v0 x0){fuel:Nat}{r:D.Agent}(hm:z49 fuel x0=some r):
  Calls Tryz.prog 45 ⟨[.agg ⟨v0⟩]⟩ w (Ret fun v w8=>∃ A0 k0 A1 k1,v=.agg ⟨[.int .i64 r.Kind,.int .i64 r.Level,.int .i64 r.Value,sl A0 r.Data k0,sl A1 r.Ports k1]⟩∧St w w8 [ow ty26 A0 r.Data k0,ow ty65 A1 r.Ports k1]):=by
 obtain⟨A1,k2,A4,k5,e7,h3,h6⟩:=z6i C0;subst e7;refine into Tryz.func45 22 _ ?_;unfold z49 at hm;have hS:=St.start w;refine sq<|rg<|nw hS (fun J0 R0 F0 d0=>?_);refine nw d0 (fun K0 S0 G0 e0=>?_);refine rn<|sq<|rg<|nw e0 (fun M0 T0 H0 o=>?_);refine rn<|sq<|rg<|rr 1 ?_;refine l1 ((o.bring 2 rfl).box) 0 ?_;refine rr 1 ?_;have f0:=o.bring 0 rfl;refine so (A:=[]) f0 0 (fun U0 y=>?_);refine rn<|sq<|rg<|rr 1 ?_;refine l1 ((y.bring 2 rfl).box) 1 ?_;refine rr 1 ?_;have g0:=y.bring 0 rfl;refine so (A:=[]) g0 1 (fun V0 G=>?_);refine rn<|sq<|rg<|rr 1 ?_;refine l1 ((G.bring 2 rfl).box) 2 ?_;refine rr 1 ?_;have i0:=G.bring 0 rfl;refine so (A:=[]) i0 2 (fun X0 b=>?_);refine rn<|sq<|rg<|rr 1 ?_;refine l1 ((b.bring 2 rfl).box) 3 ?_;obtain⟨N0,t0,hm⟩:=bS hm;refine ca zcb (laws_toInt64S_ok (hE.trans b.ext) h3 t0) (fun P0 Y0 Y=>?_);obtain⟨y0,D0,rfl,a0⟩:=Y;have j0:=b.join a0;refine rr 1 ?_;have o0:=j0.bring 1 rfl;refine so (A:=[]) o0 3 (fun a1 d=>?_);refine rn<|sq<|rg<|rr 1 ?_;refine l1 ((d.bring 3 rfl).box) 4 ?_;obtain⟨O0,u0,hm⟩:=bS hm;refine ca zca (laws_toPortS_ok (hE.trans d.ext) h6 u0) (fun Q0 b1 b0=>?_);obtain⟨B0,E0,rfl,c0⟩:=b0;have p0:=d.join c0;refine rr 1 ?_;have q0:=p0.bring 1 rfl;refine so (A:=[]) q0 4 (fun d1 H=>?_);refine rn<|sq<|rg<|lN ((H.bring 0 rfl).box) ?_;have r0:=H.bring 3 rfl;refine so (A:=[]) r0 0 (fun e1 O=>?_);refine rn<|rt ?_;cases hm;exact⟨_,.cons (ra ((O.bring 0 rfl).box)) .nil,y0,D0,B0,E0,rfl,(((O.bring 2 rfl).bring 3 rfl).taken 2)⟩

theorem zct:Enters Tryz.prog 29:=⟨_,_,Tryz.func29,rfl,by kernel_rfl⟩
def z5g (fuel:Nat) (b:(List D.Agent)):Option (List D.Agent):=some b
def z3x (fuel:Nat) (x0:(List D.Agent)) (b:Int × (List D.Agent)):Option (Rd (Int × (List D.Agent)) ((List D.Agent)) ((List D.Agent))):=(if(decide (b.1<(x0.length:Int)))=true then((idx x0 b.1).bind fun o=>((z49 fuel o).bind fun d=>(if decide (0≤b.1∧b.1.toNat<b.2.length)=true then some (.next (w64 (b.1+1),(b.2.set b.1.toNat d))) else none))) else some (.brk b.2))
def z3M (fuel:Nat) (x0:(List D.Agent)):Option ((List D.Agent)):=(if decide (0≤(x0.length:Int)∧(x0.length:Int)≤4294967296)=true then((iter (z3x fuel x0) fuel (0,(List.replicate (x0.length:Int).toNat (⟨(0:Int),(0:Int),(0:Int),([]:(List Int)),([]:(List D.Port))⟩:D.Agent)))).bind fun o=>aft o (z5g fuel)) else none)

theorem laws_toAgentS_ok {W:Base}{w:World}(hE:Ext W w){O:Option Addr}{v0:Nat}{x0:(List D.Agent)}(E0:ty22.ro W [sl O x0 v0] x0){fuel:Nat}{r:(List D.Agent)}(hm:z3M fuel x0=some r):
  Calls Tryz.prog 29 ⟨[sl O x0 v0]⟩ w (Ret fun v w8=>∃ A0 k0,v=sl A0 r k0∧St w w8 [ow ty29 A0 r k0]):=by
 refine into Tryz.func29 23 _ ?_;unfold z3M at hm;have hS:=St.start w;refine sq<|rg<|rr 1 ?_;refine rn<|sq<|rg<|rr 2 ?_;obtain⟨G0,hm⟩:=iS hm;have hz7:=of_decide_eq_true G0;refine mS (U:=ty67) (⟨(0:Int),(0:Int),(0:Int),([]:(List Int)),([]:(List D.Port))⟩:D.Agent) hS hz7 (fun _=>(z8D (c:=(⟨(0:Int),(0:Int),(0:Int),([]:(List Int)),([]:(List D.Port))⟩:D.Agent)) ⟨[],[],rfl,(slNilOwn tInt 2 _),⟨[],[],rfl,(slNilOwn ty87 87 _),rfl⟩⟩)) (fun A2 k3 w4 e5 F0=>?_);refine rr 1 ?_;refine rn<|sq<|sq<|rg<|rr 1 ?_;refine rn ?_;obtain⟨H0,p0,hm⟩:=bS hm;refine ct (fun(B0:(List D.Agent)) F w9=>H0=.inl B0∧St w w9 [Own ty29 [.slice A2 (List.replicate (x0.length:Int).toNat (⟨(0:Int),(0:Int),(0:Int),([]:(List Int)),([]:(List D.Port))⟩:D.Agent)).length k3] B0]∧F=[(3,.slice A2 (List.replicate (x0.length:Int).toNat (⟨(0:Int),(0:Int),(0:Int),([]:(List Int)),([]:(List D.Port))⟩:D.Agent)).length k3)]) ?_ ?_
 ·rintro B0 F a1 ⟨q0,y,rfl⟩;subst q0;rw [zt] at hm;unfold z5g at hm;refine sq<|rg<|rr 2 ?_;refine rn<|rt ?_;cases hm;have hn18:=(y.bring 0 rfl).lenEq;have b0:=(y.bring 0 rfl).reLen hn18;exact⟨_,.cons (.tmp rfl) .nil,A2,k3,(by first | (simp only [sl,hn18];done) | (simp only [sl,hn18];rfl)),b0⟩
 ·refine bk<|wk [0,3,4] ?_;refine it (fun(y0:Int × (List D.Agent)) F w9=>St w w9 [Own ty29 [.slice A2 (List.replicate (x0.length:Int).toNat (⟨(0:Int),(0:Int),(0:Int),([]:(List Int)),([]:(List D.Port))⟩:D.Agent)).length k3] y0.2]∧F=[(0,sl O x0 v0),(3,.slice A2 (List.replicate (x0.length:Int).toNat (⟨(0:Int),(0:Int),(0:Int),([]:(List Int)),([]:(List D.Port))⟩:D.Agent)).length k3),(4,.int .i64 y0.1)]) p0 ⟨F0,rfl⟩ ?_;rintro y0 F b1 _ V0 ⟨d,rfl⟩ b r0;unfold z3x at b;refine sq<|sq<|rg<|rr 4 ?_;refine rn<|ci b (fun b=>?_) (fun b=>?_)
  ·refine sp<|sq<|bk<|rg<|rr 4 ?_;obtain⟨f1,t0,b⟩:=bS b;refine ix (hE.trans d.ext) E0 t0 (fun X0 D0 j0 H=>?_);obtain⟨K0,R0,M0,S0,C0,P0,Q0⟩:=z6i H;subst C0;refine lN (At.ext (hE.trans d.ext) j0) ?_;obtain⟨J0,u0,b⟩:=bS b;refine ca zcn (laws_toAgent_ok (hE.trans d.ext) H u0) (fun Y0 d1 Y=>?_);obtain⟨N0,T0,O0,U0,rfl,a0⟩:=Y;have c0:=d.join a0;have G:=c0.bring 2 rfl;obtain⟨o0,b⟩:=iS b;have o:=of_decide_eq_true o0;refine io G o.1 o.2 (fun q52 hq53=>?_);have d0:=G.bring 2 rfl;have e0:=d0.bring 2 rfl;have f0:=z7T (c:=J0) (B:=_) e0;have g0:=f0.bring 1 rfl;refine se g0 o.2 hq53 (fun e1 i0=>?_);refine rn<|rg<|rr 3 ?_;refine rn ?_;cases b;exact⟨_,_,rfl,⟨i0,rfl⟩,rfl⟩
  ·refine xt ?_;cases b;exact⟨_,_,⟨r0,d,rfl⟩,rfl⟩

theorem z65:Enters Tryz.prog 9:=⟨_,_,Tryz.func9,rfl,by kernel_rfl⟩
def z1w (fuel:Nat) (x0:D.Net):Option (D.Net):=((z3M fuel x0.Agents).bind fun b=>some (⟨b⟩:D.Net))

theorem laws_toNet_ok {W:Base}{w:World}(hE:Ext W w){d0:List Value}{x0:D.Net}(f0:ty24.ro W d0 x0){fuel:Nat}{r:D.Net}(hm:z1w fuel x0=some r):
  Calls Tryz.prog 9 ⟨[.agg ⟨d0⟩]⟩ w (Ret fun v w8=>∃ A0 k0,v=.agg ⟨[sl A0 r.Agents k0]⟩∧St w w8 [ow ty29 A0 r.Agents k0]):=by
 obtain⟨A1,k2,e4,h3⟩:=z6j f0;subst e4;refine into Tryz.func9 9 _ ?_;unfold z1w at hm;have hS:=St.start w;refine sq<|rg<|nw hS (fun g5 w6 e7 H=>?_);refine nw H (fun o0 t0 i0 O=>?_);refine rn<|sq<|rg<|nw O (fun p0 u0 j0 b=>?_);refine rn<|sq<|rg<|rr 1 ?_;refine l1 ((b.bring 2 rfl).box) 0 ?_;obtain⟨q0,c0,hm⟩:=bS hm;refine ca zct (laws_toAgentS_ok (hE.trans b.ext) h3 c0) (fun r0 v0 y=>?_);obtain⟨e0,g0,rfl,G⟩:=y;have Y:=b.join G;refine rr 1 ?_;have a0:=Y.bring 1 rfl;refine so (A:=[]) a0 0 (fun y0 d=>?_);refine rn<|sq<|rg<|lN ((d.bring 0 rfl).box) ?_;have b0:=d.bring 2 rfl;refine so (A:=[]) b0 0 (fun B0 o=>?_);refine rn<|rt ?_;cases hm;exact⟨_,.cons (ra ((o.bring 0 rfl).box)) .nil,e0,g0,rfl,((o.bring 2 rfl).taken 1)⟩

theorem zcS:Enters Tryz.prog 8:=⟨_,_,Tryz.func8,rfl,by kernel_rfl⟩
def z2y (fuel:Nat) (x0:D.Net):Option ((List Int) × Int):=((z4o fuel x0).bind fun d=>(if(!d)=true then some (([]:(List Int)),1) else((z2e fuel x0).bind fun b=>(if(b.2.code != 0)=true then some (([]:(List Int)),b.2.code) else((z2c fuel b.2.origins).bind fun o=>some (o,0))))))

theorem z6e {W:Base}{w:World}(hE:Ext W w){t0:List Value}{x0:D.Net}(G:ty31.ro W t0 x0){fuel:Nat}{r:(List Int) × Int}(hm:z2y fuel x0=some r):
  Calls Tryz.prog 8 ⟨[.agg ⟨t0⟩]⟩ w (Ret fun v w8=>∃ A0 k0,v=.tuple ⟨[sl A0 r.1 k0,.int .i64 r.2]⟩∧St w w8 [ow ty26 A0 r.1 k0]):=by
 obtain⟨A1,k2,e4,h3⟩:=z1i G;subst e4;refine into Tryz.func8 28 _ ?_;unfold z2y at hm;have hS:=St.start w;refine sq<|rg<|nw hS (fun g5 w6 e7 y=>?_);refine rr 2 ?_;refine rn<|sq<|sq<|rg ?_;obtain⟨g1,p0,hm⟩:=bS hm;refine ca z9V (z6m (Ext.refl _) (ty31.ext (hE.trans y.ext) G) ((y.bring 0 rfl).box) p0) (fun k1 p1 H=>?_);obtain⟨rfl,O⟩:=H;have o:=y.join O;refine rr 1 ?_;refine rn<|ci hm (fun hm=>?_) (fun hm=>?_)
 ·refine sq<|rg<|n0 (U:=tInt) o (fun u0 E0 t1 Q0 d0=>?_);refine rr 2 ?_;refine rn<|rt ?_;cases hm;exact⟨_,.cons (.tmp rfl) (.cons (.tmp rfl) .nil),u0,E0,rfl,(d0.taken 1)⟩
 ·refine sp<|sq<|rg ?_;obtain⟨i1,q0,hm⟩:=bS hm;refine ca z9U (z5P (Ext.refl _) (ty31.ext (hE.trans o.ext) G) ((o.bring 0 rfl).box) q0) (fun m1 u1 Y=>?_);obtain⟨H0,X0,J0,Y0,T0,f1,P0,K0,a1,M0,b1,N0,d1,rfl,a0,C0,D0⟩:=Y;have e0:=o.join a0;obtain⟨O0,e1,B0,V0⟩:=z1i C0;subst B0;refine rr 3 ?_;refine nw e0 (fun U0 v1 R0 f0=>?_);have g0:=f0.bring 0 rfl;refine so (A:=[]) g0 0 (fun y1 b=>?_);refine rr 1 ?_;refine rn<|sq<|sq<|rg<|rr 3 ?_;refine l1 ((b.bring 3 rfl).box) 6 ?_;refine rr 1 ?_;refine rn<|ci hm (fun hm=>?_) (fun hm=>?_)
  ·refine sq<|dn 0 mixed 7 [([],127),([],127),([1],125),([2],123),([3],119),([0,0],126),([4,5,0,1,2,3,4,5],111)] b.ext (fun d=>?_);have i0:=b.step (Ext.draw _);refine dr 4 d [1,2,3] ?_;refine dw [2,3,21] ?_;refine dl d 4 ((b.bring 3 rfl).box) 6 ?_;refine o1 d 0 (m0 (U:=tInt) i0 d (fun v0 F0 B1 S0 j0=>?_));refine dr 0 d [5,6] ?_;refine dd d ?_;refine rt ?_;cases hm;exact⟨_,.cons (.tmp rfl) (.cons (.tmp rfl) .nil),v0,F0,rfl,(j0.taken 1)⟩
  ·refine sp<|sq<|rg<|rr 3 ?_;refine l1 ((b.bring 3 rfl).box) 4 ?_;obtain⟨j1,r0,hm⟩:=bS hm;refine ca z6x (z43 (Ext.refl _) ((b.bring 5 rfl).own) r0) (fun n1 C1 b0=>?_);obtain⟨y0,G0,rfl,c0⟩:=b0;have o0:=b.join c0;refine rr 2 ?_;refine rn<|rt ?_;cases hm;exact⟨_,.cons (.tmp rfl) (.cons (.tmp rfl) .nil),y0,G0,rfl,(o0.taken 1)⟩

theorem z9Z:Enters Tryz.prog 10:=⟨_,_,Tryz.func10,rfl,by kernel_rfl⟩
def z1S (fuel:Nat) (x0:D.Net):Option ((List Int) × Int):=((z2f fuel x0).bind fun b=>((b.1).elim (if(b.2.2 != 0)=true then some ([],b.2.2) else none) (fun m16=>(if(b.2.2 != 0)=true then some ([],b.2.2) else some (m16.origins,0)))))

theorem z57 {W:Base}{w:World}(hE:Ext W w){i0:List Value}{x0:D.Net}(hT:Tab W) (j0:ty31.ro W i0 x0){fuel:Nat}{r:(List Int) × Int}(hm:z1S fuel x0=some r):
  Calls Tryz.prog 10 ⟨[.agg ⟨i0⟩]⟩ w (Ret fun v w8=>∃ A0 k0,v=.tuple ⟨[sl A0 r.1 k0,.int .i64 r.2]⟩∧St w w8 [ow ty26 A0 r.1 k0]):=by
 obtain⟨A1,k2,e4,h3⟩:=z1i j0;subst e4;refine into Tryz.func10 20 _ ?_;unfold z1S at hm;have hS:=St.start w;refine sq<|rg<|nw hS (fun g5 w6 e7 b=>?_);refine rr 2 ?_;refine rn<|sq<|rg<|lN ((b.bring 0 rfl).box) ?_;obtain⟨P0,g0,hm⟩:=bS hm;refine ca z9T (z61 (hE.trans b.ext) hT j0 g0) (fun Q0 R0 o=>?_)
 rcases o with⟨p0,v0,q0,y0,r0,rfl,y⟩ | ⟨m16,G0,B0,M0,o0,u0,C0,N0,D0,O0,p0,v0,q0,y0,t0,rfl,G,K0⟩
 ·rw [r0,Option.elim_none] at hm;have H:=b.join y;refine rr 4 ?_;refine nw H (fun H0 S0 E0 O=>?_);refine rr 1 ?_;have Y:=O.bring 0 rfl;refine so (A:=[]) Y 0 (fun T0 a0=>?_);refine rr 1 ?_;refine rn<|sq<|sq<|rg<|rr 2 ?_;refine rn<|ci hm (fun hm=>?_) (fun hm=>?_)
  ·refine sq<|rg<|rr 3 ?_;refine rn<|rt ?_;cases hm;have b0:=a0.nilSl tInt 2;exact⟨_,.cons (.tmp rfl) (.cons (.tmp rfl) .nil),none,0,rfl,(b0.taken 1)⟩
  ·refine sp<|sq<|rg<|rr 1 ?_;cases hm
 ·rw [t0,Option.elim_some] at hm;have c0:=b.join G;refine rr 4 ?_;refine nw c0 (fun J0 U0 F0 d0=>?_);refine rr 1 ?_;have e0:=d0.bring 0 rfl;refine so (A:=[]) e0 0 (fun V0 d=>?_);refine rr 1 ?_;refine rn<|sq<|sq<|rg<|rr 2 ?_;refine rn<|ci hm (fun hm=>?_) (fun hm=>?_)
  ·refine sq<|rg<|rr 3 ?_;refine rn<|rt ?_;cases hm;have f0:=d.nilSl tInt 2;exact⟨_,.cons (.tmp rfl) (.cons (.tmp rfl) .nil),none,0,rfl,(f0.taken 1)⟩
  ·refine sp<|sq<|rg<|rr 3 ?_;refine l1 ((d.bring 1 rfl).box) 3 ?_;refine rr 2 ?_;refine rn<|rt ?_;cases hm;exact⟨_,.cons (.tmp rfl) (.cons (.tmp rfl) .nil),o0,u0,rfl,((d.bring 2 rfl).taken 1)⟩

theorem z5N:Enters Tryz.prog 11:=⟨_,_,Tryz.func11,rfl,by kernel_rfl⟩
def z5i (fuel:Nat) (t2:Unit):Option Bool:=some true
def z3z (fuel:Nat) (x0:(List Int)) (x1:(List Int)) (s1:Int):Option (Rd (Int) (Unit) (Bool)):=(if(decide (s1<(x0.length:Int)))=true then((idx x0 s1).bind fun b=>((idx x1 s1).bind fun d=>(if(b != d)=true then some (.ret false) else some (.next (w64 (s1+1)))))) else some (.brk ()))
def z11 (fuel:Nat) (x0:(List Int)) (x1:(List Int)):Option (Bool):=(if((x0.length:Int) != (x1.length:Int))=true then some false else((iter (z3z fuel x0 x1) fuel 0).bind fun o=>aft o (z5i fuel)))

theorem laws_eqInt64S_ok {W:Base}{w:World}(hE:Ext W w){H:Option Addr}{j0:Nat}{x0:(List Int)}{O:Option Addr}{k0:Nat}{x1:(List Int)}(r0:ty26.ro W [sl H x0 j0] x0) (t0:ty26.ro W [sl O x1 k0] x1){fuel:Nat}{r:Bool}(hm:z11 fuel x0 x1=some r):
  Calls Tryz.prog 11 ⟨[sl H x0 j0,sl O x1 k0]⟩ w (Ret fun v w8=>v=.bool r∧St w w8 []):=by
 refine into Tryz.func11 26 _ ?_;unfold z11 at hm;have hS:=St.start w;refine sq<|rg<|rr 1 ?_;refine rn<|sq<|sq<|rg<|rr 5 ?_;refine rn<|ci hm (fun hm=>?_) (fun hm=>?_)
 ·refine sq<|rg<|rr 1 ?_;refine rn<|rt ?_;cases hm;exact⟨_,.cons (.tmp rfl) .nil,rfl,hS⟩
 ·refine sp<|sq<|sq<|rg<|rr 1 ?_;refine rn ?_;obtain⟨u0,c0,hm⟩:=bS hm;refine ct (fun(t2:Unit) F w9=>u0=.inl t2∧Ext w w9∧St w w9 []∧F=[]) ?_ ?_
  ·rintro t2 F w7 ⟨d0,v0,Y,rfl⟩;subst d0;rw [zt] at hm;unfold z5i at hm;refine sq<|rg<|rr 1 ?_;refine rn<|rt ?_;cases hm;exact⟨_,.cons (.tmp rfl) .nil,rfl,Y⟩
  ·refine bk<|wk [0,1,5] ?_;refine it (fun(s1:Int) F w9=>Ext w w9∧St w w9 []∧F=[(0,sl H x0 j0),(1,sl O x1 k0),(5,.int .i64 s1)]) c0 ⟨(Ext.refl _),hS,rfl⟩ ?_;rintro s1 F C0 _ y0 ⟨o0,d,rfl⟩ b G;unfold z3z at b;refine sq<|sq<|rg<|rr 4 ?_;refine rn<|ci b (fun b=>?_) (fun b=>?_)
   ·refine sp<|sq<|bk<|sq<|dn 0 mixed 9 [([],511),([],511),([0,1],508),([2],507),([],511),([],511),([4,5],463),([6],447),([3,7],375)] d.ext (fun o=>?_);have y:=d.step (Ext.draw _);refine dr 5 o [0,1,4,5] ?_;obtain⟨D0,g0,b⟩:=bS b;refine dx (hE.trans d.ext) o 2 r0 g0 (fun A0 p0 a0 e0=>?_);cases e0;refine dl o 3 (At.ext (hE.trans d.ext) a0) 0 ?_;obtain⟨E0,i0,b⟩:=bS b;refine dx (hE.trans d.ext) o 6 t0 i0 (fun B0 q0 b0 f0=>?_);cases f0;refine dl o 7 (At.ext (hE.trans d.ext) b0) 0 ?_;refine dr 0 o [8] ?_;refine dw [0,1,5,25] ?_;refine dd o ?_;refine ci b (fun b=>?_) (fun b=>?_)
    ·refine sq<|rg<|rr 1 ?_;refine rn<|rt ?_;cases b;cases G;have hm:some _=some _:=hm;cases hm;exact⟨_,.cons (.tmp rfl) .nil,rfl,y⟩
    ·refine sp<|rg<|rr 3 ?_;refine rn ?_;cases b;exact⟨_,_,rfl,⟨(o0.trans (Ext.draw _)),y,rfl⟩,rfl⟩
   ·refine xt ?_;cases b;exact⟨_,_,⟨G,o0,d,rfl⟩,rfl⟩

theorem zbp:Enters Tryz.prog 100:=⟨_,_,Tryz.func100,rfl,by kernel_rfl⟩
def z4y (fuel:Nat) (x0:D.Port) (x1:D.Port):Option (Bool):=(if(x0.Agent != x1.Agent)=true then some false else(if(x0.Slot != x1.Slot)=true then some false else some true))

theorem laws_eqPort_ok {W:Base}{w:World}(hE:Ext W w){d:List Value}{x0:D.Port}{o:List Value}{x1:D.Port}(y:ty87.ro W d x0) (G:ty87.ro W o x1){fuel:Nat}{r:Bool}(hm:z4y fuel x0 x1=some r):
  Calls Tryz.prog 100 ⟨[.agg ⟨d⟩,.agg ⟨o⟩]⟩ w (Ret fun v w8=>v=.bool r∧St w w8 []):=by
 have e1:=z10 y;subst e1;have e2:=z10 G;subst e2;refine into Tryz.func100 15 _ ?_;unfold z4y at hm;have hS:=St.start w;refine sq<|rg<|nw hS (fun g3 w4 e5 H=>?_);refine nw H (fun g7 Y O b=>?_);refine rr 1 ?_;refine rn<|sq<|sq<|rg<|rr 1 ?_;refine l1 ((b.bring 1 rfl).box) 0 ?_;refine rr 1 ?_;refine l1 ((b.bring 0 rfl).box) 0 ?_;refine rr 1 ?_;refine rn<|ci hm (fun hm=>?_) (fun hm=>?_)
 ·refine sq<|rg<|rr 1 ?_;refine rn<|rt ?_;cases hm;exact⟨_,.cons (.tmp rfl) .nil,rfl,(b.taken 0)⟩
 ·refine sp<|sq<|sq<|rg<|rr 1 ?_;refine l1 ((b.bring 1 rfl).box) 1 ?_;refine rr 1 ?_;refine l1 ((b.bring 0 rfl).box) 1 ?_;refine rr 1 ?_;refine rn<|ci hm (fun hm=>?_) (fun hm=>?_)
  ·refine sq<|rg<|rr 1 ?_;refine rn<|rt ?_;cases hm;exact⟨_,.cons (.tmp rfl) .nil,rfl,(b.taken 0)⟩
  ·refine sp<|sq<|rg<|rr 1 ?_;refine rn<|rt ?_;cases hm;exact⟨_,.cons (.tmp rfl) .nil,rfl,(b.taken 0)⟩

theorem zc0:Enters Tryz.prog 83:=⟨_,_,Tryz.func83,rfl,by kernel_rfl⟩
def z5y (fuel:Nat) (t2:Unit):Option Bool:=some true
def z3X (fuel:Nat) (x0:(List D.Port)) (x1:(List D.Port)) (s1:Int):Option (Rd (Int) (Unit) (Bool)):=(if(decide (s1<(x0.length:Int)))=true then((idx x0 s1).bind fun d=>((idx x1 s1).bind fun o=>((z4y fuel d o).bind fun b=>(if(!b)=true then some (.ret false) else some (.next (w64 (s1+1))))))) else some (.brk ()))
def z4c (fuel:Nat) (x0:(List D.Port)) (x1:(List D.Port)):Option (Bool):=(if((x0.length:Int) != (x1.length:Int))=true then some false else((iter (z3X fuel x0 x1) fuel 0).bind fun o=>aft o (z5y fuel)))

theorem laws_eqPortS_ok {W:Base}{w:World}(hE:Ext W w){b0:Option Addr}{q0:Nat}{x0:(List D.Port)}{c0:Option Addr}{r0:Nat}{x1:(List D.Port)}(B0:ty65.ro W [sl b0 x0 q0] x0) (C0:ty65.ro W [sl c0 x1 r0] x1){fuel:Nat}{r:Bool}(hm:z4c fuel x0 x1=some r):
  Calls Tryz.prog 83 ⟨[sl b0 x0 q0,sl c0 x1 r0]⟩ w (Ret fun v w8=>v=.bool r∧St w w8 []):=by
 refine into Tryz.func83 27 _ ?_;unfold z4c at hm;have hS:=St.start w;refine sq<|rg<|rr 1 ?_;refine rn<|sq<|sq<|rg<|rr 5 ?_;refine rn<|ci hm (fun hm=>?_) (fun hm=>?_)
 ·refine sq<|rg<|rr 1 ?_;refine rn<|rt ?_;cases hm;exact⟨_,.cons (.tmp rfl) .nil,rfl,hS⟩
 ·refine sp<|sq<|sq<|rg<|rr 1 ?_;refine rn ?_;obtain⟨D0,i0,hm⟩:=bS hm;refine ct (fun(t2:Unit) F w9=>D0=.inl t2∧Ext w w9∧St w w9 []∧F=[]) ?_ ?_
  ·rintro t2 F w7 ⟨j0,E0,e0,rfl⟩;subst j0;rw [zt] at hm;unfold z5y at hm;refine sq<|rg<|rr 1 ?_;refine rn<|rt ?_;cases hm;exact⟨_,.cons (.tmp rfl) .nil,rfl,e0⟩
  ·refine bk<|wk [0,1,5] ?_;refine it (fun(s1:Int) F w9=>Ext w w9∧St w w9 []∧F=[(0,sl b0 x0 q0),(1,sl c0 x1 r0),(5,.int .i64 s1)]) i0 ⟨(Ext.refl _),hS,rfl⟩ ?_;rintro s1 F M0 _ F0 ⟨t0,o,rfl⟩ b O;unfold z3X at b;refine sq<|sq<|rg<|rr 4 ?_;refine rn<|ci b (fun b=>?_) (fun b=>?_)
   ·refine sp<|sq<|bk<|sq<|dn 0 mixed 10 [([],1023),([],1023),([0,1],1020),([2],1019),([],1023),([],1023),([4,5],975),([6],959),([3,7],887),([8],767)] o.ext (fun d=>?_);have G:=o.step (Ext.draw _);refine dr 6 d [0,1,4,5] ?_;obtain⟨O0,k0,b⟩:=bS b;refine dx (hE.trans o.ext) d 2 B0 k0 (fun G0 y0 f0 Y=>?_);have u0:=z10 Y;subst u0;refine dL d 3 (At.ext (hE.trans o.ext) f0) ?_;obtain⟨P0,o0,b⟩:=bS b;refine dx (hE.trans o.ext) d 6 C0 o0 (fun H0 A0 g0 a0=>?_);have v0:=z10 a0;subst v0;refine dL d 7 (At.ext (hE.trans o.ext) g0) ?_;obtain⟨J0,p0,b⟩:=bS b;refine o1 d 8 (mc d zbp (laws_eqPort_ok (hE.trans G.ext) Y a0 p0) (fun K0 N0 d0=>?_));obtain⟨rfl,y⟩:=d0;refine⟨y.ext,?_⟩;have H:=G.join y;refine dr 0 d [9] ?_;refine dw [0,1,5,26] ?_;refine dd d ?_;refine ci b (fun b=>?_) (fun b=>?_)
    ·refine sq<|rg<|rr 1 ?_;refine rn<|rt ?_;cases b;cases O;have hm:some _=some _:=hm;cases hm;exact⟨_,.cons (.tmp rfl) .nil,rfl,H⟩
    ·refine sp<|rg<|rr 3 ?_;refine rn ?_;cases b;exact⟨_,_,rfl,⟨((t0.trans (Ext.draw _)).trans y.ext),H,rfl⟩,rfl⟩
   ·refine xt ?_;cases b;exact⟨_,_,⟨O,t0,o,rfl⟩,rfl⟩

theorem zck:Enters Tryz.prog 49:=⟨_,_,Tryz.func49,rfl,by kernel_rfl⟩
def z4d (fuel:Nat) (x0:D.Agent) (x1:D.Agent):Option (Bool):=(if(x0.Kind != x1.Kind)=true then some false else(if(x0.Level != x1.Level)=true then some false else(if(x0.Value != x1.Value)=true then some false else((z11 fuel x0.Data x1.Data).bind fun b=>(if(!b)=true then some false else((z4c fuel x0.Ports x1.Ports).bind fun d=>(if(!d)=true then some false else some true)))))))

theorem laws_eqAgent_ok {W:Base}{w:World}(hE:Ext W w){c0:List Value}{x0:D.Agent}{d0:List Value}{x1:D.Agent}(f0:ty67.ro W c0 x0) (j0:ty67.ro W d0 x1){fuel:Nat}{r:Bool}(hm:z4d fuel x0 x1=some r):
  Calls Tryz.prog 49 ⟨[.agg ⟨c0⟩,.agg ⟨d0⟩]⟩ w (Ret fun v w8=>v=.bool r∧St w w8 []):=by
 obtain⟨A1,k2,A4,k5,e7,h3,h6⟩:=zw f0;subst e7;obtain⟨k0,u0,o0,v0,e0,g0,i0⟩:=zw j0;subst e0;refine into Tryz.func49 32 _ ?_;unfold z4d at hm;have hS:=St.start w;refine sq<|rg<|nw hS (fun r0 D0 p0 Y=>?_);refine nw Y (fun t0 E0 q0 b=>?_);refine rr 1 ?_;refine rn<|sq<|sq<|rg<|rr 1 ?_;refine l1 ((b.bring 1 rfl).box) 0 ?_;refine rr 1 ?_;refine l1 ((b.bring 0 rfl).box) 0 ?_;refine rr 1 ?_;refine rn<|ci hm (fun hm=>?_) (fun hm=>?_)
 ·refine sq<|rg<|rr 1 ?_;refine rn<|rt ?_;cases hm;exact⟨_,.cons (.tmp rfl) .nil,rfl,(b.taken 0)⟩
 ·refine sp<|sq<|sq<|rg<|rr 1 ?_;refine l1 ((b.bring 1 rfl).box) 1 ?_;refine rr 1 ?_;refine l1 ((b.bring 0 rfl).box) 1 ?_;refine rr 1 ?_;refine rn<|ci hm (fun hm=>?_) (fun hm=>?_)
  ·refine sq<|rg<|rr 1 ?_;refine rn<|rt ?_;cases hm;exact⟨_,.cons (.tmp rfl) .nil,rfl,(b.taken 0)⟩
  ·refine sp<|sq<|sq<|rg<|rr 1 ?_;refine l1 ((b.bring 1 rfl).box) 2 ?_;refine rr 1 ?_;refine l1 ((b.bring 0 rfl).box) 2 ?_;refine rr 1 ?_;refine rn<|ci hm (fun hm=>?_) (fun hm=>?_)
   ·refine sq<|rg<|rr 1 ?_;refine rn<|rt ?_;cases hm;exact⟨_,.cons (.tmp rfl) .nil,rfl,(b.taken 0)⟩
   ·refine sp<|sq<|sq<|rg<|rr 1 ?_;refine l1 ((b.bring 1 rfl).box) 3 ?_;refine rr 1 ?_;refine l1 ((b.bring 0 rfl).box) 3 ?_;obtain⟨y0,a0,hm⟩:=bS hm;refine ca z5N (laws_eqInt64S_ok (hE.trans b.ext) h3 g0 a0) (fun B0 F0 y=>?_);obtain⟨rfl,G⟩:=y;have d:=b.join G;refine rr 1 ?_;refine rn<|ci hm (fun hm=>?_) (fun hm=>?_)
    ·refine sq<|rg<|rr 1 ?_;refine rn<|rt ?_;cases hm;exact⟨_,.cons (.tmp rfl) .nil,rfl,(d.taken 0)⟩
    ·refine sp<|sq<|sq<|rg<|rr 1 ?_;refine l1 ((d.bring 1 rfl).box) 4 ?_;refine rr 1 ?_;refine l1 ((d.bring 0 rfl).box) 4 ?_;obtain⟨A0,b0,hm⟩:=bS hm;refine ca zc0 (laws_eqPortS_ok (hE.trans d.ext) h6 i0 b0) (fun C0 G0 H=>?_);obtain⟨rfl,O⟩:=H;have o:=d.join O;refine rr 1 ?_;refine rn<|ci hm (fun hm=>?_) (fun hm=>?_)
     ·refine sq<|rg<|rr 1 ?_;refine rn<|rt ?_;cases hm;exact⟨_,.cons (.tmp rfl) .nil,rfl,(o.taken 0)⟩
     ·refine sp<|sq<|rg<|rr 1 ?_;refine rn<|rt ?_;cases hm;exact⟨_,.cons (.tmp rfl) .nil,rfl,(o.taken 0)⟩

theorem zcs:Enters Tryz.prog 31:=⟨_,_,Tryz.func31,rfl,by kernel_rfl⟩
def z5j (fuel:Nat) (t2:Unit):Option Bool:=some true
def z3A (fuel:Nat) (x0:(List D.Agent)) (x1:(List D.Agent)) (s1:Int):Option (Rd (Int) (Unit) (Bool)):=(if(decide (s1<(x0.length:Int)))=true then((idx x0 s1).bind fun d=>((idx x1 s1).bind fun o=>((z4d fuel d o).bind fun b=>(if(!b)=true then some (.ret false) else some (.next (w64 (s1+1))))))) else some (.brk ()))
def z3P (fuel:Nat) (x0:(List D.Agent)) (x1:(List D.Agent)):Option (Bool):=(if((x0.length:Int) != (x1.length:Int))=true then some false else((iter (z3A fuel x0 x1) fuel 0).bind fun o=>aft o (z5j fuel)))

theorem laws_eqAgentS_ok {W:Base}{w:World}(hE:Ext W w){b0:Option Addr}{q0:Nat}{x0:(List D.Agent)}{c0:Option Addr}{r0:Nat}{x1:(List D.Agent)}(B0:ty29.ro W [sl b0 x0 q0] x0) (C0:ty29.ro W [sl c0 x1 r0] x1){fuel:Nat}{r:Bool}(hm:z3P fuel x0 x1=some r):
  Calls Tryz.prog 31 ⟨[sl b0 x0 q0,sl c0 x1 r0]⟩ w (Ret fun v w8=>v=.bool r∧St w w8 []):=by
 refine into Tryz.func31 27 _ ?_;unfold z3P at hm;have hS:=St.start w;refine sq<|rg<|rr 1 ?_;refine rn<|sq<|sq<|rg<|rr 5 ?_;refine rn<|ci hm (fun hm=>?_) (fun hm=>?_)
 ·refine sq<|rg<|rr 1 ?_;refine rn<|rt ?_;cases hm;exact⟨_,.cons (.tmp rfl) .nil,rfl,hS⟩
 ·refine sp<|sq<|sq<|rg<|rr 1 ?_;refine rn ?_;obtain⟨D0,i0,hm⟩:=bS hm;refine ct (fun(t2:Unit) F w9=>D0=.inl t2∧Ext w w9∧St w w9 []∧F=[]) ?_ ?_
  ·rintro t2 F w7 ⟨j0,O0,e0,rfl⟩;subst j0;rw [zt] at hm;unfold z5j at hm;refine sq<|rg<|rr 1 ?_;refine rn<|rt ?_;cases hm;exact⟨_,.cons (.tmp rfl) .nil,rfl,e0⟩
  ·refine bk<|wk [0,1,5] ?_;refine it (fun(s1:Int) F w9=>Ext w w9∧St w w9 []∧F=[(0,sl b0 x0 q0),(1,sl c0 x1 r0),(5,.int .i64 s1)]) i0 ⟨(Ext.refl _),hS,rfl⟩ ?_;rintro s1 F a1 _ T0 ⟨t0,o,rfl⟩ b O;unfold z3A at b;refine sq<|sq<|rg<|rr 4 ?_;refine rn<|ci b (fun b=>?_) (fun b=>?_)
   ·refine sp<|sq<|bk<|sq<|dn 0 mixed 10 [([],1023),([],1023),([0,1],1020),([2],1019),([],1023),([],1023),([4,5],975),([6],959),([3,7],887),([8],767)] o.ext (fun d=>?_);have G:=o.step (Ext.draw _);refine dr 6 d [0,1,4,5] ?_;obtain⟨d1,k0,b⟩:=bS b;refine dx (hE.trans o.ext) d 2 B0 k0 (fun U0 y0 f0 Y=>?_);obtain⟨E0,P0,F0,Q0,u0,J0,K0⟩:=zw Y;subst u0;refine dL d 3 (At.ext (hE.trans o.ext) f0) ?_;obtain⟨e1,o0,b⟩:=bS b;refine dx (hE.trans o.ext) d 6 C0 o0 (fun V0 A0 g0 a0=>?_);obtain⟨G0,R0,H0,S0,v0,M0,N0⟩:=zw a0;subst v0;refine dL d 7 (At.ext (hE.trans o.ext) g0) ?_;obtain⟨X0,p0,b⟩:=bS b;refine o1 d 8 (mc d zck (laws_eqAgent_ok (hE.trans G.ext) Y a0 p0) (fun Y0 b1 d0=>?_));obtain⟨rfl,y⟩:=d0;refine⟨y.ext,?_⟩;have H:=G.join y;refine dr 0 d [9] ?_;refine dw [0,1,5,26] ?_;refine dd d ?_;refine ci b (fun b=>?_) (fun b=>?_)
    ·refine sq<|rg<|rr 1 ?_;refine rn<|rt ?_;cases b;cases O;have hm:some _=some _:=hm;cases hm;exact⟨_,.cons (.tmp rfl) .nil,rfl,H⟩
    ·refine sp<|rg<|rr 3 ?_;refine rn ?_;cases b;exact⟨_,_,rfl,⟨((t0.trans (Ext.draw _)).trans y.ext),H,rfl⟩,rfl⟩
   ·refine xt ?_;cases b;exact⟨_,_,⟨O,t0,o,rfl⟩,rfl⟩

theorem z9Y:Enters Tryz.prog 12:=⟨_,_,Tryz.func12,rfl,by kernel_rfl⟩
def z4q (fuel:Nat) (x0:D.Net) (x1:D.Net):Option (Bool):=((z3P fuel x0.Agents x1.Agents).bind fun b=>(if(!b)=true then some false else some true))

theorem laws_eqNet_ok {W:Base}{w:World}(hE:Ext W w){O:List Value}{x0:D.Net}{Y:List Value}{x1:D.Net}(b0:ty31.ro W O x0) (c0:ty31.ro W Y x1){fuel:Nat}{r:Bool}(hm:z4q fuel x0 x1=some r):
  Calls Tryz.prog 12 ⟨[.agg ⟨O⟩,.agg ⟨Y⟩]⟩ w (Ret fun v w8=>v=.bool r∧St w w8 []):=by
 obtain⟨A1,k2,e4,h3⟩:=z1i b0;subst e4;obtain⟨A5,k6,a0,h7⟩:=z1i c0;subst a0;refine into Tryz.func12 11 _ ?_;unfold z4q at hm;have hS:=St.start w;refine sq<|rg<|nw hS (fun f0 k0 d0 G=>?_);refine nw G (fun g0 o0 e0 b=>?_);refine rr 1 ?_;refine rn<|sq<|sq<|rg<|rr 1 ?_;refine l1 ((b.bring 1 rfl).box) 0 ?_;refine rr 1 ?_;refine l1 ((b.bring 0 rfl).box) 0 ?_;obtain⟨i0,H,hm⟩:=bS hm;refine ca zcs (laws_eqAgentS_ok (hE.trans b.ext) h3 h7 H) (fun j0 p0 o=>?_);obtain⟨rfl,y⟩:=o;have d:=b.join y;refine rr 1 ?_;refine rn<|ci hm (fun hm=>?_) (fun hm=>?_)
 ·refine sq<|rg<|rr 1 ?_;refine rn<|rt ?_;cases hm;exact⟨_,.cons (.tmp rfl) .nil,rfl,(d.taken 0)⟩
 ·refine sp<|sq<|rg<|rr 1 ?_;refine rn<|rt ?_;cases hm;exact⟨_,.cons (.tmp rfl) .nil,rfl,(d.taken 0)⟩

theorem z8w:Enters Tryz.prog 14:=⟨_,_,Tryz.func14,rfl,by kernel_rfl⟩
def z4P (fuel:Nat) (t2:Int × (List Int)):Option (Int × (List Int)):=some (t2.1,t2.2)
def z2M (fuel:Nat) (x0:(List Int)) (s1:Int × Int × (List Int)):Option (Rd (Int × Int × (List Int)) (Int × (List Int)) (Int × (List Int))):=(if(decide (s1.2.1<(x0.length:Int)))=true then(if decide (0≤s1.2.1∧s1.2.1.toNat<s1.2.2.length)=true then some (.next (w64 (s1.1+1),w64 (s1.2.1+1),(s1.2.2.set s1.2.1.toNat s1.1))) else none) else some (.brk (s1.1,s1.2.2)))
def z1H (fuel:Nat) (x0:(List Int)) (x1:Int):Option (Int × (List Int)):=((iter (z2M fuel x0) fuel (x1,0,x0)).bind fun o=>aft o (z4P fuel))

theorem laws_markInt64S_ok {W:Base}{w:World}{RR:List Res}{o:Option Addr}{y:Nat}{x0:(List Int)}{x1:Int}(hS:St W w (ow ty26 o x0 y::RR)){fuel:Nat}{r:Int × (List Int)}(hm:z1H fuel x0 x1=some r):
  Calls Tryz.prog 14 ⟨[sl o x0 y,.int .i64 x1]⟩ w (Ret fun v w8=>v=.int .i64 r.1∧St W w8 (Own ty26 [sl o x0 y] r.2::RR)):=by
 refine into Tryz.func14 19 _ ?_;unfold z1H at hm;refine sq<|rg<|rr 1 ?_;refine rn<|sq<|sq<|rg<|rr 1 ?_;refine rn ?_;obtain⟨o5,f0,hm⟩:=bS hm;refine ct (fun(t2:Int × (List Int)) F w9=>o5=.inl t2∧St W w9 (Own ty26 [sl o x0 y] t2.2::RR)∧F=[(1,.int .i64 t2.1)]) ?_ ?_
 ·rintro t2 F w4 ⟨c0,e0,rfl⟩;subst c0;rw [zt] at hm;unfold z4P at hm;refine sq<|rg<|rr 2 ?_;refine rn<|rt ?_;cases hm;exact⟨_,.cons (.tmp rfl) .nil,rfl,e0⟩
 ·refine bk<|wk [0,1,5] ?_;refine it (fun(s1:Int × Int × (List Int)) F w9=>St W w9 (Own ty26 [sl o x0 y] s1.2.2::RR)∧F=[(0,sl o x0 y),(1,.int .i64 s1.1),(5,.int .i64 s1.2.1)]) f0 ⟨hS,rfl⟩ ?_;rintro s1 F i0 _ g0 ⟨G,rfl⟩ b d0;unfold z2M at b;refine sq<|sq<|rg<|rr 4 ?_;refine rn<|ci b (fun b=>?_) (fun b=>?_)
  ·refine sp<|sq<|bk<|sq<|rg<|rr 3 ?_;have H:=G.bring 0 rfl;obtain⟨b0,b⟩:=iS b;have d:=of_decide_eq_true b0;refine io H d.1 d.2 (fun q19 hq20=>?_);have O:=H.flat (T:=tInt) (cs:=[.int .i64 s1.1]) (x:=s1.1) ⟨rfl,rfl⟩;have Y:=O.bring 1 rfl;refine se Y d.2 hq20 (fun j0 a0=>?_);refine rn<|rg<|rr 3 ?_;refine rn<|rg<|rr 3 ?_;refine rn ?_;cases b;exact⟨_,_,rfl,⟨a0,rfl⟩,rfl⟩
  ·refine xt ?_;cases b;exact⟨_,_,⟨d0,G,rfl⟩,rfl⟩

theorem zcj:Enters Tryz.prog 50:=⟨_,_,Tryz.func50,rfl,by kernel_rfl⟩
def z54 (fuel:Nat) (t2:Int × (List D.Port)):Option (Int × (List D.Port)):=some (t2.1,t2.2)
def z3e (fuel:Nat) (x0:(List D.Port)) (s1:Int × Int × (List D.Port)):Option (Rd (Int × Int × (List D.Port)) (Int × (List D.Port)) (Int × (List D.Port))):=(if(decide (s1.2.1<(x0.length:Int)))=true then((idx s1.2.2 s1.2.1).bind fun b=>some (.next (w64 ((w64 (s1.1+1))+1),w64 (s1.2.1+1),(s1.2.2.set s1.2.1.toNat (⟨s1.1,w64 (s1.1+1)⟩:D.Port))))) else some (.brk (s1.1,s1.2.2)))
def z3k (fuel:Nat) (x0:(List D.Port)) (x1:Int):Option (Int × (List D.Port)):=((iter (z3e fuel x0) fuel (x1,0,x0)).bind fun o=>aft o (z54 fuel))

theorem laws_markPortS_ok {W:Base}{w:World}{RR:List Res}{d:Option Addr}{o:Nat}{x0:(List D.Port)}{x1:Int}(hS:St W w (ow ty65 d x0 o::RR)){fuel:Nat}{r:Int × (List D.Port)}(hm:z3k fuel x0 x1=some r):
  Calls Tryz.prog 50 ⟨[sl d x0 o,.int .i64 x1]⟩ w (Ret fun v w8=>v=.int .i64 r.1∧St W w8 (Own ty65 [sl d x0 o] r.2::RR)):=by
 refine into Tryz.func50 27 _ ?_;unfold z3k at hm;refine sq<|rg<|rr 1 ?_;refine rn<|sq<|sq<|rg<|rr 1 ?_;refine rn ?_;obtain⟨o5,q0,hm⟩:=bS hm;refine ct (fun(t2:Int × (List D.Port)) F w9=>o5=.inl t2∧St W w9 (Own ty65 [sl d x0 o] t2.2::RR)∧F=[(1,.int .i64 t2.1)]) ?_ ?_
 ·rintro t2 F w4 ⟨i0,p0,rfl⟩;subst i0;rw [zt] at hm;unfold z54 at hm;refine sq<|rg<|rr 2 ?_;refine rn<|rt ?_;cases hm;exact⟨_,.cons (.tmp rfl) .nil,rfl,p0⟩
 ·refine bk<|wk [0,1,5] ?_;refine it (fun(s1:Int × Int × (List D.Port)) F w9=>St W w9 (Own ty65 [sl d x0 o] s1.2.2::RR)∧F=[(0,sl d x0 o),(1,.int .i64 s1.1),(5,.int .i64 s1.2.1)]) q0 ⟨hS,rfl⟩ ?_;rintro s1 F t0 _ r0 ⟨y,rfl⟩ b j0;unfold z3e at b;refine sq<|sq<|rg<|rr 4 ?_;refine rn<|ci b (fun b=>?_) (fun b=>?_)
  ·refine sp<|sq<|bk<|sq<|rg<|rr 3 ?_;have O:=y.bring 0 rfl;obtain⟨y0,H,b⟩:=bS b;refine fo O H (fun q19 o0 hq21 Y=>?_);obtain⟨k0,a0⟩:=za8 (Y.bring 1 rfl);subst k0;refine rr 1 ?_;have b0:=a0.bring 0 rfl;refine sh b0 hq21 0 (fun u0 G=>?_);refine rn<|sq<|rg<|rr 3 ?_;refine rn<|sq<|rg<|rr 3 ?_;refine ia (G.bring 0 rfl) (z6 H).1 (fun q28 hq29=>?_);refine rr 1 ?_;have c0:=G.bring 0 rfl;refine sh c0 hq29 1 (fun v0 d0=>?_);refine rn<|rg<|rr 3 ?_;refine rn<|rg<|rr 3 ?_;refine rn ?_;have e0:=z7S (c:=(⟨s1.1,w64 (s1.1+1)⟩:D.Port)) (B:=_) d0;have f0:=e0.bring 1 rfl;have g0:=St.unfocusN f0;cases b;exact⟨_,_,rfl,⟨g0,rfl⟩,rfl⟩
  ·refine xt ?_;cases b;exact⟨_,_,⟨j0,y,rfl⟩,rfl⟩

theorem zcr:Enters Tryz.prog 32:=⟨_,_,Tryz.func32,rfl,by kernel_rfl⟩
def z4Q (fuel:Nat) (t2:Int × (List D.Agent)):Option (Int × (List D.Agent)):=some (t2.1,t2.2)
def z2N (fuel:Nat) (x0:(List D.Agent)) (s1:Int × Int × (List D.Agent)):Option (Rd (Int × Int × (List D.Agent)) (Int × (List D.Agent)) (Int × (List D.Agent))):=(if(decide (s1.2.1<(x0.length:Int)))=true then((idx s1.2.2 s1.2.1).bind fun o=>((z1H fuel o.Data (w64 ((w64 ((w64 (s1.1+1))+1))+1))).bind fun b=>((z3k fuel o.Ports b.1).bind fun d=>some (.next (d.1,w64 (s1.2.1+1),(s1.2.2.set s1.2.1.toNat (⟨s1.1,w64 (s1.1+1),w64 ((w64 (s1.1+1))+1),b.2,d.2⟩:D.Agent))))))) else some (.brk (s1.1,s1.2.2)))
def z3b (fuel:Nat) (x0:(List D.Agent)) (x1:Int):Option (Int × (List D.Agent)):=((iter (z2N fuel x0) fuel (x1,0,x0)).bind fun o=>aft o (z4Q fuel))

theorem laws_markAgentS_ok {W:Base}{w:World}{RR:List Res}{d0:Option Addr}{e0:Nat}{x0:(List D.Agent)}{x1:Int}(hS:St W w (ow ty29 d0 x0 e0::RR)){fuel:Nat}{r:Int × (List D.Agent)}(hm:z3b fuel x0 x1=some r):
  Calls Tryz.prog 32 ⟨[sl d0 x0 e0,.int .i64 x1]⟩ w (Ret fun v w8=>v=.int .i64 r.1∧St W w8 (Own ty29 [sl d0 x0 e0] r.2::RR)):=by
 refine into Tryz.func32 48 _ ?_;unfold z3b at hm;refine sq<|rg<|rr 1 ?_;refine rn<|sq<|sq<|rg<|rr 1 ?_;refine rn ?_;obtain⟨o5,R0,hm⟩:=bS hm;refine ct (fun(t2:Int × (List D.Agent)) F w9=>o5=.inl t2∧St W w9 (Own ty29 [sl d0 x0 e0] t2.2::RR)∧F=[(1,.int .i64 t2.1)]) ?_ ?_
 ·rintro t2 F w4 ⟨J0,Q0,rfl⟩;subst J0;rw [zt] at hm;unfold z4Q at hm;refine sq<|rg<|rr 2 ?_;refine rn<|rt ?_;cases hm;exact⟨_,.cons (.tmp rfl) .nil,rfl,Q0⟩
 ·refine bk<|wk [0,1,5] ?_;refine it (fun(s1:Int × Int × (List D.Agent)) F w9=>St W w9 (Own ty29 [sl d0 x0 e0] s1.2.2::RR)∧F=[(0,sl d0 x0 e0),(1,.int .i64 s1.1),(5,.int .i64 s1.2.1)]) R0 ⟨hS,rfl⟩ ?_;rintro s1 F Y0 _ U0 ⟨f0,rfl⟩ b K0;unfold z2N at b;refine sq<|sq<|rg<|rr 4 ?_;refine rn<|ci b (fun b=>?_) (fun b=>?_)
  ·refine sp<|sq<|bk<|sq<|rg<|rr 3 ?_;have r0:=f0.bring 0 rfl;obtain⟨o,d,b⟩:=bS b;refine fo r0 d (fun q19 P0 hq21 t0=>?_);obtain⟨G,b0,H,c0,O0,u0⟩:=za9 (t0.bring 1 rfl);subst O0;refine rr 1 ?_;have v0:=u0.bring 2 rfl;refine sh v0 hq21 0 (fun a1 g0=>?_);refine rn<|sq<|rg<|rr 3 ?_;refine rn<|sq<|rg<|rr 3 ?_;refine ia (g0.bring 0 rfl) (z6 d).1 (fun q32 hq33=>?_);refine rr 1 ?_;have y0:=g0.bring 0 rfl;refine sh y0 hq33 1 (fun b1 i0=>?_);refine rn<|sq<|rg<|rr 3 ?_;refine rn<|sq<|rg<|rr 3 ?_;refine ia (i0.bring 0 rfl) (z6 d).1 (fun q37 hq38=>?_);refine rr 1 ?_;have A0:=i0.bring 0 rfl;refine sh A0 hq38 2 (fun d1 O=>?_);refine rn<|sq<|rg<|rr 3 ?_;refine rn<|sq<|rg<|rr 2 ?_;refine ia (O.bring 0 rfl) (z6 d).1 (fun q42 hq43=>?_);refine rr 1 ?_;refine l1 ((O.bring 0 rfl).hole_atN hq43) 3 ?_;refine rr 1 ?_;obtain⟨y,M0,b⟩:=bS b;refine ca z8w (laws_markInt64S_ok (W:=W) (RR:=_) (x0:=o.Data) (x1:=w64 ((w64 ((w64 (s1.1+1))+1))+1)) (O.bring 1 rfl)  M0) (fun V0 e1 p0=>?_);obtain⟨rfl,Y⟩:=p0;refine rr 1 ?_;refine rn<|rg<|rr 2 ?_;refine ia (Y.bring 1 rfl) (z6 d).1 (fun q50 hq51=>?_);refine rr 1 ?_;refine l1 ((Y.bring 1 rfl).hole_atN hq51) 4 ?_;refine rr 1 ?_;obtain⟨o0,N0,b⟩:=bS b;refine ca zcj (laws_markPortS_ok (W:=W) (RR:=_) (x0:=o.Ports) (x1:=y.1) (Y.bring 2 rfl)  N0) (fun X0 f1 q0=>?_);obtain⟨rfl,j0⟩:=q0;refine rr 1 ?_;refine rn<|rg<|rr 3 ?_;refine rn ?_;have hn58:=(j0.bring 1 rfl).lenEq;have B0:=(j0.bring 1 rfl).reLen hn58;have k0:=(B0.bring 2 rfl).reHole (es':=[.int .i64 s1.1,.int .i64 (w64 (s1.1+1)),.int .i64 (w64 ((w64 (s1.1+1))+1)),.slice G y.2.length b0,.slice H o.Ports.length c0]) (by show([.int .i64 s1.1,.int .i64 (w64 (s1.1+1)),.int .i64 (w64 ((w64 (s1.1+1))+1)),.slice G o.Data.length b0,.slice H o.Ports.length c0]:List Value)=[.int .i64 s1.1,.int .i64 (w64 (s1.1+1)),.int .i64 (w64 ((w64 (s1.1+1))+1)),.slice G y.2.length b0,.slice H o.Ports.length c0];first | (simp only [sl,hn58];done) | (simp only [sl,hn58];rfl));have hn61:=(k0.bring 2 rfl).lenEq;have C0:=(k0.bring 2 rfl).reLen hn61;have a0:=(C0.bring 1 rfl).reHole (es':=[.int .i64 s1.1,.int .i64 (w64 (s1.1+1)),.int .i64 (w64 ((w64 (s1.1+1))+1)),.slice G y.2.length b0,.slice H o0.2.length c0]) (by show([.int .i64 s1.1,.int .i64 (w64 (s1.1+1)),.int .i64 (w64 ((w64 (s1.1+1))+1)),.slice G y.2.length b0,.slice H o.Ports.length c0]:List Value)=[.int .i64 s1.1,.int .i64 (w64 (s1.1+1)),.int .i64 (w64 ((w64 (s1.1+1))+1)),.slice G y.2.length b0,.slice H o0.2.length c0];first | (simp only [sl,hn61];done) | (simp only [sl,hn61];rfl));have S0:=(show ty26.ro _ [.slice G o.Data.length b0] y.2 from(Eq.symm hn58) ▸ ((a0.bring 2 rfl).own));have T0:=(show ty65.ro _ [.slice H o.Ports.length c0] o0.2 from(Eq.symm hn61) ▸ ((a0.bring 1 rfl).own));have D0:=a0.bring 1 rfl;have E0:=D0.bring 2 rfl;have F0:=z7T (c:=(⟨s1.1,w64 (s1.1+1),w64 ((w64 (s1.1+1))+1),y.2,o0.2⟩:D.Agent)) (B:=_) E0;have G0:=F0.bring 1 rfl;have H0:=St.unfocusN G0;cases b;exact⟨_,_,rfl,⟨H0,rfl⟩,rfl⟩
  ·refine xt ?_;cases b;exact⟨_,_,⟨K0,f0,rfl⟩,rfl⟩

theorem z9X:Enters Tryz.prog 13:=⟨_,_,Tryz.func13,rfl,by kernel_rfl⟩
def z3r (fuel:Nat) (x0:D.Net) (x1:Int):Option (Int × (List D.Agent)):=((z3b fuel x0.Agents x1).bind fun r5=>some (r5.1,r5.2))

theorem laws_markNet_ok {W:Base}{w:World}{RR:List Res}{x0:D.Net}{b:Option Addr}{d:Nat}{x1:Int}(hS:St W w (ow ty29 b x0.Agents d::RR)){fuel:Nat}{r:Int × (List D.Agent)}(hm:z3r fuel x0 x1=some r):
  Calls Tryz.prog 13 ⟨[.agg ⟨[sl b x0.Agents d]⟩,.int .i64 x1]⟩ w (Ret fun v w8=>v=.int .i64 r.1∧St W w8 (Own ty29 [sl b x0.Agents d] r.2::RR)):=by
 refine into Tryz.func13 10 _ ?_;unfold z3r at hm;refine sq<|rg<|nw hS (fun g1 w2 e3 G=>?_);refine rr 1 ?_;refine rn<|sq<|rg<|rr 1 ?_;refine l1 ((G.bring 0 rfl).box) 0 ?_;refine rr 1 ?_;obtain⟨r5,H,hm⟩:=bS hm;refine ca zcr (laws_markAgentS_ok (W:=W) (RR:=_) (x0:=x0.Agents) (x1:=x1) (G.bring 1 rfl)  H) (fun v7 O o=>?_);obtain⟨rfl,y⟩:=o;refine rr 1 ?_;refine rn<|sq<|rg<|rr 2 ?_;refine rn<|rt ?_;cases hm;exact⟨_,.cons (.tmp rfl) .nil,rfl,(y.bring 1 rfl).drop⟩

theorem z7c:Enters Tryz.prog 15:=⟨_,_,Tryz.func15,rfl,by kernel_rfl⟩
def z4R (fuel:Nat) (t2:Int):Option Int:=some t2
def z1Y (fuel:Nat) (x0:(List Int)) (s1:Int × Int):Option (Rd (Int × Int) (Int) (Int)):=(if(decide (s1.2<(x0.length:Int)))=true then((idx x0 s1.2).bind fun b=>(if(b != s1.1)=true then some (.ret (-1)) else some (.next (w64 (s1.1+1),w64 (s1.2+1))))) else some (.brk s1.1))
def z1j (fuel:Nat) (x0:(List Int)) (x1:Int):Option (Int):=((iter (z1Y fuel x0) fuel (x1,0)).bind fun o=>aft o (z4R fuel))

theorem laws_heldInt64S_ok {W:Base}{w:World}(hE:Ext W w){y:Option Addr}{c0:Nat}{x0:(List Int)}{x1:Int}(f0:ty26.ro W [sl y x0 c0] x0){fuel:Nat}{r:Int}(hm:z1j fuel x0 x1=some r):
  Calls Tryz.prog 15 ⟨[sl y x0 c0,.int .i64 x1]⟩ w (Ret fun v w8=>v=.int .i64 r∧St w w8 []):=by
 refine into Tryz.func15 21 _ ?_;unfold z1j at hm;have hS:=St.start w;refine sq<|rg<|rr 1 ?_;refine rn<|sq<|sq<|rg<|rr 1 ?_;refine rn ?_;obtain⟨g0,O,hm⟩:=bS hm;refine ct (fun(t2:Int) F w9=>g0=.inl t2∧Ext w w9∧St w w9 []∧F=[(1,.int .i64 t2)]) ?_ ?_
 ·rintro t2 F w7 ⟨Y,i0,G,rfl⟩;subst Y;rw [zt] at hm;unfold z4R at hm;refine sq<|rg<|rr 2 ?_;refine rn<|rt ?_;cases hm;exact⟨_,.cons (.tmp rfl) .nil,rfl,G⟩
 ·refine bk<|wk [0,1,5] ?_;refine it (fun(s1:Int × Int) F w9=>Ext w w9∧St w w9 []∧F=[(0,sl y x0 c0),(1,.int .i64 s1.1),(5,.int .i64 s1.2)]) O ⟨(Ext.refl _),hS,rfl⟩ ?_;rintro s1 F o0 _ j0 ⟨d0,d,rfl⟩ b o;unfold z1Y at b;refine sq<|sq<|rg<|rr 4 ?_;refine rn<|ci b (fun b=>?_) (fun b=>?_)
  ·refine sp<|sq<|bk<|sq<|sq<|rg<|rr 2 ?_;obtain⟨p0,b0,b⟩:=bS b;refine ix (hE.trans d.ext) f0 b0 (fun k0 e0 H a0=>?_);cases a0;refine l1 (At.ext (hE.trans d.ext) H) 0 ?_;refine rr 2 ?_;refine rn<|ci b (fun b=>?_) (fun b=>?_)
   ·refine sq<|rg<|rr 1 ?_;refine rn<|rt ?_;cases b;cases o;have hm:some _=some _:=hm;cases hm;exact⟨_,.cons (.tmp rfl) .nil,rfl,d⟩
   ·refine sp<|rg<|rr 3 ?_;refine rn<|rg<|rr 3 ?_;refine rn ?_;cases b;exact⟨_,_,rfl,⟨d0,d,rfl⟩,rfl⟩
  ·refine xt ?_;cases b;exact⟨_,_,⟨o,d0,d,rfl⟩,rfl⟩

def zY (fuel:Nat) (o:Int × (List Int)) (d:Bool):Option Bool:=(if d=true then some false else((z1j fuel o.2 1).bind fun b=>(if(decide (b<0))=true then some false else(if(b != o.1)=true then some false else some true))))
def zD (fuel:Nat) (x0:D.Net) (H:(List Int) × Int) (O:(List Int) × Int) (Y:Bool):Option Bool:=(if Y=true then some false else((z1H fuel O.1 1).bind fun o=>((z1j fuel o.2 1).bind fun b=>(if(decide (b<0))=true then some false else(if(b != o.1)=true then some false else((z1w fuel x0).bind fun y=>((z1S fuel y).bind fun d=>((z11 fuel d.1 H.1).bind fun G=>(if(!G)=true then zY fuel o true else zY fuel o (d.2 != H.2))))))))))
def zZ (fuel:Nat) (x0:D.Net) (b:(List Int) × Int) (y:D.Net) (d:(List Int) × Int) (Y:Bool):Option Bool:=(if Y=true then some false else((z1w fuel x0).bind fun G=>((z4q fuel y G).bind fun H=>(if(!H)=true then some false else((z3r fuel y 1).bind fun O=>(if(decide (O.1<0))=true then zD fuel x0 b d true else((z11 fuel d.1 b.1).bind fun o=>(if(!o)=true then zD fuel x0 b d true else zD fuel x0 b d (d.2 != b.2)))))))))
def z1O (fuel:Nat) (x0:D.Net):Option (Bool):=((z4p fuel x0 1048576).bind fun G=>(if(decide (G<0))=true then some true else((z1w fuel x0).bind fun H=>((z2y fuel H).bind fun b=>((z1w fuel x0).bind fun y=>((z1S fuel y).bind fun d=>((z11 fuel d.1 b.1).bind fun o=>(if(!o)=true then zZ fuel x0 b y d true else zZ fuel x0 b y d (d.2 != b.2)))))))))

theorem laws_FnExactReadOrigins_ok {W:Base}{w:World}(hE:Ext W w){b2:List Value}{x0:D.Net}(hT:Tab W) (C0:ty24.ro W b2 x0){fuel:Nat}{r:Bool}(hm:z1O fuel x0=some r):
  Calls Tryz.prog 3 ⟨[.agg ⟨b2⟩]⟩ w (Ret fun v w8=>v=.bool r∧St w w8 []):=by
 obtain⟨A1,k2,e4,h3⟩:=z6j C0;subst e4;refine into Tryz.func3 96 _ ?_;unfold z1O at hm;have hS:=St.start w;refine sq<|rg<|nw hS (fun g5 w6 e7 t0=>?_);refine rr 1 ?_;refine rn<|sq<|rg<|rr 1 ?_;refine rn<|sq<|rg<|lN ((t0.bring 0 rfl).box) ?_;refine rr 1 ?_;obtain⟨W2,L1,hm⟩:=bS hm;refine ca zba (laws_szNet_ok (hE.trans t0.ext) C0 L1) (fun a3 k3 m1=>?_);obtain⟨rfl,n1⟩:=m1;have e0:=t0.join n1;refine rr 1 ?_;refine rn<|sq<|sq<|rg<|rr 2 ?_;refine rn<|ci hm (fun hm=>?_) (fun hm=>?_)
 ·refine sq<|rg<|rr 1 ?_;refine rn<|rt ?_;cases hm;exact⟨_,.cons (.tmp rfl) .nil,rfl,(e0.taken 0)⟩
 ·refine sp<|sq<|rg<|lN ((e0.bring 0 rfl).box) ?_;obtain⟨v2,M1,hm⟩:=bS hm;refine ca z65 (laws_toNet_ok (hE.trans e0.ext) C0 M1) (fun b3 m3 p1=>?_);obtain⟨R2,U2,rfl,t1⟩:=p1;have U0:=e0.join t1;obtain⟨c0,N1,hm⟩:=bS hm;refine ca zcS (z6e (Ext.refl _) (z2n v2 ((U0.bring 0 rfl).own)) N1) (fun c3 n3 u1=>?_);obtain⟨j1,k1,rfl,v1⟩:=u1;have u0:=U0.join v1;refine rr 5 ?_;refine rn<|sq<|rg<|lN ((u0.bring 2 rfl).box) ?_;obtain⟨D0,O1,hm⟩:=bS hm;refine ca z65 (laws_toNet_ok (hE.trans u0.ext) C0 O1) (fun d3 o3 y1=>?_);obtain⟨a2,f2,rfl,B1⟩:=y1;have H1:=u0.join B1;refine nw H1 (fun d2 p3 T2 J1=>?_);have K1:=J1.bring 0 rfl;refine so (A:=[]) K1 0 (fun q3 f0=>?_);refine rn<|sq<|rg<|lN ((f0.bring 0 rfl).box) ?_;obtain⟨d0,P1,hm⟩:=bS hm;refine ca z9Z (z57 (Ext.refl _) (Tab.ext (hE.trans f0.ext) hT) (z2n D0 ((f0.bring 1 rfl).own)) P1) (fun e3 P2 C1=>?_);obtain⟨i0,r0,rfl,D1⟩:=C1;have v0:=f0.join D1;refine rr 5 ?_;refine rn<|sq<|sq<|ct (fun(W1:Bool) F w9=>zZ fuel x0 c0 D0 d0 W1=some r∧Ext P2 w9∧St w w9 [ow ty26 i0 d0.1 r0,Box d2 [sl a2 D0.Agents f2] 31,ow ty29 a2 D0.Agents f2,ow ty26 j1 c0.1 k1,Box g5 [sl A1 x0.Agents k2] 24]∧F=[(1,.pointer (some ⟨g5,0,none⟩)),(4,sl j1 c0.1 k1),(5,.int .i64 c0.2),(6,.pointer (some ⟨d2,0,none⟩)),(7,sl i0 d0.1 r0),(8,.int .i64 d0.2),(40,.bool W1)]) ?_ ?_
  ·rintro W1 F r3 ⟨hm,j2,b0,rfl⟩;unfold zZ at hm;refine ci hm (fun hm=>?_) (fun hm=>?_)
   ·refine sq<|rg<|rr 1 ?_;refine rn<|rt ?_;cases hm;exact⟨_,.cons (.tmp rfl) .nil,rfl,(b0.taken 0)⟩
   ·refine sp<|sq<|sq<|dn 0 mixed 5 [([],31),([],31),([1],29),([0,2,2],26),([3],23)] b0.ext (fun d=>?_);have V0:=b0.step (Ext.draw _);refine dL d 0 ((b0.bring 1 rfl).box) ?_;refine dL d 1 ((b0.bring 4 rfl).box) ?_;obtain⟨y2,Q1,hm⟩:=bS hm;refine o1 d 2 (mc d z65 (laws_toNet_ok (hE.trans V0.ext) C0 Q1) (fun f3 s3 E1=>?_));obtain⟨S2,V2,rfl,S0⟩:=E1;refine⟨S0.ext,?_⟩;have y0:=V0.join S0;obtain⟨X2,R1,hm⟩:=bS hm;refine o1 d 3 (mc d z9Y (laws_eqNet_ok (Ext.refl _) (z2n D0 ((y0.bring 3 rfl).own)) (z2n y2 ((y0.bring 0 rfl).own)) R1) (fun g3 t3 F1=>?_));obtain⟨rfl,T0⟩:=F1;refine⟨T0.ext,?_⟩;have A0:=y0.join T0;refine dr 0 d [4] ?_;refine dd d ?_;refine ci hm (fun hm=>?_) (fun hm=>?_)
    ·refine sq<|rg<|rr 1 ?_;refine rn<|rt ?_;cases hm;exact⟨_,.cons (.tmp rfl) .nil,rfl,(A0.taken 0)⟩
    ·refine sp<|sq<|rg<|rr 1 ?_;refine rn<|sq<|rg<|lN ((A0.bring 2 rfl).box) ?_;refine rr 1 ?_;obtain⟨Y2,S1,hm⟩:=bS hm;refine ca z9X (laws_markNet_ok (W:=w) (RR:=_) (x0:=D0) (x1:=1) (A0.bring 3 rfl)  S1) (fun i3 Q2 G1=>?_);obtain⟨rfl,g0⟩:=G1;refine rr 1 ?_;refine rn<|sq<|sq<|ct (fun(X1:Bool) F w9=>zD fuel x0 c0 d0 X1=some r∧Ext Q2 w9∧St w w9 [ow ty26 i0 d0.1 r0,ow ty26 j1 c0.1 k1,Box g5 [sl A1 x0.Agents k2] 24]∧F=[(1,.pointer (some ⟨g5,0,none⟩)),(4,sl j1 c0.1 k1),(5,.int .i64 c0.2),(7,sl i0 d0.1 r0),(61,.bool X1)]) ?_ ?_
     ·rintro X1 F u3 ⟨hm,m2,X0,rfl⟩;unfold zD at hm;refine ci hm (fun hm=>?_) (fun hm=>?_)
      ·refine sq<|rg<|rr 1 ?_;refine rn<|rt ?_;cases hm;exact⟨_,.cons (.tmp rfl) .nil,rfl,(X0.taken 0)⟩
      ·refine sp<|sq<|rg<|rr 1 ?_;refine rn<|sq<|rg<|rr 2 ?_;obtain⟨i1,T1,hm⟩:=bS hm;refine ca z8w (laws_markInt64S_ok (W:=w) (RR:=_) (x0:=d0.1) (x1:=1) X0  T1) (fun j3 v3 E0=>?_);obtain⟨rfl,j0⟩:=E0;refine rr 1 ?_;refine rn<|sq<|rg<|rr 1 ?_;refine rn<|sq<|rg<|rr 2 ?_;have hn102:=(j0.bring 0 rfl).lenEq;have k0:=(j0.bring 0 rfl).reLen hn102;refine kn (u:=.slice i0 i1.2.length r0) 65 rfl (by simp only [sl,hn102]) ?_;obtain⟨p2,Y0,hm⟩:=bS hm;refine ca z7c (laws_heldInt64S_ok (Ext.refl _) ((k0.bring 0 rfl).own) Y0) (fun A2 H2 F0=>?_);obtain⟨rfl,G0⟩:=F0;have b:=k0.join G0;refine rr 1 ?_;refine rn<|sq<|sq<|rg<|rr 2 ?_;refine rn<|ci hm (fun hm=>?_) (fun hm=>?_)
       ·refine sq<|rg<|rr 1 ?_;refine rn<|rt ?_;cases hm;exact⟨_,.cons (.tmp rfl) .nil,rfl,(b.taken 0)⟩
       ·refine sp<|sq<|sq<|rg<|rr 3 ?_;refine rn<|ci hm (fun hm=>?_) (fun hm=>?_)
        ·refine sq<|rg<|rr 1 ?_;refine rn<|rt ?_;cases hm;exact⟨_,.cons (.tmp rfl) .nil,rfl,(b.taken 0)⟩
        ·refine sp<|sq<|rg<|lN ((b.bring 2 rfl).box) ?_;obtain⟨U1,a1,hm⟩:=bS hm;refine ca z65 (laws_toNet_ok (hE.trans b.ext) C0 a1) (fun B2 J2 H0=>?_);obtain⟨g2,n2,rfl,J0⟩:=H0;have H:=b.join J0;obtain⟨V1,b1,hm⟩:=bS hm;refine ca z9Z (z57 (Ext.refl _) (Tab.ext (hE.trans H.ext) hT) (z2n U1 ((H.bring 0 rfl).own)) b1) (fun C2 Y1 K0=>?_);obtain⟨i2,o2,rfl,M0⟩:=K0;have O:=H.join M0;refine rr 5 ?_;refine rn<|sq<|sq<|ct (fun(B0:Bool) F w9=>zY fuel i1 B0=some r∧Ext Y1 w9∧St w w9 [ow ty26 i0 i1.2 r0]∧F=[(7,sl i0 d0.1 r0),(10,.int .i64 i1.1),(87,.bool B0)]) ?_ ?_
         ·rintro B0 F K2 ⟨hm,e2,Y,rfl⟩;unfold zY at hm;refine ci hm (fun hm=>?_) (fun hm=>?_)
          ·refine sq<|rg<|rr 1 ?_;refine rn<|rt ?_;cases hm;exact⟨_,.cons (.tmp rfl) .nil,rfl,(Y.taken 0)⟩
          ·refine sp<|sq<|rg<|rr 1 ?_;refine rn<|sq<|rg<|rr 2 ?_;refine kn (u:=.slice i0 i1.2.length r0) 88 rfl (by simp only [sl,hn102]) ?_;obtain⟨q2,d1,hm⟩:=bS hm;refine ca z7c (laws_heldInt64S_ok (Ext.refl _) ((Y.bring 0 rfl).own) d1) (fun D2 L2 N0=>?_);obtain⟨rfl,O0⟩:=N0;have a0:=Y.join O0;refine rr 1 ?_;refine rn<|sq<|sq<|rg<|rr 2 ?_;refine rn<|ci hm (fun hm=>?_) (fun hm=>?_)
           ·refine sq<|rg<|rr 1 ?_;refine rn<|rt ?_;cases hm;exact⟨_,.cons (.tmp rfl) .nil,rfl,(a0.taken 0)⟩
           ·refine sp<|sq<|sq<|rg<|rr 3 ?_;refine rn<|ci hm (fun hm=>?_) (fun hm=>?_)
            ·refine sq<|rg<|rr 1 ?_;refine rn<|rt ?_;cases hm;exact⟨_,.cons (.tmp rfl) .nil,rfl,(a0.taken 0)⟩
            ·refine sp<|sq<|rg<|rr 1 ?_;refine rn<|rt ?_;cases hm;exact⟨_,.cons (.tmp rfl) .nil,rfl,(a0.taken 0)⟩
         ·refine rg<|rr 2 ?_;obtain⟨r2,e1,hm⟩:=bS hm;refine ca z5N (laws_eqInt64S_ok (Ext.refl _) ((O.bring 0 rfl).own) ((O.bring 3 rfl).own) e1) (fun E2 M2 P0=>?_);obtain⟨rfl,o⟩:=P0;have o0:=O.join o;refine rr 2 ?_;refine rb 83 hm (fun hm=>?_) (fun hm=>?_)
          ·refine rr 4 ?_;refine rn ?_;exact⟨true,_,⟨hm,o.ext,((o0.bring 2 rfl).taken 1),rfl⟩,rfl⟩
          ·refine rr 4 ?_;refine rn ?_;exact⟨(V1.2 != c0.2),_,⟨hm,o.ext,((o0.bring 2 rfl).taken 1),rfl⟩,rfl⟩
     ·refine rg<|rr 3 ?_;refine rb 51 hm (fun hm=>?_) (fun hm=>?_)
      ·refine rr 10 ?_;refine rn ?_;exact⟨true,_,⟨hm,(Ext.refl _),(g0.sel [2,4,5]),rfl⟩,rfl⟩
      ·refine rr 2 ?_;obtain⟨s2,f1,hm⟩:=bS hm;refine ca z5N (laws_eqInt64S_ok (Ext.refl _) ((g0.bring 2 rfl).own) ((g0.bring 4 rfl).own) f1) (fun F2 N2 Q0=>?_);obtain⟨rfl,y⟩:=Q0;have p0:=g0.join y;refine rr 3 ?_;refine rb 57 hm (fun hm=>?_) (fun hm=>?_)
       ·refine rr 4 ?_;refine rn ?_;exact⟨true,_,⟨hm,y.ext,(p0.sel [2,4,5]),rfl⟩,rfl⟩
       ·refine rr 4 ?_;refine rn ?_;exact⟨(d0.2 != c0.2),_,⟨hm,y.ext,(p0.sel [2,4,5]),rfl⟩,rfl⟩
  ·refine rg<|rr 2 ?_;obtain⟨u2,g1,hm⟩:=bS hm;refine ca z5N (laws_eqInt64S_ok (Ext.refl _) ((v0.bring 0 rfl).own) ((v0.bring 3 rfl).own) g1) (fun G2 O2 R0=>?_);obtain⟨rfl,G⟩:=R0;have q0:=v0.join G;refine rr 2 ?_;refine rb 36 hm (fun hm=>?_) (fun hm=>?_)
   ·refine rr 4 ?_;refine rn ?_;exact⟨true,_,⟨hm,G.ext,(q0.sel [0,1,2,3,5]),rfl⟩,rfl⟩
   ·refine rr 4 ?_;refine rn ?_;exact⟨(d0.2 != c0.2),_,⟨hm,G.ext,(q0.sel [0,1,2,3,5]),rfl⟩,rfl⟩

theorem zcv:Enters Tryz.prog 16:=⟨_,_,Tryz.func16,rfl,by kernel_rfl⟩
def z4C (fuel:Nat) (b:(List Int)):Option ((List Int) × Int):=some (b,0)
def z1z (fuel:Nat) (d:Int × (List Int)) (b:(List Int)):Option (Rd (Int × (List Int)) ((List Int)) ((List Int) × Int)):=some (.next (w64 (d.1+1),b))
def z1A (fuel:Nat) (b:Int × (List Int)) (d:Bool):Option (Rd (Int × (List Int)) ((List Int)) ((List Int) × Int)):=(if d=true then(if decide ((b.2.length:Int)+(([b.1]:(List Int)).length:Int)≤4294967296)=true then z1z fuel b (b.2++([b.1]:(List Int))) else none) else z1z fuel b b.2)
def z1B (fuel:Nat) (x0:D.Net) (y:(List Int)) (b:Int × (List Int)):Option (Rd (Int × (List Int)) ((List Int)) ((List Int) × Int)):=(if(decide (b.1<((List.replicate (x0.Agents.length:Int).toNat (0:Int)).length:Int)))=true then((idx y b.1).bind fun d=>(if(decide (d>1))=true then((idx x0.Agents b.1).bind fun o=>z1A fuel b (o.Kind != 4)) else z1A fuel b false)) else some (.brk b.2))
def z2w (fuel:Nat) (x0:D.Net) (b:(List Int)):Option ((List Int) × Int):=((iter (z1B fuel x0 b) fuel (0,([]:(List Int)))).bind fun o=>aft o (z4C fuel))
def z1f (fuel:Nat) (y:D.Core × D.l16Walk) (d:Int × (List Int)):Option (Rd (Int × (List Int)) ((List Int)) ((List Int) × Int)):=(if(decide (d.1<(y.2.entered.length:Int)))=true then((idx y.2.entered d.1).bind fun b=>((idx d.2 b).bind fun o=>(if decide (0≤b∧b.toNat<d.2.length)=true then some (.next (w64 (d.1+1),(d.2.set b.toNat (w64 (o+1))))) else none))) else some (.brk d.2))
def z2q (fuel:Nat) (x0:D.Net):Option ((List Int) × Int):=((z4o fuel x0).bind fun d=>(if(!d)=true then some (([]:(List Int)),1) else((z2e fuel x0).bind fun b=>(if(b.2.code != 0)=true then some (([]:(List Int)),b.2.code) else(if decide (0≤(x0.Agents.length:Int)∧(x0.Agents.length:Int)≤4294967296)=true then((iter (z1f fuel b) fuel (0,(List.replicate (x0.Agents.length:Int).toNat (0:Int)))).bind fun o=>aft o (z2w fuel x0)) else none)))))

theorem z6b {W:Base}{w:World}(hE:Ext W w){V1:List Value}{x0:D.Net}(g1:ty31.ro W V1 x0){fuel:Nat}{r:(List Int) × Int}(hm:z2q fuel x0=some r):
  Calls Tryz.prog 16 ⟨[.agg ⟨V1⟩]⟩ w (Ret fun v w8=>∃ A0 k0,v=.tuple ⟨[sl A0 r.1 k0,.int .i64 r.2]⟩∧St w w8 [ow ty26 A0 r.1 k0]):=by
 obtain⟨A1,k2,e4,h3⟩:=z1i g1;subst e4;refine into Tryz.func16 78 _ ?_;unfold z2q at hm;have hS:=St.start w;refine sq<|rg<|nw hS (fun g5 w6 e7 q0=>?_);refine rr 2 ?_;refine rn<|sq<|sq<|rg ?_;obtain⟨o3,M1,hm⟩:=bS hm;refine ca z9V (z6m (Ext.refl _) (ty31.ext (hE.trans q0.ext) g1) ((q0.bring 0 rfl).box) M1) (fun p3 r3 i1=>?_);obtain⟨rfl,j1⟩:=i1;have d0:=q0.join j1;refine rr 1 ?_;refine rn<|ci hm (fun hm=>?_) (fun hm=>?_)
 ·refine sq<|rg<|n0 (U:=tInt) d0 (fun n2 D2 s3 c3 n1=>?_);refine rr 2 ?_;refine rn<|rt ?_;cases hm;exact⟨_,.cons (.tmp rfl) (.cons (.tmp rfl) .nil),n2,D2,rfl,(n1.taken 1)⟩
 ·refine sp<|sq<|rg ?_;obtain⟨f0,N1,hm⟩:=bS hm;refine ca z9U (z5P (Ext.refl _) (ty31.ext (hE.trans d0.ext) g1) ((d0.bring 0 rfl).box) N1) (fun q3 t3 k1=>?_);obtain⟨X2,k3,Y2,m3,b2,O2,b3,S1,e2,T1,f2,U1,g2,rfl,m1,v2,y2⟩:=k1;have p1:=d0.join m1;obtain⟨a3,n3,r2,j3⟩:=z1i v2;subst r2;refine rr 3 ?_;refine nw p1 (fun i3 u3 d3 t1=>?_);have u1:=t1.bring 0 rfl;refine so (A:=[]) u1 0 (fun v3 H=>?_);refine rr 1 ?_;refine rn<|sq<|sq<|rg<|rr 3 ?_;refine l1 ((H.bring 3 rfl).box) 6 ?_;refine rr 1 ?_;refine rn<|ci hm (fun hm=>?_) (fun hm=>?_)
  ·refine sq<|dn 0 mixed 7 [([],127),([],127),([1],125),([2],123),([3],119),([0,0],126),([4,5,0,1,2,3,4,5],111)] H.ext (fun O=>?_);have v1:=H.step (Ext.draw _);refine dr 4 O [1,2,3] ?_;refine dw [2,3,25] ?_;refine dl O 4 ((H.bring 3 rfl).box) 6 ?_;refine o1 O 0 (m0 (U:=tInt) v1 O (fun o2 E2 y3 e3 y1=>?_));refine dr 0 O [5,6] ?_;refine dd O ?_;refine rt ?_;cases hm;exact⟨_,.cons (.tmp rfl) (.cons (.tmp rfl) .nil),o2,E2,rfl,(y1.taken 1)⟩
  ·refine sp<|sq<|rg<|rr 1 ?_;refine l1 ((H.bring 7 rfl).box) 0 ?_;refine rr 1 ?_;obtain⟨F1,hm⟩:=iS hm;have hz70:=of_decide_eq_true F1;refine mS (U:=tInt) (0:Int) H hz70 (fun _=>⟨rfl,rfl⟩) (fun a0 b0 A3 f3 B1=>?_);refine rr 1 ?_;refine rn<|sq<|sq<|rg<|rr 1 ?_;refine rn ?_;obtain⟨H2,G1,hm⟩:=bS hm;refine ct (fun(u0:(List Int)) F w9=>H2=.inl u0∧St w w9 [Own ty26 [sl a0 (List.replicate (x0.Agents.length:Int).toNat (0:Int)) b0] u0,Box g5 [sl A1 x0.Agents k2] 31]∧F=[(1,.pointer (some ⟨g5,0,none⟩)),(6,sl a0 (List.replicate (x0.Agents.length:Int).toNat (0:Int)) b0)]) ?_ ?_
   ·rintro u0 F B3 ⟨J1,C1,rfl⟩;subst J1;rw [zt] at hm;unfold z2w at hm;refine sq<|rg<|n0 (U:=tInt) C1 (fun p2 F2 C3 g3 D1=>?_);refine rr 1 ?_;refine rn<|sq<|sq<|rg<|rr 1 ?_;refine rn ?_;obtain⟨J2,H1,hm⟩:=bS hm;refine ct (fun(d1:(List Int)) F w9=>∃ a1 b1,J2=.inl d1∧St w w9 [ow ty26 a1 d1 b1]∧F=[(8,sl a1 d1 b1)]) ?_ ?_
    ·rintro d1 F D3 ⟨a1,b1,K1,E1,rfl⟩;subst K1;rw [zt] at hm;unfold z4C at hm;refine sq<|rg<|rr 3 ?_;refine rn<|rt ?_;cases hm;exact⟨_,.cons (.tmp rfl) (.cons (.tmp rfl) .nil),a1,b1,rfl,E1⟩
    ·refine bk<|wk [1,6,8,9] ?_;refine it (fun(G:Int × (List Int)) F w9=>∃ p0 r0,St w w9 [ow ty26 p0 G.2 r0,Own ty26 [sl a0 (List.replicate (x0.Agents.length:Int).toNat (0:Int)) b0] u0,Box g5 [sl A1 x0.Agents k2] 31]∧F=[(1,.pointer (some ⟨g5,0,none⟩)),(6,sl a0 (List.replicate (x0.Agents.length:Int).toNat (0:Int)) b0),(8,sl p0 G.2 r0),(9,.int .i64 G.1)]) H1 ⟨p2,F2,D1,rfl⟩ ?_;rintro G F Q1 _ X0 ⟨p0,r0,o,rfl⟩ b L1;unfold z1B at b;refine sq<|sq<|rg<|rr 4 ?_;refine rn<|ci b (fun b=>?_) (fun b=>?_)
     ·refine sp<|sq<|bk<|sq<|ct (fun(t0:Bool) F w9=>z1A fuel G t0=some X0∧Ext Q1 w9∧St w w9 [ow ty26 p0 G.2 r0,Own ty26 [sl a0 (List.replicate (x0.Agents.length:Int).toNat (0:Int)) b0] u0,Box g5 [sl A1 x0.Agents k2] 31]∧F=[(1,.pointer (some ⟨g5,0,none⟩)),(6,sl a0 (List.replicate (x0.Agents.length:Int).toNat (0:Int)) b0),(8,sl p0 G.2 r0),(9,.int .i64 G.1),(72,.bool t0)]) ?_ ?_
      ·rintro t0 F P2 ⟨b,d2,i0,rfl⟩;unfold z1A at b;refine ct (fun(g0:(List Int)) F w9=>∃ c0 e0,z1z fuel G g0=some X0∧St w w9 [ow ty26 c0 g0 e0,Own ty26 [sl a0 (List.replicate (x0.Agents.length:Int).toNat (0:Int)) b0] u0,Box g5 [sl A1 x0.Agents k2] 31]∧F=[(1,.pointer (some ⟨g5,0,none⟩)),(6,sl a0 (List.replicate (x0.Agents.length:Int).toNat (0:Int)) b0),(8,sl c0 g0 e0),(9,.int .i64 G.1)]) ?_ ?_
       ·rintro g0 F Q2 ⟨c0,e0,b,v0,rfl⟩;unfold z1z at b;refine rg<|rr 3 ?_;refine rn ?_;cases b;exact⟨_,_,rfl,⟨c0,e0,v0,rfl⟩,rfl⟩
       ·refine ci b (fun b=>?_) (fun b=>?_)
        ·refine rg<|rr 2 ?_;refine ns (i0.flatEls (U:=tInt) (els:=[.int .i64 G.1]) (ys:=[G.1]) ⟨[.int .i64 G.1],_,[],[],rfl,rfl,⟨rfl,rfl⟩,⟨rfl,rfl⟩⟩) (fun i2 A2 R2 q2 y0=>?_);have j0:=y0.bring 1 rfl;obtain⟨K0,b⟩:=iS b;refine ap Flat.int j0 ((j0.bring 1 rfl).own) K0 (fun e1 O1 S2 B0=>?_);refine rr 1 ?_;refine rn ?_;exact⟨(G.2++([G.1]:(List Int))),_,⟨e1,O1,b,(B0.sel [0,2,3]),rfl⟩,rfl⟩
        ·refine sp ?_;exact⟨G.2,_,⟨p0,r0,b,i0,rfl⟩,rfl⟩
      ·refine rg<|rr 2 ?_;obtain⟨V2,S0,b⟩:=bS b;refine ix (Ext.refl _) ((o.bring 1 rfl).own) S0 (fun K2 W1 F0 O0=>?_);cases O0;refine l1 F0 0 ?_;refine rr 2 ?_;refine rb 64 b (fun b=>?_) (fun b=>?_)
       ·refine rr 1 ?_;refine l1 ((o.bring 2 rfl).box) 0 ?_;refine rr 1 ?_;obtain⟨R1,T0,b⟩:=bS b;refine ix (hE.trans o.ext) h3 T0 (fun L2 X1 G0 P0=>?_);obtain⟨j2,B2,m2,C2,f1,s2,u2⟩:=zw P0;subst f1;refine rr 1 ?_;refine l1 (At.ext (hE.trans o.ext) G0) 0 ?_;refine rr 2 ?_;refine rn ?_;exact⟨(R1.Kind != 4),_,⟨b,(Ext.refl _),o,rfl⟩,rfl⟩
       ·refine rr 8 ?_;refine rn ?_;exact⟨false,_,⟨b,(Ext.refl _),o,rfl⟩,rfl⟩
     ·refine xt ?_;cases b;exact⟨_,_,⟨p0,r0,L1,(o.taken 1),rfl⟩,rfl⟩
   ·refine bk<|wk [1,5,6,7] ?_;refine it (fun(P1:Int × (List Int)) F w9=>St w w9 [Own ty26 [sl a0 (List.replicate (x0.Agents.length:Int).toNat (0:Int)) b0] P1.2,Box b2 [.pointer (some O2),.int .i64 f0.2.steps,.int .i64 f0.2.nodes,sl S1 f0.2.entered e2,sl T1 f0.2.origins f2,sl U1 f0.2.labels g2,.int .i64 f0.2.code] 55,ow ty26 S1 f0.2.entered e2,ow ty26 T1 f0.2.origins f2,ow ty53 U1 f0.2.labels g2,Box g5 [sl A1 x0.Agents k2] 31]∧F=[(1,.pointer (some ⟨g5,0,none⟩)),(5,.pointer (some ⟨b2,0,none⟩)),(6,sl a0 (List.replicate (x0.Agents.length:Int).toNat (0:Int)) b0),(7,.int .i64 P1.1)]) G1 ⟨(B1.sel [0,4,5,6,7,8]),rfl⟩ ?_;rintro P1 F T2 _ G2 ⟨y,rfl⟩ d N0;unfold z1f at d;refine sq<|sq<|rg<|rr 4 ?_;refine l1 ((y.bring 1 rfl).box) 3 ?_;refine rr 2 ?_;refine rn<|ci d (fun d=>?_) (fun d=>?_)
    ·refine sp<|sq<|bk<|rg<|rr 4 ?_;refine l1 ((y.bring 1 rfl).box) 3 ?_;refine rr 1 ?_;obtain⟨W2,U0,d⟩:=bS d;refine ix (Ext.refl _) ((y.bring 2 rfl).own) U0 (fun M2 Y1 H0 Q0=>?_);cases Q0;refine l1 H0 0 ?_;obtain⟨Y0,V0,d⟩:=bS d;refine ix (Ext.refl _) ((y.bring 0 rfl).own) V0 (fun N2 a2 J0 R0=>?_);cases R0;refine l1 J0 0 ?_;refine rr 1 ?_;have o0:=y.bring 0 rfl;obtain⟨M0,d⟩:=iS d;have Y:=of_decide_eq_true M0;refine io o0 Y.1 Y.2 (fun q165 hq166=>?_);have C0:=o0.flat (T:=tInt) (cs:=[.int .i64 (w64 (Y0+1))]) (x:=(w64 (Y0+1))) ⟨rfl,rfl⟩;have D0:=C0.bring 1 rfl;refine se D0 Y.2 hq166 (fun U2 E0=>?_);refine rn<|rg<|rr 3 ?_;refine rn ?_;cases d;exact⟨_,_,rfl,⟨E0,rfl⟩,rfl⟩
    ·refine xt ?_;cases d;exact⟨_,_,⟨N0,(((y.bring 5 rfl).bring 1 rfl).taken 2),rfl⟩,rfl⟩

theorem z9W:Enters Tryz.prog 17:=⟨_,_,Tryz.func17,rfl,by kernel_rfl⟩
def z3u (fuel:Nat) (b:(List Int)):Option ((List Int) × Int):=some (b,0)
def z1D (fuel:Nat) (b:(List Int) × Int) (d:(List Int)):Option (Rd ((List Int) × Int) ((List Int)) ((List Int) × Int)):=some (.next (d,w64 (b.2+1)))
def z1h (fuel:Nat) (m16:D.reading) (b:(List Int) × Int):Option (Rd ((List Int) × Int) ((List Int)) ((List Int) × Int)):=(if(decide (b.2<(m16.times.length:Int)))=true then((idx m16.times b.2).bind fun d=>(if(decide (d>1))=true then(if decide ((b.1.length:Int)+(([b.2]:(List Int)).length:Int)≤4294967296)=true then z1D fuel b (b.1++([b.2]:(List Int))) else none) else z1D fuel b b.1)) else some (.brk b.1))
def z1M (fuel:Nat) (x0:D.Net):Option ((List Int) × Int):=((z2f fuel x0).bind fun b=>((b.1).elim (if(b.2.2 != 0)=true then some ([],b.2.2) else none) (fun m16=>(if(b.2.2 != 0)=true then some ([],b.2.2) else((iter (z1h fuel m16) fuel ([],0)).bind fun o=>aft o (z3u fuel))))))

theorem z4T {W:Base}{w:World}(hE:Ext W w){T0:List Value}{x0:D.Net}(hT:Tab W) (U0:ty31.ro W T0 x0){fuel:Nat}{r:(List Int) × Int}(hm:z1M fuel x0=some r):
  Calls Tryz.prog 17 ⟨[.agg ⟨T0⟩]⟩ w (Ret fun v w8=>∃ A0 k0,v=.tuple ⟨[sl A0 r.1 k0,.int .i64 r.2]⟩∧St w w8 [ow ty26 A0 r.1 k0]):=by
 obtain⟨A1,k2,e4,h3⟩:=z1i U0;subst e4;refine into Tryz.func17 37 _ ?_;unfold z1M at hm;have hS:=St.start w;refine sq<|rg<|nw hS (fun g5 w6 e7 o=>?_);refine rr 2 ?_;refine rn<|sq<|rg<|lN ((o.bring 0 rfl).box) ?_;obtain⟨K1,R0,hm⟩:=bS hm;refine ca z9T (z61 (hE.trans o.ext) hT U0 R0) (fun L1 M1 j0=>?_)
 rcases j0 with⟨V0,e1,X0,f1,a1,rfl,o0⟩ | ⟨m16,y1,k1,E1,m1,F1,a0,d0,n1,G1,V0,e1,X0,f1,b1,rfl,p0,D1⟩
 ·rw [a1,Option.elim_none] at hm;have q0:=o.join o0;refine rr 4 ?_;refine nw q0 (fun B1 N1 t1 r0=>?_);refine rr 1 ?_;have t0:=r0.bring 0 rfl;refine so (A:=[]) t0 0 (fun O1 u0=>?_);refine rr 1 ?_;refine rn<|sq<|sq<|rg<|rr 2 ?_;refine rn<|ci hm (fun hm=>?_) (fun hm=>?_)
  ·refine sq<|rg<|rr 3 ?_;refine rn<|rt ?_;cases hm;have v0:=u0.nilSl tInt 2;exact⟨_,.cons (.tmp rfl) (.cons (.tmp rfl) .nil),none,0,rfl,(v0.taken 1)⟩
  ·refine sp<|sq<|rg<|rr 1 ?_;refine rn<|sq<|sq<|rg<|rr 1 ?_;cases hm
 ·rw [b1,Option.elim_some] at hm;have y0:=o.join p0;refine rr 4 ?_;refine nw y0 (fun C1 P1 u1 B0=>?_);refine rr 1 ?_;have C0:=B0.bring 0 rfl;refine so (A:=[]) C0 0 (fun Q1 G=>?_);refine rr 1 ?_;refine rn<|sq<|sq<|rg<|rr 2 ?_;refine rn<|ci hm (fun hm=>?_) (fun hm=>?_)
  ·refine sq<|rg<|rr 3 ?_;refine rn<|rt ?_;cases hm;have D0:=G.nilSl tInt 2;exact⟨_,.cons (.tmp rfl) (.cons (.tmp rfl) .nil),none,0,rfl,(D0.taken 1)⟩
  ·refine sp<|sq<|rg<|rr 1 ?_;refine rn<|sq<|sq<|rg<|rr 3 ?_;refine l1 ((G.bring 1 rfl).box) 4 ?_;refine rr 2 ?_;refine rn ?_;obtain⟨i1,N0,hm⟩:=bS hm;refine ct (fun(g0:(List Int)) F w9=>∃ b0 e0,i1=.inl g0∧St w w9 [ow ty26 b0 g0 e0]∧F=[(7,sl b0 g0 e0)]) ?_ ?_
   ·rintro g0 F R1 ⟨b0,e0,O0,E0,rfl⟩;subst O0;rw [zt] at hm;unfold z3u at hm;refine sq<|rg<|rr 3 ?_;refine rn<|rt ?_;cases hm;exact⟨_,.cons (.tmp rfl) (.cons (.tmp rfl) .nil),b0,e0,rfl,E0⟩
   ·refine bk ?_;have F0:=G.nilSl tInt 2;refine wk [7,22,23,24] ?_;refine it (fun(d:(List Int) × Int) F w9=>∃ H Y,St w w9 [ow ty26 H d.1 Y,ow ty26 a0 m16.times d0]∧F=[(7,sl H d.1 Y),(22,sl a0 m16.times d0),(23,.int .i64 (m16.times.length:Int)),(24,.int .i64 d.2)]) N0 ⟨none,0,(((F0.bring 4 rfl).bring 1 rfl).taken 2),rfl⟩ ?_;rintro d F S1 _ j1 ⟨H,Y,y,rfl⟩ b P0;unfold z1h at b;refine sq<|rg<|rr 1 ?_;refine rn<|sq<|ci b (fun b=>?_) (fun b=>?_)
    ·refine sp<|sq<|bk<|sq<|rg<|rr 1 ?_;obtain⟨W1,S0,b⟩:=bS b;refine ix (Ext.refl _) ((y.bring 1 rfl).own) S0 (fun J1 d1 K0 Q0=>?_);cases Q0;refine l1 K0 0 ?_;refine rr 2 ?_;refine rn<|sq<|rg<|rr 2 ?_;refine rn<|ct (fun(i0:(List Int)) F w9=>∃ c0 f0,z1D fuel d i0=some j1∧St w w9 [ow ty26 c0 i0 f0,ow ty26 a0 m16.times d0]∧F=[(7,sl c0 i0 f0),(22,sl a0 m16.times d0),(23,.int .i64 (m16.times.length:Int)),(24,.int .i64 d.2)]) ?_ ?_
     ·rintro i0 F T1 ⟨c0,f0,b,G0,rfl⟩;unfold z1D at b;refine rg<|rr 2 ?_;refine rn ?_;cases b;exact⟨_,_,rfl,⟨c0,f0,G0,rfl⟩,rfl⟩
     ·refine ci b (fun b=>?_) (fun b=>?_)
      ·refine rg<|rr 2 ?_;refine ns (y.flatEls (U:=tInt) (els:=[.int .i64 d.2]) (ys:=[d.2]) ⟨[.int .i64 d.2],_,[],[],rfl,rfl,⟨rfl,rfl⟩,⟨rfl,rfl⟩⟩) (fun p1 H1 U1 v1 H0=>?_);have O:=H0.bring 1 rfl;obtain⟨M0,b⟩:=iS b;refine ap Flat.int O ((O.bring 1 rfl).own) M0 (fun Y0 g1 V1 J0=>?_);refine rr 1 ?_;refine rn ?_;exact⟨(d.1++([d.2]:(List Int))),_,⟨Y0,g1,b,(J0.bring 1 rfl).drop,rfl⟩,rfl⟩
      ·refine sp ?_;exact⟨d.1,_,⟨H,Y,b,y,rfl⟩,rfl⟩
    ·refine xt ?_;cases b;exact⟨_,_,⟨H,Y,P0,(y.taken 1),rfl⟩,rfl⟩

def zS (fuel:Nat) (o:Int × (List Int)) (d:Bool):Option Bool:=(if d=true then some false else((z1j fuel o.2 1).bind fun b=>(if(decide (b<0))=true then some false else(if(b != o.1)=true then some false else some true))))
def zv (fuel:Nat) (x0:D.Net) (H:(List Int) × Int) (O:(List Int) × Int) (Y:Bool):Option Bool:=(if Y=true then some false else((z1H fuel O.1 1).bind fun o=>((z1j fuel o.2 1).bind fun b=>(if(decide (b<0))=true then some false else(if(b != o.1)=true then some false else((z1w fuel x0).bind fun y=>((z1M fuel y).bind fun d=>((z11 fuel d.1 H.1).bind fun G=>(if(!G)=true then zS fuel o true else zS fuel o (d.2 != H.2))))))))))
def zT (fuel:Nat) (x0:D.Net) (b:(List Int) × Int) (y:D.Net) (d:(List Int) × Int) (Y:Bool):Option Bool:=(if Y=true then some false else((z1w fuel x0).bind fun G=>((z4q fuel y G).bind fun H=>(if(!H)=true then some false else((z3r fuel y 1).bind fun O=>(if(decide (O.1<0))=true then zv fuel x0 b d true else((z11 fuel d.1 b.1).bind fun o=>(if(!o)=true then zv fuel x0 b d true else zv fuel x0 b d (d.2 != b.2)))))))))
def z1y (fuel:Nat) (x0:D.Net):Option (Bool):=((z4p fuel x0 1048576).bind fun G=>(if(decide (G<0))=true then some true else((z1w fuel x0).bind fun H=>((z2q fuel H).bind fun b=>((z1w fuel x0).bind fun y=>((z1M fuel y).bind fun d=>((z11 fuel d.1 b.1).bind fun o=>(if(!o)=true then zT fuel x0 b y d true else zT fuel x0 b y d (d.2 != b.2)))))))))

theorem laws_FnExactSharedAgents_ok {W:Base}{w:World}(hE:Ext W w){b2:List Value}{x0:D.Net}(hT:Tab W) (C0:ty24.ro W b2 x0){fuel:Nat}{r:Bool}(hm:z1y fuel x0=some r):
  Calls Tryz.prog 4 ⟨[.agg ⟨b2⟩]⟩ w (Ret fun v w8=>v=.bool r∧St w w8 []):=by
 obtain⟨A1,k2,e4,h3⟩:=z6j C0;subst e4;refine into Tryz.func4 96 _ ?_;unfold z1y at hm;have hS:=St.start w;refine sq<|rg<|nw hS (fun g5 w6 e7 t0=>?_);refine rr 1 ?_;refine rn<|sq<|rg<|rr 1 ?_;refine rn<|sq<|rg<|lN ((t0.bring 0 rfl).box) ?_;refine rr 1 ?_;obtain⟨W2,L1,hm⟩:=bS hm;refine ca zba (laws_szNet_ok (hE.trans t0.ext) C0 L1) (fun a3 k3 m1=>?_);obtain⟨rfl,n1⟩:=m1;have e0:=t0.join n1;refine rr 1 ?_;refine rn<|sq<|sq<|rg<|rr 2 ?_;refine rn<|ci hm (fun hm=>?_) (fun hm=>?_)
 ·refine sq<|rg<|rr 1 ?_;refine rn<|rt ?_;cases hm;exact⟨_,.cons (.tmp rfl) .nil,rfl,(e0.taken 0)⟩
 ·refine sp<|sq<|rg<|lN ((e0.bring 0 rfl).box) ?_;obtain⟨v2,M1,hm⟩:=bS hm;refine ca z65 (laws_toNet_ok (hE.trans e0.ext) C0 M1) (fun b3 m3 p1=>?_);obtain⟨R2,U2,rfl,t1⟩:=p1;have U0:=e0.join t1;obtain⟨c0,N1,hm⟩:=bS hm;refine ca zcv (z6b (Ext.refl _) (z2n v2 ((U0.bring 0 rfl).own)) N1) (fun c3 n3 u1=>?_);obtain⟨j1,k1,rfl,v1⟩:=u1;have u0:=U0.join v1;refine rr 5 ?_;refine rn<|sq<|rg<|lN ((u0.bring 2 rfl).box) ?_;obtain⟨D0,O1,hm⟩:=bS hm;refine ca z65 (laws_toNet_ok (hE.trans u0.ext) C0 O1) (fun d3 o3 y1=>?_);obtain⟨a2,f2,rfl,B1⟩:=y1;have H1:=u0.join B1;refine nw H1 (fun d2 p3 T2 J1=>?_);have K1:=J1.bring 0 rfl;refine so (A:=[]) K1 0 (fun q3 f0=>?_);refine rn<|sq<|rg<|lN ((f0.bring 0 rfl).box) ?_;obtain⟨d0,P1,hm⟩:=bS hm;refine ca z9W (z4T (Ext.refl _) (Tab.ext (hE.trans f0.ext) hT) (z2n D0 ((f0.bring 1 rfl).own)) P1) (fun e3 P2 C1=>?_);obtain⟨i0,r0,rfl,D1⟩:=C1;have v0:=f0.join D1;refine rr 5 ?_;refine rn<|sq<|sq<|ct (fun(W1:Bool) F w9=>zT fuel x0 c0 D0 d0 W1=some r∧Ext P2 w9∧St w w9 [ow ty26 i0 d0.1 r0,Box d2 [sl a2 D0.Agents f2] 31,ow ty29 a2 D0.Agents f2,ow ty26 j1 c0.1 k1,Box g5 [sl A1 x0.Agents k2] 24]∧F=[(1,.pointer (some ⟨g5,0,none⟩)),(4,sl j1 c0.1 k1),(5,.int .i64 c0.2),(6,.pointer (some ⟨d2,0,none⟩)),(7,sl i0 d0.1 r0),(8,.int .i64 d0.2),(40,.bool W1)]) ?_ ?_
  ·rintro W1 F r3 ⟨hm,j2,b0,rfl⟩;unfold zT at hm;refine ci hm (fun hm=>?_) (fun hm=>?_)
   ·refine sq<|rg<|rr 1 ?_;refine rn<|rt ?_;cases hm;exact⟨_,.cons (.tmp rfl) .nil,rfl,(b0.taken 0)⟩
   ·refine sp<|sq<|sq<|dn 0 mixed 5 [([],31),([],31),([1],29),([0,2,2],26),([3],23)] b0.ext (fun d=>?_);have V0:=b0.step (Ext.draw _);refine dL d 0 ((b0.bring 1 rfl).box) ?_;refine dL d 1 ((b0.bring 4 rfl).box) ?_;obtain⟨y2,Q1,hm⟩:=bS hm;refine o1 d 2 (mc d z65 (laws_toNet_ok (hE.trans V0.ext) C0 Q1) (fun f3 s3 E1=>?_));obtain⟨S2,V2,rfl,S0⟩:=E1;refine⟨S0.ext,?_⟩;have y0:=V0.join S0;obtain⟨X2,R1,hm⟩:=bS hm;refine o1 d 3 (mc d z9Y (laws_eqNet_ok (Ext.refl _) (z2n D0 ((y0.bring 3 rfl).own)) (z2n y2 ((y0.bring 0 rfl).own)) R1) (fun g3 t3 F1=>?_));obtain⟨rfl,T0⟩:=F1;refine⟨T0.ext,?_⟩;have A0:=y0.join T0;refine dr 0 d [4] ?_;refine dd d ?_;refine ci hm (fun hm=>?_) (fun hm=>?_)
    ·refine sq<|rg<|rr 1 ?_;refine rn<|rt ?_;cases hm;exact⟨_,.cons (.tmp rfl) .nil,rfl,(A0.taken 0)⟩
    ·refine sp<|sq<|rg<|rr 1 ?_;refine rn<|sq<|rg<|lN ((A0.bring 2 rfl).box) ?_;refine rr 1 ?_;obtain⟨Y2,S1,hm⟩:=bS hm;refine ca z9X (laws_markNet_ok (W:=w) (RR:=_) (x0:=D0) (x1:=1) (A0.bring 3 rfl)  S1) (fun i3 Q2 G1=>?_);obtain⟨rfl,g0⟩:=G1;refine rr 1 ?_;refine rn<|sq<|sq<|ct (fun(X1:Bool) F w9=>zv fuel x0 c0 d0 X1=some r∧Ext Q2 w9∧St w w9 [ow ty26 i0 d0.1 r0,ow ty26 j1 c0.1 k1,Box g5 [sl A1 x0.Agents k2] 24]∧F=[(1,.pointer (some ⟨g5,0,none⟩)),(4,sl j1 c0.1 k1),(5,.int .i64 c0.2),(7,sl i0 d0.1 r0),(61,.bool X1)]) ?_ ?_
     ·rintro X1 F u3 ⟨hm,m2,X0,rfl⟩;unfold zv at hm;refine ci hm (fun hm=>?_) (fun hm=>?_)
      ·refine sq<|rg<|rr 1 ?_;refine rn<|rt ?_;cases hm;exact⟨_,.cons (.tmp rfl) .nil,rfl,(X0.taken 0)⟩
      ·refine sp<|sq<|rg<|rr 1 ?_;refine rn<|sq<|rg<|rr 2 ?_;obtain⟨i1,T1,hm⟩:=bS hm;refine ca z8w (laws_markInt64S_ok (W:=w) (RR:=_) (x0:=d0.1) (x1:=1) X0  T1) (fun j3 v3 E0=>?_);obtain⟨rfl,j0⟩:=E0;refine rr 1 ?_;refine rn<|sq<|rg<|rr 1 ?_;refine rn<|sq<|rg<|rr 2 ?_;have hn102:=(j0.bring 0 rfl).lenEq;have k0:=(j0.bring 0 rfl).reLen hn102;refine kn (u:=.slice i0 i1.2.length r0) 65 rfl (by simp only [sl,hn102]) ?_;obtain⟨p2,Y0,hm⟩:=bS hm;refine ca z7c (laws_heldInt64S_ok (Ext.refl _) ((k0.bring 0 rfl).own) Y0) (fun A2 H2 F0=>?_);obtain⟨rfl,G0⟩:=F0;have b:=k0.join G0;refine rr 1 ?_;refine rn<|sq<|sq<|rg<|rr 2 ?_;refine rn<|ci hm (fun hm=>?_) (fun hm=>?_)
       ·refine sq<|rg<|rr 1 ?_;refine rn<|rt ?_;cases hm;exact⟨_,.cons (.tmp rfl) .nil,rfl,(b.taken 0)⟩
       ·refine sp<|sq<|sq<|rg<|rr 3 ?_;refine rn<|ci hm (fun hm=>?_) (fun hm=>?_)
        ·refine sq<|rg<|rr 1 ?_;refine rn<|rt ?_;cases hm;exact⟨_,.cons (.tmp rfl) .nil,rfl,(b.taken 0)⟩
        ·refine sp<|sq<|rg<|lN ((b.bring 2 rfl).box) ?_;obtain⟨U1,a1,hm⟩:=bS hm;refine ca z65 (laws_toNet_ok (hE.trans b.ext) C0 a1) (fun B2 J2 H0=>?_);obtain⟨g2,n2,rfl,J0⟩:=H0;have H:=b.join J0;obtain⟨V1,b1,hm⟩:=bS hm;refine ca z9W (z4T (Ext.refl _) (Tab.ext (hE.trans H.ext) hT) (z2n U1 ((H.bring 0 rfl).own)) b1) (fun C2 Y1 K0=>?_);obtain⟨i2,o2,rfl,M0⟩:=K0;have O:=H.join M0;refine rr 5 ?_;refine rn<|sq<|sq<|ct (fun(B0:Bool) F w9=>zS fuel i1 B0=some r∧Ext Y1 w9∧St w w9 [ow ty26 i0 i1.2 r0]∧F=[(7,sl i0 d0.1 r0),(10,.int .i64 i1.1),(87,.bool B0)]) ?_ ?_
         ·rintro B0 F K2 ⟨hm,e2,Y,rfl⟩;unfold zS at hm;refine ci hm (fun hm=>?_) (fun hm=>?_)
          ·refine sq<|rg<|rr 1 ?_;refine rn<|rt ?_;cases hm;exact⟨_,.cons (.tmp rfl) .nil,rfl,(Y.taken 0)⟩
          ·refine sp<|sq<|rg<|rr 1 ?_;refine rn<|sq<|rg<|rr 2 ?_;refine kn (u:=.slice i0 i1.2.length r0) 88 rfl (by simp only [sl,hn102]) ?_;obtain⟨q2,d1,hm⟩:=bS hm;refine ca z7c (laws_heldInt64S_ok (Ext.refl _) ((Y.bring 0 rfl).own) d1) (fun D2 L2 N0=>?_);obtain⟨rfl,O0⟩:=N0;have a0:=Y.join O0;refine rr 1 ?_;refine rn<|sq<|sq<|rg<|rr 2 ?_;refine rn<|ci hm (fun hm=>?_) (fun hm=>?_)
           ·refine sq<|rg<|rr 1 ?_;refine rn<|rt ?_;cases hm;exact⟨_,.cons (.tmp rfl) .nil,rfl,(a0.taken 0)⟩
           ·refine sp<|sq<|sq<|rg<|rr 3 ?_;refine rn<|ci hm (fun hm=>?_) (fun hm=>?_)
            ·refine sq<|rg<|rr 1 ?_;refine rn<|rt ?_;cases hm;exact⟨_,.cons (.tmp rfl) .nil,rfl,(a0.taken 0)⟩
            ·refine sp<|sq<|rg<|rr 1 ?_;refine rn<|rt ?_;cases hm;exact⟨_,.cons (.tmp rfl) .nil,rfl,(a0.taken 0)⟩
         ·refine rg<|rr 2 ?_;obtain⟨r2,e1,hm⟩:=bS hm;refine ca z5N (laws_eqInt64S_ok (Ext.refl _) ((O.bring 0 rfl).own) ((O.bring 3 rfl).own) e1) (fun E2 M2 P0=>?_);obtain⟨rfl,o⟩:=P0;have o0:=O.join o;refine rr 2 ?_;refine rb 83 hm (fun hm=>?_) (fun hm=>?_)
          ·refine rr 4 ?_;refine rn ?_;exact⟨true,_,⟨hm,o.ext,((o0.bring 2 rfl).taken 1),rfl⟩,rfl⟩
          ·refine rr 4 ?_;refine rn ?_;exact⟨(V1.2 != c0.2),_,⟨hm,o.ext,((o0.bring 2 rfl).taken 1),rfl⟩,rfl⟩
     ·refine rg<|rr 3 ?_;refine rb 51 hm (fun hm=>?_) (fun hm=>?_)
      ·refine rr 10 ?_;refine rn ?_;exact⟨true,_,⟨hm,(Ext.refl _),(g0.sel [2,4,5]),rfl⟩,rfl⟩
      ·refine rr 2 ?_;obtain⟨s2,f1,hm⟩:=bS hm;refine ca z5N (laws_eqInt64S_ok (Ext.refl _) ((g0.bring 2 rfl).own) ((g0.bring 4 rfl).own) f1) (fun F2 N2 Q0=>?_);obtain⟨rfl,y⟩:=Q0;have p0:=g0.join y;refine rr 3 ?_;refine rb 57 hm (fun hm=>?_) (fun hm=>?_)
       ·refine rr 4 ?_;refine rn ?_;exact⟨true,_,⟨hm,y.ext,(p0.sel [2,4,5]),rfl⟩,rfl⟩
       ·refine rr 4 ?_;refine rn ?_;exact⟨(d0.2 != c0.2),_,⟨hm,y.ext,(p0.sel [2,4,5]),rfl⟩,rfl⟩
  ·refine rg<|rr 2 ?_;obtain⟨u2,g1,hm⟩:=bS hm;refine ca z5N (laws_eqInt64S_ok (Ext.refl _) ((v0.bring 0 rfl).own) ((v0.bring 3 rfl).own) g1) (fun G2 O2 R0=>?_);obtain⟨rfl,G⟩:=R0;have q0:=v0.join G;refine rr 2 ?_;refine rb 36 hm (fun hm=>?_) (fun hm=>?_)
   ·refine rr 4 ?_;refine rn ?_;exact⟨true,_,⟨hm,G.ext,(q0.sel [0,1,2,3,5]),rfl⟩,rfl⟩
   ·refine rr 4 ?_;refine rn ?_;exact⟨(d0.2 != c0.2),_,⟨hm,G.ext,(q0.sel [0,1,2,3,5]),rfl⟩,rfl⟩

end Go.E


