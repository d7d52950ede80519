/- Models of functions and proofs that the code runs as they say (written by program). Conditions: the model gives a value. -/
import Derived.Test.YtngggnjnenfgbaaGreatDoorFCm
import Derived.Test.YtngggnjnenfgbaaGreatDoorMixed
namespace Go.E
open Go.RowKit Go.Proofs
set_option linter.unusedVariables false
set_option linter.unusedSimpArgs false
set_option maxHeartbeats 2000000
set_option maxRecDepth 100000

theorem z75:Enters Tryz.prog 20:=⟨_,_,Tryz.func20,rfl,by kernel_rfl⟩
theorem zcB:Enters Tryz.prog 33:=⟨_,_,Tryz.func33,rfl,by kernel_rfl⟩
def z3m (fuel:Nat) (recf:(List D.Core)→(List D.Core)→Option (Bool)) (x0:D.Core) (x1:D.Core):Option (Bool):=(if(x0.Kind != x1.Kind)=true then some false else(if(x0.Value != x1.Value)=true then some false else((z33 fuel x0.Data x1.Data).bind fun b=>(if(!b)=true then some false else((recf x0.Kids x1.Kids).bind fun d=>(if(!d)=true then some false else some true))))))

theorem laws_eqCoreR_ok {recf:(List D.Core)→(List D.Core)→Option (Bool)}(hrec:∀ {W:Base}{w:World}(hE:Ext W w){c0:Option Addr}{j0:Nat}{x0:(List D.Core)}{d0:Option Addr}{k0:Nat}{x1:(List D.Core)}(g0:ty38.ro W [sl c0 x0 j0] x0) (i0:ty38.ro W [sl d0 x1 k0] x1){r:Bool},recf x0 x1=some r→Calls Tryz.prog 33 ⟨[sl c0 x0 j0,sl d0 x1 k0]⟩ w (Ret fun v w8=>v=.bool r∧St w w8 [])){W:Base}{w:World}(hE:Ext W w){e0:List Value}{x0:D.Core}{f0:List Value}{x1:D.Core}(g0:ty40.ro W e0 x0) (i0:ty40.ro W f0 x1){fuel:Nat}{r:Bool}(hm:z3m fuel recf x0 x1=some r):
  Calls Tryz.prog 20 ⟨[.agg ⟨e0⟩,.agg ⟨f0⟩]⟩ w (Ret fun v w8=>v=.bool r∧St w w8 []):=by
 obtain⟨A1,k2,A4,k5,e7,h3,h6⟩:=z4o g0;subst e7;obtain⟨r0,B0,t0,C0,o0,p0,q0⟩:=z4o i0;subst o0;refine into Tryz.func20 27 _ ?_;unfold z3m at hm;have hS:=St.start w;refine sq<|rg<|nw hS (fun y0 H0 u0 Y=>?_);refine nw Y (fun A0 J0 v0 b=>?_);refine rr 1 ?_;refine rn<|sq<|sq<|rg<|rr 1 ?_;refine l1 ((b.bring 1 rfl).box) 0 ?_;refine rr 1 ?_;refine l1 ((b.bring 0 rfl).box) 0 ?_;refine rr 1 ?_;refine rn<|ci hm (fun hm=>?_) (fun hm=>?_)
 ·refine sq<|rg<|rr 1 ?_;refine rn<|rt ?_;cases hm;exact⟨_,.cons (.tmp rfl) .nil,rfl,(b.taken 0)⟩
 ·refine sp<|sq<|sq<|rg<|rr 1 ?_;refine l1 ((b.bring 1 rfl).box) 1 ?_;refine rr 1 ?_;refine l1 ((b.bring 0 rfl).box) 1 ?_;refine rr 1 ?_;refine rn<|ci hm (fun hm=>?_) (fun hm=>?_)
  ·refine sq<|rg<|rr 1 ?_;refine rn<|rt ?_;cases hm;exact⟨_,.cons (.tmp rfl) .nil,rfl,(b.taken 0)⟩
  ·refine sp<|sq<|sq<|rg<|rr 1 ?_;refine l1 ((b.bring 1 rfl).box) 2 ?_;refine rr 1 ?_;refine l1 ((b.bring 0 rfl).box) 2 ?_;obtain⟨D0,a0,hm⟩:=bS hm;refine ca za0 (laws_eqInt64S_ok (hE.trans b.ext) h3 p0 a0) (fun F0 K0 y=>?_);obtain⟨rfl,G⟩:=y;have d:=b.join G;refine rr 1 ?_;refine rn<|ci hm (fun hm=>?_) (fun hm=>?_)
   ·refine sq<|rg<|rr 1 ?_;refine rn<|rt ?_;cases hm;exact⟨_,.cons (.tmp rfl) .nil,rfl,(d.taken 0)⟩
   ·refine sp<|sq<|sq<|rg<|rr 1 ?_;refine l1 ((d.bring 1 rfl).box) 3 ?_;refine rr 1 ?_;refine l1 ((d.bring 0 rfl).box) 3 ?_;obtain⟨E0,b0,hm⟩:=bS hm;refine ca zcB (hrec (hE.trans d.ext) h6 q0 b0) (fun G0 M0 H=>?_);obtain⟨rfl,O⟩:=H;have o:=d.join O;refine rr 1 ?_;refine rn<|ci hm (fun hm=>?_) (fun hm=>?_)
    ·refine sq<|rg<|rr 1 ?_;refine rn<|rt ?_;cases hm;exact⟨_,.cons (.tmp rfl) .nil,rfl,(o.taken 0)⟩
    ·refine sp<|sq<|rg<|rr 1 ?_;refine rn<|rt ?_;cases hm;exact⟨_,.cons (.tmp rfl) .nil,rfl,(o.taken 0)⟩

def z5C (fuel:Nat) (recf:(List D.Core)→(List D.Core)→Option (Bool)) (t2:Unit):Option Bool:=some true
def z3U (fuel:Nat) (recf:(List D.Core)→(List D.Core)→Option (Bool)) (x0:(List D.Core)) (x1:(List D.Core)) (s1:Int):Option (Rd (Int) (Unit) (Bool)):=(if(decide (s1<(x0.length:Int)))=true then((idx x0 s1).bind fun d=>((idx x1 s1).bind fun o=>((z3m fuel recf d o).bind fun b=>(if(!b)=true then some (.ret false) else some (.next (w64 (s1+1))))))) else some (.brk ()))
def z2c (fuel:Nat) (recf:(List D.Core)→(List D.Core)→Option (Bool)) (x0:(List D.Core)) (x1:(List D.Core)):Option (Bool):=(if((x0.length:Int) != (x1.length:Int))=true then some false else((iter (z3U fuel recf x0 x1) fuel 0).bind fun o=>aft o (z5C fuel recf)))
def z2u (fuel:Nat):Nat→(List D.Core)→(List D.Core)→Option (Bool)
 | 0,_,_=>none
 | d+1,x0,x1=>z2c fuel (z2u fuel d) x0 x1
def z5r (fuel:Nat) (x0:(List D.Core)) (x1:(List D.Core)):Option (Bool):=z2u fuel fuel x0 x1

theorem laws_eqCoreS_step {recf:(List D.Core)→(List D.Core)→Option (Bool)}(hrec:∀ {W:Base}{w:World}(hE:Ext W w){G:Option Addr}{O:Nat}{x0:(List D.Core)}{H:Option Addr}{Y:Nat}{x1:(List D.Core)}(t0:ty38.ro W [sl G x0 O] x0) (u0:ty38.ro W [sl H x1 Y] x1){r:Bool},recf x0 x1=some r→Calls Tryz.prog 33 ⟨[sl G x0 O,sl H x1 Y]⟩ w (Ret fun v w8=>v=.bool r∧St w w8 [])){W:Base}{w:World}(hE:Ext W w){G:Option Addr}{O:Nat}{x0:(List D.Core)}{H:Option Addr}{Y:Nat}{x1:(List D.Core)}(t0:ty38.ro W [sl G x0 O] x0) (u0:ty38.ro W [sl H x1 Y] x1){fuel:Nat}{r:Bool}(hm:z2c fuel recf x0 x1=some r):
  Calls Tryz.prog 33 ⟨[sl G x0 O,sl H x1 Y]⟩ w (Ret fun v w8=>v=.bool r∧St w w8 []):=by
 refine into Tryz.func33 27 _ ?_;unfold z2c at hm;have hS:=St.start w;refine sq<|rg<|rr 1 ?_;refine rn<|sq<|sq<|rg<|rr 5 ?_;refine rn<|ci hm (fun hm=>?_) (fun hm=>?_)
 ·refine sq<|rg<|rr 1 ?_;refine rn<|rt ?_;cases hm;exact⟨_,.cons (.tmp rfl) .nil,rfl,hS⟩
 ·refine sp<|sq<|sq<|rg<|rr 1 ?_;refine rn ?_;obtain⟨D0,k0,hm⟩:=bS hm;refine ct (fun(t2:Unit) F w9=>D0=.inl t2∧Ext w w9∧St w w9 []∧F=[]) ?_ ?_
  ·rintro t2 F w7 ⟨o0,O0,g0,rfl⟩;subst o0;rw [zx] at hm;unfold z5C at hm;refine sq<|rg<|rr 1 ?_;refine rn<|rt ?_;cases hm;exact⟨_,.cons (.tmp rfl) .nil,rfl,g0⟩
  ·refine bk<|wk [0,1,5] ?_;refine it (fun(s1:Int) F w9=>Ext w w9∧St w w9 []∧F=[(0,sl G x0 O),(1,sl H x1 Y),(5,.int .i64 s1)]) k0 ⟨(Ext.refl _),hS,rfl⟩ ?_;rintro s1 F a1 _ T0 ⟨v0,o,rfl⟩ b c0;unfold z3U at b;refine sq<|sq<|rg<|rr 4 ?_;refine rn<|ci b (fun b=>?_) (fun b=>?_)
   ·refine sp<|sq<|bk<|sq<|dn 0 mixed 10 [([],1023),([],1023),([0,1],1020),([2],1019),([],1023),([],1023),([4,5],975),([6],959),([3,7],887),([8],767)] o.ext (fun d=>?_);have a0:=o.step (Ext.draw _);refine dr 6 d [0,1,4,5] ?_;obtain⟨d1,p0,b⟩:=bS b;refine dx (hE.trans o.ext) d 2 t0 p0 (fun U0 B0 i0 d0=>?_);obtain⟨E0,P0,F0,Q0,y0,J0,K0⟩:=z4o d0;subst y0;refine dL d 3 (At.ext (hE.trans o.ext) i0) ?_;obtain⟨e1,q0,b⟩:=bS b;refine dx (hE.trans o.ext) d 6 u0 q0 (fun V0 C0 j0 e0=>?_);obtain⟨G0,R0,H0,S0,A0,M0,N0⟩:=z4o e0;subst A0;refine dL d 7 (At.ext (hE.trans o.ext) j0) ?_;obtain⟨X0,r0,b⟩:=bS b;refine o1 d 8 (mc d z75 (laws_eqCoreR_ok hrec (hE.trans a0.ext) d0 e0 r0) (fun Y0 b1 f0=>?_));obtain⟨rfl,y⟩:=f0;refine⟨y.ext,?_⟩;have b0:=a0.join y;refine dr 0 d [9] ?_;refine dw [0,1,5,26] ?_;refine dd d ?_;refine ci b (fun b=>?_) (fun b=>?_)
    ·refine sq<|rg<|rr 1 ?_;refine rn<|rt ?_;cases b;cases c0;have hm:some _=some _:=hm;cases hm;exact⟨_,.cons (.tmp rfl) .nil,rfl,b0⟩
    ·refine sp<|rg<|rr 3 ?_;refine rn ?_;cases b;exact⟨_,_,rfl,⟨((v0.trans (Ext.draw _)).trans y.ext),b0,rfl⟩,rfl⟩
   ·refine xt ?_;cases b;exact⟨_,_,⟨c0,v0,o,rfl⟩,rfl⟩
theorem laws_eqCoreS_rec_ok {fuel:Nat}:∀ (d:Nat){W:Base}{w:World}(hE:Ext W w){b:Option Addr}{y:Nat}{x0:(List D.Core)}{o:Option Addr}{G:Nat}{x1:(List D.Core)}(H:ty38.ro W [sl b x0 y] x0) (O:ty38.ro W [sl o x1 G] x1){r:Bool},z2u fuel d x0 x1=some r→Calls Tryz.prog 33 ⟨[sl b x0 y,sl o x1 G]⟩ w (Ret fun v w8=>v=.bool r∧St w w8 []):=by
 intro d
 induction d with
 | zero=>intros;rename_i h;cases h
 | succ d ih=>intros;rename_i h;(apply laws_eqCoreS_step ih (fuel:=fuel)<;>assumption)
theorem laws_eqCoreS_ok {W:Base}{w:World}(hE:Ext W w){b:Option Addr}{o:Nat}{x0:(List D.Core)}{d:Option Addr}{y:Nat}{x1:(List D.Core)}(G:ty38.ro W [sl b x0 o] x0) (H:ty38.ro W [sl d x1 y] x1){fuel:Nat}{r:Bool}(hm:z5r fuel x0 x1=some r):Calls Tryz.prog 33 ⟨[sl b x0 o,sl d x1 y]⟩ w (Ret fun v w8=>v=.bool r∧St w w8 []):=laws_eqCoreS_rec_ok fuel hE G H hm
def z3V (fuel:Nat) (x0:D.Core) (x1:D.Core):Option (Bool):=z3m fuel (z5r fuel) x0 x1
theorem laws_eqCore_ok {W:Base}{w:World}(hE:Ext W w){o:List Value}{x0:D.Core}{y:List Value}{x1:D.Core}(b:ty40.ro W o x0) (d:ty40.ro W y x1){fuel:Nat}{r:Bool}(hm:z3V fuel x0 x1=some r):Calls Tryz.prog 20 ⟨[.agg ⟨o⟩,.agg ⟨y⟩]⟩ w (Ret fun v w8=>v=.bool r∧St w w8 []):=laws_eqCoreR_ok (fun hE=>fun b d=>fun h=>laws_eqCoreS_ok hE b d h) hE b d hm
end Go.E


