/- Models of functions and proofs that the code runs as they say (written by program). Conditions: the model gives a value. -/
import Derived.Test.YtngggnjnenfgbaaGreatDoorFCe
import Derived.Test.YtngggnjnenfgbaaGreatDoorMixed
namespace Go.E
open Go.RowKit Go.Proofs
set_option linter.unusedVariables false
set_option linter.unusedSimpArgs false
set_option maxHeartbeats 2000000
set_option maxRecDepth 100000

theorem z9V:Enters Tryz.prog 35:=⟨_,_,Tryz.func35,rfl,by kernel_rfl⟩
def z59 (fuel:Nat) (recf:(List D.Core)→Int→Option (Int)) (t2:Int):Option Int:=some t2
def z2b (fuel:Nat) (recf:(List D.Core)→Int→Option (Int)) (x0:(List D.Core)) (s1:Int × Int):Option (Rd (Int × Int) (Int) (Int)):=(if(decide (s1.2<(x0.length:Int)))=true then((idx x0 s1.2).bind fun o=>(if(o.Kind != s1.1)=true then some (.ret (-1)) else((idx x0 s1.2).bind fun y=>(if(y.Value != (w64 (s1.1+1)))=true then some (.ret (-1)) else((idx x0 s1.2).bind fun G=>((z1v fuel G.Data (w64 ((w64 (s1.1+1))+1))).bind fun b=>(if(decide (b<0))=true then some (.ret (-1)) else((idx x0 s1.2).bind fun H=>((recf H.Kids b).bind fun d=>(if(decide (d<0))=true then some (.ret (-1)) else some (.next (d,w64 (s1.2+1))))))))))))) else some (.brk s1.1))
def z1E (fuel:Nat) (recf:(List D.Core)→Int→Option (Int)) (x0:(List D.Core)) (x1:Int):Option (Int):=((iter (z2b fuel recf x0) fuel (x1,0)).bind fun o=>aft o (z59 fuel recf))
def z16 (fuel:Nat):Nat→(List D.Core)→Int→Option (Int)
 | 0,_,_=>none
 | d+1,x0,x1=>z1E fuel (z16 fuel d) x0 x1
def z4P (fuel:Nat) (x0:(List D.Core)) (x1:Int):Option (Int):=z16 fuel fuel x0 x1

theorem laws_heldCoreS_step {recf:(List D.Core)→Int→Option (Int)}(hrec:∀ {W:Base}{w:World}(hE:Ext W w){G:Option Addr}{H:Nat}{x0:(List D.Core)}{x1:Int}(O:ty38.ro W [sl G x0 H] x0){r:Int},recf x0 x1=some r→Calls Tryz.prog 35 ⟨[sl G x0 H,.int .i64 x1]⟩ w (Ret fun v w8=>v=.int .i64 r∧St w w8 [])){W:Base}{w:World}(hE:Ext W w){G:Option Addr}{H:Nat}{x0:(List D.Core)}{x1:Int}(O:ty38.ro W [sl G x0 H] x0){fuel:Nat}{r:Int}(hm:z1E fuel recf x0 x1=some r):
  Calls Tryz.prog 35 ⟨[sl G x0 H,.int .i64 x1]⟩ w (Ret fun v w8=>v=.int .i64 r∧St w w8 []):=by
 refine into Tryz.func35 49 _ ?_;unfold z1E at hm;have hS:=St.start w;refine sq<|rg<|rr 1 ?_;refine rn<|sq<|sq<|rg<|rr 1 ?_;refine rn ?_;obtain⟨Q0,k0,hm⟩:=bS hm;refine ct (fun(t2:Int) F w9=>Q0=.inl t2∧Ext w w9∧St w w9 []∧F=[(1,.int .i64 t2)]) ?_ ?_
 ·rintro t2 F w7 ⟨o0,j1,e0,rfl⟩;subst o0;rw [zx] at hm;unfold z59 at hm;refine sq<|rg<|rr 2 ?_;refine rn<|rt ?_;cases hm;exact⟨_,.cons (.tmp rfl) .nil,rfl,e0⟩
 ·refine bk<|wk [0,1,5] ?_;refine it (fun(s1:Int × Int) F w9=>Ext w w9∧St w w9 []∧F=[(0,sl G x0 H),(1,.int .i64 s1.1),(5,.int .i64 s1.2)]) k0 ⟨(Ext.refl _),hS,rfl⟩ ?_;rintro s1 F K1 _ A1 ⟨D0,d,rfl⟩ b y;unfold z2b at b;refine sq<|sq<|rg<|rr 4 ?_;refine rn<|ci b (fun b=>?_) (fun b=>?_)
  ·refine sp<|sq<|bk<|sq<|sq<|rg<|rr 2 ?_;obtain⟨N1,u0,b⟩:=bS b;refine ix (hE.trans d.ext) O u0 (fun B1 J0 f0 p0=>?_);obtain⟨R0,k1,S0,m1,E0,b1,d1⟩:=z4o p0;subst E0;refine rr 1 ?_;refine l1 (At.ext (hE.trans d.ext) f0) 0 ?_;refine rr 2 ?_;refine rn<|ci b (fun b=>?_) (fun b=>?_)
   ·refine sq<|rg<|rr 1 ?_;refine rn<|rt ?_;cases b;cases y;have hm:some _=some _:=hm;cases hm;exact⟨_,.cons (.tmp rfl) .nil,rfl,d⟩
   ·refine sp<|sq<|rg<|rr 3 ?_;refine rn<|sq<|sq<|rg<|rr 2 ?_;obtain⟨O1,v0,b⟩:=bS b;refine ix (hE.trans d.ext) O v0 (fun C1 K0 g0 q0=>?_);obtain⟨T0,n1,U0,p1,F0,e1,f1⟩:=z4o q0;subst F0;refine rr 1 ?_;refine l1 (At.ext (hE.trans d.ext) g0) 1 ?_;refine rr 2 ?_;refine rn<|ci b (fun b=>?_) (fun b=>?_)
    ·refine sq<|rg<|rr 1 ?_;refine rn<|rt ?_;cases b;cases y;have hm:some _=some _:=hm;cases hm;exact⟨_,.cons (.tmp rfl) .nil,rfl,d⟩
    ·refine sp<|sq<|rg<|rr 3 ?_;refine rn<|sq<|rg<|rr 2 ?_;obtain⟨P1,y0,b⟩:=bS b;refine ix (hE.trans d.ext) O y0 (fun D1 M0 i0 r0=>?_);obtain⟨V0,t1,X0,u1,G0,O0,g1⟩:=z4o r0;subst G0;refine rr 1 ?_;refine l1 (At.ext (hE.trans d.ext) i0) 2 ?_;refine rr 1 ?_;obtain⟨F1,A0,b⟩:=bS b;refine ca z9Z (laws_heldInt64S_ok (hE.trans d.ext) O0 A0) (fun H1 L1 c0=>?_);obtain⟨rfl,Y⟩:=c0;have o:=d.join Y;refine rr 1 ?_;refine rn<|sq<|sq<|rg<|rr 2 ?_;refine rn<|ci b (fun b=>?_) (fun b=>?_)
     ·refine sq<|rg<|rr 1 ?_;refine rn<|rt ?_;cases b;cases y;have hm:some _=some _:=hm;cases hm;exact⟨_,.cons (.tmp rfl) .nil,rfl,o⟩
     ·refine sp<|sq<|rg<|rr 2 ?_;obtain⟨Q1,B0,b⟩:=bS b;refine ix (hE.trans o.ext) O B0 (fun E1 N0 j0 t0=>?_);obtain⟨Y0,v1,a1,y1,H0,i1,P0⟩:=z4o t0;subst H0;refine rr 1 ?_;refine l1 (At.ext (hE.trans o.ext) j0) 3 ?_;refine rr 1 ?_;obtain⟨G1,C0,b⟩:=bS b;refine ca z9V (hrec (hE.trans o.ext) P0 C0) (fun J1 M1 d0=>?_);obtain⟨rfl,a0⟩:=d0;have b0:=o.join a0;refine rr 1 ?_;refine rn<|sq<|rg<|rr 2 ?_;refine rn<|ci b (fun b=>?_) (fun b=>?_)
      ·refine sq<|rg<|rr 1 ?_;refine rn<|rt ?_;cases b;cases y;have hm:some _=some _:=hm;cases hm;exact⟨_,.cons (.tmp rfl) .nil,rfl,b0⟩
      ·refine sp<|rg<|rr 3 ?_;refine rn ?_;cases b;exact⟨_,_,rfl,⟨((D0.trans Y.ext).trans a0.ext),b0,rfl⟩,rfl⟩
  ·refine xt ?_;cases b;exact⟨_,_,⟨y,D0,d,rfl⟩,rfl⟩
theorem laws_heldCoreS_rec_ok {fuel:Nat}:∀ (d:Nat){W:Base}{w:World}(hE:Ext W w){b:Option Addr}{o:Nat}{x0:(List D.Core)}{x1:Int}(y:ty38.ro W [sl b x0 o] x0){r:Int},z16 fuel d x0 x1=some r→Calls Tryz.prog 35 ⟨[sl b x0 o,.int .i64 x1]⟩ w (Ret fun v w8=>v=.int .i64 r∧St w w8 []):=by
 intro d
 induction d with
 | zero=>intros;rename_i h;cases h
 | succ d ih=>intros;rename_i h;(apply laws_heldCoreS_step ih (fuel:=fuel)<;>assumption)
theorem laws_heldCoreS_ok {W:Base}{w:World}(hE:Ext W w){b:Option Addr}{d:Nat}{x0:(List D.Core)}{x1:Int}(o:ty38.ro W [sl b x0 d] x0){fuel:Nat}{r:Int}(hm:z4P fuel x0 x1=some r):Calls Tryz.prog 35 ⟨[sl b x0 d,.int .i64 x1]⟩ w (Ret fun v w8=>v=.int .i64 r∧St w w8 []):=laws_heldCoreS_rec_ok fuel hE o hm
end Go.E


