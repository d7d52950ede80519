/- Models of functions and proofs that the code runs as they say (written by program). Conditions: the model gives a value. -/
import Derived.Test.YtngggnjnenfgbaaGreatDoorFOb
import Derived.Test.YtngggnjnenfgbaaGreatDoorMixed
namespace Go.E
open Go.RowKit Go.Proofs
set_option linter.unusedVariables false
set_option linter.unusedSimpArgs false
set_option maxHeartbeats 2000000
set_option maxRecDepth 100000

theorem z9W:Enters Tryz.prog 34:=⟨_,_,Tryz.func34,rfl,by kernel_rfl⟩
def z58 (fuel:Nat) (t2:Int × (List D.Core)):Option (Int × (List D.Core)):=some (t2.1,t2.2)
def z2a (fuel:Nat) (x0:(List D.Core)) (recf:(List D.Core)→Int→Option (Int × (List D.Core))) (s1:Int × Int × (List D.Core)):Option (Rd (Int × Int × (List D.Core)) (Int × (List D.Core)) (Int × (List D.Core))):=(if(decide (s1.2.1<(x0.length:Int)))=true then((idx s1.2.2 s1.2.1).bind fun o=>((z1u fuel o.Data (w64 ((w64 (s1.1+1))+1))).bind fun b=>((recf o.Kids b.1).bind fun d=>some (.next (d.1,w64 (s1.2.1+1),(s1.2.2.set s1.2.1.toNat (⟨s1.1,w64 (s1.1+1),b.2,d.2⟩:D.Core))))))) else some (.brk (s1.1,s1.2.2)))
def z1D (fuel:Nat) (recf:(List D.Core)→Int→Option (Int × (List D.Core))) (x0:(List D.Core)) (x1:Int):Option (Int × (List D.Core)):=((iter (z2a fuel x0 recf) fuel (x1,0,x0)).bind fun o=>aft o (z58 fuel))
def z1m (fuel:Nat):Nat→(List D.Core)→Int→Option (Int × (List D.Core))
 | 0,_,_=>none
 | d+1,x0,x1=>z1D fuel (z1m fuel d) x0 x1
def z4O (fuel:Nat) (x0:(List D.Core)) (x1:Int):Option (Int × (List D.Core)):=z1m fuel fuel x0 x1

theorem laws_markCoreS_step {fuel:Nat}{recf:(List D.Core)→Int→Option (Int × (List D.Core))}(hrec:∀ {W:Base}{w:World}{RR:List Res}{d:Option Addr}{o:Nat}{x0:(List D.Core)}{x1:Int}(hS:St W w (ow ty38 d x0 o::RR)){r:Int × (List D.Core)},recf x0 x1=some r→Calls Tryz.prog 34 ⟨[sl d x0 o,.int .i64 x1]⟩ w (Ret fun v w8=>v=.int .i64 r.1∧St W w8 (Own ty38 [sl d x0 o] r.2::RR))){W:Base}{w:World}{RR:List Res}{d:Option Addr}{o:Nat}{x0:(List D.Core)}{x1:Int}(hS:St W w (ow ty38 d x0 o::RR)){r:Int × (List D.Core)}(hm:z1D fuel recf x0 x1=some r):
  Calls Tryz.prog 34 ⟨[sl d x0 o,.int .i64 x1]⟩ w (Ret fun v w8=>v=.int .i64 r.1∧St W w8 (Own ty38 [sl d x0 o] r.2::RR)):=by
 refine into Tryz.func34 41 _ ?_;unfold z1D at hm;refine sq<|rg<|rr 1 ?_;refine rn<|sq<|sq<|rg<|rr 1 ?_;refine rn ?_;obtain⟨o5,P0,hm⟩:=bS hm;refine ct (fun(t2:Int × (List D.Core)) F w9=>o5=.inl t2∧St W w9 (Own ty38 [sl d x0 o] t2.2::RR)∧F=[(1,.int .i64 t2.1)]) ?_ ?_
 ·rintro t2 F w4 ⟨G0,O0,rfl⟩;subst G0;rw [zx] at hm;unfold z58 at hm;refine sq<|rg<|rr 2 ?_;refine rn<|rt ?_;cases hm;exact⟨_,.cons (.tmp rfl) .nil,rfl,O0⟩
 ·refine bk<|wk [0,1,5] ?_;refine it (fun(s1:Int × Int × (List D.Core)) F w9=>St W w9 (Own ty38 [sl d x0 o] s1.2.2::RR)∧F=[(0,sl d x0 o),(1,.int .i64 s1.1),(5,.int .i64 s1.2.1)]) P0 ⟨hS,rfl⟩ ?_;rintro s1 F V0 _ S0 ⟨f0,rfl⟩ b H0;unfold z2a at b;refine sq<|sq<|rg<|rr 4 ?_;refine rn<|ci b (fun b=>?_) (fun b=>?_)
  ·refine sp<|sq<|bk<|sq<|rg<|rr 3 ?_;have q0:=f0.bring 0 rfl;obtain⟨G,y,b⟩:=bS b;refine fo q0 y (fun q19 N0 hq21 r0=>?_);obtain⟨O,d0,Y,e0,M0,t0⟩:=zaa (r0.bring 1 rfl);subst M0;refine rr 1 ?_;have u0:=t0.bring 2 rfl;refine sh u0 hq21 0 (fun X0 g0=>?_);refine rn<|sq<|rg<|rr 3 ?_;refine rn<|sq<|rg<|rr 3 ?_;refine ia (g0.bring 0 rfl) (z6 y).1 (fun q32 hq33=>?_);refine rr 1 ?_;have v0:=g0.bring 0 rfl;refine sh v0 hq33 1 (fun Y0 a0=>?_);refine rn<|sq<|rg<|rr 3 ?_;refine rn<|sq<|rg<|rr 2 ?_;refine ia (a0.bring 0 rfl) (z6 y).1 (fun q37 hq38=>?_);refine rr 1 ?_;refine l1 ((a0.bring 0 rfl).hole_atN hq38) 2 ?_;refine rr 1 ?_;obtain⟨H,J0,b⟩:=bS b;refine ca z8w (laws_markInt64S_ok (W:=W) (RR:=_) (x0:=G.Data) (x1:=w64 ((w64 (s1.1+1))+1)) (a0.bring 1 rfl)  J0) (fun T0 a1 o0=>?_);obtain⟨rfl,b0⟩:=o0;refine rr 1 ?_;refine rn<|rg<|rr 2 ?_;refine ia (b0.bring 1 rfl) (z6 y).1 (fun q45 hq46=>?_);refine rr 1 ?_;refine l1 ((b0.bring 1 rfl).hole_atN hq46) 3 ?_;refine rr 1 ?_;obtain⟨k0,K0,b⟩:=bS b;refine ca z9W (hrec (W:=W) (RR:=_) (x0:=G.Kids) (x1:=H.1) (b0.bring 2 rfl)  K0) (fun U0 b1 p0=>?_);obtain⟨rfl,i0⟩:=p0;refine rr 1 ?_;refine rn<|rg<|rr 3 ?_;refine rn ?_;have hn53:=(i0.bring 1 rfl).lenEq;have y0:=(i0.bring 1 rfl).reLen hn53;have j0:=(y0.bring 2 rfl).reHole (es':=[.int .i64 s1.1,.int .i64 (w64 (s1.1+1)),.slice O H.2.length d0,.slice Y G.Kids.length e0]) (by show([.int .i64 s1.1,.int .i64 (w64 (s1.1+1)),.slice O G.Data.length d0,.slice Y G.Kids.length e0]:List Value)=[.int .i64 s1.1,.int .i64 (w64 (s1.1+1)),.slice O H.2.length d0,.slice Y G.Kids.length e0];first | (simp only [sl,hn53];done) | (simp only [sl,hn53];rfl));have hn56:=(j0.bring 2 rfl).lenEq;have A0:=(j0.bring 2 rfl).reLen hn56;have c0:=(A0.bring 1 rfl).reHole (es':=[.int .i64 s1.1,.int .i64 (w64 (s1.1+1)),.slice O H.2.length d0,.slice Y k0.2.length e0]) (by show([.int .i64 s1.1,.int .i64 (w64 (s1.1+1)),.slice O H.2.length d0,.slice Y G.Kids.length e0]:List Value)=[.int .i64 s1.1,.int .i64 (w64 (s1.1+1)),.slice O H.2.length d0,.slice Y k0.2.length e0];first | (simp only [sl,hn56];done) | (simp only [sl,hn56];rfl));have Q0:=(show ty26.ro _ [.slice O G.Data.length d0] H.2 from(Eq.symm hn53) ▸ ((c0.bring 2 rfl).own));have R0:=(show ty38.ro _ [.slice Y G.Kids.length e0] k0.2 from(Eq.symm hn56) ▸ ((c0.bring 1 rfl).own));have B0:=c0.bring 1 rfl;have C0:=B0.bring 2 rfl;have D0:=z4z (c:=(⟨s1.1,w64 (s1.1+1),H.2,k0.2⟩:D.Core)) (B:=_) C0;have E0:=D0.bring 1 rfl;have F0:=St.unfocusN E0;cases b;exact⟨_,_,rfl,⟨F0,rfl⟩,rfl⟩
  ·refine xt ?_;cases b;exact⟨_,_,⟨H0,f0,rfl⟩,rfl⟩
theorem laws_markCoreS_rec_ok {fuel:Nat}:∀ (d:Nat){W:Base}{w:World}{RR:List Res}{b:Option Addr}{o:Nat}{x0:(List D.Core)}{x1:Int}(hS:St W w (ow ty38 b x0 o::RR)){r:Int × (List D.Core)},z1m fuel d x0 x1=some r→Calls Tryz.prog 34 ⟨[sl b x0 o,.int .i64 x1]⟩ w (Ret fun v w8=>v=.int .i64 r.1∧St W w8 (Own ty38 [sl b x0 o] r.2::RR)):=by
 intro d
 induction d with
 | zero=>intros;rename_i h;cases h
 | succ d ih=>intros;rename_i h;first | exact laws_markCoreS_step ih (by assumption) h | (apply laws_markCoreS_step ih<;>assumption)
theorem laws_markCoreS_ok {W:Base}{w:World}{RR:List Res}{b:Option Addr}{d:Nat}{x0:(List D.Core)}{x1:Int}(hS:St W w (ow ty38 b x0 d::RR)){r:Int × (List D.Core)}{fuel:Nat}(hm:z4O fuel x0 x1=some r):Calls Tryz.prog 34 ⟨[sl b x0 d,.int .i64 x1]⟩ w (Ret fun v w8=>v=.int .i64 r.1∧St W w8 (Own ty38 [sl b x0 d] r.2::RR)):=laws_markCoreS_rec_ok fuel hS hm

end Go.E


