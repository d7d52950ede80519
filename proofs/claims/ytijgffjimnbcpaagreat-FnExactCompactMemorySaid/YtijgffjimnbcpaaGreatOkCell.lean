/- Models of functions and proofs that the code runs as they say (written by program). Conditions: the model gives a value. -/
import Derived.Test.YtijgffjimnbcpaaGreatHC
import Derived.Test.YtijgffjimnbcpaaGreatMixed
import Derived.Test.YtijgffjimnbcpaaGreatSzDefs
import Derived.Test.YtijgffjimnbcpaaGreatFA
import Derived.Test.YtijgffjimnbcpaaGreatFN
import Derived.Test.YtijgffjimnbcpaaGreatFV
import Derived.Test.YtijgffjimnbcpaaGreatFVb
namespace Go.E
open Go.RowKit Go.Proofs
set_option linter.unusedVariables false
set_option linter.unusedSimpArgs false
set_option maxHeartbeats 2000000
set_option maxRecDepth 100000

theorem zcm:Enters Tryz.prog 46:=⟨_,_,Tryz.func46,rfl,by kernel_rfl⟩
def z4V (fuel:Nat) (t2:Int × (List D.Cell)):Option (Int × (List D.Cell)):=some (t2.1,t2.2)
def z2Z (fuel:Nat) (x0:(List D.Cell)) (s1:Int × Int × (List D.Cell)):Option (Rd (Int × Int × (List D.Cell)) (Int × (List D.Cell)) (Int × (List D.Cell))):=(if(decide (s1.2.1<(x0.length:Int)))=true then((idx s1.2.2 s1.2.1).bind fun q=>((z2T fuel q.Data (w64 ((w64 ((w64 (s1.1+1))+1))+1))).bind fun d=>((z39 fuel q.Words d.1).bind fun o=>some (.next (o.1,w64 (s1.2.1+1),(s1.2.2.set s1.2.1.toNat (⟨s1.1,w64 (s1.1+1),w64 ((w64 (s1.1+1))+1),d.2,o.2⟩:D.Cell))))))) else some (.brk (s1.1,s1.2.2)))
def z3b (fuel:Nat) (x0:(List D.Cell)) (x1:Int):Option (Int × (List D.Cell)):=((iter (z2Z fuel x0) fuel (x1,0,x0)).bind fun o=>aft o (z4V fuel))

theorem laws_markCellS_ok {W w:World}{RR:List Res}{Y:Option Addr}{Z:Nat}{x0:(List D.Cell)}{x1:Int}(hS:St W w (ow ty29 Y x0 Z::RR)){fuel:Nat}{r:Int × (List D.Cell)}(hm:z3b fuel x0 x1=some r):
    Calls Tryz.prog 46 ⟨[sl Y x0 Z,.int .i64 x1]⟩ w (Ret fun v w8=>v=.int .i64 r.1∧St W w8 (Own ty29 [sl Y x0 Z] r.2::RR)):=by
  refine into Tryz.func46 48 _ ?_;unfold z3b at hm;refine sq<|rg<|rr 1 ?_;refine rn<|sq<|sq<|rg<|rr 1 ?_;refine rn ?_;obtain⟨o5,L0,hm⟩:=bS hm;refine ct (fun(t2:Int × (List D.Cell)) F w9=>o5=.inl t2∧St W w9 (Own ty29 [sl Y x0 Z] t2.2::RR)∧F=[(1,.int .i64 t2.1)]) ?_ ?_
  · rintro t2 F w4 ⟨D0,K0,rfl⟩;subst D0;rw [z4] at hm;unfold z4V at hm;refine sq<|rg<|rr 2 ?_;refine rn<|rt ?_;cases hm;exact⟨_,.cons (.tmp rfl) .nil,rfl,K0⟩
  · refine bk<|wk [0,1,5] ?_;refine it (fun(s1:Int × Int × (List D.Cell)) F w9=>St W w9 (Own ty29 [sl Y x0 Z] s1.2.2::RR)∧F=[(0,sl Y x0 Z),(1,.int .i64 s1.1),(5,.int .i64 s1.2.1)]) L0 ⟨hS,rfl⟩ ?_;rintro s1 F R0 _ O0 ⟨a0,rfl⟩ d E0;unfold z2Z at d;refine sq<|sq<|rg<|rr 4 ?_;refine rn<|ci d (fun d=>?_) (fun d=>?_)
    · refine sp<|sq<|bk<|sq<|rg<|rr 3 ?_;have j0:=a0.bring 0 rfl;obtain⟨q,o,d⟩:=bS d;refine fo j0 o (fun q19 J0 hq21 k0=>?_);obtain⟨z,O,G,X,H0,o0⟩:=z4R (k0.bring 1 rfl);subst H0;refine rr 1 ?_;have p0:=o0.bring 2 rfl;refine sh p0 hq21 0 (fun S0 b0=>?_);refine rn<|sq<|rg<|rr 3 ?_;refine rn<|sq<|rg<|rr 3 ?_;refine ia (b0.bring 0 rfl) (z1y o).1 (fun q32 hq33=>?_);refine rr 1 ?_;have q0:=b0.bring 0 rfl;refine sh q0 hq33 1 (fun T0 c0=>?_);refine rn<|sq<|rg<|rr 3 ?_;refine rn<|sq<|rg<|rr 3 ?_;refine ia (c0.bring 0 rfl) (z1y o).1 (fun q37 hq38=>?_);refine rr 1 ?_;have r0:=c0.bring 0 rfl;refine sh r0 hq38 2 (fun U0 H=>?_);refine rn<|sq<|rg<|rr 3 ?_;refine rn<|sq<|rg<|rr 2 ?_;refine ia (H.bring 0 rfl) (z1y o).1 (fun q42 hq43=>?_);refine rr 1 ?_;refine l1 ((H.bring 0 rfl).hole_atN hq43) 3 ?_;refine rr 1 ?_;obtain⟨y,F0,d⟩:=bS d;refine ca zc4 (laws_markInt64S_ok (W:=W) (RR:=_) (x0:=q.Data) (x1:=w64 ((w64 ((w64 (s1.1+1))+1))+1)) (H.bring 1 rfl)  F0) (fun P0 V0 g0=>?_);obtain⟨rfl,L⟩:=g0;refine rr 1 ?_;refine rn<|rg<|rr 2 ?_;refine ia (L.bring 1 rfl) (z1y o).1 (fun q50 hq51=>?_);refine rr 1 ?_;refine l1 ((L.bring 1 rfl).hole_atN hq51) 4 ?_;refine rr 1 ?_;obtain⟨f0,G0,d⟩:=bS d;refine ca zc3 (laws_markWordS_ok (W:=W) (RR:=_) (x0:=q.Words) (x1:=y.1) (L.bring 2 rfl)  G0) (fun Q0 W0 i0=>?_);obtain⟨rfl,d0⟩:=i0;refine rr 1 ?_;refine rn<|rg<|rr 3 ?_;refine rn ?_;have hn58:=(d0.bring 1 rfl).lenEq;have t0:=(d0.bring 1 rfl).reLen hn58;have e0:=(t0.bring 2 rfl).reHole (es':=[.int .i64 s1.1,.int .i64 (w64 (s1.1+1)),.int .i64 (w64 ((w64 (s1.1+1))+1)),.slice z y.2.length O,.slice G q.Words.length X]) (by show([.int .i64 s1.1,.int .i64 (w64 (s1.1+1)),.int .i64 (w64 ((w64 (s1.1+1))+1)),.slice z q.Data.length O,.slice G q.Words.length X]:List Value)=[.int .i64 s1.1,.int .i64 (w64 (s1.1+1)),.int .i64 (w64 ((w64 (s1.1+1))+1)),.slice z y.2.length O,.slice G q.Words.length X];first | (simp only [sl,hn58];done) | (simp only [sl,hn58];rfl));have hn61:=(e0.bring 2 rfl).lenEq;have u0:=(e0.bring 2 rfl).reLen hn61;have M:=(u0.bring 1 rfl).reHole (es':=[.int .i64 s1.1,.int .i64 (w64 (s1.1+1)),.int .i64 (w64 ((w64 (s1.1+1))+1)),.slice z y.2.length O,.slice G f0.2.length X]) (by show([.int .i64 s1.1,.int .i64 (w64 (s1.1+1)),.int .i64 (w64 ((w64 (s1.1+1))+1)),.slice z y.2.length O,.slice G q.Words.length X]:List Value)=[.int .i64 s1.1,.int .i64 (w64 (s1.1+1)),.int .i64 (w64 ((w64 (s1.1+1))+1)),.slice z y.2.length O,.slice G f0.2.length X];first | (simp only [sl,hn61];done) | (simp only [sl,hn61];rfl));have M0:=(show ty80.ro _ [.slice z q.Data.length O] y.2 from(Eq.symm hn58) ▸ ((M.bring 2 rfl).own));have N0:=(show ty81.ro _ [.slice G q.Words.length X] f0.2 from(Eq.symm hn61) ▸ ((M.bring 1 rfl).own));have v0:=M.bring 1 rfl;have y0:=v0.bring 2 rfl;have A0:=z3i (c:=(⟨s1.1,w64 (s1.1+1),w64 ((w64 (s1.1+1))+1),y.2,f0.2⟩:D.Cell)) (B:=_) y0;have B0:=A0.bring 1 rfl;have C0:=St.unfocusN B0;cases d;exact⟨_,_,rfl,⟨C0,rfl⟩,rfl⟩
    · refine xt ?_;cases d;exact⟨_,_,⟨E0,a0,rfl⟩,rfl⟩

theorem zck:Enters Tryz.prog 47:=⟨_,_,Tryz.func47,rfl,by kernel_rfl⟩
def z4U (fuel:Nat) (t2:Int × (List D.Pair)):Option (Int × (List D.Pair)):=some (t2.1,t2.2)
def z2Y (fuel:Nat) (x0:(List D.Pair)) (s1:Int × Int × (List D.Pair)):Option (Rd (Int × Int × (List D.Pair)) (Int × (List D.Pair)) (Int × (List D.Pair))):=(if(decide (s1.2.1<(x0.length:Int)))=true then((idx s1.2.2 s1.2.1).bind fun d=>some (.next (w64 ((w64 (s1.1+1))+1),w64 (s1.2.1+1),(s1.2.2.set s1.2.1.toNat (⟨s1.1,w64 (s1.1+1)⟩:D.Pair))))) else some (.brk (s1.1,s1.2.2)))
def z3a (fuel:Nat) (x0:(List D.Pair)) (x1:Int):Option (Int × (List D.Pair)):=((iter (z2Y fuel x0) fuel (x1,0,x0)).bind fun o=>aft o (z4U fuel))

theorem laws_markPairS_ok {W w:World}{RR:List Res}{o:Option Addr}{q:Nat}{x0:(List D.Pair)}{x1:Int}(hS:St W w (ow ty31 o x0 q::RR)){fuel:Nat}{r:Int × (List D.Pair)}(hm:z3a fuel x0 x1=some r):
    Calls Tryz.prog 47 ⟨[sl o x0 q,.int .i64 x1]⟩ w (Ret fun v w8=>v=.int .i64 r.1∧St W w8 (Own ty31 [sl o x0 q] r.2::RR)):=by
  refine into Tryz.func47 27 _ ?_;unfold z3a at hm;refine sq<|rg<|rr 1 ?_;refine rn<|sq<|sq<|rg<|rr 1 ?_;refine rn ?_;obtain⟨o5,i0,hm⟩:=bS hm;refine ct (fun(t2:Int × (List D.Pair)) F w9=>o5=.inl t2∧St W w9 (Own ty31 [sl o x0 q] t2.2::RR)∧F=[(1,.int .i64 t2.1)]) ?_ ?_
  · rintro t2 F w4 ⟨c0,g0,rfl⟩;subst c0;rw [z4] at hm;unfold z4U at hm;refine sq<|rg<|rr 2 ?_;refine rn<|rt ?_;cases hm;exact⟨_,.cons (.tmp rfl) .nil,rfl,g0⟩
  · refine bk<|wk [0,1,5] ?_;refine it (fun(s1:Int × Int × (List D.Pair)) F w9=>St W w9 (Own ty31 [sl o x0 q] s1.2.2::RR)∧F=[(0,sl o x0 q),(1,.int .i64 s1.1),(5,.int .i64 s1.2.1)]) i0 ⟨hS,rfl⟩ ?_;rintro s1 F k0 _ j0 ⟨y,rfl⟩ d d0;unfold z2Y at d;refine sq<|sq<|rg<|rr 4 ?_;refine rn<|ci d (fun d=>?_) (fun d=>?_)
    · refine sp<|sq<|bk<|sq<|rg<|rr 3 ?_;have H:=y.bring 0 rfl;obtain⟨q0,G,d⟩:=bS d;refine fo H G (fun q19 f0 hq21 L=>?_);obtain⟨e0,M⟩:=z9S (L.bring 1 rfl);subst e0;refine rr 1 ?_;have O:=M.bring 0 rfl;refine sh O hq21 0 (fun o0 z=>?_);refine rn<|sq<|rg<|rr 3 ?_;refine rn<|sq<|rg<|rr 3 ?_;refine ia (z.bring 0 rfl) (z1y G).1 (fun q28 hq29=>?_);refine rr 1 ?_;have X:=z.bring 0 rfl;refine sh X hq29 1 (fun p0 Y=>?_);refine rn<|rg<|rr 3 ?_;refine rn<|rg<|rr 3 ?_;refine rn ?_;have Z:=z7S (c:=(⟨s1.1,w64 (s1.1+1)⟩:D.Pair)) (B:=_) Y;have a0:=Z.bring 1 rfl;have b0:=St.unfocusN a0;cases d;exact⟨_,_,rfl,⟨b0,rfl⟩,rfl⟩
    · refine xt ?_;cases d;exact⟨_,_,⟨d0,y,rfl⟩,rfl⟩

theorem z9K:Enters Tryz.prog 12:=⟨_,_,Tryz.func12,rfl,by kernel_rfl⟩
def z25 (fuel:Nat) (x0:D.Memory) (x1:Int):Option (Int × (List D.Cell) × (List D.Pair)):=((z3b fuel x0.Cells x1).bind fun r5=>((z3a fuel x0.Redexes r5.1).bind fun d=>some (d.1,r5.2,d.2)))

theorem laws_markMemory_ok {W w:World}{RR:List Res}{x0:D.Memory}{d:Option Addr}{q:Nat}{o:Option Addr}{y:Nat}{x1:Int}(hS:St W w (ow ty29 d x0.Cells q::ow ty31 o x0.Redexes y::RR)){fuel:Nat}{r:Int × (List D.Cell) × (List D.Pair)}(hm:z25 fuel x0 x1=some r):
    Calls Tryz.prog 12 ⟨[.agg ⟨[sl d x0.Cells q,.int .i64 x0.Free,.int .i64 x0.Root.Tag,.int .i64 x0.Root.At,sl o x0.Redexes y]⟩,.int .i64 x1]⟩ w (Ret fun v w8=>v=.int .i64 r.1∧St W w8 (Own ty29 [sl d x0.Cells q] r.2.1::Own ty31 [sl o x0.Redexes y] r.2.2::RR)):=by
  refine into Tryz.func12 14 _ ?_;unfold z25 at hm;refine sq<|rg<|nw hS (fun g1 w2 e3 O=>?_);refine rr 1 ?_;refine rn<|sq<|rg<|rr 1 ?_;refine l1 ((O.bring 0 rfl).box) 0 ?_;refine rr 1 ?_;obtain⟨r5,X,hm⟩:=bS hm;refine ca zcm (laws_markCellS_ok (W:=W) (RR:=_) (x0:=x0.Cells) (x1:=x1) (O.bring 1 rfl)  X) (fun v7 a0 G=>?_);obtain⟨rfl,z⟩:=G;refine rr 1 ?_;refine rn<|sq<|rg<|rr 1 ?_;refine l1 ((z.bring 1 rfl).box) 4 ?_;refine rr 1 ?_;obtain⟨Y,M,hm⟩:=bS hm;refine ca zck (laws_markPairS_ok (W:=W) (RR:=_) (x0:=x0.Redexes) (x1:=r5.1) (z.bring 2 rfl)  M) (fun Z b0 H=>?_);obtain⟨rfl,L⟩:=H;refine rr 1 ?_;refine rn<|sq<|rg<|rr 2 ?_;refine rn<|rt ?_;cases hm;exact⟨_,.cons (.tmp rfl) .nil,rfl,(L.selR [1,0] 3)⟩

theorem zc2:Enters Tryz.prog 87:=⟨_,_,Tryz.func87,rfl,by kernel_rfl⟩
def z4N (fuel:Nat) (t2:Int):Option Int:=some t2
def z1N (fuel:Nat) (x0:(List Int)) (s1:Int × Int):Option (Rd (Int × Int) (Int) (Int)):=(if(decide (s1.2<(x0.length:Int)))=true then((idx x0 s1.2).bind fun d=>(if(d != s1.1)=true then some (.ret (-1)) else some (.next (w64 (s1.1+1),w64 (s1.2+1))))) else some (.brk s1.1))
def z2U (fuel:Nat) (x0:(List Int)) (x1:Int):Option (Int):=((iter (z1N fuel x0) fuel (x1,0)).bind fun o=>aft o (z4N fuel))

theorem laws_heldInt64S_ok {W w:World}(hE:Ext W w){y:Option Addr}{X:Nat}{x0:(List Int)}{x1:Int}(a0:ty80.ro W [sl y x0 X] x0){fuel:Nat}{r:Int}(hm:z2U fuel x0 x1=some r):
    Calls Tryz.prog 87 ⟨[sl y x0 X,.int .i64 x1]⟩ w (Ret fun v w8=>v=.int .i64 r∧St w w8 []):=by
  refine into Tryz.func87 21 _ ?_;unfold z2U at hm;have hS:=St.start w;refine sq<|rg<|rr 1 ?_;refine rn<|sq<|sq<|rg<|rr 1 ?_;refine rn ?_;obtain⟨b0,H,hm⟩:=bS hm;refine ct (fun(t2:Int) F w9=>b0=.inl t2∧Ext w w9∧St w w9 []∧F=[(1,.int .i64 t2)]) ?_ ?_
  · rintro t2 F w7 ⟨L,c0,z,rfl⟩;subst L;rw [z4] at hm;unfold z4N at hm;refine sq<|rg<|rr 2 ?_;refine rn<|rt ?_;cases hm;exact⟨_,.cons (.tmp rfl) .nil,rfl,z⟩
  · refine bk<|wk [0,1,5] ?_;refine it (fun(s1:Int × Int) F w9=>Ext w w9∧St w w9 []∧F=[(0,sl y x0 X),(1,.int .i64 s1.1),(5,.int .i64 s1.2)]) H ⟨(Ext.refl _),hS,rfl⟩ ?_;rintro s1 F f0 _ d0 ⟨Y,o,rfl⟩ d q;unfold z1N at d;refine sq<|sq<|rg<|rr 4 ?_;refine rn<|ci d (fun d=>?_) (fun d=>?_)
    · refine sp<|sq<|bk<|sq<|sq<|rg<|rr 2 ?_;obtain⟨g0,O,d⟩:=bS d;refine ix (hE.trans o.ext) a0 O (fun e0 Z G M=>?_);cases M;refine l1 (At.ext (hE.trans o.ext) G) 0 ?_;refine rr 2 ?_;refine rn<|ci d (fun d=>?_) (fun d=>?_)
      · refine sq<|rg<|rr 1 ?_;refine rn<|rt ?_;cases d;cases q;have hm:some _=some _:=hm;cases hm;exact⟨_,.cons (.tmp rfl) .nil,rfl,o⟩
      · refine sp<|rg<|rr 3 ?_;refine rn<|rg<|rr 3 ?_;refine rn ?_;cases d;exact⟨_,_,rfl,⟨Y,o,rfl⟩,rfl⟩
    · refine xt ?_;cases d;exact⟨_,_,⟨q,Y,o,rfl⟩,rfl⟩

theorem zc1:Enters Tryz.prog 88:=⟨_,_,Tryz.func88,rfl,by kernel_rfl⟩
def z4W (fuel:Nat) (t2:Int):Option Int:=some t2
def z2a (fuel:Nat) (x0:(List D.Word)) (s1:Int × Int):Option (Rd (Int × Int) (Int) (Int)):=(if(decide (s1.2<(x0.length:Int)))=true then((idx x0 s1.2).bind fun d=>(if(d.Tag != s1.1)=true then some (.ret (-1)) else((idx x0 s1.2).bind fun o=>(if(o.At != (w64 (s1.1+1)))=true then some (.ret (-1)) else some (.next (w64 ((w64 (s1.1+1))+1),w64 (s1.2+1))))))) else some (.brk s1.1))
def z3c (fuel:Nat) (x0:(List D.Word)) (x1:Int):Option (Int):=((iter (z2a fuel x0) fuel (x1,0)).bind fun o=>aft o (z4W fuel))

theorem laws_heldWordS_ok {W w:World}(hE:Ext W w){y:Option Addr}{a0:Nat}{x0:(List D.Word)}{x1:Int}(b0:ty81.ro W [sl y x0 a0] x0){fuel:Nat}{r:Int}(hm:z3c fuel x0 x1=some r):
    Calls Tryz.prog 88 ⟨[sl y x0 a0,.int .i64 x1]⟩ w (Ret fun v w8=>v=.int .i64 r∧St w w8 []):=by
  refine into Tryz.func88 31 _ ?_;unfold z3c at hm;have hS:=St.start w;refine sq<|rg<|rr 1 ?_;refine rn<|sq<|sq<|rg<|rr 1 ?_;refine rn ?_;obtain⟨i0,L,hm⟩:=bS hm;refine ct (fun(t2:Int) F w9=>i0=.inl t2∧Ext w w9∧St w w9 []∧F=[(1,.int .i64 t2)]) ?_ ?_
  · rintro t2 F w7 ⟨M,j0,z,rfl⟩;subst M;rw [z4] at hm;unfold z4W at hm;refine sq<|rg<|rr 2 ?_;refine rn<|rt ?_;cases hm;exact⟨_,.cons (.tmp rfl) .nil,rfl,z⟩
  · refine bk<|wk [0,1,5] ?_;refine it (fun(s1:Int × Int) F w9=>Ext w w9∧St w w9 []∧F=[(0,sl y x0 a0),(1,.int .i64 s1.1),(5,.int .i64 s1.2)]) L ⟨(Ext.refl _),hS,rfl⟩ ?_;rintro s1 F q0 _ k0 ⟨c0,o,rfl⟩ d q;unfold z2a at d;refine sq<|sq<|rg<|rr 4 ?_;refine rn<|ci d (fun d=>?_) (fun d=>?_)
    · refine sp<|sq<|bk<|sq<|sq<|rg<|rr 2 ?_;obtain⟨r0,Y,d⟩:=bS d;refine ix (hE.trans o.ext) b0 Y (fun o0 f0 G O=>?_);have d0:=z17 O;subst d0;refine rr 1 ?_;refine l1 (At.ext (hE.trans o.ext) G) 0 ?_;refine rr 2 ?_;refine rn<|ci d (fun d=>?_) (fun d=>?_)
      · refine sq<|rg<|rr 1 ?_;refine rn<|rt ?_;cases d;cases q;have hm:some _=some _:=hm;cases hm;exact⟨_,.cons (.tmp rfl) .nil,rfl,o⟩
      · refine sp<|sq<|rg<|rr 3 ?_;refine rn<|sq<|sq<|rg<|rr 2 ?_;obtain⟨t0,Z,d⟩:=bS d;refine ix (hE.trans o.ext) b0 Z (fun p0 g0 H X=>?_);have e0:=z17 X;subst e0;refine rr 1 ?_;refine l1 (At.ext (hE.trans o.ext) H) 1 ?_;refine rr 2 ?_;refine rn<|ci d (fun d=>?_) (fun d=>?_)
        · refine sq<|rg<|rr 1 ?_;refine rn<|rt ?_;cases d;cases q;have hm:some _=some _:=hm;cases hm;exact⟨_,.cons (.tmp rfl) .nil,rfl,o⟩
        · refine sp<|rg<|rr 3 ?_;refine rn<|rg<|rr 3 ?_;refine rn ?_;cases d;exact⟨_,_,rfl,⟨c0,o,rfl⟩,rfl⟩
    · refine xt ?_;cases d;exact⟨_,_,⟨q,c0,o,rfl⟩,rfl⟩

theorem zcj:Enters Tryz.prog 48:=⟨_,_,Tryz.func48,rfl,by kernel_rfl⟩
def z4Y (fuel:Nat) (t2:Int):Option Int:=some t2
def z2c (fuel:Nat) (x0:(List D.Cell)) (s1:Int × Int):Option (Rd (Int × Int) (Int) (Int)):=(if(decide (s1.2<(x0.length:Int)))=true then((idx x0 s1.2).bind fun q=>(if(q.Kind != s1.1)=true then some (.ret (-1)) else((idx x0 s1.2).bind fun y=>(if(y.Level != (w64 (s1.1+1)))=true then some (.ret (-1)) else((idx x0 s1.2).bind fun z=>(if(z.Value != (w64 ((w64 (s1.1+1))+1)))=true then some (.ret (-1)) else((idx x0 s1.2).bind fun G=>((z2U fuel G.Data (w64 ((w64 ((w64 (s1.1+1))+1))+1))).bind fun d=>(if(decide (d<0))=true then some (.ret (-1)) else((idx x0 s1.2).bind fun H=>((z3c fuel H.Words d).bind fun o=>(if(decide (o<0))=true then some (.ret (-1)) else some (.next (o,w64 (s1.2+1))))))))))))))) else some (.brk s1.1))
def z3e (fuel:Nat) (x0:(List D.Cell)) (x1:Int):Option (Int):=((iter (z2c fuel x0) fuel (x1,0)).bind fun o=>aft o (z4Y fuel))

theorem laws_heldCellS_ok {W w:World}(hE:Ext W w){M:Option Addr}{A0:Nat}{x0:(List D.Cell)}{x1:Int}(z:ty29.ro W [sl M x0 A0] x0){fuel:Nat}{r:Int}(hm:z3e fuel x0 x1=some r):
    Calls Tryz.prog 48 ⟨[sl M x0 A0,.int .i64 x1]⟩ w (Ret fun v w8=>v=.int .i64 r∧St w w8 []):=by
  refine into Tryz.func48 58 _ ?_;unfold z3e at hm;have hS:=St.start w;refine sq<|rg<|rr 1 ?_;refine rn<|sq<|sq<|rg<|rr 1 ?_;refine rn ?_;obtain⟨P0,e0,hm⟩:=bS hm;refine ct (fun(t2:Int) F w9=>P0=.inl t2∧Ext w w9∧St w w9 []∧F=[(1,.int .i64 t2)]) ?_ ?_
  · rintro t2 F w7 ⟨f0,n1,Y,rfl⟩;subst f0;rw [z4] at hm;unfold z4Y at hm;refine sq<|rg<|rr 2 ?_;refine rn<|rt ?_;cases hm;exact⟨_,.cons (.tmp rfl) .nil,rfl,Y⟩
  · refine bk<|wk [0,1,5] ?_;refine it (fun(s1:Int × Int) F w9=>Ext w w9∧St w w9 []∧F=[(0,sl M x0 A0),(1,.int .i64 s1.1),(5,.int .i64 s1.2)]) e0 ⟨(Ext.refl _),hS,rfl⟩ ?_;rintro s1 F Q1 _ F1 ⟨B0,o,rfl⟩ d q;unfold z2c at d;refine sq<|sq<|rg<|rr 4 ?_;refine rn<|ci d (fun d=>?_) (fun d=>?_)
    · refine sp<|sq<|bk<|sq<|sq<|rg<|rr 2 ?_;obtain⟨T1,p0,d⟩:=bS d;refine ix (hE.trans o.ext) z p0 (fun G1 H0 Z g0=>?_);obtain⟨Q0,p1,R0,t1,C0,b1,d1⟩:=z3 g0;subst C0;refine rr 1 ?_;refine l1 (At.ext (hE.trans o.ext) Z) 0 ?_;refine rr 2 ?_;refine rn<|ci d (fun d=>?_) (fun d=>?_)
      · refine sq<|rg<|rr 1 ?_;refine rn<|rt ?_;cases d;cases q;have hm:some _=some _:=hm;cases hm;exact⟨_,.cons (.tmp rfl) .nil,rfl,o⟩
      · refine sp<|sq<|rg<|rr 3 ?_;refine rn<|sq<|sq<|rg<|rr 2 ?_;obtain⟨U1,q0,d⟩:=bS d;refine ix (hE.trans o.ext) z q0 (fun H1 J0 a0 i0=>?_);obtain⟨S0,u1,T0,v1,D0,e1,f1⟩:=z3 i0;subst D0;refine rr 1 ?_;refine l1 (At.ext (hE.trans o.ext) a0) 1 ?_;refine rr 2 ?_;refine rn<|ci d (fun d=>?_) (fun d=>?_)
        · refine sq<|rg<|rr 1 ?_;refine rn<|rt ?_;cases d;cases q;have hm:some _=some _:=hm;cases hm;exact⟨_,.cons (.tmp rfl) .nil,rfl,o⟩
        · refine sp<|sq<|rg<|rr 3 ?_;refine rn<|sq<|sq<|rg<|rr 2 ?_;obtain⟨V1,r0,d⟩:=bS d;refine ix (hE.trans o.ext) z r0 (fun J1 K0 b0 j0=>?_);obtain⟨U0,y1,V0,A1,E0,g1,i1⟩:=z3 j0;subst E0;refine rr 1 ?_;refine l1 (At.ext (hE.trans o.ext) b0) 2 ?_;refine rr 2 ?_;refine rn<|ci d (fun d=>?_) (fun d=>?_)
          · refine sq<|rg<|rr 1 ?_;refine rn<|rt ?_;cases d;cases q;have hm:some _=some _:=hm;cases hm;exact⟨_,.cons (.tmp rfl) .nil,rfl,o⟩
          · refine sp<|sq<|rg<|rr 3 ?_;refine rn<|sq<|rg<|rr 2 ?_;obtain⟨W1,t0,d⟩:=bS d;refine ix (hE.trans o.ext) z t0 (fun K1 L0 c0 k0=>?_);obtain⟨W0,B1,X0,C1,F0,N0,j1⟩:=z3 k0;subst F0;refine rr 1 ?_;refine l1 (At.ext (hE.trans o.ext) c0) 3 ?_;refine rr 1 ?_;obtain⟨M1,u0,d⟩:=bS d;refine ca zc2 (laws_heldInt64S_ok (hE.trans o.ext) N0 u0) (fun O1 R1 O=>?_);obtain⟨rfl,G⟩:=O;have y:=o.join G;refine rr 1 ?_;refine rn<|sq<|sq<|rg<|rr 2 ?_;refine rn<|ci d (fun d=>?_) (fun d=>?_)
            · refine sq<|rg<|rr 1 ?_;refine rn<|rt ?_;cases d;cases q;have hm:some _=some _:=hm;cases hm;exact⟨_,.cons (.tmp rfl) .nil,rfl,y⟩
            · refine sp<|sq<|rg<|rr 2 ?_;obtain⟨X1,v0,d⟩:=bS d;refine ix (hE.trans y.ext) z v0 (fun L1 M0 d0 o0=>?_);obtain⟨Y0,D1,a1,E1,G0,m1,O0⟩:=z3 o0;subst G0;refine rr 1 ?_;refine l1 (At.ext (hE.trans y.ext) d0) 4 ?_;refine rr 1 ?_;obtain⟨N1,y0,d⟩:=bS d;refine ca zc1 (laws_heldWordS_ok (hE.trans y.ext) O0 y0) (fun P1 S1 X=>?_);obtain⟨rfl,H⟩:=X;have L:=y.join H;refine rr 1 ?_;refine rn<|sq<|rg<|rr 2 ?_;refine rn<|ci d (fun d=>?_) (fun d=>?_)
              · refine sq<|rg<|rr 1 ?_;refine rn<|rt ?_;cases d;cases q;have hm:some _=some _:=hm;cases hm;exact⟨_,.cons (.tmp rfl) .nil,rfl,L⟩
              · refine sp<|rg<|rr 3 ?_;refine rn ?_;cases d;exact⟨_,_,rfl,⟨((B0.trans G.ext).trans H.ext),L,rfl⟩,rfl⟩
    · refine xt ?_;cases d;exact⟨_,_,⟨q,B0,o,rfl⟩,rfl⟩

theorem zci:Enters Tryz.prog 49:=⟨_,_,Tryz.func49,rfl,by kernel_rfl⟩
def z4X (fuel:Nat) (t2:Int):Option Int:=some t2
def z2b (fuel:Nat) (x0:(List D.Pair)) (s1:Int × Int):Option (Rd (Int × Int) (Int) (Int)):=(if(decide (s1.2<(x0.length:Int)))=true then((idx x0 s1.2).bind fun d=>(if(d.A != s1.1)=true then some (.ret (-1)) else((idx x0 s1.2).bind fun o=>(if(o.B != (w64 (s1.1+1)))=true then some (.ret (-1)) else some (.next (w64 ((w64 (s1.1+1))+1),w64 (s1.2+1))))))) else some (.brk s1.1))
def z3d (fuel:Nat) (x0:(List D.Pair)) (x1:Int):Option (Int):=((iter (z2b fuel x0) fuel (x1,0)).bind fun o=>aft o (z4X fuel))

theorem laws_heldPairS_ok {W w:World}(hE:Ext W w){y:Option Addr}{a0:Nat}{x0:(List D.Pair)}{x1:Int}(b0:ty31.ro W [sl y x0 a0] x0){fuel:Nat}{r:Int}(hm:z3d fuel x0 x1=some r):
    Calls Tryz.prog 49 ⟨[sl y x0 a0,.int .i64 x1]⟩ w (Ret fun v w8=>v=.int .i64 r∧St w w8 []):=by
  refine into Tryz.func49 31 _ ?_;unfold z3d at hm;have hS:=St.start w;refine sq<|rg<|rr 1 ?_;refine rn<|sq<|sq<|rg<|rr 1 ?_;refine rn ?_;obtain⟨i0,L,hm⟩:=bS hm;refine ct (fun(t2:Int) F w9=>i0=.inl t2∧Ext w w9∧St w w9 []∧F=[(1,.int .i64 t2)]) ?_ ?_
  · rintro t2 F w7 ⟨M,j0,z,rfl⟩;subst M;rw [z4] at hm;unfold z4X at hm;refine sq<|rg<|rr 2 ?_;refine rn<|rt ?_;cases hm;exact⟨_,.cons (.tmp rfl) .nil,rfl,z⟩
  · refine bk<|wk [0,1,5] ?_;refine it (fun(s1:Int × Int) F w9=>Ext w w9∧St w w9 []∧F=[(0,sl y x0 a0),(1,.int .i64 s1.1),(5,.int .i64 s1.2)]) L ⟨(Ext.refl _),hS,rfl⟩ ?_;rintro s1 F q0 _ k0 ⟨c0,o,rfl⟩ d q;unfold z2b at d;refine sq<|sq<|rg<|rr 4 ?_;refine rn<|ci d (fun d=>?_) (fun d=>?_)
    · refine sp<|sq<|bk<|sq<|sq<|rg<|rr 2 ?_;obtain⟨r0,Y,d⟩:=bS d;refine ix (hE.trans o.ext) b0 Y (fun o0 f0 G O=>?_);have d0:=z2h O;subst d0;refine rr 1 ?_;refine l1 (At.ext (hE.trans o.ext) G) 0 ?_;refine rr 2 ?_;refine rn<|ci d (fun d=>?_) (fun d=>?_)
      · refine sq<|rg<|rr 1 ?_;refine rn<|rt ?_;cases d;cases q;have hm:some _=some _:=hm;cases hm;exact⟨_,.cons (.tmp rfl) .nil,rfl,o⟩
      · refine sp<|sq<|rg<|rr 3 ?_;refine rn<|sq<|sq<|rg<|rr 2 ?_;obtain⟨t0,Z,d⟩:=bS d;refine ix (hE.trans o.ext) b0 Z (fun p0 g0 H X=>?_);have e0:=z2h X;subst e0;refine rr 1 ?_;refine l1 (At.ext (hE.trans o.ext) H) 1 ?_;refine rr 2 ?_;refine rn<|ci d (fun d=>?_) (fun d=>?_)
        · refine sq<|rg<|rr 1 ?_;refine rn<|rt ?_;cases d;cases q;have hm:some _=some _:=hm;cases hm;exact⟨_,.cons (.tmp rfl) .nil,rfl,o⟩
        · refine sp<|rg<|rr 3 ?_;refine rn<|rg<|rr 3 ?_;refine rn ?_;cases d;exact⟨_,_,rfl,⟨c0,o,rfl⟩,rfl⟩
    · refine xt ?_;cases d;exact⟨_,_,⟨q,c0,o,rfl⟩,rfl⟩

theorem z9J:Enters Tryz.prog 13:=⟨_,_,Tryz.func13,rfl,by kernel_rfl⟩
def z26 (fuel:Nat) (x0:D.Memory) (x1:Int):Option (Int):=((z3e fuel x0.Cells x1).bind fun d=>(if(decide (d<0))=true then some (-1) else((z3d fuel x0.Redexes d).bind fun o=>(if(decide (o<0))=true then some (-1) else some o))))

theorem laws_heldMemory_ok {W w:World}(hE:Ext W w){O:List Value}{x0:D.Memory}{x1:Int}(X:ty33.ro W O x0){fuel:Nat}{r:Int}(hm:z26 fuel x0 x1=some r):
    Calls Tryz.prog 13 ⟨[.agg ⟨O⟩,.int .i64 x1]⟩ w (Ret fun v w8=>v=.int .i64 r∧St w w8 []):=by
  obtain⟨A1,k2,A4,k5,e7,h3,h6⟩:=zR X;subst e7;refine into Tryz.func13 18 _ ?_;unfold z26 at hm;have hS:=St.start w;refine sq<|rg<|nw hS (fun Z e0 Y o=>?_);refine rr 1 ?_;refine rn<|sq<|rg<|rr 1 ?_;refine l1 ((o.bring 0 rfl).box) 0 ?_;refine rr 1 ?_;obtain⟨a0,L,hm⟩:=bS hm;refine ca zcj (laws_heldCellS_ok (hE.trans o.ext) h3 L) (fun c0 f0 y=>?_);obtain⟨rfl,z⟩:=y;have d:=o.join z;refine rr 1 ?_;refine rn<|sq<|sq<|rg<|rr 2 ?_;refine rn<|ci hm (fun hm=>?_) (fun hm=>?_)
  · refine sq<|rg<|rr 1 ?_;refine rn<|rt ?_;cases hm;exact⟨_,.cons (.tmp rfl) .nil,rfl,(d.taken 0)⟩
  · refine sp<|sq<|rg<|rr 1 ?_;refine l1 ((d.bring 0 rfl).box) 4 ?_;refine rr 1 ?_;obtain⟨b0,M,hm⟩:=bS hm;refine ca zci (laws_heldPairS_ok (hE.trans d.ext) h6 M) (fun d0 g0 G=>?_);obtain⟨rfl,H⟩:=G;have q:=d.join H;refine rr 1 ?_;refine rn<|sq<|sq<|rg<|rr 2 ?_;refine rn<|ci hm (fun hm=>?_) (fun hm=>?_)
    · refine sq<|rg<|rr 1 ?_;refine rn<|rt ?_;cases hm;exact⟨_,.cons (.tmp rfl) .nil,rfl,(q.taken 0)⟩
    · refine sp<|sq<|rg<|rr 2 ?_;refine rn<|rt ?_;cases hm;exact⟨_,.cons (.tmp rfl) .nil,rfl,(q.taken 0)⟩

def zC (fuel:Nat) (q:D.Memory × Int) (d:Int × (List D.Cell) × (List D.Pair)) (y:Bool):Option Bool:=(if y=true then some false else((z26 fuel (⟨d.2.1,q.1.Free,(⟨q.1.Root.Tag,q.1.Root.At⟩:D.Word),d.2.2⟩:D.Memory) 1).bind fun o=>(if(decide (o<0))=true then some false else(if(o != d.1)=true then some false else some true))))
def zj (fuel:Nat) (x0:D.Memory) (L:D.Memory × Int) (o:D.Memory × Int) (H:Bool):Option Bool:=(if H=true then some false else((z25 fuel o.1 1).bind fun d=>((z26 fuel (⟨d.2.1,o.1.Free,(⟨o.1.Root.Tag,o.1.Root.At⟩:D.Word),d.2.2⟩:D.Memory) 1).bind fun q=>(if(decide (q<0))=true then some false else(if(q != d.1)=true then some false else((z1z fuel x0).bind fun z=>((z1q fuel z).bind fun y=>((z1A fuel y.1 L.1).bind fun G=>(if(!G)=true then zC fuel o d true else zC fuel o d (y.2 != L.2))))))))))
def zD (fuel:Nat) (x0:D.Memory) (d:D.Memory × Int) (G:D.Memory) (o:D.Memory × Int) (L:Bool):Option Bool:=(if L=true then some false else((z1z fuel x0).bind fun H=>((z1A fuel G H).bind fun q=>(if(!q)=true then some false else((z25 fuel G 1).bind fun y=>(if(decide (y.1<0))=true then zj fuel x0 d o true else((z1A fuel o.1 d.1).bind fun z=>(if(!z)=true then zj fuel x0 d o true else zj fuel x0 d o (o.2 != d.2)))))))))
def z1d (fuel:Nat) (x0:D.Memory):Option (Bool):=((z3B fuel x0 1048576).bind fun z=>(if(decide (z<0))=true then some true else((z1z fuel x0).bind fun G=>((z1M fuel G).bind fun d=>((z1z fuel x0).bind fun y=>((z1q fuel y).bind fun o=>((z1A fuel o.1 d.1).bind fun q=>(if(!q)=true then zD fuel x0 d y o true else zD fuel x0 d y o (o.2 != d.2)))))))))

theorem laws_FnExactCompactMemory_ok {W w:World}(hE:Ext W w){t2:List Value}{x0:D.Memory}(J0:ty27.ro W t2 x0){fuel:Nat}{r:Bool}(hm:z1d fuel x0=some r):
    Calls Tryz.prog 3 ⟨[.agg ⟨t2⟩]⟩ w (Ret fun v w8=>v=.bool r∧St w w8 []):=by
  obtain⟨A1,k2,A4,k5,e7,h3,h6⟩:=z75 J0;subst e7;refine into Tryz.func3 96 _ ?_;unfold z1d at hm;have hS:=St.start w;refine sq<|rg<|nw hS (fun D1 T3 F3 C0=>?_);refine rr 1 ?_;refine rn<|sq<|rg<|rr 1 ?_;refine rn<|sq<|rg<|lN ((C0.bring 0 rfl).box) ?_;refine rr 1 ?_;obtain⟨M3,e2,hm⟩:=bS hm;refine ca zcP (laws_szMemory_ok (hE.trans C0.ext) J0 e2) (fun N3 U3 H1=>?_);obtain⟨rfl,J1⟩:=H1;have q0:=C0.join J1;refine rr 1 ?_;refine rn<|sq<|sq<|rg<|rr 2 ?_;refine rn<|ci hm (fun hm=>?_) (fun hm=>?_)
  · refine sq<|rg<|rr 1 ?_;refine rn<|rt ?_;cases hm;exact⟨_,.cons (.tmp rfl) .nil,rfl,(q0.taken 0)⟩
  · refine sp<|sq<|rg<|lN ((q0.bring 0 rfl).box) ?_;obtain⟨Y2,f2,hm⟩:=bS hm;refine ca z8q (laws_toMemory_ok (hE.trans q0.ext) J0 f2) (fun O3 V3 K1=>?_);obtain⟨C3,K3,D3,L3,rfl,L1⟩:=K1;have D0:=q0.join L1;obtain⟨y,g2,hm⟩:=bS hm;refine ca zcO (z5C (Ext.refl _) (z2F Y2 ((D0.bring 0 rfl).own) ((D0.bring 1 rfl).own)) g2) (fun P3 W3 M1=>?_);obtain⟨B1,F1,C1,G1,rfl,N1⟩:=M1;have T1:=D0.join N1;refine rr 3 ?_;refine nw T1 (fun E1 X3 G3 U1=>?_);have V1:=U1.bring 0 rfl;refine so (A:=[]) V1 0 (fun Y3 E0=>?_);refine rr 1 ?_;refine rn<|sq<|rg<|lN ((E0.bring 5 rfl).box) ?_;obtain⟨p0,i2,hm⟩:=bS hm;refine ca z8q (laws_toMemory_ok (hE.trans E0.ext) J0 i2) (fun Q3 a4 O1=>?_);obtain⟨r2,A2,s2,B2,rfl,P1⟩:=O1;have W1:=E0.join P1;refine nw W1 (fun u2 b4 H3 X1=>?_);have Y1:=X1.bring 0 rfl;refine so (A:=[]) Y1 0 (fun c4 r0=>?_);refine rn<|sq<|rg<|lN ((r0.bring 0 rfl).box) ?_;obtain⟨d,j2,hm⟩:=bS hm;refine ca z9L (z4J (Ext.refl _) (z2F p0 ((r0.bring 1 rfl).own) ((r0.bring 2 rfl).own)) j2) (fun R3 d4 Q1=>?_);obtain⟨X,Z,Y,a0,rfl,R1⟩:=Q1;have a2:=r0.join R1;refine rr 3 ?_;refine nw a2 (fun H0 e4 J3 b2=>?_);have d2:=b2.bring 0 rfl;refine so (A:=[]) d2 0 (fun B3 O=>?_);refine rr 1 ?_;refine rn<|sq<|sq<|ct (fun(o2:Bool) F w9=>zD fuel x0 y p0 d o2=some r∧Ext B3 w9∧St w w9 [Box H0 [sl X d.1.Cells Z,.int .i64 d.1.Free,.int .i64 d.1.Root.Tag,.int .i64 d.1.Root.At,sl Y d.1.Redexes a0] 33,ow ty29 X d.1.Cells Z,ow ty31 Y d.1.Redexes a0,Box u2 [sl r2 p0.Cells A2,.int .i64 p0.Free,.int .i64 p0.Root.Tag,.int .i64 p0.Root.At,sl s2 p0.Redexes B2] 33,ow ty29 r2 p0.Cells A2,ow ty31 s2 p0.Redexes B2,Box E1 [sl B1 y.1.Cells F1,.int .i64 y.1.Free,.int .i64 y.1.Root.Tag,.int .i64 y.1.Root.At,sl C1 y.1.Redexes G1] 33,ow ty29 B1 y.1.Cells F1,ow ty31 C1 y.1.Redexes G1,Box D1 [sl A1 x0.Cells k2,.int .i64 x0.Free,.int .i64 x0.Root.Tag,.int .i64 x0.Root.At,sl A4 x0.Redexes k5] 27]∧F=[(1,.pointer (some ⟨D1,0,none⟩)),(4,.pointer (some ⟨E1,0,none⟩)),(5,.int .i64 y.2),(6,.pointer (some ⟨u2,0,none⟩)),(7,.pointer (some ⟨H0,0,none⟩)),(8,.int .i64 d.2),(40,.bool o2)]) ?_ ?_
    · rintro o2 F f4 ⟨hm,K2,o0,rfl⟩;unfold zD at hm;refine ci hm (fun hm=>?_) (fun hm=>?_)
      · refine sq<|rg<|rr 1 ?_;refine rn<|rt ?_;cases hm;exact⟨_,.cons (.tmp rfl) .nil,rfl,(o0.taken 0)⟩
      · refine sp<|sq<|sq<|dn 0 mixed 5 [([],31),([],31),([1],29),([0,2,2],26),([3],23)] o0.ext (fun M=>?_);have f1:=o0.step (Ext.draw _);refine dL M 0 ((o0.bring 3 rfl).box) ?_;refine dL M 1 ((o0.bring 9 rfl).box) ?_;obtain⟨a3,m2,hm⟩:=bS hm;refine o1 M 2 (mc M z8q (laws_toMemory_ok (hE.trans f1.ext) J0 m2) (fun S3 g4 S1=>?_));obtain⟨E3,L2,C2,M2,rfl,t0⟩:=S1;refine⟨t0.ext,?_⟩;have G:=f1.join t0;obtain⟨R2,g1,hm⟩:=bS hm;refine o1 M 3 (mc M z71 (laws_eqMemory_ok (Ext.refl _) (z2F p0 ((G.bring 6 rfl).own) ((G.bring 7 rfl).own)) (z2F a3 ((G.bring 0 rfl).own) ((G.bring 1 rfl).own)) g1) (fun b3 n3 K0=>?_));obtain⟨rfl,u0⟩:=K0;refine⟨u0.ext,?_⟩;have e0:=G.join u0;refine dr 0 M [4] ?_;refine dd M ?_;refine ci hm (fun hm=>?_) (fun hm=>?_)
        · refine sq<|rg<|rr 1 ?_;refine rn<|rt ?_;cases hm;exact⟨_,.cons (.tmp rfl) .nil,rfl,(e0.taken 0)⟩
        · refine sp<|sq<|rg<|rr 1 ?_;refine rn<|sq<|rg<|lN ((e0.bring 5 rfl).box) ?_;refine rr 1 ?_;obtain⟨S2,i1,hm⟩:=bS hm;refine ca z9K (laws_markMemory_ok (W:=w) (RR:=_) (x0:=p0) (x1:=1) ((e0.bring 7 rfl).bring 7 rfl)  i1) (fun c3 p2 L0=>?_);obtain⟨rfl,q⟩:=L0;refine rr 1 ?_;refine rn<|sq<|sq<|ct (fun(F0:Bool) F w9=>zj fuel x0 y d F0=some r∧Ext p2 w9∧St w w9 [Box H0 [sl X d.1.Cells Z,.int .i64 d.1.Free,.int .i64 d.1.Root.Tag,.int .i64 d.1.Root.At,sl Y d.1.Redexes a0] 33,ow ty29 X d.1.Cells Z,ow ty31 Y d.1.Redexes a0,Box E1 [sl B1 y.1.Cells F1,.int .i64 y.1.Free,.int .i64 y.1.Root.Tag,.int .i64 y.1.Root.At,sl C1 y.1.Redexes G1] 33,ow ty29 B1 y.1.Cells F1,ow ty31 C1 y.1.Redexes G1,Box D1 [sl A1 x0.Cells k2,.int .i64 x0.Free,.int .i64 x0.Root.Tag,.int .i64 x0.Root.At,sl A4 x0.Redexes k5] 27]∧F=[(1,.pointer (some ⟨D1,0,none⟩)),(4,.pointer (some ⟨E1,0,none⟩)),(5,.int .i64 y.2),(7,.pointer (some ⟨H0,0,none⟩)),(61,.bool F0)]) ?_ ?_
          · rintro F0 F o3 ⟨hm,v2,f0,rfl⟩;unfold zj at hm;refine ci hm (fun hm=>?_) (fun hm=>?_)
            · refine sq<|rg<|rr 1 ?_;refine rn<|rt ?_;cases hm;exact⟨_,.cons (.tmp rfl) .nil,rfl,(f0.taken 0)⟩
            · refine sp<|sq<|rg<|rr 1 ?_;refine rn<|sq<|rg<|lN ((f0.bring 0 rfl).box) ?_;refine rr 1 ?_;obtain⟨o,j1,hm⟩:=bS hm;refine ca z9K (laws_markMemory_ok (W:=w) (RR:=_) (x0:=d.1) (x1:=1) ((f0.bring 2 rfl).bring 2 rfl)  j1) (fun d3 p3 M0=>?_);obtain⟨rfl,g0⟩:=M0;refine rr 1 ?_;refine rn<|sq<|rg<|rr 1 ?_;refine rn<|sq<|rg<|lN ((g0.bring 2 rfl).box) ?_;refine rr 1 ?_;have hn129:=(g0.bring 0 rfl).lenEq;have Y0:=(g0.bring 0 rfl).reLen hn129;have v0:=(Y0.bring 2 rfl).reBox (cs':=[.slice X o.2.1.length Z,.int .i64 d.1.Free,.int .i64 d.1.Root.Tag,.int .i64 d.1.Root.At,.slice Y d.1.Redexes.length a0]) (by show([.slice X d.1.Cells.length Z,.int .i64 d.1.Free,.int .i64 d.1.Root.Tag,.int .i64 d.1.Root.At,.slice Y d.1.Redexes.length a0]:List Value)=[.slice X o.2.1.length Z,.int .i64 d.1.Free,.int .i64 d.1.Root.Tag,.int .i64 d.1.Root.At,.slice Y d.1.Redexes.length a0];first | (simp only [sl,hn129];done) | (simp only [sl,hn129];rfl));have hn132:=(v0.bring 2 rfl).lenEq;have a1:=(v0.bring 2 rfl).reLen hn132;have i0:=(a1.bring 1 rfl).reBox (cs':=[.slice X o.2.1.length Z,.int .i64 d.1.Free,.int .i64 d.1.Root.Tag,.int .i64 d.1.Root.At,.slice Y o.2.2.length a0]) (by show([.slice X o.2.1.length Z,.int .i64 d.1.Free,.int .i64 d.1.Root.Tag,.int .i64 d.1.Root.At,.slice Y d.1.Redexes.length a0]:List Value)=[.slice X o.2.1.length Z,.int .i64 d.1.Free,.int .i64 d.1.Root.Tag,.int .i64 d.1.Root.At,.slice Y o.2.2.length a0];first | (simp only [sl,hn132];done) | (simp only [sl,hn132];rfl));refine kn (u:=.agg ⟨[.slice X o.2.1.length Z,.int .i64 d.1.Free,.int .i64 d.1.Root.Tag,.int .i64 d.1.Root.At,.slice Y o.2.2.length a0]⟩) 65 rfl (by simp only [sl,hn129,hn132]) ?_;obtain⟨T2,m1,hm⟩:=bS hm;refine ca z9J (laws_heldMemory_ok (Ext.refl _) (z2F (⟨o.2.1,d.1.Free,(⟨d.1.Root.Tag,d.1.Root.At⟩:D.Word),o.2.2⟩:D.Memory) ((i0.bring 2 rfl).own) ((i0.bring 1 rfl).own)) m1) (fun e3 q3 N0=>?_);obtain⟨rfl,O0⟩:=N0;have H:=i0.join O0;refine rr 1 ?_;refine rn<|sq<|sq<|rg<|rr 2 ?_;refine rn<|ci hm (fun hm=>?_) (fun hm=>?_)
              · refine sq<|rg<|rr 1 ?_;refine rn<|rt ?_;cases hm;exact⟨_,.cons (.tmp rfl) .nil,rfl,(H.taken 0)⟩
              · refine sp<|sq<|sq<|rg<|rr 3 ?_;refine rn<|ci hm (fun hm=>?_) (fun hm=>?_)
                · refine sq<|rg<|rr 1 ?_;refine rn<|rt ?_;cases hm;exact⟨_,.cons (.tmp rfl) .nil,rfl,(H.taken 0)⟩
                · refine sp<|sq<|rg<|lN ((H.bring 6 rfl).box) ?_;obtain⟨n2,n1,hm⟩:=bS hm;refine ca z8q (laws_toMemory_ok (hE.trans H.ext) J0 n1) (fun f3 r3 P0=>?_);obtain⟨D2,N2,E2,O2,rfl,Q0⟩:=P0;have j0:=H.join Q0;obtain⟨y1,p1,hm⟩:=bS hm;refine ca z9L (z4J (Ext.refl _) (z2F n2 ((j0.bring 0 rfl).own) ((j0.bring 1 rfl).own)) p1) (fun g3 s3 R0=>?_);obtain⟨F2,P2,G2,Q2,rfl,S0⟩:=R0;have b1:=j0.join S0;refine rr 3 ?_;refine nw b1 (fun J2 t3 H2 d1=>?_);have e1:=d1.bring 0 rfl;refine so (A:=[]) e1 0 (fun q2 z=>?_);refine rr 1 ?_;refine rn<|sq<|sq<|ct (fun(G0:Bool) F w9=>zC fuel d o G0=some r∧Ext q2 w9∧St w w9 [Box H0 [sl X o.2.1 Z,.int .i64 d.1.Free,.int .i64 d.1.Root.Tag,.int .i64 d.1.Root.At,sl Y o.2.2 a0] 33,ow ty31 Y o.2.2 a0,ow ty29 X o.2.1 Z]∧F=[(7,.pointer (some ⟨H0,0,none⟩)),(10,.int .i64 o.1),(87,.bool G0)]) ?_ ?_
                  · rintro G0 F u3 ⟨hm,y2,L,rfl⟩;unfold zC at hm;refine ci hm (fun hm=>?_) (fun hm=>?_)
                    · refine sq<|rg<|rr 1 ?_;refine rn<|rt ?_;cases hm;exact⟨_,.cons (.tmp rfl) .nil,rfl,(L.taken 0)⟩
                    · refine sp<|sq<|rg<|rr 1 ?_;refine rn<|sq<|rg<|lN ((L.bring 0 rfl).box) ?_;refine rr 1 ?_;obtain⟨U2,s1,hm⟩:=bS hm;refine ca z9J (laws_heldMemory_ok (Ext.refl _) (z2F (⟨o.2.1,d.1.Free,(⟨d.1.Root.Tag,d.1.Root.At⟩:D.Word),o.2.2⟩:D.Memory) ((L.bring 2 rfl).own) ((L.bring 1 rfl).own)) s1) (fun i3 v3 T0=>?_);obtain⟨rfl,U0⟩:=T0;have k0:=L.join U0;refine rr 1 ?_;refine rn<|sq<|sq<|rg<|rr 2 ?_;refine rn<|ci hm (fun hm=>?_) (fun hm=>?_)
                      · refine sq<|rg<|rr 1 ?_;refine rn<|rt ?_;cases hm;exact⟨_,.cons (.tmp rfl) .nil,rfl,(k0.taken 0)⟩
                      · refine sp<|sq<|sq<|rg<|rr 3 ?_;refine rn<|ci hm (fun hm=>?_) (fun hm=>?_)
                        · refine sq<|rg<|rr 1 ?_;refine rn<|rt ?_;cases hm;exact⟨_,.cons (.tmp rfl) .nil,rfl,(k0.taken 0)⟩
                        · refine sp<|sq<|rg<|rr 1 ?_;refine rn<|rt ?_;cases hm;exact⟨_,.cons (.tmp rfl) .nil,rfl,(k0.taken 0)⟩
                  · refine rg<|lN ((z.bring 0 rfl).box) ?_;refine lN ((z.bring 8 rfl).box) ?_;obtain⟨V2,t1,hm⟩:=bS hm;refine ca z71 (laws_eqMemory_ok (Ext.refl _) (z2F y1.1 ((z.bring 1 rfl).own) ((z.bring 2 rfl).own)) (z2F y.1 ((z.bring 9 rfl).own) ((z.bring 10 rfl).own)) t1) (fun j3 x3 V0=>?_);obtain⟨rfl,b0⟩:=V0;have y0:=z.join b0;refine rr 2 ?_;refine rb 83 hm (fun hm=>?_) (fun hm=>?_)
                    · refine rr 4 ?_;refine rn ?_;exact⟨true,_,⟨hm,b0.ext,(y0.sel [5,6,7]),rfl⟩,rfl⟩
                    · refine rr 4 ?_;refine rn ?_;exact⟨(y1.2 != y.2),_,⟨hm,b0.ext,(y0.sel [5,6,7]),rfl⟩,rfl⟩
          · refine rg<|rr 3 ?_;refine rb 51 hm (fun hm=>?_) (fun hm=>?_)
            · refine rr 10 ?_;refine rn ?_;exact⟨true,_,⟨hm,(Ext.refl _),(q.sel [4,5,6,8,9,10,11]),rfl⟩,rfl⟩
            · refine lN ((q.bring 4 rfl).box) ?_;refine lN ((q.bring 8 rfl).box) ?_;obtain⟨W2,u1,hm⟩:=bS hm;refine ca z71 (laws_eqMemory_ok (Ext.refl _) (z2F d.1 ((q.bring 5 rfl).own) ((q.bring 6 rfl).own)) (z2F y.1 ((q.bring 9 rfl).own) ((q.bring 10 rfl).own)) u1) (fun k3 y3 W0=>?_);obtain⟨rfl,c0⟩:=W0;have A0:=q.join c0;refine rr 3 ?_;refine rb 57 hm (fun hm=>?_) (fun hm=>?_)
              · refine rr 4 ?_;refine rn ?_;exact⟨true,_,⟨hm,c0.ext,(A0.sel [4,5,6,8,9,10,11]),rfl⟩,rfl⟩
              · refine rr 4 ?_;refine rn ?_;exact⟨(d.2 != y.2),_,⟨hm,c0.ext,(A0.sel [4,5,6,8,9,10,11]),rfl⟩,rfl⟩
    · refine rg<|lN ((O.bring 0 rfl).box) ?_;refine lN ((O.bring 6 rfl).box) ?_;obtain⟨X2,v1,hm⟩:=bS hm;refine ca z71 (laws_eqMemory_ok (Ext.refl _) (z2F d.1 ((O.bring 1 rfl).own) ((O.bring 2 rfl).own)) (z2F y.1 ((O.bring 7 rfl).own) ((O.bring 8 rfl).own)) v1) (fun m3 A3 X0=>?_);obtain⟨rfl,d0⟩:=X0;have B0:=O.join d0;refine rr 2 ?_;refine rb 36 hm (fun hm=>?_) (fun hm=>?_)
      · refine rr 4 ?_;refine rn ?_;exact⟨true,_,⟨hm,d0.ext,(B0.sel [0,1,2,3,4,5,6,7,8,11]),rfl⟩,rfl⟩
      · refine rr 4 ?_;refine rn ?_;exact⟨(d.2 != y.2),_,⟨hm,d0.ext,(B0.sel [0,1,2,3,4,5,6,7,8,11]),rfl⟩,rfl⟩

end Go.E


namespace Go.E
open Go.RowKit Go.Proofs
set_option linter.unusedSimpArgs false
set_option linter.unusedVariables false

theorem z77 {fuel:Nat}{x:D.Word}(hf:18446744073709551616≤fuel) (hs:0≤1048576):z3O fuel x=some x:=by
  skip
  unfold z3O
  rfl

theorem z7B {fuel:Nat}{x:D.Word}(hf:18446744073709551616≤fuel) (hs:0≤1048576):z3T fuel x x=some true:=by
  skip
  simp [z3T,z4F]

theorem z9k {fuel:Nat}{x:D.Pair}(hf:18446744073709551616≤fuel) (hs:0≤1048576):z4r fuel x=some x:=by
  skip
  unfold z4r
  rfl

theorem z9t {fuel:Nat}{x:D.Pair}(hf:18446744073709551616≤fuel) (hs:0≤1048576):z4u fuel x x=some true:=by
  skip
  simp [z4u,z4F]

theorem z8a {fuel:Nat}{x:(List Int)}{l:Int}(hf:18446744073709551616≤fuel) (hw:WfL I64 x) (h0:0≤l) (h1:l≤1048576):SzOk (x.length) l (z3C fuel x l):=by
  unfold z3C
  generalize hz:w64 (l - (x.length:Int))=z
  exact SzOk.sub2 h0 h1 hw.1 (m:=0) rfl hz fun g0 g1=>SzOk.same g0

theorem z87 {fuel:Nat}{x:(List Int)}(hf:18446744073709551616≤fuel) (hs:x.length≤1048576):z3A fuel x=some x:=by
  have hl:=hs
  unfold z3A
  refine z6u hl hf (fun _=>rfl) ?_ ?_
  · intro i y out hy d
    have hi:=(List.getElem?_eq_some_iff.1 hy).1
    have hsy:0≤1048576:=Nat.zero_le _
    simp only [z3n,zS hy,Option.bind_some,lt_t (show(i:Int)<x.length by omega),if_true]
    rw [if_pos (by simp;omega)]
    simp
  · intro out
    simp [z3n]

theorem z8p {fuel:Nat}{x:(List Int)}(hf:18446744073709551616≤fuel) (hs:x.length≤1048576):z3D fuel x x=some true:=by
  have hl:=hs
  unfold z3D
  rw [if_neg (by simp)]
  refine z5X (n:=x.length) (t:=()) (by unfold maxLen;omega) hf rfl ?_ ?_
  · intro i hi
    obtain⟨y,hy⟩:=z4K hi
    have hsy:0≤1048576:=Nat.zero_le _
    simp [z3o,zS hy,hi,z4F]
  · simp [z3o]

theorem z8F {fuel:Nat}{x:(List D.Pair)}{l:Int}(hf:18446744073709551616≤fuel) (hw:WfL D.Pair.wf x) (h0:0≤l) (h1:l≤1048576):SzOk (x.length) l (z4a fuel x l):=by
  unfold z4a
  generalize hz:w64 (l - (x.length:Int))=z
  exact SzOk.sub2 h0 h1 hw.1 (m:=0) rfl hz fun g0 g1=>SzOk.same g0

theorem z8C {fuel:Nat}{x:(List D.Pair)}(hf:18446744073709551616≤fuel) (hs:x.length≤1048576):z47 fuel x=some x:=by
  have hl:=hs
  unfold z47
  refine z6u hl hf (fun _=>rfl) ?_ ?_
  · intro i y out hy d
    have hi:=(List.getElem?_eq_some_iff.1 hy).1
    have hsy:0≤1048576:=Nat.zero_le _
    simp only [z3P,zS hy,Option.bind_some,lt_t (show(i:Int)<x.length by omega),if_true,z9k hf hsy]
    rw [if_pos (by simp;omega)]
    simp
  · intro out
    simp [z3P]

theorem z90 {fuel:Nat}{x:(List D.Pair)}(hf:18446744073709551616≤fuel) (hs:x.length≤1048576):z4d fuel x x=some true:=by
  have hl:=hs
  unfold z4d
  rw [if_neg (by simp)]
  refine z5X (n:=x.length) (t:=()) (by unfold maxLen;omega) hf rfl ?_ ?_
  · intro i hi
    obtain⟨y,hy⟩:=z4K hi
    have hsy:0≤1048576:=Nat.zero_le _
    simp [z3U,zS hy,hi,z4F,z9t hf hsy]
  · simp [z3U]

theorem z8E {fuel:Nat}{x:(List D.Word)}{l:Int}(hf:18446744073709551616≤fuel) (hw:WfL D.Word.wf x) (h0:0≤l) (h1:l≤1048576):SzOk (x.length) l (z49 fuel x l):=by
  unfold z49
  generalize hz:w64 (l - (x.length:Int))=z
  exact SzOk.sub2 h0 h1 hw.1 (m:=0) rfl hz fun g0 g1=>SzOk.same g0

theorem z8B {fuel:Nat}{x:(List D.Word)}(hf:18446744073709551616≤fuel) (hs:x.length≤1048576):z46 fuel x=some x:=by
  have hl:=hs
  unfold z46
  refine z6u hl hf (fun _=>rfl) ?_ ?_
  · intro i y out hy d
    have hi:=(List.getElem?_eq_some_iff.1 hy).1
    have hsy:0≤1048576:=Nat.zero_le _
    simp only [z3N,zS hy,Option.bind_some,lt_t (show(i:Int)<x.length by omega),if_true,z77 hf hsy]
    rw [if_pos (by simp;omega)]
    simp
  · intro out
    simp [z3N]

theorem z8Z {fuel:Nat}{x:(List D.Word)}(hf:18446744073709551616≤fuel) (hs:x.length≤1048576):z4c fuel x x=some true:=by
  have hl:=hs
  unfold z4c
  rw [if_neg (by simp)]
  refine z5X (n:=x.length) (t:=()) (by unfold maxLen;omega) hf rfl ?_ ?_
  · intro i hi
    obtain⟨y,hy⟩:=z4K hi
    have hsy:0≤1048576:=Nat.zero_le _
    simp [z3S,zS hy,hi,z4F,z7B hf hsy]
  · simp [z3S]

theorem z9n {fuel:Nat}{x:D.Cell}{l:Int}(hf:18446744073709551616≤fuel) (hw:D.Cell.wf x) (h0:0≤l) (h1:l≤1048576):SzOk (D.Cell.sz x) l (z4t fuel x l):=by
  obtain⟨w0,w1,w2,w3,w4,_⟩:=hw
  unfold z4t D.Cell.sz
  refine SzOk.bind (z8a hf w3 h0 (by omega)) rfl fun r1 g1a g1b=>?_
  refine SzOk.bind (z8E hf w4 g1a (by omega)) rfl fun r2 g2a g2b=>?_
  exact SzOk.same g2a

theorem z9m {fuel:Nat}{x:D.Cell}(hf:18446744073709551616≤fuel) (hs:D.Cell.sz x≤1048576):z4s fuel x=some x:=by
  unfold D.Cell.sz at hs
  unfold z4s
  simp only [z87 hf (show x.Data.length≤1048576 by omega),z8B hf (show x.Words.length≤1048576 by omega),Option.bind_some]

theorem z9u {fuel:Nat}{x:D.Cell}(hf:18446744073709551616≤fuel) (hs:D.Cell.sz x≤1048576):z4v fuel x x=some true:=by
  unfold D.Cell.sz at hs
  simp [z4v,z4F,z8p hf (show x.Data.length≤1048576 by omega),z8Z hf (show x.Words.length≤1048576 by omega)]

theorem z8G {fuel:Nat}{x:(List D.Cell)}{l:Int}(hf:18446744073709551616≤fuel) (hw:WfL D.Cell.wf x) (h0:0≤l) (h1:l≤1048576):SzOk (szL D.Cell.sz x) l (z4b fuel x l):=by
  unfold z4b
  generalize hz:w64 (l - (x.length:Int))=z
  refine SzOk.sub2 h0 h1 hw.1 (m:=sumL D.Cell.sz x) rfl hz fun g0 g1=>?_
  refine SzOk.loop hw.1 hf g0 (by omega) (fun _=>rfl) ?_ ?_
  · intro i y l hy h0 h1
    have hi:=(List.getElem?_eq_some_iff.1 hy).1
    have hwy:=hw.2 y (List.mem_of_getElem? hy)
    obtain⟨r,h2,h3⟩:=z9n hf hwy h0 h1
    simp only [z3R,zS hy,Option.bind_some,lt_t (show(i:Int)<x.length by omega),if_true,h2]
    by_cases hlt:r<0
    · exact .inl (by simp only [lt_t hlt,if_true])
    · exact .inr ⟨r,by simp only [lt_f hlt,if_false],h3.resolve_left hlt⟩
  · intro l
    simp [z3R]

theorem z8D {fuel:Nat}{x:(List D.Cell)}(hf:18446744073709551616≤fuel) (hs:szL D.Cell.sz x≤1048576):z48 fuel x=some x:=by
  have hl:=z89 hs
  unfold z48
  refine z6u hl hf (fun _=>rfl) ?_ ?_
  · intro i y out hy d
    have hi:=(List.getElem?_eq_some_iff.1 hy).1
    have hsy:D.Cell.sz y≤1048576:=z61 hs (List.mem_of_getElem? hy)
    simp only [z3Q,zS hy,Option.bind_some,lt_t (show(i:Int)<x.length by omega),if_true,z9m hf hsy]
    rw [if_pos (by simp;omega)]
    simp
  · intro out
    simp [z3Q]

theorem z91 {fuel:Nat}{x:(List D.Cell)}(hf:18446744073709551616≤fuel) (hs:szL D.Cell.sz x≤1048576):z4e fuel x x=some true:=by
  have hl:=z89 hs
  unfold z4e
  rw [if_neg (by simp)]
  refine z5X (n:=x.length) (t:=()) (by unfold maxLen;omega) hf rfl ?_ ?_
  · intro i hi
    obtain⟨y,hy⟩:=z4K hi
    have hsy:D.Cell.sz y≤1048576:=z61 hs (List.mem_of_getElem? hy)
    simp [z3V,zS hy,hi,z4F,z9u hf hsy]
  · simp [z3V]

theorem z88 {fuel:Nat}{x:D.Memory}{l:Int}(hf:18446744073709551616≤fuel) (hw:D.Memory.wf x) (h0:0≤l) (h1:l≤1048576):SzOk (D.Memory.sz x) l (z3B fuel x l):=by
  obtain⟨w0,w1,w2,w3,_⟩:=hw
  unfold z3B D.Memory.sz
  refine SzOk.bind (z8G hf w0 h0 (by omega)) rfl fun r1 g1a g1b=>?_
  refine SzOk.bind (z8F hf w3 g1a (by omega)) rfl fun r2 g2a g2b=>?_
  exact SzOk.same g2a

theorem z86 {fuel:Nat}{x:D.Memory}(hf:18446744073709551616≤fuel) (hs:D.Memory.sz x≤1048576):z1z fuel x=some x:=by
  unfold D.Memory.sz at hs
  unfold z1z
  simp only [z8D hf (show szL D.Cell.sz x.Cells≤1048576 by omega),z77 hf (show 0≤1048576 by exact Nat.zero_le _),z8C hf (show x.Redexes.length≤1048576 by omega),Option.bind_some]

theorem z6p {fuel:Nat}{x:D.Memory}(hf:18446744073709551616≤fuel) (hs:D.Memory.sz x≤1048576):z1A fuel x x=some true:=by
  unfold D.Memory.sz at hs
  simp [z1A,z4F,z91 hf (show szL D.Cell.sz x.Cells≤1048576 by omega),z7B hf (show 0≤1048576 by exact Nat.zero_le _),z90 hf (show x.Redexes.length≤1048576 by omega)]

theorem z6i:Opens Tryz.prog 2 tInt I64:=Opens.int Tryz.underlying2 (by kernel_rfl)
theorem zcF:Opens Tryz.prog 80 ty80 (WfL I64):=Opens.sl Tryz.underlying80 (by kernel_rfl) z6i
set_option maxRecDepth 100000 in
theorem zaJ:Opens Tryz.prog 24 ty24 D.Word.wf:=Opens.struct (f:=fun c:D.Word=>(c.Tag,c.At,())) Tryz.underlying24 (by kernel_rfl) (OpensF.cons z6i rfl rfl (OpensF.cons z6i rfl rfl OpensF.nil)) (fun⟨a0,a1,_⟩=>⟨⟨a0,a1⟩,rfl⟩)
theorem zbQ:Opens Tryz.prog 119 z8A (WfL D.Word.wf):=Opens.sl Tryz.underlying119 (by kernel_rfl) zaJ
set_option maxRecDepth 100000 in
theorem zbP:Opens Tryz.prog 121 z9j D.Cell.wf:=Opens.struct (f:=fun c:D.Cell=>(c.Kind,c.Level,c.Value,c.Data,c.Words,())) Tryz.underlying121 (by kernel_rfl) (OpensF.cons z6i rfl rfl (OpensF.cons z6i rfl rfl (OpensF.cons z6i rfl rfl (OpensF.cons zcF rfl rfl (OpensF.cons zbQ rfl rfl OpensF.nil))))) (fun⟨a0,a1,a2,a3,a4,_⟩=>⟨⟨a0,a1,a2,a3,a4⟩,rfl⟩)
theorem zcJ:Opens Tryz.prog 22 ty22 (WfL D.Cell.wf):=Opens.sl Tryz.underlying22 (by kernel_rfl) zbP
set_option maxRecDepth 100000 in
theorem zbO:Opens Tryz.prog 129 z9U D.Pair.wf:=Opens.struct (f:=fun c:D.Pair=>(c.A,c.B,())) Tryz.underlying129 (by kernel_rfl) (OpensF.cons z6i rfl rfl (OpensF.cons z6i rfl rfl OpensF.nil)) (fun⟨a0,a1,_⟩=>⟨⟨a0,a1⟩,rfl⟩)
theorem zcH:Opens Tryz.prog 25 ty25 (WfL D.Pair.wf):=Opens.sl Tryz.underlying25 (by kernel_rfl) zbO
set_option maxRecDepth 100000 in
theorem zcG:Opens Tryz.prog 27 ty27 D.Memory.wf:=Opens.struct (f:=fun c:D.Memory=>(c.Cells,c.Free,c.Root,c.Redexes,())) Tryz.underlying27 (by kernel_rfl) (OpensF.cons zcJ rfl rfl (OpensF.cons z6i rfl rfl (OpensF.cons zaJ rfl rfl (OpensF.cons zcH rfl rfl OpensF.nil)))) (fun⟨a0,a1,a2,a3,_⟩=>⟨⟨a0,a1,a2,a3⟩,rfl⟩)
end Go.E


namespace Go.E
open Go.RowKit Go.Proofs
set_option linter.unusedSimpArgs false
set_option linter.unusedVariables false

def z5W (fuel:Nat) (x:Int) (k:Int):Int:=k
def z4D (x:Int):Nat:=1
def z56 (fuel:Nat) (xs:List Int) (k:Int):List Int:=markL (z5W fuel) z4D xs k
def z5y (xs:List Int):Nat:=sumL z4D xs
theorem z7s {fuel:Nat}{xs:List Int}{k:Int}(hf:18446744073709551616≤fuel) (hl:xs.length≤1048576) (h0:0≤k) (h1:k+(z5y xs:Nat)≤2147483648):z2T fuel xs k=some (k+(z5y xs:Nat),z56 fuel xs k):=by
  unfold z2T
  rw [z6j (f:=z5W fuel) (c:=z4D) (xs:=xs) (k:=k) (by have:=hl;omega) hf h0 h1 ?_ ?_]
  · rfl
  · intro i x ys k hi d hx hm h0 h1
    unfold z4D at h1
    unfold z2C z5W z4D
    rw [if_pos (decide_eq_true (show(i:Int)<xs.length by omega))]
    rw [if_pos (decide_eq_true (show 0≤(i:Int)∧(i:Int).toNat<ys.length from⟨by omega,by rw [d];simpa using hi⟩))]
    simp (disch:=omega) only [z5Y,Int.toNat_natCast,Int.ofNat_one,Int.natCast_one]
  · intro k ys;unfold z2C;rw [if_neg (by simp)]

theorem z7z {fuel:Nat}{xs:List Int}{k:Int}(hf:18446744073709551616≤fuel) (hl:xs.length≤1048576) (h0:0≤k) (h1:k+(z5y xs:Nat)≤2147483648):z2U fuel (z56 fuel xs k) k=some (k+(z5y xs:Nat)):=by
  unfold z2U
  have hlen:(z56 fuel xs k).length=xs.length:=z2j _ _
  rw [z6o (f:=z5W fuel) (c:=z4D) (xs:=xs) (k:=k) (by have:=hl;omega) hf h0 h1 ?_ ?_]
  · rfl
  · intro i x k' hi hx hm h0 h1
    unfold z4D at h1
    have d:(z56 fuel xs k)[i]? = some (z5W fuel x k'):=hx
    unfold z1N
    rw [if_pos (decide_eq_true (show(i:Int)<(z56 fuel xs k).length by rw [hlen];omega))]
    simp only [zS d,Option.bind_some]
    unfold z5W z4D
    simp (disch:=omega) only [z5Y,Option.bind_some,lt_f,if_false,bne_self_eq_false,Bool.false_eq_true,beq_self_eq_true,Bool.not_true,Int.ofNat_one,Int.natCast_one]
  · intro k';show z1N fuel (z56 fuel xs k) (k',((z56 fuel xs k).length:Int))=_;unfold z1N;rw [if_neg (by simp)]

theorem z9x {xs:List Int}:z5y xs≤64*(xs.length):=by
  have h:=z79 (c:=z4D) (g:=(fun _=>0)) (m:=64) (xs:=xs) fun x _=>by
    unfold z4D
    omega
  rw [z6Y (fun _=>rfl)] at h
  exact h

def elWordS (fuel:Nat) (x:D.Word) (k:Int):D.Word:=(⟨k,k+1⟩:D.Word)
def ecWordS (x:D.Word):Nat:=1+1
def mkWordS (fuel:Nat) (xs:List D.Word) (k:Int):List D.Word:=markL (elWordS fuel) ecWordS xs k
def ctWordS (xs:List D.Word):Nat:=sumL ecWordS xs
theorem z7J {fuel:Nat}{xs:List D.Word}{k:Int}(hf:18446744073709551616≤fuel) (hl:xs.length≤1048576) (h0:0≤k) (h1:k+(ctWordS xs:Nat)≤2147483648):z39 fuel xs k=some (k+(ctWordS xs:Nat),mkWordS fuel xs k):=by
  unfold z39
  rw [z6j (f:=elWordS fuel) (c:=ecWordS) (xs:=xs) (k:=k) (by have:=hl;omega) hf h0 h1 ?_ ?_]
  · rfl
  · intro i x ys k hi d hx hm h0 h1
    unfold ecWordS at h1
    unfold z2X elWordS ecWordS
    rw [if_pos (decide_eq_true (show(i:Int)<xs.length by omega))]
    simp only [zS hx,Option.bind_some]
    simp (disch:=omega) only [z5Y,Option.bind_some,Int.toNat_natCast]
    all_goals (refine congrArg some (congrArg Rd.next (Prod.ext ?_ ?_));rotate_left;first | rfl | (dsimp only;simp only [Int.natCast_add,Int.natCast_one,Int.ofNat_one,← Int.add_assoc]))
    all_goals (dsimp only;simp only [Int.natCast_add,Int.natCast_one,Int.ofNat_one];try omega)
  · intro k ys;unfold z2X;rw [if_neg (by simp)]

theorem z7M {fuel:Nat}{xs:List D.Word}{k:Int}(hf:18446744073709551616≤fuel) (hl:xs.length≤1048576) (h0:0≤k) (h1:k+(ctWordS xs:Nat)≤2147483648):z3c fuel (mkWordS fuel xs k) k=some (k+(ctWordS xs:Nat)):=by
  unfold z3c
  have hlen:(mkWordS fuel xs k).length=xs.length:=z2j _ _
  rw [z6o (f:=elWordS fuel) (c:=ecWordS) (xs:=xs) (k:=k) (by have:=hl;omega) hf h0 h1 ?_ ?_]
  · rfl
  · intro i x k' hi hx hm h0 h1
    unfold ecWordS at h1
    have d:(mkWordS fuel xs k)[i]? = some (elWordS fuel x k'):=hx
    unfold z2a
    rw [if_pos (decide_eq_true (show(i:Int)<(mkWordS fuel xs k).length by rw [hlen];omega))]
    simp only [zS d,Option.bind_some]
    unfold elWordS ecWordS
    simp (disch:=omega) only [z5Y,Option.bind_some,lt_f,if_false,bne_self_eq_false,Bool.false_eq_true,beq_self_eq_true,Bool.not_true,Int.ofNat_one,Int.natCast_one]
    try (refine congrArg some (congrArg Rd.next (Prod.ext ?_ rfl));dsimp only;simp only [Int.natCast_add,Int.natCast_one,Int.ofNat_one];try omega)
  · intro k';show z2a fuel (mkWordS fuel xs k) (k',((mkWordS fuel xs k).length:Int))=_;unfold z2a;rw [if_neg (by simp)]

theorem zaa {xs:List D.Word}:ctWordS xs≤64*(xs.length):=by
  have h:=z79 (c:=ecWordS) (g:=(fun _=>0)) (m:=64) (xs:=xs) fun x _=>by
    unfold ecWordS
    omega
  rw [z6Y (fun _=>rfl)] at h
  exact h

def elCellS (fuel:Nat) (x:D.Cell) (k:Int):D.Cell:=(⟨k,k+1,k+1+1,(z56 fuel x.Data (k+1+1+1)),(mkWordS fuel x.Words (k+1+1+1+((z5y x.Data:Nat):Int)))⟩:D.Cell)
def ecCellS (x:D.Cell):Nat:=1+1+1+z5y x.Data+ctWordS x.Words
def mkCellS (fuel:Nat) (xs:List D.Cell) (k:Int):List D.Cell:=markL (elCellS fuel) ecCellS xs k
def ctCellS (xs:List D.Cell):Nat:=sumL ecCellS xs
theorem z7L {fuel:Nat}{xs:List D.Cell}{k:Int}(hf:18446744073709551616≤fuel) (hl:szL D.Cell.sz xs≤1048576) (h0:0≤k) (h1:k+(ctCellS xs:Nat)≤2147483648):z3b fuel xs k=some (k+(ctCellS xs:Nat),mkCellS fuel xs k):=by
  unfold z3b
  rw [z6j (f:=elCellS fuel) (c:=ecCellS) (xs:=xs) (k:=k) (by have:=(z89 hl);omega) hf h0 h1 ?_ ?_]
  · rfl
  · intro i x ys k hi d hx hm h0 h1
    unfold ecCellS at h1
    have hsx:=z61 hl hm
    unfold D.Cell.sz at hsx
    unfold z2Z elCellS ecCellS
    rw [if_pos (decide_eq_true (show(i:Int)<xs.length by omega))]
    simp only [zS hx,Option.bind_some]
    simp (disch:=omega) only [z7s hf (show x.Data.length≤1048576 by omega),z7J hf (show x.Words.length≤1048576 by omega),z5Y,Option.bind_some,Int.toNat_natCast]
    all_goals (refine congrArg some (congrArg Rd.next (Prod.ext ?_ ?_));rotate_left;first | rfl | (dsimp only;simp only [Int.natCast_add,Int.natCast_one,Int.ofNat_one,← Int.add_assoc]))
    all_goals (dsimp only;simp only [Int.natCast_add,Int.natCast_one,Int.ofNat_one];try omega)
  · intro k ys;unfold z2Z;rw [if_neg (by simp)]

theorem z7O {fuel:Nat}{xs:List D.Cell}{k:Int}(hf:18446744073709551616≤fuel) (hl:szL D.Cell.sz xs≤1048576) (h0:0≤k) (h1:k+(ctCellS xs:Nat)≤2147483648):z3e fuel (mkCellS fuel xs k) k=some (k+(ctCellS xs:Nat)):=by
  unfold z3e
  have hlen:(mkCellS fuel xs k).length=xs.length:=z2j _ _
  rw [z6o (f:=elCellS fuel) (c:=ecCellS) (xs:=xs) (k:=k) (by have:=(z89 hl);omega) hf h0 h1 ?_ ?_]
  · rfl
  · intro i x k' hi hx hm h0 h1
    unfold ecCellS at h1
    have hsx:=z61 hl hm
    unfold D.Cell.sz at hsx
    have d:(mkCellS fuel xs k)[i]? = some (elCellS fuel x k'):=hx
    unfold z2c
    rw [if_pos (decide_eq_true (show(i:Int)<(mkCellS fuel xs k).length by rw [hlen];omega))]
    simp only [zS d,Option.bind_some]
    unfold elCellS ecCellS
    simp (disch:=omega) only [z7z hf (show x.Data.length≤1048576 by omega),z7M hf (show x.Words.length≤1048576 by omega),z5Y,Option.bind_some,lt_f,if_false,bne_self_eq_false,Bool.false_eq_true,beq_self_eq_true,Bool.not_true,Int.ofNat_one,Int.natCast_one]
    try (refine congrArg some (congrArg Rd.next (Prod.ext ?_ rfl));dsimp only;simp only [Int.natCast_add,Int.natCast_one,Int.ofNat_one];try omega)
  · intro k';show z2c fuel (mkCellS fuel xs k) (k',((mkCellS fuel xs k).length:Int))=_;unfold z2c;rw [if_neg (by simp)]

theorem zac {xs:List D.Cell}:ctCellS xs≤64*(szL D.Cell.sz xs):=by
  have h:=z79 (c:=ecCellS) (g:=D.Cell.sz) (m:=64) (xs:=xs) fun x _=>by
    unfold ecCellS
    unfold D.Cell.sz
    have:=z9x (xs:=x.Data)
    have:=zaa (xs:=x.Words)
    omega
  exact h

def elPairS (fuel:Nat) (x:D.Pair) (k:Int):D.Pair:=(⟨k,k+1⟩:D.Pair)
def ecPairS (x:D.Pair):Nat:=1+1
def mkPairS (fuel:Nat) (xs:List D.Pair) (k:Int):List D.Pair:=markL (elPairS fuel) ecPairS xs k
def ctPairS (xs:List D.Pair):Nat:=sumL ecPairS xs
theorem z7K {fuel:Nat}{xs:List D.Pair}{k:Int}(hf:18446744073709551616≤fuel) (hl:xs.length≤1048576) (h0:0≤k) (h1:k+(ctPairS xs:Nat)≤2147483648):z3a fuel xs k=some (k+(ctPairS xs:Nat),mkPairS fuel xs k):=by
  unfold z3a
  rw [z6j (f:=elPairS fuel) (c:=ecPairS) (xs:=xs) (k:=k) (by have:=hl;omega) hf h0 h1 ?_ ?_]
  · rfl
  · intro i x ys k hi d hx hm h0 h1
    unfold ecPairS at h1
    unfold z2Y elPairS ecPairS
    rw [if_pos (decide_eq_true (show(i:Int)<xs.length by omega))]
    simp only [zS hx,Option.bind_some]
    simp (disch:=omega) only [z5Y,Option.bind_some,Int.toNat_natCast]
    all_goals (refine congrArg some (congrArg Rd.next (Prod.ext ?_ ?_));rotate_left;first | rfl | (dsimp only;simp only [Int.natCast_add,Int.natCast_one,Int.ofNat_one,← Int.add_assoc]))
    all_goals (dsimp only;simp only [Int.natCast_add,Int.natCast_one,Int.ofNat_one];try omega)
  · intro k ys;unfold z2Y;rw [if_neg (by simp)]

theorem z7N {fuel:Nat}{xs:List D.Pair}{k:Int}(hf:18446744073709551616≤fuel) (hl:xs.length≤1048576) (h0:0≤k) (h1:k+(ctPairS xs:Nat)≤2147483648):z3d fuel (mkPairS fuel xs k) k=some (k+(ctPairS xs:Nat)):=by
  unfold z3d
  have hlen:(mkPairS fuel xs k).length=xs.length:=z2j _ _
  rw [z6o (f:=elPairS fuel) (c:=ecPairS) (xs:=xs) (k:=k) (by have:=hl;omega) hf h0 h1 ?_ ?_]
  · rfl
  · intro i x k' hi hx hm h0 h1
    unfold ecPairS at h1
    have d:(mkPairS fuel xs k)[i]? = some (elPairS fuel x k'):=hx
    unfold z2b
    rw [if_pos (decide_eq_true (show(i:Int)<(mkPairS fuel xs k).length by rw [hlen];omega))]
    simp only [zS d,Option.bind_some]
    unfold elPairS ecPairS
    simp (disch:=omega) only [z5Y,Option.bind_some,lt_f,if_false,bne_self_eq_false,Bool.false_eq_true,beq_self_eq_true,Bool.not_true,Int.ofNat_one,Int.natCast_one]
    try (refine congrArg some (congrArg Rd.next (Prod.ext ?_ rfl));dsimp only;simp only [Int.natCast_add,Int.natCast_one,Int.ofNat_one];try omega)
  · intro k';show z2b fuel (mkPairS fuel xs k) (k',((mkPairS fuel xs k).length:Int))=_;unfold z2b;rw [if_neg (by simp)]

theorem zab {xs:List D.Pair}:ctPairS xs≤64*(xs.length):=by
  have h:=z79 (c:=ecPairS) (g:=(fun _=>0)) (m:=64) (xs:=xs) fun x _=>by
    unfold ecPairS
    omega
  rw [z6Y (fun _=>rfl)] at h
  exact h

def mkMemory (fuel:Nat) (x:D.Memory) (k:Int):D.Memory:=(⟨mkCellS fuel x.Cells (k),x.Free,(⟨x.Root.Tag,x.Root.At⟩:D.Word),mkPairS fuel x.Redexes (k+((ctCellS x.Cells:Nat):Int))⟩:D.Memory)
def ctMemory (x:D.Memory):Nat:=ctCellS x.Cells+ctPairS x.Redexes
theorem z55 {fuel:Nat}{x:D.Memory}{k:Int}:(⟨(mkMemory fuel x k).Cells,x.Free,(⟨x.Root.Tag,x.Root.At⟩:D.Word),(mkMemory fuel x k).Redexes⟩:D.Memory)=mkMemory fuel x k:=rfl
theorem z5H {fuel:Nat}{x:D.Memory}{k:Int}(hf:18446744073709551616≤fuel) (hs:x.sz≤1048576) (h0:0≤k) (h1:k+(ctMemory x:Nat)≤2147483648):z25 fuel x k=some (k+(ctMemory x:Nat),(mkMemory fuel x k).Cells,(mkMemory fuel x k).Redexes):=by
  unfold ctMemory at h1 ⊢
  simp only [D.Memory.sz] at hs
  unfold z25 mkMemory
  simp (disch:=omega) only [z7L hf (show szL D.Cell.sz x.Cells≤1048576 by omega),z7K hf (show x.Redexes.length≤1048576 by omega),Option.bind_some]
  all_goals try simp only [Int.natCast_add,Int.add_assoc]

theorem z7y {fuel:Nat}{x:D.Memory}{k:Int}(hf:18446744073709551616≤fuel) (hs:x.sz≤1048576) (h0:0≤k) (h1:k+(ctMemory x:Nat)≤2147483648):z26 fuel (mkMemory fuel x k) k=some (k+(ctMemory x:Nat)):=by
  unfold ctMemory at h1 ⊢
  simp only [D.Memory.sz] at hs
  unfold z26 mkMemory
  simp (disch:=omega) only [z7O hf (show szL D.Cell.sz x.Cells≤1048576 by omega),z7N hf (show x.Redexes.length≤1048576 by omega),Option.bind_some,lt_f,if_false]
  all_goals try simp only [Int.natCast_add,Int.add_assoc]

theorem z7D {x:D.Memory}:ctMemory x≤64*x.sz:=by
  unfold ctMemory
  simp only [D.Memory.sz]
  have:=zac (xs:=x.Cells)
  have:=zab (xs:=x.Redexes)
  omega

end Go.E


namespace Go.E
open Go.RowKit Go.Proofs
set_option linter.unusedSimpArgs false
set_option linter.unusedVariables false

theorem z34 {fuel:Nat}{a l h:Int}:zg fuel a l h=some (decide (l≤a∧a≤h)):=by
  unfold zg
  by_cases h1:l≤a
  · rw [if_pos (decide_eq_true (by omega))];simp [h1]
  · rw [if_neg (by simp;omega)];simp [h1]

def portsN (k f:Int):Int:=
  if k=9 then(if 0≤f∧f≤3 then 1+f else 0) else if f≠0 then 0 else if k=1∨k=5∨k=6∨k=12 then 1 else
  if k=8∨k=10∨k=11 then 2 else if k=2∨k=3∨k=4∨k=7 then 3 else 0
def levelN (k:Int):Bool:=decide (2≤k∧k≤12∧k≠5∧k≠6)
def allowN (k l:Int):Bool:=decide (1≤k∧k≤12) && (decide (l=0) || (levelN k && decide (0≤l∧l≤8)))
def defN (n:Int):Bool:=decide (0≤n∧n≤23)
def contentN (k v:Int) (d:List Int):Bool:=
  if k=6 then decide (d.length=0∧-2147483648≤v∧v≤2147483647) else
  if k=7 then decide (d.length=0∧1≤v∧v≤6) else
  if k=8 then decide (d.length=1∧1≤v∧v≤6) && d.all (fun n=>decide (-2147483648≤n∧n≤2147483647)) else
  if k=9 then decide (d.length=0∧0≤v∧v≤3) else
  if k=10 then decide (v=0∧1≤d.length∧d.length≤4) && d.all defN else
  if k=11 then decide (v=0∧d.length=2) && d.all defN else
  if k=12 then decide (d.length=0∧0≤v∧v≤23) else decide (v=0∧d.length=0)
def agentN (k l v:Int) (d:List Int) (n:Nat):Bool:=decide (portsN k (if k=9 then n - 1 else 0)=n) && (allowN k l && contentN k v d)

theorem kinds (k:Int):(k=1∨k=2∨k=3∨k=4∨k=5∨k=6∨k=7∨k=8∨k=9∨k=10∨k=11∨k=12)∨¬ (1≤k∧k≤12):=by omega
theorem z9F {k:Int}(h:¬ (1≤k∧k≤12)) (c:Int) (h1:1≤c∧c≤12):(k == c)=false:=by
  rw [beq_eq_false_iff_ne];rintro rfl;exact h h1

theorem z9Z {fuel:Nat}{k f:Int}:z2A fuel k f=some (portsN k f):=by
  by_cases h9:k=9
  · subst h9
    unfold z2A portsN
    simp only [z34,Option.bind_some,beq_self_eq_true,if_true,decide_eq_true_eq]
    split
    · rw [ze (by omega) (by omega)]
    · rfl
  · by_cases hf:f=0
    · subst hf
      rcases kinds k with h | h
      · rcases h with rfl | rfl | rfl | rfl | rfl | rfl | rfl | rfl | rfl | rfl | rfl | rfl<;>first | exact absurd rfl h9 | rfl
      · simp [z2A,z2S,z2R,z2Q,z2P,z2O,z2N,z2M,z2L,portsN,z9F h,h9]
        omega
    · unfold z2A portsN
      rw [if_neg (by simpa using h9),if_pos (by simpa using hf),if_neg h9,if_pos hf]
theorem z5x {fuel:Nat}{k:Int}:z30 fuel k=some (decide (1≤k∧k≤12)):=by
  unfold z30
  by_cases h1:1≤k
  · rw [if_pos (decide_eq_true (by omega))];simp [h1]
  · rw [if_neg (by simp;omega)];simp [h1]
theorem za0 {fuel:Nat}{k f:Int}:z3k fuel k f=some (portsN k f):=by
  by_cases h9:k=9
  · subst h9
    unfold z3k portsN z1x
    simp only [z5x,Option.bind_some,beq_self_eq_true,if_true]
    by_cases h0:0≤f
    · by_cases h3:f≤3
      · rw [if_pos (decide_eq_true (by omega)),if_pos (decide_eq_true h3),if_pos ⟨h0,h3⟩,ze (by omega) (by omega),Int.add_comm]
      · rw [if_pos (decide_eq_true (by omega)),if_neg (by simpa using h3)];simp [zV,h3]
    · rw [if_neg (by simp;omega),if_neg Bool.false_ne_true];simp [zV,h0]
  · unfold z3k z1x
    rw [if_neg (by simpa using h9),if_neg Bool.false_ne_true,z5x,Option.bind_some]
    rcases kinds k with h | h
    · by_cases hf:f=0
      · subst hf
        rcases h with rfl | rfl | rfl | rfl | rfl | rfl | rfl | rfl | rfl | rfl | rfl | rfl<;>first | exact absurd rfl h9 | rfl
      · rw [if_neg (by simp;omega),if_neg (by simpa using h9),show(f != 0)=true by simpa using hf]
        simp [zV,portsN,h9,hf]
    · rw [if_pos (by simp;omega)]
      simp [zV,portsN,h9]
      omega

theorem za2 {fuel:Nat}{k:Int}:z3z fuel k=some (levelN k):=by
  rcases kinds k with h | h
  · rcases h with rfl | rfl | rfl | rfl | rfl | rfl | rfl | rfl | rfl | rfl | rfl | rfl<;>rfl
  · simp [z3z,z2y,z2x,z2w,z2v,z2u,z2t,z2s,z2r,levelN,z9F h]
    omega
theorem za3 {fuel:Nat}{k:Int}:z3G fuel k=some (levelN k):=by
  unfold z3G
  rw [z5x,Option.bind_some]
  rcases kinds k with h | h
  · rcases h with rfl | rfl | rfl | rfl | rfl | rfl | rfl | rfl | rfl | rfl | rfl | rfl<;>rfl
  · rw [if_neg (by simpa using h)]
    simp [levelN];omega
theorem zah {fuel:Nat}{k l:Int}:z3y fuel k l=some (allowN k l):=by
  unfold z3y z4C allowN
  simp only [za2,z34,Option.bind_some]
  cases hl:levelN k with
  | true=>
    have:1≤k∧k≤12:=by unfold levelN at hl;simp at hl;omega
    simp [this];omega
  | false=>by_cases h:1≤k∧k≤12<;>by_cases h0:l=0<;>simp [h,h0]
theorem zai {fuel:Nat}{k l:Int}:z3g fuel k l=some (allowN k l):=by
  unfold z3g allowN
  have hL:z4f fuel l=some (decide (0≤l∧l≤8)):=by
    unfold z4f
    by_cases h1:0≤l
    · rw [if_pos (decide_eq_true (by omega))];simp [h1]
    · rw [if_neg (by simp;omega)];simp [h1]
  simp only [z5x,za3,hL,Option.bind_some]
  by_cases h:1≤k∧k≤12
  · by_cases h0:l=0
    · simp [h,h0]
    · cases hl:levelN k<;>simp [h,h0]
  · simp [h]

theorem z9M {fuel:Nat}{n:Int}:z3M fuel n=some (defN n):=by
  unfold z3M defN;rw [z34];rfl
theorem z9N {fuel:Nat}{n:Int}:z28 fuel n=some (defN n):=by
  unfold z28 defN
  by_cases h1:0≤n
  · rw [if_pos (decide_eq_true (by omega))];simp [h1];omega
  · rw [if_neg (by simp;omega)];simp [h1]
theorem zbW {fuel:Nat}{n:Int}:z4i fuel n=some (decide (-2147483648≤n∧n≤2147483647)):=by
  unfold z4i
  by_cases h1:-2147483648≤n
  · rw [if_pos (decide_eq_true (by omega))];simp [h1]
  · rw [if_neg (by simp;omega)];simp [h1]
theorem zaH {fuel:Nat}{n:Int}:z27 fuel n=some (decide (1≤n∧n≤6)):=by
  unfold z27
  by_cases h1:1≤n
  · rw [if_pos (decide_eq_true (by omega))];simp [h1]
  · rw [if_neg (by simp;omega)];simp [h1]
theorem z6J {α:Type}{p:α→Bool}:∀ {xs:List α},xs.any (fun x=>!p x)=!xs.all p
  | []=>rfl
  | x::xs=>by simp [z6J (p:=p) (xs:=xs)]
theorem zbB {fuel:Nat}{a:D.Agent}(hf:18446744073709551616≤fuel) (hl:a.Data.length≤maxLen):
    ((iter (z1L fuel a) fuel 0).bind fun o=>aft o (z41 fuel))=some (a.Data.all defN):=by
  rw [askOne (xs:=a.Data) (p:=fun n=>!defN n) (v:=false) (t:=()) hl hf (fun i x hi hx=>by
    unfold z1L
    simp only [zS hx,z9M,lt_t (show(i:Int)<a.Data.length by omega),if_true,Option.bind_some]) (by simp [z1L]),z6J]
  cases a.Data.all defN<;>rfl
theorem z9a {fuel:Nat}{p:Int→Bool}{f:Int→Option Bool}{xs:List Int}(hf:18446744073709551616≤fuel) (hl:xs.length≤maxLen) (h:∀ n,f n=some (p n)):
    zu fuel xs f=some (xs.any p):=by
  unfold zu z13
  obtain⟨r,h1,h2⟩:=askIndex (xs:=xs) (p:=p) (body:=zt fuel xs f) (j:=z1c fuel) (t:=()) hl hf rfl (fun i x hi hx=>by
    simp only [zt,zS hx,h,lt_t (show(i:Int)<xs.length by omega),if_true,Option.bind_some]) (by simp [zt])
  rw [h1,Option.bind_some,h2]

theorem z98 {fuel:Nat}{a:D.Agent}(hf:18446744073709551616≤fuel) (hl:a.Data.length≤maxLen):zq fuel a=some (contentN a.Kind a.Value a.Data):=by
  have hd:=zbB (a:=a) hf hl
  obtain⟨k,l,v,d,ps⟩:=a
  dsimp only at hl hd ⊢
  by_cases h6:k=6
  · subst h6
    simp only [zq,contentN,z34,Option.bind_some,beq_self_eq_true,if_true]
    by_cases h:d.length=0<;>simp [h]<;>omega
  by_cases h7:k=7
  · subst h7
    simp only [zq,contentN,z34,Option.bind_some,beq_self_eq_true,if_true]
    by_cases h:d.length=0<;>simp [h]<;>omega
  by_cases h8:k=8
  · subst h8
    simp only [zq,contentN,z34,Option.bind_some,beq_self_eq_true,if_true]
    match d with
    | []=>simp
    | [n]=>by_cases h:1≤v∧v≤6<;>simp [h,idx]
    | _::_::_=>simp;omega
  by_cases h9:k=9
  · subst h9
    simp only [zq,contentN,z34,Option.bind_some,beq_self_eq_true,if_true]
    by_cases h:d.length=0<;>simp [h]<;>omega
  by_cases y:k=12
  · subst y
    simp only [zq,contentN,z34,z9M,Option.bind_some,beq_self_eq_true,if_true]
    by_cases h:d.length=0<;>simp [h,defN]<;>omega
  by_cases o:k=10
  · subst o
    simp only [zq,z11,zo,contentN,z34,Option.bind_some,beq_self_eq_true,if_true,hd]
    by_cases h:v=0
    · by_cases h1:1≤d.length∧d.length≤4
      · have h2:(1:Int)≤d.length∧(d.length:Int)≤4:=by omega
        simp [h,h1,h2]
      · have h2:¬ ((1:Int)≤d.length∧(d.length:Int)≤4):=by omega
        simp [h,h1,h2]
    · simp [h]
  by_cases q:k=11
  · subst q
    simp only [zq,z11,zo,contentN,z34,Option.bind_some,beq_self_eq_true,if_true,hd]
    by_cases h:v=0
    · by_cases h1:d.length=2
      · simp [h,h1]
      · have h2:¬ ((d.length:Int)=2):=by omega
        simp [h,h1,h2]
    · simp [h]
  · simp only [zq,z11,contentN,h6,h7,h8,h9,o,q,y,if_false]
    by_cases h:v=0<;>by_cases h1:d.length=0<;>simp [h,h1,h6,h7,h8,h9,o,q,y]

theorem z99 {fuel:Nat}{a:D.Agent}(hf:18446744073709551616≤fuel) (hl:a.Data.length≤maxLen):z12 fuel a false=some (contentN a.Kind a.Value a.Data):=by
  unfold z12
  rw [if_neg Bool.false_ne_true,z9a (p:=fun n=>!defN n) hf hl (fun n=>by unfold z2D;rw [z9N];rfl),Option.bind_some,z6J,Bool.not_not]
  obtain⟨k,l,v,d,ps⟩:=a
  dsimp only at hl ⊢
  simp only [z1U,z1T,z1S,z1R,z1Q,z1p,z1P,z1O,z1B,zbW,zaH,z9N,Option.bind_some]
  by_cases h6:k=6
  · subst h6
    simp only [contentN,beq_self_eq_true,if_true]
    by_cases h:d.length=0<;>by_cases h1:-2147483648≤v∧v≤2147483647<;>simp [h,h1]
  by_cases h7:k=7
  · subst h7
    simp only [contentN,beq_self_eq_true,if_true]
    by_cases h:d.length=0<;>by_cases h1:1≤v∧v≤6<;>simp [h,h1]
  by_cases h8:k=8
  · subst h8
    simp only [contentN,beq_self_eq_true,if_true]
    match d with
    | []=>simp
    | [n]=>by_cases h:1≤v∧v≤6<;>simp [h,idx]
    | _::_::_=>simp;omega
  by_cases h9:k=9
  · subst h9
    simp only [contentN,beq_self_eq_true,if_true]
    by_cases h1:0≤v
    · by_cases h:d.length=0<;>by_cases h2:v<4<;>simp [h,h1,h2]<;>omega
    · simp [h1]
  by_cases y:k=12
  · subst y
    simp only [contentN,beq_self_eq_true,if_true]
    by_cases h:d.length=0<;>by_cases h1:0≤v∧v≤23<;>simp [h,h1,defN]
  by_cases o:k=10
  · subst o
    simp only [contentN,beq_self_eq_true,if_true]
    by_cases h:v=0
    · by_cases h1:1≤d.length
      · by_cases h2:d.length≤4
        · have h3:(1:Int)≤d.length:=by omega
          have h4:(d.length:Int)≤4:=by omega
          simp [h,h1,h2,h3,h4]
        · have h3:(1:Int)≤d.length:=by omega
          have h4:¬ (d.length:Int)≤4:=by omega
          simp [h,h1,h2,h3,h4]
      · have h3:¬ (1:Int)≤d.length:=by omega
        simp [h,h1,h3]
    · by_cases h1:(1:Int)≤d.length<;>by_cases h2:(d.length:Int)≤4<;>simp [h,h1,h2]
  by_cases q:k=11
  · subst q
    simp only [contentN,beq_self_eq_true,if_true]
    by_cases h:v=0<;>by_cases h1:d.length=2
    · simp [h,h1]
    · have h2:¬ ((d.length:Int)=2):=by omega
      simp [h,h1,h2]
    · simp [h,h1]
    · have h2:¬ ((d.length:Int)=2):=by omega
      simp [h,h1,h2]
  · simp only [contentN,h6,h7,h8,h9,o,q,y,if_false]
    by_cases h:v=0<;>by_cases h1:d.length=0<;>simp [h,h1,h6,h7,h8,h9,o,q,y]

theorem z5f {n:Nat}(hn:n≤maxLen):w64 ((n:Int) - 1)=(n:Int) - 1:=by
  have:maxLen=9223372036854775807:=rfl
  exact ze (by omega) (by omega)
theorem zak {fuel:Nat}{a:D.Agent}(hf:18446744073709551616≤fuel) (hl:a.Data.length≤maxLen) (h1:1≤a.Ports.length) (h2:a.Ports.length≤maxLen):
    z2V fuel a=some (agentN a.Kind a.Level a.Value a.Data a.Ports.length):=by
  unfold z2V agentN
  rw [if_neg (by simp;intro h;rw [h] at h1;exact absurd h1 (by decide))]
  have hF:z3E fuel a.Kind (a.Ports.length:Int)=some (if a.Kind=9 then(a.Ports.length:Int) - 1 else 0):=by
    unfold z3E
    by_cases h:a.Kind=9
    · rw [if_pos (by simpa using h),if_pos h,z5f h2]
    · rw [if_neg (by simpa using h),if_neg h]
  rw [hF,Option.bind_some,za0,Option.bind_some,zai,Option.bind_some]
  by_cases hp:portsN a.Kind (if a.Kind=9 then(a.Ports.length:Int) - 1 else 0)=(a.Ports.length:Int)
  · rw [if_neg (by simp [hp]),decide_eq_true hp,Bool.true_and]
    cases allowN a.Kind a.Level with
    | false=>rfl
    | true=>rw [Bool.true_and];exact z99 hf hl
  · rw [if_pos (by simpa using hp),decide_eq_false hp];rfl
theorem zaj {fuel:Nat}{a:D.Agent}(hf:18446744073709551616≤fuel) (hl:a.Data.length≤maxLen) (h1:1≤a.Ports.length) (h2:a.Ports.length≤maxLen):
    z3x fuel a=some (agentN a.Kind a.Level a.Value a.Data a.Ports.length):=by
  unfold z3x agentN
  have hF:z38 fuel a=some (if a.Kind=9 then(a.Ports.length:Int) - 1 else 0):=by
    unfold z38
    by_cases h:a.Kind=9
    · rw [if_pos (by simpa using h),if_pos h,z5f h2]
    · rw [if_neg (by simpa using h),if_neg h]
  rw [hF,Option.bind_some,z9Z,Option.bind_some,zah,Option.bind_some,z98 hf hl]
  by_cases hp:portsN a.Kind (if a.Kind=9 then(a.Ports.length:Int) - 1 else 0)=(a.Ports.length:Int)
  · rw [hp,if_pos (decide_eq_true (by omega)),if_pos (by simp),decide_eq_true rfl,Bool.true_and]
    cases allowN a.Kind a.Level<;>rfl
  · rw [decide_eq_false hp]
    generalize portsN a.Kind (if a.Kind=9 then(a.Ports.length:Int) - 1 else 0)=r at hp ⊢
    by_cases h:r>0
    · rw [if_pos (decide_eq_true h),if_neg (by simpa using fun h=>hp h.symm)];rfl
    · rw [if_neg (by simpa using h)];rfl



end Go.E


namespace Go.E
open Go.RowKit Go.Proofs
set_option linter.unusedSimpArgs false
set_option linter.unusedVariables false
def agentKind (k:Int):Bool:=decide (2≤k∧k≤12)
theorem z4H {fuel:Nat}{c:D.Cell}:zU fuel c=some (agentKind c.Kind):=by
  unfold zU agentKind;rw [z34];rfl
theorem z5c {fuel:Nat}{c:D.Cell}:zw fuel c=some (agentKind c.Kind):=by
  unfold zw agentKind
  by_cases h1:2≤c.Kind
  · rw [if_pos (decide_eq_true (by omega))];simp [h1]
  · rw [if_neg (by simp;omega)];simp [h1]


def cellN (c:D.Cell):Bool:=
  if c.Kind=0 then decide (c.Level=0∧c.Data.length=0∧c.Words.length=0) else
  if c.Kind=13 then decide (c.Level=0∧c.Value=0∧c.Data.length=0∧c.Words.length<2) else
  agentKind c.Kind && agentN c.Kind c.Level c.Value c.Data (c.Words.length+1)

theorem z8j {fuel:Nat}{c:D.Cell}(hf:18446744073709551616≤fuel) (hl:c.Words.length≤1048576):
    ∃ ps:List D.Port,z3w fuel c=some ⟨c.Kind,c.Level,c.Value,c.Data,ps⟩∧ps.length=c.Words.length+1:=by
  obtain⟨o,h2,h3⟩:=z16 (body:=z2q fuel c) (fun i s=>s.1=(i:Int)∧s.2.length=i+1) c.Words.length (fun o=>∃ ps:List D.Port,o=.inl ps∧ps.length=c.Words.length+1) (by
    rintro i ⟨a,ps⟩ hi ⟨g1,g2⟩
    dsimp only at g1 g2
    subst g1
    refine .inl ⟨(w64 ((i:Int)+1),ps++[⟨0,0⟩]),?_,?_,?_⟩
    · unfold z2q
      rw [if_pos (decide_eq_true (by omega)),if_pos (decide_eq_true (by simp;omega))]
    · dsimp only;rw [ze (by omega) (by omega)];simp
    · simp [g2]) (by
    rintro⟨a,ps⟩ ⟨g1,g2⟩
    dsimp only at g1 g2
    subst g1
    refine .inr ⟨_,?_,ps,rfl,g2⟩
    unfold z2q
    rw [if_neg (by simp)]) (fuel:=fuel) (i:=0) (s:=(0,[⟨0,0⟩])) (Nat.zero_le _) (by omega) ⟨rfl,rfl⟩
  obtain⟨ps,rfl,h4⟩:=h3
  refine⟨ps,?_,h4⟩
  unfold z3w z3m
  rw [h2];rfl

theorem zbD {fuel:Nat}{c:D.Cell}(hf:18446744073709551616≤fuel) (hs:c.sz≤1048576):z3f fuel c=some (cellN c):=by
  have hm:maxLen=9223372036854775807:=rfl
  have hd:c.Data.length≤1048576:=by unfold D.Cell.sz at hs;omega
  have hw:c.Words.length≤1048576:=by unfold D.Cell.sz at hs;omega
  have hW:w64 ((c.Words.length:Int)+1)=((c.Words.length+1:Nat):Int):=by rw [ze (by omega) (by omega)];simp
  unfold z3f cellN
  rw [z5c,Option.bind_some]
  by_cases ha:2≤c.Kind∧c.Kind≤12
  · have o:agentKind c.Kind=true:=decide_eq_true ha
    rw [o,if_pos rfl,hW,if_pos (decide_eq_true (by omega)),zak hf (by dsimp only;omega) (by simp) (by simp;omega),if_neg (by omega),if_neg (by omega)]
    simp
  · have o:agentKind c.Kind=false:=decide_eq_false ha
    rw [o,if_neg Bool.false_ne_true]
    unfold zd zf
    simp only [Option.bind_some]
    by_cases d:c.Kind=13
    · rw [if_pos (by simpa using d),if_neg (show ¬ c.Kind=0 by omega),if_pos d]
      have e:decide ((c.Words.length:Int)≤1)=decide (c.Words.length<2):=by rw [decide_eq_decide];omega
      by_cases h1:c.Level=0<;>by_cases h2:c.Value=0<;>by_cases h3:c.Data.length=0<;>simp [h1,h2,h3,e]
    · rw [if_neg (by simpa using d)]
      by_cases h0:c.Kind=0
      · rw [if_pos (by simpa using h0),if_pos h0]
        by_cases h1:c.Level=0<;>by_cases h3:c.Data.length=0<;>by_cases h4:c.Words.length=0<;>simp [h1,h3,h4]
      · rw [if_neg (by simpa using h0),if_neg h0,if_neg d];rfl
theorem zbC {fuel:Nat}{c:D.Cell}{n:Nat}(hf:18446744073709551616≤fuel) (hs:c.sz≤1048576) (hn:n≤maxLen):
    z45 fuel c n=some (cellN c && (if c.Kind=0 then decide (-1≤c.Value∧c.Value≤(n:Int) - 1) else true)):=by
  have hm:maxLen=9223372036854775807:=rfl
  have hd:c.Data.length≤1048576:=by unfold D.Cell.sz at hs;omega
  have hw:c.Words.length≤1048576:=by unfold D.Cell.sz at hs;omega
  unfold z45 cellN
  rw [z5f hn]
  by_cases h0:c.Kind=0
  · rw [if_pos (by simpa using h0),if_pos h0,if_pos h0]
    simp only [z34,Option.bind_some]
    by_cases h1:c.Level=0<;>by_cases h3:c.Data.length=0<;>by_cases h4:c.Words.length=0<;>simp [h1,h3,h4]
  · rw [if_neg (by simpa using h0),if_neg h0,if_neg h0,Bool.and_true]
    by_cases d:c.Kind=13
    · rw [if_pos (by simpa using d),if_pos d]
      by_cases h1:c.Level=0<;>by_cases h2:c.Value=0<;>by_cases h3:c.Data.length=0<;>simp [h1,h2,h3]
      omega
    · rw [if_neg (by simpa using d),if_neg d,z4H,Option.bind_some]
      by_cases ha:agentKind c.Kind=true
      · obtain⟨ps,h1,h2⟩:=z8j (c:=c) hf hw
        rw [if_pos ha,ha,h1,Option.bind_some,zaj hf (by dsimp only;omega) (by dsimp only;omega) (by dsimp only;omega)]
        dsimp only [Option.bind_some]
        rw [h2];rfl
      · rw [if_neg ha,Bool.eq_false_iff.2 ha];rfl
end Go.E


