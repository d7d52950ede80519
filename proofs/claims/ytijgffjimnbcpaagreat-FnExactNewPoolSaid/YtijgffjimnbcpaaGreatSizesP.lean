/- Models of functions and proofs that the code runs as they say (written by program). Conditions: the model gives a value. -/
import Derived.Test.YtijgffjimnbcpaaGreatHP
import Derived.Test.YtijgffjimnbcpaaGreatMixed
import Derived.Test.YtijgffjimnbcpaaGreatSzDefs
import Derived.Test.YtijgffjimnbcpaaGreatFA
import Derived.Test.YtijgffjimnbcpaaGreatFN
import Derived.Test.YtijgffjimnbcpaaGreatFL
import Derived.Test.YtijgffjimnbcpaaGreatFLb
import Derived.Test.YtijgffjimnbcpaaGreatFLc
import Derived.Test.YtijgffjimnbcpaaGreatFLd
namespace Go.E
open Go.RowKit Go.Proofs
set_option linter.unusedVariables false
set_option linter.unusedSimpArgs false
set_option maxHeartbeats 2000000
set_option maxRecDepth 100000

theorem zcN:Enters Tryz.prog 121:=⟨_,_,Tryz.func121,rfl,by kernel_rfl⟩
def z5r (fuel:Nat) (t2:Int × (List D.Link)):Option (Int × (List D.Link)):=some (t2.1,t2.2)
def z2V (fuel:Nat) (x0:(List D.Link)) (s1:Int × Int × (List D.Link)):Option (Rd (Int × Int × (List D.Link)) (Int × (List D.Link)) (Int × (List D.Link))):=(if(decide (s1.2.1<(x0.length:Int)))=true then((idx s1.2.2 s1.2.1).bind fun d=>some (.next (w64 ((w64 ((w64 ((w64 (s1.1+1))+1))+1))+1),w64 (s1.2.1+1),(s1.2.2.set s1.2.1.toNat (⟨(⟨s1.1,w64 (s1.1+1)⟩:D.Word),(⟨w64 ((w64 (s1.1+1))+1),w64 ((w64 ((w64 (s1.1+1))+1))+1)⟩:D.Word)⟩:D.Link))))) else some (.brk (s1.1,s1.2.2)))
def z36 (fuel:Nat) (x0:(List D.Link)) (x1:Int):Option (Int × (List D.Link)):=((iter (z2V fuel x0) fuel (x1,0,x0)).bind fun o=>aft o (z5r fuel))

theorem laws_markLinkS_ok {W w:World}{RR:List Res}{G:Option Addr}{H:Nat}{x0:(List D.Link)}{x1:Int}(hS:St W w (ow z6h G x0 H::RR)){fuel:Nat}{r:Int × (List D.Link)}(hm:z36 fuel x0 x1=some r):
    Calls Tryz.prog 121 ⟨[sl G x0 H,.int .i64 x1]⟩ w (Ret fun v w8=>v=.int .i64 r.1∧St W w8 (Own z6h [sl G x0 H] r.2::RR)):=by
  refine into Tryz.func121 45 _ ?_;unfold z36 at hm;refine sq<|rg<|rr 1 ?_;refine rn<|sq<|sq<|rg<|rr 1 ?_;refine rn ?_;obtain⟨o5,u0,hm⟩:=bS hm;refine ct (fun(t2:Int × (List D.Link)) F w9=>o5=.inl t2∧St W w9 (Own z6h [sl G x0 H] t2.2::RR)∧F=[(1,.int .i64 t2.1)]) ?_ ?_
  · rintro t2 F w4 ⟨o0,t0,rfl⟩;subst o0;rw [z6] at hm;unfold z5r at hm;refine sq<|rg<|rr 2 ?_;refine rn<|rt ?_;cases hm;exact⟨_,.cons (.tmp rfl) .nil,rfl,t0⟩
  · refine bk<|wk [0,1,5] ?_;refine it (fun(s1:Int × Int × (List D.Link)) F w9=>St W w9 (Own z6h [sl G x0 H] s1.2.2::RR)∧F=[(0,sl G x0 H),(1,.int .i64 s1.1),(5,.int .i64 s1.2.1)]) u0 ⟨hS,rfl⟩ ?_;rintro s1 F y0 _ v0 ⟨L,rfl⟩ d p0;unfold z2V at d;refine sq<|sq<|rg<|rr 4 ?_;refine rn<|ci d (fun d=>?_) (fun d=>?_)
    · refine sp<|sq<|bk<|sq<|rg<|rr 3 ?_;have Y:=L.bring 0 rfl;obtain⟨E0,z,d⟩:=bS d;refine fo Y z (fun q19 r0 hq21 Z=>?_);obtain⟨q0,a0⟩:=zam (Z.bring 1 rfl);subst q0;refine rr 2 ?_;have b0:=a0.bring 0 rfl;refine sh b0 hq21 0 (fun A0 M=>?_);refine rn<|sq<|rg<|rr 3 ?_;refine rn<|sq<|rg<|rr 3 ?_;refine ia (M.bring 0 rfl) (zn z).1 (fun q28 hq29=>?_);refine rr 2 ?_;have d0:=M.bring 0 rfl;refine sh d0 hq29 1 (fun B0 O=>?_);refine rn<|sq<|rg<|rr 3 ?_;refine rn<|sq<|rg<|rr 3 ?_;refine ia (O.bring 0 rfl) (zn z).1 (fun q33 hq34=>?_);refine rr 2 ?_;have e0:=O.bring 0 rfl;refine sh e0 hq34 2 (fun C0 X=>?_);refine rn<|sq<|rg<|rr 3 ?_;refine rn<|sq<|rg<|rr 3 ?_;refine ia (X.bring 0 rfl) (zn z).1 (fun q38 hq39=>?_);refine rr 2 ?_;have f0:=X.bring 0 rfl;refine sh f0 hq39 3 (fun D0 g0=>?_);refine rn<|rg<|rr 3 ?_;refine rn<|rg<|rr 3 ?_;refine rn ?_;have i0:=zak (c:=(⟨(⟨s1.1,w64 (s1.1+1)⟩:D.Word),(⟨w64 ((w64 (s1.1+1))+1),w64 ((w64 ((w64 (s1.1+1))+1))+1)⟩:D.Word)⟩:D.Link)) (B:=_) g0;have j0:=i0.bring 1 rfl;have k0:=St.unfocusN j0;cases d;exact⟨_,_,rfl,⟨k0,rfl⟩,rfl⟩
    · refine xt ?_;cases d;exact⟨_,_,⟨p0,L,rfl⟩,rfl⟩

theorem zdw:Enters Tryz.prog 64:=⟨_,_,Tryz.func64,rfl,by kernel_rfl⟩
def z53 (fuel:Nat) (t2:Int × (List D.Worker)):Option (Int × (List D.Worker)):=some (t2.1,t2.2)
def z2e (fuel:Nat) (x0:(List D.Worker)) (s1:Int × Int × (List D.Worker)):Option (Rd (Int × Int × (List D.Worker)) (Int × (List D.Worker)) (Int × (List D.Worker))):=(if(decide (s1.2.1<(x0.length:Int)))=true then((idx s1.2.2 s1.2.1).bind fun d=>((z1W fuel d.Redexes (w64 ((w64 (s1.1+1))+1))).bind fun z=>((z36 fuel d.Links z.1).bind fun G=>((zW fuel d.Counts G.1).bind fun H=>some (.next (H.1,w64 (s1.2.1+1),(s1.2.2.set s1.2.1.toNat (⟨s1.1,w64 (s1.1+1),z.2,G.2,H.2⟩:D.Worker)))))))) else some (.brk (s1.1,s1.2.2)))
def z2f (fuel:Nat) (x0:(List D.Worker)) (x1:Int):Option (Int × (List D.Worker)):=((iter (z2e fuel x0) fuel (x1,0,x0)).bind fun o=>aft o (z53 fuel))

theorem laws_markWorkerS_ok {W w:World}{RR:List Res}{g0:Option Addr}{i0:Nat}{x0:(List D.Worker)}{x1:Int}(hS:St W w (ow ty51 g0 x0 i0::RR)){fuel:Nat}{r:Int × (List D.Worker)}(hm:z2f fuel x0 x1=some r):
    Calls Tryz.prog 64 ⟨[sl g0 x0 i0,.int .i64 x1]⟩ w (Ret fun v w8=>v=.int .i64 r.1∧St W w8 (Own ty51 [sl g0 x0 i0] r.2::RR)):=by
  refine into Tryz.func64 48 _ ?_;unfold z2f at hm;refine sq<|rg<|rr 1 ?_;refine rn<|sq<|sq<|rg<|rr 1 ?_;refine rn ?_;obtain⟨o5,X0,hm⟩:=bS hm;refine ct (fun(t2:Int × (List D.Worker)) F w9=>o5=.inl t2∧St W w9 (Own ty51 [sl g0 x0 i0] t2.2::RR)∧F=[(1,.int .i64 t2.1)]) ?_ ?_
  · rintro t2 F w4 ⟨P0,W0,rfl⟩;subst P0;rw [z6] at hm;unfold z53 at hm;refine sq<|rg<|rr 2 ?_;refine rn<|rt ?_;cases hm;exact⟨_,.cons (.tmp rfl) .nil,rfl,W0⟩
  · refine bk<|wk [0,1,5] ?_;refine it (fun(s1:Int × Int × (List D.Worker)) F w9=>St W w9 (Own ty51 [sl g0 x0 i0] s1.2.2::RR)∧F=[(0,sl g0 x0 i0),(1,.int .i64 s1.1),(5,.int .i64 s1.2.1)]) X0 ⟨hS,rfl⟩ ?_;rintro s1 F j1 _ e1 ⟨j0,rfl⟩ d Q0;unfold z2e at d;refine sq<|sq<|rg<|rr 4 ?_;refine rn<|ci d (fun d=>?_) (fun d=>?_)
    · refine sp<|sq<|bk<|sq<|rg<|rr 3 ?_;have y0:=j0.bring 0 rfl;obtain⟨z,G,d⟩:=bS d;refine fo y0 G (fun q19 V0 hq21 A0=>?_);obtain⟨L,X,M,Y,O,Z,U0,B0⟩:=z6M (A0.bring 1 rfl);subst U0;refine rr 1 ?_;have C0:=B0.bring 3 rfl;refine sh C0 hq21 0 (fun k1 k0=>?_);refine rn<|sq<|rg<|rr 3 ?_;refine rn<|sq<|rg<|rr 3 ?_;refine ia (k0.bring 0 rfl) (zn G).1 (fun q34 hq35=>?_);refine rr 1 ?_;have D0:=k0.bring 0 rfl;refine sh D0 hq35 1 (fun m1 d0=>?_);refine rn<|sq<|rg<|rr 3 ?_;refine rn<|sq<|rg<|rr 2 ?_;refine ia (d0.bring 0 rfl) (zn G).1 (fun q39 hq40=>?_);refine rr 1 ?_;refine l1 ((d0.bring 0 rfl).hole_atN hq40) 2 ?_;refine rr 1 ?_;obtain⟨H,R0,d⟩:=bS d;refine ca zaZ (laws_markPairS_ok (W:=W) (RR:=_) (x0:=z.Redexes) (x1:=w64 ((w64 (s1.1+1))+1)) (d0.bring 1 rfl)  R0) (fun f1 n1 t0=>?_);obtain⟨rfl,e0⟩:=t0;refine rr 1 ?_;refine rn<|sq<|rg<|rr 2 ?_;refine ia (e0.bring 1 rfl) (zn G).1 (fun q47 hq48=>?_);refine rr 1 ?_;refine l1 ((e0.bring 1 rfl).hole_atN hq48) 3 ?_;refine rr 1 ?_;obtain⟨b0,S0,d⟩:=bS d;refine ca zcN (laws_markLinkS_ok (W:=W) (RR:=_) (x0:=z.Links) (x1:=H.1) (e0.bring 2 rfl)  S0) (fun g1 p1 u0=>?_);obtain⟨rfl,f0⟩:=u0;refine rr 1 ?_;refine rn<|rg<|rr 2 ?_;refine ia (f0.bring 2 rfl) (zn G).1 (fun q55 hq56=>?_);refine rr 1 ?_;refine l1 ((f0.bring 2 rfl).hole_atN hq56) 4 ?_;refine rr 1 ?_;obtain⟨r0,T0,d⟩:=bS d;refine ca z9h (laws_markInt64S_ok (W:=W) (RR:=_) (x0:=z.Counts) (x1:=b0.1) (f0.bring 3 rfl)  T0) (fun i1 t1 v0=>?_);obtain⟨rfl,o0⟩:=v0;refine rr 1 ?_;refine rn<|rg<|rr 3 ?_;refine rn ?_;have hn63:=(o0.bring 2 rfl).lenEq;have E0:=(o0.bring 2 rfl).reLen hn63;have p0:=(E0.bring 3 rfl).reHole (es':=[.int .i64 s1.1,.int .i64 (w64 (s1.1+1)),.slice L H.2.length X,.slice M z.Links.length Y,.slice O z.Counts.length Z]) (by show([.int .i64 s1.1,.int .i64 (w64 (s1.1+1)),.slice L z.Redexes.length X,.slice M z.Links.length Y,.slice O z.Counts.length Z]:List Value)=[.int .i64 s1.1,.int .i64 (w64 (s1.1+1)),.slice L H.2.length X,.slice M z.Links.length Y,.slice O z.Counts.length Z];first | (simp only [sl,hn63];done) | (simp only [sl,hn63];rfl));have hn67:=(p0.bring 3 rfl).lenEq;have F0:=(p0.bring 3 rfl).reLen hn67;have q0:=(F0.bring 1 rfl).reHole (es':=[.int .i64 s1.1,.int .i64 (w64 (s1.1+1)),.slice L H.2.length X,.slice M b0.2.length Y,.slice O z.Counts.length Z]) (by show([.int .i64 s1.1,.int .i64 (w64 (s1.1+1)),.slice L H.2.length X,.slice M z.Links.length Y,.slice O z.Counts.length Z]:List Value)=[.int .i64 s1.1,.int .i64 (w64 (s1.1+1)),.slice L H.2.length X,.slice M b0.2.length Y,.slice O z.Counts.length Z];first | (simp only [sl,hn67];done) | (simp only [sl,hn67];rfl));have hn70:=(q0.bring 3 rfl).lenEq;have G0:=(q0.bring 3 rfl).reLen hn70;have a0:=(G0.bring 1 rfl).reHole (es':=[.int .i64 s1.1,.int .i64 (w64 (s1.1+1)),.slice L H.2.length X,.slice M b0.2.length Y,.slice O r0.2.length Z]) (by show([.int .i64 s1.1,.int .i64 (w64 (s1.1+1)),.slice L H.2.length X,.slice M b0.2.length Y,.slice O z.Counts.length Z]:List Value)=[.int .i64 s1.1,.int .i64 (w64 (s1.1+1)),.slice L H.2.length X,.slice M b0.2.length Y,.slice O r0.2.length Z];first | (simp only [sl,hn70];done) | (simp only [sl,hn70];rfl));have Y0:=(show ty31.ro _ [.slice L z.Redexes.length X] H.2 from(Eq.symm hn63) ▸ ((a0.bring 3 rfl).own));have a1:=(show z6h.ro _ [.slice M z.Links.length Y] b0.2 from(Eq.symm hn67) ▸ ((a0.bring 2 rfl).own));have d1:=(show ty80.ro _ [.slice O z.Counts.length Z] r0.2 from(Eq.symm hn70) ▸ ((a0.bring 1 rfl).own));have H0:=a0.bring 1 rfl;have J0:=H0.bring 2 rfl;have K0:=J0.bring 3 rfl;have L0:=z5i (c:=(⟨s1.1,w64 (s1.1+1),H.2,b0.2,r0.2⟩:D.Worker)) (B:=_) K0;have N0:=L0.bring 1 rfl;have O0:=St.unfocusN N0;cases d;exact⟨_,_,rfl,⟨O0,rfl⟩,rfl⟩
    · refine xt ?_;cases d;exact⟨_,_,⟨Q0,j0,rfl⟩,rfl⟩

theorem zdK:Enters Tryz.prog 24:=⟨_,_,Tryz.func24,rfl,by kernel_rfl⟩
def z3G (fuel:Nat) (x0:D.Pool) (x1:Int):Option (Int × (List D.Cell) × (List D.Pair) × (List D.Worker)):=((z3R fuel x0.Memory x1).bind fun r5=>((z2f fuel x0.Workers r5.1).bind fun d=>some (d.1,r5.2.1,r5.2.2,d.2)))

theorem laws_markPool_ok {W w:World}{RR:List Res}{x0:D.Pool}{d:Option Addr}{H:Nat}{z:Option Addr}{L:Nat}{G:Option Addr}{M:Nat}{x1:Int}(hS:St W w (ow ty29 d x0.Memory.Cells H::ow ty31 z x0.Memory.Redexes L::ow ty51 G x0.Workers M::RR)){fuel:Nat}{r:Int × (List D.Cell) × (List D.Pair) × (List D.Worker)}(hm:z3G fuel x0 x1=some r):
    Calls Tryz.prog 24 ⟨[.agg ⟨[sl d x0.Memory.Cells H,.int .i64 x0.Memory.Free,.int .i64 x0.Memory.Root.Tag,.int .i64 x0.Memory.Root.At,sl z x0.Memory.Redexes L,sl G x0.Workers M,.int .i64 x0.Active]⟩,.int .i64 x1]⟩ w (Ret fun v w8=>v=.int .i64 r.1∧St W w8 (Own ty29 [sl d x0.Memory.Cells H] r.2.1::Own ty31 [sl z x0.Memory.Redexes L] r.2.2.1::Own ty51 [sl G x0.Workers M] r.2.2.2::RR)):=by
  refine into Tryz.func24 14 _ ?_;unfold z3G at hm;refine sq<|rg<|nw hS (fun g1 w2 e3 b0=>?_);refine rr 1 ?_;refine rn<|sq<|rg<|rr 1 ?_;refine lN (At.sub ((b0.bring 0 rfl).box) 0 5) ?_;refine rr 1 ?_;obtain⟨r5,d0,hm⟩:=bS hm;refine ca zdQ (laws_markMemory_ok (W:=W) (RR:=_) (x0:=x0.Memory) (x1:=x1) ((b0.bring 2 rfl).bring 2 rfl)  d0) (fun v7 g0 X=>?_);obtain⟨rfl,O⟩:=X;refine rr 1 ?_;refine rn<|sq<|rg<|rr 1 ?_;refine l1 ((O.bring 2 rfl).box) 5 ?_;refine rr 1 ?_;obtain⟨e0,a0,hm⟩:=bS hm;refine ca zdw (laws_markWorkerS_ok (W:=W) (RR:=_) (x0:=x0.Workers) (x1:=r5.1) (O.bring 3 rfl)  a0) (fun f0 i0 Y=>?_);obtain⟨rfl,Z⟩:=Y;refine rr 1 ?_;refine rn<|sq<|rg<|rr 2 ?_;refine rn<|rt ?_;cases hm;exact⟨_,.cons (.tmp rfl) .nil,rfl,(Z.selR [1,2,0] 4)⟩

theorem zaT:Enters Tryz.prog 87:=⟨_,_,Tryz.func87,rfl,by kernel_rfl⟩
def z5c (fuel:Nat) (t2:Int):Option Int:=some t2
def z1o (fuel:Nat) (x0:(List Int)) (s1:Int × Int):Option (Rd (Int × Int) (Int) (Int)):=(if(decide (s1.2<(x0.length:Int)))=true then((idx x0 s1.2).bind fun d=>(if(d != s1.1)=true then some (.ret (-1)) else some (.next (w64 (s1.1+1),w64 (s1.2+1))))) else some (.brk s1.1))
def z1z (fuel:Nat) (x0:(List Int)) (x1:Int):Option (Int):=((iter (z1o fuel x0) fuel (x1,0)).bind fun o=>aft o (z5c fuel))

theorem laws_heldInt64S_ok {W w:World}(hE:Ext W w){H:Option Addr}{a0:Nat}{x0:(List Int)}{x1:Int}(e0:ty80.ro W [sl H x0 a0] x0){fuel:Nat}{r:Int}(hm:z1z fuel x0 x1=some r):
    Calls Tryz.prog 87 ⟨[sl H x0 a0,.int .i64 x1]⟩ w (Ret fun v w8=>v=.int .i64 r∧St w w8 []):=by
  refine into Tryz.func87 21 _ ?_;unfold z1z at hm;have hS:=St.start w;refine sq<|rg<|rr 1 ?_;refine rn<|sq<|sq<|rg<|rr 1 ?_;refine rn ?_;obtain⟨f0,O,hm⟩:=bS hm;refine ct (fun(t2:Int) F w9=>f0=.inl t2∧Ext w w9∧St w w9 []∧F=[(1,.int .i64 t2)]) ?_ ?_
  · rintro t2 F w7 ⟨X,g0,L,rfl⟩;subst X;rw [z6] at hm;unfold z5c at hm;refine sq<|rg<|rr 2 ?_;refine rn<|rt ?_;cases hm;exact⟨_,.cons (.tmp rfl) .nil,rfl,L⟩
  · refine bk<|wk [0,1,5] ?_;refine it (fun(s1:Int × Int) F w9=>Ext w w9∧St w w9 []∧F=[(0,sl H x0 a0),(1,.int .i64 s1.1),(5,.int .i64 s1.2)]) O ⟨(Ext.refl _),hS,rfl⟩ ?_;rintro s1 F k0 _ i0 ⟨b0,z,rfl⟩ d G;unfold z1o at d;refine sq<|sq<|rg<|rr 4 ?_;refine rn<|ci d (fun d=>?_) (fun d=>?_)
    · refine sp<|sq<|bk<|sq<|sq<|rg<|rr 2 ?_;obtain⟨o0,Z,d⟩:=bS d;refine ix (hE.trans z.ext) e0 Z (fun j0 d0 M Y=>?_);cases Y;refine l1 (At.ext (hE.trans z.ext) M) 0 ?_;refine rr 2 ?_;refine rn<|ci d (fun d=>?_) (fun d=>?_)
      · refine sq<|rg<|rr 1 ?_;refine rn<|rt ?_;cases d;cases G;have hm:some _=some _:=hm;cases hm;exact⟨_,.cons (.tmp rfl) .nil,rfl,z⟩
      · refine sp<|rg<|rr 3 ?_;refine rn<|rg<|rr 3 ?_;refine rn ?_;cases d;exact⟨_,_,rfl,⟨b0,z,rfl⟩,rfl⟩
    · refine xt ?_;cases d;exact⟨_,_,⟨G,b0,z,rfl⟩,rfl⟩

theorem zdq:Enters Tryz.prog 88:=⟨_,_,Tryz.func88,rfl,by kernel_rfl⟩
def z5t (fuel:Nat) (t2:Int):Option Int:=some t2
def z1L (fuel:Nat) (x0:(List D.Word)) (s1:Int × Int):Option (Rd (Int × Int) (Int) (Int)):=(if(decide (s1.2<(x0.length:Int)))=true then((idx x0 s1.2).bind fun d=>(if(d.Tag != s1.1)=true then some (.ret (-1)) else((idx x0 s1.2).bind fun z=>(if(z.At != (w64 (s1.1+1)))=true then some (.ret (-1)) else some (.next (w64 ((w64 (s1.1+1))+1),w64 (s1.2+1))))))) else some (.brk s1.1))
def z38 (fuel:Nat) (x0:(List D.Word)) (x1:Int):Option (Int):=((iter (z1L fuel x0) fuel (x1,0)).bind fun o=>aft o (z5t fuel))

theorem laws_heldWordS_ok {W w:World}(hE:Ext W w){H:Option Addr}{e0:Nat}{x0:(List D.Word)}{x1:Int}(f0:ty81.ro W [sl H x0 e0] x0){fuel:Nat}{r:Int}(hm:z38 fuel x0 x1=some r):
    Calls Tryz.prog 88 ⟨[sl H x0 e0,.int .i64 x1]⟩ w (Ret fun v w8=>v=.int .i64 r∧St w w8 []):=by
  refine into Tryz.func88 31 _ ?_;unfold z38 at hm;have hS:=St.start w;refine sq<|rg<|rr 1 ?_;refine rn<|sq<|sq<|rg<|rr 1 ?_;refine rn ?_;obtain⟨p0,X,hm⟩:=bS hm;refine ct (fun(t2:Int) F w9=>p0=.inl t2∧Ext w w9∧St w w9 []∧F=[(1,.int .i64 t2)]) ?_ ?_
  · rintro t2 F w7 ⟨Y,q0,L,rfl⟩;subst Y;rw [z6] at hm;unfold z5t at hm;refine sq<|rg<|rr 2 ?_;refine rn<|rt ?_;cases hm;exact⟨_,.cons (.tmp rfl) .nil,rfl,L⟩
  · refine bk<|wk [0,1,5] ?_;refine it (fun(s1:Int × Int) F w9=>Ext w w9∧St w w9 []∧F=[(0,sl H x0 e0),(1,.int .i64 s1.1),(5,.int .i64 s1.2)]) X ⟨(Ext.refl _),hS,rfl⟩ ?_;rintro s1 F v0 _ r0 ⟨g0,z,rfl⟩ d G;unfold z1L at d;refine sq<|sq<|rg<|rr 4 ?_;refine rn<|ci d (fun d=>?_) (fun d=>?_)
    · refine sp<|sq<|bk<|sq<|sq<|rg<|rr 2 ?_;obtain⟨y0,b0,d⟩:=bS d;refine ix (hE.trans z.ext) f0 b0 (fun t0 k0 M Z=>?_);have i0:=z3u Z;subst i0;refine rr 1 ?_;refine l1 (At.ext (hE.trans z.ext) M) 0 ?_;refine rr 2 ?_;refine rn<|ci d (fun d=>?_) (fun d=>?_)
      · refine sq<|rg<|rr 1 ?_;refine rn<|rt ?_;cases d;cases G;have hm:some _=some _:=hm;cases hm;exact⟨_,.cons (.tmp rfl) .nil,rfl,z⟩
      · refine sp<|sq<|rg<|rr 3 ?_;refine rn<|sq<|sq<|rg<|rr 2 ?_;obtain⟨A0,d0,d⟩:=bS d;refine ix (hE.trans z.ext) f0 d0 (fun u0 o0 O a0=>?_);have j0:=z3u a0;subst j0;refine rr 1 ?_;refine l1 (At.ext (hE.trans z.ext) O) 1 ?_;refine rr 2 ?_;refine rn<|ci d (fun d=>?_) (fun d=>?_)
        · refine sq<|rg<|rr 1 ?_;refine rn<|rt ?_;cases d;cases G;have hm:some _=some _:=hm;cases hm;exact⟨_,.cons (.tmp rfl) .nil,rfl,z⟩
        · refine sp<|rg<|rr 3 ?_;refine rn<|rg<|rr 3 ?_;refine rn ?_;cases d;exact⟨_,_,rfl,⟨g0,z,rfl⟩,rfl⟩
    · refine xt ?_;cases d;exact⟨_,_,⟨G,g0,z,rfl⟩,rfl⟩

theorem zdF:Enters Tryz.prog 48:=⟨_,_,Tryz.func48,rfl,by kernel_rfl⟩
def z5w (fuel:Nat) (t2:Int):Option Int:=some t2
def z1O (fuel:Nat) (x0:(List D.Cell)) (s1:Int × Int):Option (Rd (Int × Int) (Int) (Int)):=(if(decide (s1.2<(x0.length:Int)))=true then((idx x0 s1.2).bind fun G=>(if(G.Kind != s1.1)=true then some (.ret (-1)) else((idx x0 s1.2).bind fun H=>(if(H.Level != (w64 (s1.1+1)))=true then some (.ret (-1)) else((idx x0 s1.2).bind fun L=>(if(L.Value != (w64 ((w64 (s1.1+1))+1)))=true then some (.ret (-1)) else((idx x0 s1.2).bind fun M=>((z1z fuel M.Data (w64 ((w64 ((w64 (s1.1+1))+1))+1))).bind fun d=>(if(decide (d<0))=true then some (.ret (-1)) else((idx x0 s1.2).bind fun O=>((z38 fuel O.Words d).bind fun z=>(if(decide (z<0))=true then some (.ret (-1)) else some (.next (z,w64 (s1.2+1))))))))))))))) else some (.brk s1.1))
def z3a (fuel:Nat) (x0:(List D.Cell)) (x1:Int):Option (Int):=((iter (z1O fuel x0) fuel (x1,0)).bind fun o=>aft o (z5w fuel))

theorem laws_heldCellS_ok {W w:World}(hE:Ext W w){Y:Option Addr}{E0:Nat}{x0:(List D.Cell)}{x1:Int}(L:ty29.ro W [sl Y x0 E0] x0){fuel:Nat}{r:Int}(hm:z3a fuel x0 x1=some r):
    Calls Tryz.prog 48 ⟨[sl Y x0 E0,.int .i64 x1]⟩ w (Ret fun v w8=>v=.int .i64 r∧St w w8 []):=by
  refine into Tryz.func48 58 _ ?_;unfold z3a at hm;have hS:=St.start w;refine sq<|rg<|rr 1 ?_;refine rn<|sq<|sq<|rg<|rr 1 ?_;refine rn ?_;obtain⟨U0,j0,hm⟩:=bS hm;refine ct (fun(t2:Int) F w9=>U0=.inl t2∧Ext w w9∧St w w9 []∧F=[(1,.int .i64 t2)]) ?_ ?_
  · rintro t2 F w7 ⟨k0,y1,b0,rfl⟩;subst k0;rw [z6] at hm;unfold z5w at hm;refine sq<|rg<|rr 2 ?_;refine rn<|rt ?_;cases hm;exact⟨_,.cons (.tmp rfl) .nil,rfl,b0⟩
  · refine bk<|wk [0,1,5] ?_;refine it (fun(s1:Int × Int) F w9=>Ext w w9∧St w w9 []∧F=[(0,sl Y x0 E0),(1,.int .i64 s1.1),(5,.int .i64 s1.2)]) j0 ⟨(Ext.refl _),hS,rfl⟩ ?_;rintro s1 F V1 _ L1 ⟨F0,z,rfl⟩ d G;unfold z1O at d;refine sq<|sq<|rg<|rr 4 ?_;refine rn<|ci d (fun d=>?_) (fun d=>?_)
    · refine sp<|sq<|bk<|sq<|sq<|rg<|rr 2 ?_;obtain⟨Y1,u0,d⟩:=bS d;refine ix (hE.trans z.ext) L u0 (fun M1 N0 d0 o0=>?_);obtain⟨V0,A1,W0,B1,G0,j1,k1⟩:=z3s o0;subst G0;refine rr 1 ?_;refine l1 (At.ext (hE.trans z.ext) d0) 0 ?_;refine rr 2 ?_;refine rn<|ci d (fun d=>?_) (fun d=>?_)
      · refine sq<|rg<|rr 1 ?_;refine rn<|rt ?_;cases d;cases G;have hm:some _=some _:=hm;cases hm;exact⟨_,.cons (.tmp rfl) .nil,rfl,z⟩
      · refine sp<|sq<|rg<|rr 3 ?_;refine rn<|sq<|sq<|rg<|rr 2 ?_;obtain⟨a2,v0,d⟩:=bS d;refine ix (hE.trans z.ext) L v0 (fun N1 O0 e0 p0=>?_);obtain⟨X0,C1,Y0,D1,H0,m1,n1⟩:=z3s p0;subst H0;refine rr 1 ?_;refine l1 (At.ext (hE.trans z.ext) e0) 1 ?_;refine rr 2 ?_;refine rn<|ci d (fun d=>?_) (fun d=>?_)
        · refine sq<|rg<|rr 1 ?_;refine rn<|rt ?_;cases d;cases G;have hm:some _=some _:=hm;cases hm;exact⟨_,.cons (.tmp rfl) .nil,rfl,z⟩
        · refine sp<|sq<|rg<|rr 3 ?_;refine rn<|sq<|sq<|rg<|rr 2 ?_;obtain⟨d2,y0,d⟩:=bS d;refine ix (hE.trans z.ext) L y0 (fun O1 P0 f0 q0=>?_);obtain⟨a1,E1,d1,F1,J0,p1,t1⟩:=z3s q0;subst J0;refine rr 1 ?_;refine l1 (At.ext (hE.trans z.ext) f0) 2 ?_;refine rr 2 ?_;refine rn<|ci d (fun d=>?_) (fun d=>?_)
          · refine sq<|rg<|rr 1 ?_;refine rn<|rt ?_;cases d;cases G;have hm:some _=some _:=hm;cases hm;exact⟨_,.cons (.tmp rfl) .nil,rfl,z⟩
          · refine sp<|sq<|rg<|rr 3 ?_;refine rn<|sq<|rg<|rr 2 ?_;obtain⟨e2,A0,d⟩:=bS d;refine ix (hE.trans z.ext) L A0 (fun P1 Q0 g0 r0=>?_);obtain⟨e1,G1,f1,H1,K0,S0,u1⟩:=z3s r0;subst K0;refine rr 1 ?_;refine l1 (At.ext (hE.trans z.ext) g0) 3 ?_;refine rr 1 ?_;obtain⟨R1,B0,d⟩:=bS d;refine ca zaT (laws_heldInt64S_ok (hE.trans z.ext) S0 B0) (fun T1 W1 Z=>?_);obtain⟨rfl,M⟩:=Z;have H:=z.join M;refine rr 1 ?_;refine rn<|sq<|sq<|rg<|rr 2 ?_;refine rn<|ci d (fun d=>?_) (fun d=>?_)
            · refine sq<|rg<|rr 1 ?_;refine rn<|rt ?_;cases d;cases G;have hm:some _=some _:=hm;cases hm;exact⟨_,.cons (.tmp rfl) .nil,rfl,H⟩
            · refine sp<|sq<|rg<|rr 2 ?_;obtain⟨f2,C0,d⟩:=bS d;refine ix (hE.trans H.ext) L C0 (fun Q1 R0 i0 t0=>?_);obtain⟨g1,J1,i1,K1,L0,v1,T0⟩:=z3s t0;subst L0;refine rr 1 ?_;refine l1 (At.ext (hE.trans H.ext) i0) 4 ?_;refine rr 1 ?_;obtain⟨S1,D0,d⟩:=bS d;refine ca zdq (laws_heldWordS_ok (hE.trans H.ext) T0 D0) (fun U1 X1 a0=>?_);obtain⟨rfl,O⟩:=a0;have X:=H.join O;refine rr 1 ?_;refine rn<|sq<|rg<|rr 2 ?_;refine rn<|ci d (fun d=>?_) (fun d=>?_)
              · refine sq<|rg<|rr 1 ?_;refine rn<|rt ?_;cases d;cases G;have hm:some _=some _:=hm;cases hm;exact⟨_,.cons (.tmp rfl) .nil,rfl,X⟩
              · refine sp<|rg<|rr 3 ?_;refine rn ?_;cases d;exact⟨_,_,rfl,⟨((F0.trans M.ext).trans O.ext),X,rfl⟩,rfl⟩
    · refine xt ?_;cases d;exact⟨_,_,⟨G,F0,z,rfl⟩,rfl⟩

theorem zaY:Enters Tryz.prog 49:=⟨_,_,Tryz.func49,rfl,by kernel_rfl⟩
def z5u (fuel:Nat) (t2:Int):Option Int:=some t2
def z1M (fuel:Nat) (x0:(List D.Pair)) (s1:Int × Int):Option (Rd (Int × Int) (Int) (Int)):=(if(decide (s1.2<(x0.length:Int)))=true then((idx x0 s1.2).bind fun d=>(if(d.A != s1.1)=true then some (.ret (-1)) else((idx x0 s1.2).bind fun z=>(if(z.B != (w64 (s1.1+1)))=true then some (.ret (-1)) else some (.next (w64 ((w64 (s1.1+1))+1),w64 (s1.2+1))))))) else some (.brk s1.1))
def z1X (fuel:Nat) (x0:(List D.Pair)) (x1:Int):Option (Int):=((iter (z1M fuel x0) fuel (x1,0)).bind fun o=>aft o (z5u fuel))

theorem laws_heldPairS_ok {W w:World}(hE:Ext W w){H:Option Addr}{e0:Nat}{x0:(List D.Pair)}{x1:Int}(f0:ty31.ro W [sl H x0 e0] x0){fuel:Nat}{r:Int}(hm:z1X fuel x0 x1=some r):
    Calls Tryz.prog 49 ⟨[sl H x0 e0,.int .i64 x1]⟩ w (Ret fun v w8=>v=.int .i64 r∧St w w8 []):=by
  refine into Tryz.func49 31 _ ?_;unfold z1X at hm;have hS:=St.start w;refine sq<|rg<|rr 1 ?_;refine rn<|sq<|sq<|rg<|rr 1 ?_;refine rn ?_;obtain⟨p0,X,hm⟩:=bS hm;refine ct (fun(t2:Int) F w9=>p0=.inl t2∧Ext w w9∧St w w9 []∧F=[(1,.int .i64 t2)]) ?_ ?_
  · rintro t2 F w7 ⟨Y,q0,L,rfl⟩;subst Y;rw [z6] at hm;unfold z5u at hm;refine sq<|rg<|rr 2 ?_;refine rn<|rt ?_;cases hm;exact⟨_,.cons (.tmp rfl) .nil,rfl,L⟩
  · refine bk<|wk [0,1,5] ?_;refine it (fun(s1:Int × Int) F w9=>Ext w w9∧St w w9 []∧F=[(0,sl H x0 e0),(1,.int .i64 s1.1),(5,.int .i64 s1.2)]) X ⟨(Ext.refl _),hS,rfl⟩ ?_;rintro s1 F v0 _ r0 ⟨g0,z,rfl⟩ d G;unfold z1M at d;refine sq<|sq<|rg<|rr 4 ?_;refine rn<|ci d (fun d=>?_) (fun d=>?_)
    · refine sp<|sq<|bk<|sq<|sq<|rg<|rr 2 ?_;obtain⟨y0,b0,d⟩:=bS d;refine ix (hE.trans z.ext) f0 b0 (fun t0 k0 M Z=>?_);have i0:=zJ Z;subst i0;refine rr 1 ?_;refine l1 (At.ext (hE.trans z.ext) M) 0 ?_;refine rr 2 ?_;refine rn<|ci d (fun d=>?_) (fun d=>?_)
      · refine sq<|rg<|rr 1 ?_;refine rn<|rt ?_;cases d;cases G;have hm:some _=some _:=hm;cases hm;exact⟨_,.cons (.tmp rfl) .nil,rfl,z⟩
      · refine sp<|sq<|rg<|rr 3 ?_;refine rn<|sq<|sq<|rg<|rr 2 ?_;obtain⟨A0,d0,d⟩:=bS d;refine ix (hE.trans z.ext) f0 d0 (fun u0 o0 O a0=>?_);have j0:=zJ a0;subst j0;refine rr 1 ?_;refine l1 (At.ext (hE.trans z.ext) O) 1 ?_;refine rr 2 ?_;refine rn<|ci d (fun d=>?_) (fun d=>?_)
        · refine sq<|rg<|rr 1 ?_;refine rn<|rt ?_;cases d;cases G;have hm:some _=some _:=hm;cases hm;exact⟨_,.cons (.tmp rfl) .nil,rfl,z⟩
        · refine sp<|rg<|rr 3 ?_;refine rn<|rg<|rr 3 ?_;refine rn ?_;cases d;exact⟨_,_,rfl,⟨g0,z,rfl⟩,rfl⟩
    · refine xt ?_;cases d;exact⟨_,_,⟨G,g0,z,rfl⟩,rfl⟩

theorem zdP:Enters Tryz.prog 13:=⟨_,_,Tryz.func13,rfl,by kernel_rfl⟩
def z3S (fuel:Nat) (x0:D.Memory) (x1:Int):Option (Int):=((z3a fuel x0.Cells x1).bind fun d=>(if(decide (d<0))=true then some (-1) else((z1X fuel x0.Redexes d).bind fun z=>(if(decide (z<0))=true then some (-1) else some z))))

theorem laws_heldMemory_ok {W w:World}(hE:Ext W w){Z:List Value}{x0:D.Memory}{x1:Int}(a0:ty33.ro W Z x0){fuel:Nat}{r:Int}(hm:z3S fuel x0 x1=some r):
    Calls Tryz.prog 13 ⟨[.agg ⟨Z⟩,.int .i64 x1]⟩ w (Ret fun v w8=>v=.int .i64 r∧St w w8 []):=by
  obtain⟨A1,k2,A4,k5,e7,h3,h6⟩:=z6W a0;subst e7;refine into Tryz.func13 18 _ ?_;unfold z3S at hm;have hS:=St.start w;refine sq<|rg<|nw hS (fun d0 j0 b0 z=>?_);refine rr 1 ?_;refine rn<|sq<|rg<|rr 1 ?_;refine l1 ((z.bring 0 rfl).box) 0 ?_;refine rr 1 ?_;obtain⟨e0,X,hm⟩:=bS hm;refine ca zdF (laws_heldCellS_ok (hE.trans z.ext) h3 X) (fun g0 k0 H=>?_);obtain⟨rfl,L⟩:=H;have d:=z.join L;refine rr 1 ?_;refine rn<|sq<|sq<|rg<|rr 2 ?_;refine rn<|ci hm (fun hm=>?_) (fun hm=>?_)
  · refine sq<|rg<|rr 1 ?_;refine rn<|rt ?_;cases hm;exact⟨_,.cons (.tmp rfl) .nil,rfl,(d.taken 0)⟩
  · refine sp<|sq<|rg<|rr 1 ?_;refine l1 ((d.bring 0 rfl).box) 4 ?_;refine rr 1 ?_;obtain⟨f0,Y,hm⟩:=bS hm;refine ca zaY (laws_heldPairS_ok (hE.trans d.ext) h6 Y) (fun i0 o0 M=>?_);obtain⟨rfl,O⟩:=M;have G:=d.join O;refine rr 1 ?_;refine rn<|sq<|sq<|rg<|rr 2 ?_;refine rn<|ci hm (fun hm=>?_) (fun hm=>?_)
    · refine sq<|rg<|rr 1 ?_;refine rn<|rt ?_;cases hm;exact⟨_,.cons (.tmp rfl) .nil,rfl,(G.taken 0)⟩
    · refine sp<|sq<|rg<|rr 2 ?_;refine rn<|rt ?_;cases hm;exact⟨_,.cons (.tmp rfl) .nil,rfl,(G.taken 0)⟩

theorem zcM:Enters Tryz.prog 122:=⟨_,_,Tryz.func122,rfl,by kernel_rfl⟩
def z5v (fuel:Nat) (t2:Int):Option Int:=some t2
def z1N (fuel:Nat) (x0:(List D.Link)) (s1:Int × Int):Option (Rd (Int × Int) (Int) (Int)):=(if(decide (s1.2<(x0.length:Int)))=true then((idx x0 s1.2).bind fun d=>(if(d.A.Tag != s1.1)=true then some (.ret (-1)) else((idx x0 s1.2).bind fun z=>(if(z.A.At != (w64 (s1.1+1)))=true then some (.ret (-1)) else((idx x0 s1.2).bind fun G=>(if(G.B.Tag != (w64 ((w64 (s1.1+1))+1)))=true then some (.ret (-1)) else((idx x0 s1.2).bind fun H=>(if(H.B.At != (w64 ((w64 ((w64 (s1.1+1))+1))+1)))=true then some (.ret (-1)) else some (.next (w64 ((w64 ((w64 ((w64 (s1.1+1))+1))+1))+1),w64 (s1.2+1))))))))))) else some (.brk s1.1))
def z39 (fuel:Nat) (x0:(List D.Link)) (x1:Int):Option (Int):=((iter (z1N fuel x0) fuel (x1,0)).bind fun o=>aft o (z5v fuel))

theorem laws_heldLinkS_ok {W w:World}(hE:Ext W w){L:Option Addr}{p0:Nat}{x0:(List D.Link)}{x1:Int}(H:z6h.ro W [sl L x0 p0] x0){fuel:Nat}{r:Int}(hm:z39 fuel x0 x1=some r):
    Calls Tryz.prog 122 ⟨[sl L x0 p0,.int .i64 x1]⟩ w (Ret fun v w8=>v=.int .i64 r∧St w w8 []):=by
  refine into Tryz.func122 53 _ ?_;unfold z39 at hm;have hS:=St.start w;refine sq<|rg<|rr 1 ?_;refine rn<|sq<|sq<|rg<|rr 1 ?_;refine rn ?_;obtain⟨D0,a0,hm⟩:=bS hm;refine ct (fun(t2:Int) F w9=>D0=.inl t2∧Ext w w9∧St w w9 []∧F=[(1,.int .i64 t2)]) ?_ ?_
  · rintro t2 F w7 ⟨b0,E0,M,rfl⟩;subst b0;rw [z6] at hm;unfold z5v at hm;refine sq<|rg<|rr 2 ?_;refine rn<|rt ?_;cases hm;exact⟨_,.cons (.tmp rfl) .nil,rfl,M⟩
  · refine bk<|wk [0,1,5] ?_;refine it (fun(s1:Int × Int) F w9=>Ext w w9∧St w w9 []∧F=[(0,sl L x0 p0),(1,.int .i64 s1.1),(5,.int .i64 s1.2)]) a0 ⟨(Ext.refl _),hS,rfl⟩ ?_;rintro s1 F L0 _ F0 ⟨q0,z,rfl⟩ d G;unfold z1N at d;refine sq<|sq<|rg<|rr 4 ?_;refine rn<|ci d (fun d=>?_) (fun d=>?_)
    · refine sp<|sq<|bk<|sq<|sq<|rg<|rr 2 ?_;obtain⟨N0,i0,d⟩:=bS d;refine ix (hE.trans z.ext) H i0 (fun G0 y0 O d0=>?_);have r0:=z4q d0;subst r0;refine rr 2 ?_;refine l1 (At.ext (hE.trans z.ext) O) 0 ?_;refine rr 2 ?_;refine rn<|ci d (fun d=>?_) (fun d=>?_)
      · refine sq<|rg<|rr 1 ?_;refine rn<|rt ?_;cases d;cases G;have hm:some _=some _:=hm;cases hm;exact⟨_,.cons (.tmp rfl) .nil,rfl,z⟩
      · refine sp<|sq<|rg<|rr 3 ?_;refine rn<|sq<|sq<|rg<|rr 2 ?_;obtain⟨O0,j0,d⟩:=bS d;refine ix (hE.trans z.ext) H j0 (fun H0 A0 X e0=>?_);have t0:=z4q e0;subst t0;refine rr 2 ?_;refine l1 (At.ext (hE.trans z.ext) X) 1 ?_;refine rr 2 ?_;refine rn<|ci d (fun d=>?_) (fun d=>?_)
        · refine sq<|rg<|rr 1 ?_;refine rn<|rt ?_;cases d;cases G;have hm:some _=some _:=hm;cases hm;exact⟨_,.cons (.tmp rfl) .nil,rfl,z⟩
        · refine sp<|sq<|rg<|rr 3 ?_;refine rn<|sq<|sq<|rg<|rr 2 ?_;obtain⟨P0,k0,d⟩:=bS d;refine ix (hE.trans z.ext) H k0 (fun J0 B0 Y f0=>?_);have u0:=z4q f0;subst u0;refine rr 2 ?_;refine l1 (At.ext (hE.trans z.ext) Y) 2 ?_;refine rr 2 ?_;refine rn<|ci d (fun d=>?_) (fun d=>?_)
          · refine sq<|rg<|rr 1 ?_;refine rn<|rt ?_;cases d;cases G;have hm:some _=some _:=hm;cases hm;exact⟨_,.cons (.tmp rfl) .nil,rfl,z⟩
          · refine sp<|sq<|rg<|rr 3 ?_;refine rn<|sq<|sq<|rg<|rr 2 ?_;obtain⟨Q0,o0,d⟩:=bS d;refine ix (hE.trans z.ext) H o0 (fun K0 C0 Z g0=>?_);have v0:=z4q g0;subst v0;refine rr 2 ?_;refine l1 (At.ext (hE.trans z.ext) Z) 3 ?_;refine rr 2 ?_;refine rn<|ci d (fun d=>?_) (fun d=>?_)
            · refine sq<|rg<|rr 1 ?_;refine rn<|rt ?_;cases d;cases G;have hm:some _=some _:=hm;cases hm;exact⟨_,.cons (.tmp rfl) .nil,rfl,z⟩
            · refine sp<|rg<|rr 3 ?_;refine rn<|rg<|rr 3 ?_;refine rn ?_;cases d;exact⟨_,_,rfl,⟨q0,z,rfl⟩,rfl⟩
    · refine xt ?_;cases d;exact⟨_,_,⟨G,q0,z,rfl⟩,rfl⟩

theorem zdv:Enters Tryz.prog 65:=⟨_,_,Tryz.func65,rfl,by kernel_rfl⟩
def z54 (fuel:Nat) (t2:Int):Option Int:=some t2
def z16 (fuel:Nat) (x0:(List D.Worker)) (s1:Int × Int):Option (Rd (Int × Int) (Int) (Int)):=(if(decide (s1.2<(x0.length:Int)))=true then((idx x0 s1.2).bind fun H=>(if(H.Phase != s1.1)=true then some (.ret (-1)) else((idx x0 s1.2).bind fun L=>(if(L.Victim != (w64 (s1.1+1)))=true then some (.ret (-1)) else((idx x0 s1.2).bind fun M=>((z1X fuel M.Redexes (w64 ((w64 (s1.1+1))+1))).bind fun z=>(if(decide (z<0))=true then some (.ret (-1)) else((idx x0 s1.2).bind fun O=>((z39 fuel O.Links z).bind fun G=>(if(decide (G<0))=true then some (.ret (-1)) else((idx x0 s1.2).bind fun X=>((z1z fuel X.Counts G).bind fun d=>(if(decide (d<0))=true then some (.ret (-1)) else some (.next (d,w64 (s1.2+1)))))))))))))))) else some (.brk s1.1))
def z2g (fuel:Nat) (x0:(List D.Worker)) (x1:Int):Option (Int):=((iter (z16 fuel x0) fuel (x1,0)).bind fun o=>aft o (z54 fuel))

theorem laws_heldWorkerS_ok {W w:World}(hE:Ext W w){f0:Option Addr}{L0:Nat}{x0:(List D.Worker)}{x1:Int}(X:ty51.ro W [sl f0 x0 L0] x0){fuel:Nat}{r:Int}(hm:z2g fuel x0 x1=some r):
    Calls Tryz.prog 65 ⟨[sl f0 x0 L0,.int .i64 x1]⟩ w (Ret fun v w8=>v=.int .i64 r∧St w w8 []):=by
  refine into Tryz.func65 58 _ ?_;unfold z2g at hm;have hS:=St.start w;refine sq<|rg<|rr 1 ?_;refine rn<|sq<|sq<|rg<|rr 1 ?_;refine rn ?_;obtain⟨m1,u0,hm⟩:=bS hm;refine ct (fun(t2:Int) F w9=>m1=.inl t2∧Ext w w9∧St w w9 []∧F=[(1,.int .i64 t2)]) ?_ ?_
  · rintro t2 F w7 ⟨v0,V1,o0,rfl⟩;subst v0;rw [z6] at hm;unfold z54 at hm;refine sq<|rg<|rr 2 ?_;refine rn<|rt ?_;cases hm;exact⟨_,.cons (.tmp rfl) .nil,rfl,o0⟩
  · refine bk<|wk [0,1,5] ?_;refine it (fun(s1:Int × Int) F w9=>Ext w w9∧St w w9 []∧F=[(0,sl f0 x0 L0),(1,.int .i64 s1.1),(5,.int .i64 s1.2)]) u0 ⟨(Ext.refl _),hS,rfl⟩ ?_;rintro s1 F C2 _ o2 ⟨O0,z,rfl⟩ d G;unfold z16 at d;refine sq<|sq<|rg<|rr 4 ?_;refine rn<|ci d (fun d=>?_) (fun d=>?_)
    · refine sp<|sq<|bk<|sq<|sq<|rg<|rr 2 ?_;obtain⟨F2,D0,d⟩:=bS d;refine ix (hE.trans z.ext) X D0 (fun p2 W0 p0 y0=>?_);obtain⟨v1,W1,y1,X1,A1,Y1,S0,L1,M1,N1⟩:=z3O y0;subst S0;refine rr 1 ?_;refine l1 (At.ext (hE.trans z.ext) p0) 0 ?_;refine rr 2 ?_;refine rn<|ci d (fun d=>?_) (fun d=>?_)
      · refine sq<|rg<|rr 1 ?_;refine rn<|rt ?_;cases d;cases G;have hm:some _=some _:=hm;cases hm;exact⟨_,.cons (.tmp rfl) .nil,rfl,z⟩
      · refine sp<|sq<|rg<|rr 3 ?_;refine rn<|sq<|sq<|rg<|rr 2 ?_;obtain⟨G2,E0,d⟩:=bS d;refine ix (hE.trans z.ext) X E0 (fun q2 X0 q0 A0=>?_);obtain⟨B1,a2,C1,d2,D1,e2,T0,O1,P1,Q1⟩:=z3O A0;subst T0;refine rr 1 ?_;refine l1 (At.ext (hE.trans z.ext) q0) 1 ?_;refine rr 2 ?_;refine rn<|ci d (fun d=>?_) (fun d=>?_)
        · refine sq<|rg<|rr 1 ?_;refine rn<|rt ?_;cases d;cases G;have hm:some _=some _:=hm;cases hm;exact⟨_,.cons (.tmp rfl) .nil,rfl,z⟩
        · refine sp<|sq<|rg<|rr 3 ?_;refine rn<|sq<|rg<|rr 2 ?_;obtain⟨H2,F0,d⟩:=bS d;refine ix (hE.trans z.ext) X F0 (fun r2 Y0 r0 B0=>?_);obtain⟨E1,f2,F1,g2,G1,i2,U0,f1,R1,S1⟩:=z3O B0;subst U0;refine rr 1 ?_;refine l1 (At.ext (hE.trans z.ext) r0) 2 ?_;refine rr 1 ?_;obtain⟨v2,G0,d⟩:=bS d;refine ca zaY (laws_heldPairS_ok (hE.trans z.ext) f1 G0) (fun A2 D2 j0=>?_);obtain⟨rfl,Z⟩:=j0;have H:=z.join Z;refine rr 1 ?_;refine rn<|sq<|sq<|rg<|rr 2 ?_;refine rn<|ci d (fun d=>?_) (fun d=>?_)
          · refine sq<|rg<|rr 1 ?_;refine rn<|rt ?_;cases d;cases G;have hm:some _=some _:=hm;cases hm;exact⟨_,.cons (.tmp rfl) .nil,rfl,H⟩
          · refine sp<|sq<|rg<|rr 2 ?_;obtain⟨J2,H0,d⟩:=bS d;refine ix (hE.trans H.ext) X H0 (fun u2 a1 t0 C0=>?_);obtain⟨H1,j2,J1,m2,K1,n2,V0,T1,g1,U1⟩:=z3O C0;subst V0;refine rr 1 ?_;refine l1 (At.ext (hE.trans H.ext) t0) 3 ?_;refine rr 1 ?_;obtain⟨y2,J0,d⟩:=bS d;refine ca zcM (laws_heldLinkS_ok (hE.trans H.ext) g1 J0) (fun B2 E2 k0=>?_);obtain⟨rfl,a0⟩:=k0;have L:=H.join a0;refine rr 1 ?_;refine rn<|sq<|sq<|rg<|rr 2 ?_;refine rn<|ci d (fun d=>?_) (fun d=>?_)
            · refine sq<|rg<|rr 1 ?_;refine rn<|rt ?_;cases d;cases G;have hm:some _=some _:=hm;cases hm;exact⟨_,.cons (.tmp rfl) .nil,rfl,L⟩
            · refine sp<|sq<|rg<|rr 2 ?_;obtain⟨K2,K0,d⟩:=bS d;refine ix (hE.trans L.ext) X K0 (fun n1 N0 b0 d0=>?_);obtain⟨P0,i1,Q0,j1,R0,k1,g0,d1,e1,i0⟩:=z3O d0;subst g0;refine rr 1 ?_;refine l1 (At.ext (hE.trans L.ext) b0) 4 ?_;refine rr 1 ?_;obtain⟨p1,e0,d⟩:=bS d;refine ca zaT (laws_heldInt64S_ok (hE.trans L.ext) i0 e0) (fun t1 u1 Y=>?_);obtain⟨rfl,M⟩:=Y;have O:=L.join M;refine rr 1 ?_;refine rn<|sq<|rg<|rr 2 ?_;refine rn<|ci d (fun d=>?_) (fun d=>?_)
              · refine sq<|rg<|rr 1 ?_;refine rn<|rt ?_;cases d;cases G;have hm:some _=some _:=hm;cases hm;exact⟨_,.cons (.tmp rfl) .nil,rfl,O⟩
              · refine sp<|rg<|rr 3 ?_;refine rn ?_;cases d;exact⟨_,_,rfl,⟨(((O0.trans Z.ext).trans a0.ext).trans M.ext),O,rfl⟩,rfl⟩
    · refine xt ?_;cases d;exact⟨_,_,⟨G,O0,z,rfl⟩,rfl⟩

theorem zb2:Enters Tryz.prog 25:=⟨_,_,Tryz.func25,rfl,by kernel_rfl⟩
def z2K (fuel:Nat) (x0:D.Pool) (x1:Int):Option (Int):=((z3S fuel x0.Memory x1).bind fun d=>(if(decide (d<0))=true then some (-1) else((z2g fuel x0.Workers d).bind fun z=>(if(decide (z<0))=true then some (-1) else some z))))

theorem laws_heldPool_ok {W w:World}(hE:Ext W w){Z:List Value}{x0:D.Pool}{x1:Int}(b0:ty53.ro W Z x0){fuel:Nat}{r:Int}(hm:z2K fuel x0 x1=some r):
    Calls Tryz.prog 25 ⟨[.agg ⟨Z⟩,.int .i64 x1]⟩ w (Ret fun v w8=>v=.int .i64 r∧St w w8 []):=by
  obtain⟨A1,k2,A4,k5,A7,g0,a0,h3,h6,d0⟩:=z7Q b0;subst a0;refine into Tryz.func25 18 _ ?_;unfold z2K at hm;have hS:=St.start w;refine sq<|rg<|nw hS (fun f0 p0 e0 z=>?_);refine rr 1 ?_;refine rn<|sq<|rg<|rr 1 ?_;refine lN (At.sub ((z.bring 0 rfl).box) 0 5) ?_;refine rr 1 ?_;obtain⟨i0,X,hm⟩:=bS hm;refine ca zdP (laws_heldMemory_ok (hE.trans z.ext) (z6V x0.Memory h3 h6) X) (fun k0 q0 H=>?_);obtain⟨rfl,L⟩:=H;have d:=z.join L;refine rr 1 ?_;refine rn<|sq<|sq<|rg<|rr 2 ?_;refine rn<|ci hm (fun hm=>?_) (fun hm=>?_)
  · refine sq<|rg<|rr 1 ?_;refine rn<|rt ?_;cases hm;exact⟨_,.cons (.tmp rfl) .nil,rfl,(d.taken 0)⟩
  · refine sp<|sq<|rg<|rr 1 ?_;refine l1 ((d.bring 0 rfl).box) 5 ?_;refine rr 1 ?_;obtain⟨j0,Y,hm⟩:=bS hm;refine ca zdv (laws_heldWorkerS_ok (hE.trans d.ext) d0 Y) (fun o0 r0 M=>?_);obtain⟨rfl,O⟩:=M;have G:=d.join O;refine rr 1 ?_;refine rn<|sq<|sq<|rg<|rr 2 ?_;refine rn<|ci hm (fun hm=>?_) (fun hm=>?_)
    · refine sq<|rg<|rr 1 ?_;refine rn<|rt ?_;cases hm;exact⟨_,.cons (.tmp rfl) .nil,rfl,(G.taken 0)⟩
    · refine sp<|sq<|rg<|rr 2 ?_;refine rn<|rt ?_;cases hm;exact⟨_,.cons (.tmp rfl) .nil,rfl,(G.taken 0)⟩

def zE (fuel:Nat) (G:D.Pool × Int) (d:Int × (List D.Cell) × (List D.Pair) × (List D.Worker)) (H:Bool):Option Bool:=(if H=true then some false else((z2K fuel (⟨(⟨d.2.1,G.1.Memory.Free,(⟨G.1.Memory.Root.Tag,G.1.Memory.Root.At⟩:D.Word),d.2.2.1⟩:D.Memory),d.2.2.2,G.1.Active⟩:D.Pool) 1).bind fun z=>(if(decide (z<0))=true then some false else(if(z != d.1)=true then some false else some true))))
def zt (fuel:Nat) (x0:D.Net) (x1:Int) (x2:Int) (X:D.Pool × Int) (z:D.Pool × Int) (O:Bool):Option Bool:=(if O=true then some false else((z3G fuel z.1 1).bind fun d=>((z2K fuel (⟨(⟨d.2.1,z.1.Memory.Free,(⟨z.1.Memory.Root.Tag,z.1.Memory.Root.At⟩:D.Word),d.2.2.1⟩:D.Memory),d.2.2.2,z.1.Active⟩:D.Pool) 1).bind fun G=>(if(decide (G<0))=true then some false else(if(G != d.1)=true then some false else((z2O fuel x0).bind fun L=>((z3j fuel L x1 x2).bind fun H=>((z2Y fuel H.1 X.1).bind fun M=>(if(!M)=true then zE fuel z d true else zE fuel z d (H.2 != X.2))))))))))
def zF (fuel:Nat) (x0:D.Net) (x1:Int) (x2:Int) (d:D.Pool × Int) (M:D.Net) (z:D.Pool × Int) (X:Bool):Option Bool:=(if X=true then some false else((z2O fuel x0).bind fun O=>((z55 fuel M O).bind fun G=>(if(!G)=true then some false else((z4a fuel M 1).bind fun H=>(if(decide (H.1<0))=true then zt fuel x0 x1 x2 d z true else((z2Y fuel z.1 d.1).bind fun L=>(if(!L)=true then zt fuel x0 x1 x2 d z true else zt fuel x0 x1 x2 d z (z.2 != d.2)))))))))
def z2i (fuel:Nat) (x0:D.Net) (x1:Int) (x2:Int):Option (Bool):=((z52 fuel x0 1048576).bind fun L=>(if(decide (L<0))=true then some true else((z2O fuel x0).bind fun M=>((z44 fuel M x1 x2).bind fun d=>((z2O fuel x0).bind fun H=>((z3j fuel H x1 x2).bind fun z=>((z2Y fuel z.1 d.1).bind fun G=>(if(!G)=true then zF fuel x0 x1 x2 d H z true else zF fuel x0 x1 x2 d H z (z.2 != d.2)))))))))

theorem laws_FnExactNewPool_ok {W w:World}(hE:Ext W w){J2:List Value}{x0:D.Net}{x1:Int}{x2:Int}(O0:ty49.ro W J2 x0){fuel:Nat}{r:Bool}(hm:z2i fuel x0 x1 x2=some r):
    Calls Tryz.prog 5 ⟨[.agg ⟨J2⟩,.int .i64 x1,.int .i64 x2]⟩ w (Ret fun v w8=>v=.bool r∧St w w8 []):=by
  obtain⟨A1,k2,e4,h3⟩:=z7R O0;subst e4;refine into Tryz.func5 106 _ ?_;unfold z2i at hm;have hS:=St.start w;refine sq<|rg<|nw hS (fun g5 w6 e7 F0=>?_);refine rr 1 ?_;refine rn<|sq<|rg<|rr 1 ?_;refine rn<|sq<|rg<|lN ((F0.bring 0 rfl).box) ?_;refine rr 1 ?_;obtain⟨T3,u2,hm⟩:=bS hm;refine ca zdM (laws_szNet_ok (hE.trans F0.ext) O0 u2) (fun U3 b4 T1=>?_);obtain⟨rfl,U1⟩:=T1;have u0:=F0.join U1;refine rr 1 ?_;refine rn<|sq<|sq<|rg<|rr 2 ?_;refine rn<|ci hm (fun hm=>?_) (fun hm=>?_)
  · refine sq<|rg<|rr 1 ?_;refine rn<|rt ?_;cases hm;exact⟨_,.cons (.tmp rfl) .nil,rfl,(u0.taken 0)⟩
  · refine sp<|sq<|rg<|lN ((u0.bring 0 rfl).box) ?_;obtain⟨e3,v2,hm⟩:=bS hm;refine ca z7M (laws_toNet_ok (hE.trans u0.ext) O0 v2) (fun V3 c4 V1=>?_);obtain⟨M3,R3,rfl,W1⟩:=V1;have u1:=u0.join W1;refine rr 2 ?_;obtain⟨H,y2,hm⟩:=bS hm;refine ca zdL (z7Z (Ext.refl _) (z5h e3 ((u1.bring 0 rfl).own)) y2) (fun W3 d4 X1=>?_);obtain⟨M1,Q1,N1,R1,O1,S1,rfl,Y1⟩:=X1;have i2:=u1.join Y1;refine rr 3 ?_;refine nw i2 (fun P1 f4 O3 j2=>?_);have m2:=j2.bring 0 rfl;refine so (A:=[]) m2 0 (fun g4 G0=>?_);refine rr 1 ?_;refine rn<|sq<|rg<|lN ((G0.bring 5 rfl).box) ?_;obtain⟨P0,A2,hm⟩:=bS hm;refine ca z7M (laws_toNet_ok (hE.trans G0.ext) O0 A2) (fun X3 i4 a2=>?_);obtain⟨H2,N2,rfl,d2⟩:=a2;have n2:=G0.join d2;refine nw n2 (fun K2 j4 P3 o2=>?_);have p2:=o2.bring 0 rfl;refine so (A:=[]) p2 0 (fun k4 H0=>?_);refine rn<|sq<|rg<|lN ((H0.bring 0 rfl).box) ?_;refine rr 2 ?_;obtain⟨d,B2,hm⟩:=bS hm;refine ca zb3 (z6v (Ext.refl _) (z5h P0 ((H0.bring 1 rfl).own)) B2) (fun Y3 m4 e2=>?_);obtain⟨Z,d0,a0,e0,b0,f0,rfl,f2⟩:=e2;have q2:=H0.join f2;refine rr 3 ?_;refine nw q2 (fun N0 n4 Q3 r2=>?_);have t2:=r2.bring 0 rfl;refine so (A:=[]) t2 0 (fun L3 O=>?_);refine rr 1 ?_;refine rn<|sq<|sq<|ct (fun(E2:Bool) F w9=>zF fuel x0 x1 x2 H P0 d E2=some r∧Ext L3 w9∧St w w9 [Box N0 [sl Z d.1.Memory.Cells d0,.int .i64 d.1.Memory.Free,.int .i64 d.1.Memory.Root.Tag,.int .i64 d.1.Memory.Root.At,sl a0 d.1.Memory.Redexes e0,sl b0 d.1.Workers f0,.int .i64 d.1.Active] 53,ow ty29 Z d.1.Memory.Cells d0,ow ty31 a0 d.1.Memory.Redexes e0,ow ty51 b0 d.1.Workers f0,Box K2 [sl H2 P0.Agents N2] 42,ow ty40 H2 P0.Agents N2,Box P1 [sl M1 H.1.Memory.Cells Q1,.int .i64 H.1.Memory.Free,.int .i64 H.1.Memory.Root.Tag,.int .i64 H.1.Memory.Root.At,sl N1 H.1.Memory.Redexes R1,sl O1 H.1.Workers S1,.int .i64 H.1.Active] 53,ow ty29 M1 H.1.Memory.Cells Q1,ow ty31 N1 H.1.Memory.Redexes R1,ow ty51 O1 H.1.Workers S1,Box g5 [sl A1 x0.Agents k2] 49]∧F=[(1,.int .i64 x1),(2,.int .i64 x2),(3,.pointer (some ⟨g5,0,none⟩)),(8,.pointer (some ⟨P1,0,none⟩)),(9,.int .i64 H.2),(10,.pointer (some ⟨K2,0,none⟩)),(11,.pointer (some ⟨N0,0,none⟩)),(12,.int .i64 d.2),(48,.bool E2)]) ?_ ?_
    · rintro E2 F o4 ⟨hm,U2,t0,rfl⟩;unfold zF at hm;refine ci hm (fun hm=>?_) (fun hm=>?_)
      · refine sq<|rg<|rr 1 ?_;refine rn<|rt ?_;cases hm;exact⟨_,.cons (.tmp rfl) .nil,rfl,(t0.taken 0)⟩
      · refine sp<|sq<|sq<|dn 0 mixed 5 [([],31),([],31),([1],29),([0,2,2],26),([3],23)] t0.ext (fun Y=>?_);have v1:=t0.step (Ext.draw _);refine dL Y 0 ((t0.bring 4 rfl).box) ?_;refine dL Y 1 ((t0.bring 10 rfl).box) ?_;obtain⟨j3,C2,hm⟩:=bS hm;refine o1 Y 2 (mc Y z7M (laws_toNet_ok (hE.trans v1.ext) O0 C2) (fun a4 p4 g2=>?_));obtain⟨N3,S3,rfl,i1⟩:=g2;refine⟨i1.ext,?_⟩;have J0:=v1.join i1;obtain⟨a3,y1,hm⟩:=bS hm;refine o1 Y 3 (mc Y zdO (laws_eqNet_ok (Ext.refl _) (z5h P0 ((J0.bring 6 rfl).own)) (z5h j3 ((J0.bring 0 rfl).own)) y1) (fun k3 v3 Q0=>?_));obtain⟨rfl,v0⟩:=Q0;refine⟨v0.ext,?_⟩;have o0:=J0.join v0;refine dr 0 Y [4] ?_;refine dd Y ?_;refine ci hm (fun hm=>?_) (fun hm=>?_)
        · refine sq<|rg<|rr 1 ?_;refine rn<|rt ?_;cases hm;exact⟨_,.cons (.tmp rfl) .nil,rfl,(o0.taken 0)⟩
        · refine sp<|sq<|rg<|rr 1 ?_;refine rn<|sq<|rg<|lN ((o0.bring 5 rfl).box) ?_;refine rr 1 ?_;obtain⟨b3,B1,hm⟩:=bS hm;refine ca zdN (laws_markNet_ok (W:=w) (RR:=_) (x0:=P0) (x1:=1) (o0.bring 6 rfl)  B1) (fun m3 F2 R0=>?_);obtain⟨rfl,G⟩:=R0;refine rr 1 ?_;refine rn<|sq<|sq<|ct (fun(K0:Bool) F w9=>zt fuel x0 x1 x2 H d K0=some r∧Ext F2 w9∧St w w9 [Box N0 [sl Z d.1.Memory.Cells d0,.int .i64 d.1.Memory.Free,.int .i64 d.1.Memory.Root.Tag,.int .i64 d.1.Memory.Root.At,sl a0 d.1.Memory.Redexes e0,sl b0 d.1.Workers f0,.int .i64 d.1.Active] 53,ow ty29 Z d.1.Memory.Cells d0,ow ty31 a0 d.1.Memory.Redexes e0,ow ty51 b0 d.1.Workers f0,Box P1 [sl M1 H.1.Memory.Cells Q1,.int .i64 H.1.Memory.Free,.int .i64 H.1.Memory.Root.Tag,.int .i64 H.1.Memory.Root.At,sl N1 H.1.Memory.Redexes R1,sl O1 H.1.Workers S1,.int .i64 H.1.Active] 53,ow ty29 M1 H.1.Memory.Cells Q1,ow ty31 N1 H.1.Memory.Redexes R1,ow ty51 O1 H.1.Workers S1,Box g5 [sl A1 x0.Agents k2] 49]∧F=[(1,.int .i64 x1),(2,.int .i64 x2),(3,.pointer (some ⟨g5,0,none⟩)),(8,.pointer (some ⟨P1,0,none⟩)),(9,.int .i64 H.2),(11,.pointer (some ⟨N0,0,none⟩)),(69,.bool K0)]) ?_ ?_
          · rintro K0 F y3 ⟨hm,L2,p0,rfl⟩;unfold zt at hm;refine ci hm (fun hm=>?_) (fun hm=>?_)
            · refine sq<|rg<|rr 1 ?_;refine rn<|rt ?_;cases hm;exact⟨_,.cons (.tmp rfl) .nil,rfl,(p0.taken 0)⟩
            · refine sp<|sq<|rg<|rr 1 ?_;refine rn<|sq<|rg<|lN ((p0.bring 0 rfl).box) ?_;refine rr 1 ?_;obtain⟨z,C1,hm⟩:=bS hm;refine ca zdK (laws_markPool_ok (W:=w) (RR:=_) (x0:=d.1) (x1:=1) (((p0.bring 3 rfl).bring 3 rfl).bring 3 rfl)  C1) (fun n3 A3 S0=>?_);obtain⟨rfl,q0⟩:=S0;refine rr 1 ?_;refine rn<|sq<|rg<|rr 1 ?_;refine rn<|sq<|rg<|lN ((q0.bring 3 rfl).box) ?_;refine rr 1 ?_;have hn124:=(q0.bring 0 rfl).lenEq;have j1:=(q0.bring 0 rfl).reLen hn124;have y0:=(j1.bring 3 rfl).reBox (cs':=[.slice Z z.2.1.length d0,.int .i64 d.1.Memory.Free,.int .i64 d.1.Memory.Root.Tag,.int .i64 d.1.Memory.Root.At,.slice a0 d.1.Memory.Redexes.length e0,.slice b0 d.1.Workers.length f0,.int .i64 d.1.Active]) (by show([.slice Z d.1.Memory.Cells.length d0,.int .i64 d.1.Memory.Free,.int .i64 d.1.Memory.Root.Tag,.int .i64 d.1.Memory.Root.At,.slice a0 d.1.Memory.Redexes.length e0,.slice b0 d.1.Workers.length f0,.int .i64 d.1.Active]:List Value)=[.slice Z z.2.1.length d0,.int .i64 d.1.Memory.Free,.int .i64 d.1.Memory.Root.Tag,.int .i64 d.1.Memory.Root.At,.slice a0 d.1.Memory.Redexes.length e0,.slice b0 d.1.Workers.length f0,.int .i64 d.1.Active];first | (simp only [sl,hn124];done) | (simp only [sl,hn124];rfl));have hn127:=(y0.bring 2 rfl).lenEq;have k1:=(y0.bring 2 rfl).reLen hn127;have A0:=(k1.bring 1 rfl).reBox (cs':=[.slice Z z.2.1.length d0,.int .i64 d.1.Memory.Free,.int .i64 d.1.Memory.Root.Tag,.int .i64 d.1.Memory.Root.At,.slice a0 z.2.2.1.length e0,.slice b0 d.1.Workers.length f0,.int .i64 d.1.Active]) (by show([.slice Z z.2.1.length d0,.int .i64 d.1.Memory.Free,.int .i64 d.1.Memory.Root.Tag,.int .i64 d.1.Memory.Root.At,.slice a0 d.1.Memory.Redexes.length e0,.slice b0 d.1.Workers.length f0,.int .i64 d.1.Active]:List Value)=[.slice Z z.2.1.length d0,.int .i64 d.1.Memory.Free,.int .i64 d.1.Memory.Root.Tag,.int .i64 d.1.Memory.Root.At,.slice a0 z.2.2.1.length e0,.slice b0 d.1.Workers.length f0,.int .i64 d.1.Active];first | (simp only [sl,hn127];done) | (simp only [sl,hn127];rfl));have hn130:=(A0.bring 3 rfl).lenEq;have m1:=(A0.bring 3 rfl).reLen hn130;have g0:=(m1.bring 1 rfl).reBox (cs':=[.slice Z z.2.1.length d0,.int .i64 d.1.Memory.Free,.int .i64 d.1.Memory.Root.Tag,.int .i64 d.1.Memory.Root.At,.slice a0 z.2.2.1.length e0,.slice b0 z.2.2.2.length f0,.int .i64 d.1.Active]) (by show([.slice Z z.2.1.length d0,.int .i64 d.1.Memory.Free,.int .i64 d.1.Memory.Root.Tag,.int .i64 d.1.Memory.Root.At,.slice a0 z.2.2.1.length e0,.slice b0 d.1.Workers.length f0,.int .i64 d.1.Active]:List Value)=[.slice Z z.2.1.length d0,.int .i64 d.1.Memory.Free,.int .i64 d.1.Memory.Root.Tag,.int .i64 d.1.Memory.Root.At,.slice a0 z.2.2.1.length e0,.slice b0 z.2.2.2.length f0,.int .i64 d.1.Active];first | (simp only [sl,hn130];done) | (simp only [sl,hn130];rfl));refine kn (u:=.agg ⟨[.slice Z z.2.1.length d0,.int .i64 d.1.Memory.Free,.int .i64 d.1.Memory.Root.Tag,.int .i64 d.1.Memory.Root.At,.slice a0 z.2.2.1.length e0,.slice b0 z.2.2.2.length f0,.int .i64 d.1.Active]⟩) 73 rfl (by simp only [sl,hn124,hn127,hn130]) ?_;obtain⟨c3,D1,hm⟩:=bS hm;refine ca zb2 (laws_heldPool_ok (Ext.refl _) (z50 (⟨(⟨z.2.1,d.1.Memory.Free,(⟨d.1.Memory.Root.Tag,d.1.Memory.Root.At⟩:D.Word),z.2.2.1⟩:D.Memory),z.2.2.2,d.1.Active⟩:D.Pool) ((g0.bring 3 rfl).own) ((g0.bring 2 rfl).own) ((g0.bring 1 rfl).own)) D1) (fun o3 B3 T0=>?_);obtain⟨rfl,U0⟩:=T0;have X:=g0.join U0;refine rr 1 ?_;refine rn<|sq<|sq<|rg<|rr 2 ?_;refine rn<|ci hm (fun hm=>?_) (fun hm=>?_)
              · refine sq<|rg<|rr 1 ?_;refine rn<|rt ?_;cases hm;exact⟨_,.cons (.tmp rfl) .nil,rfl,(X.taken 0)⟩
              · refine sp<|sq<|sq<|rg<|rr 3 ?_;refine rn<|ci hm (fun hm=>?_) (fun hm=>?_)
                · refine sq<|rg<|rr 1 ?_;refine rn<|rt ?_;cases hm;exact⟨_,.cons (.tmp rfl) .nil,rfl,(X.taken 0)⟩
                · refine sp<|sq<|rg<|lN ((X.bring 8 rfl).box) ?_;obtain⟨D2,E1,hm⟩:=bS hm;refine ca z7M (laws_toNet_ok (hE.trans X.ext) O0 E1) (fun p3 C3 V0=>?_);obtain⟨O2,V2,rfl,W0⟩:=V0;have B0:=X.join W0;refine rr 2 ?_;obtain⟨L1,F1,hm⟩:=bS hm;refine ca zb3 (z6v (Ext.refl _) (z5h D2 ((B0.bring 0 rfl).own)) F1) (fun q3 D3 X0=>?_);obtain⟨P2,W2,Q2,X2,R2,Y2,rfl,Y0⟩:=X0;have n1:=B0.join Y0;refine rr 3 ?_;refine nw n1 (fun T2 E3 S2 p1=>?_);have t1:=p1.bring 0 rfl;refine so (A:=[]) t1 0 (fun G2 L=>?_);refine rr 1 ?_;refine rn<|sq<|sq<|ct (fun(L0:Bool) F w9=>zE fuel d z L0=some r∧Ext G2 w9∧St w w9 [Box N0 [sl Z z.2.1 d0,.int .i64 d.1.Memory.Free,.int .i64 d.1.Memory.Root.Tag,.int .i64 d.1.Memory.Root.At,sl a0 z.2.2.1 e0,sl b0 z.2.2.2 f0,.int .i64 d.1.Active] 53,ow ty51 b0 z.2.2.2 f0,ow ty31 a0 z.2.2.1 e0,ow ty29 Z z.2.1 d0]∧F=[(11,.pointer (some ⟨N0,0,none⟩)),(14,.int .i64 z.1),(97,.bool L0)]) ?_ ?_
                  · rintro L0 F F3 ⟨hm,M2,M,rfl⟩;unfold zE at hm;refine ci hm (fun hm=>?_) (fun hm=>?_)
                    · refine sq<|rg<|rr 1 ?_;refine rn<|rt ?_;cases hm;exact⟨_,.cons (.tmp rfl) .nil,rfl,(M.taken 0)⟩
                    · refine sp<|sq<|rg<|rr 1 ?_;refine rn<|sq<|rg<|lN ((M.bring 0 rfl).box) ?_;refine rr 1 ?_;obtain⟨d3,G1,hm⟩:=bS hm;refine ca zb2 (laws_heldPool_ok (Ext.refl _) (z50 (⟨(⟨z.2.1,d.1.Memory.Free,(⟨d.1.Memory.Root.Tag,d.1.Memory.Root.At⟩:D.Word),z.2.2.1⟩:D.Memory),z.2.2.2,d.1.Active⟩:D.Pool) ((M.bring 3 rfl).own) ((M.bring 2 rfl).own) ((M.bring 1 rfl).own)) G1) (fun r3 G3 a1=>?_);obtain⟨rfl,d1⟩:=a1;have r0:=M.join d1;refine rr 1 ?_;refine rn<|sq<|sq<|rg<|rr 2 ?_;refine rn<|ci hm (fun hm=>?_) (fun hm=>?_)
                      · refine sq<|rg<|rr 1 ?_;refine rn<|rt ?_;cases hm;exact⟨_,.cons (.tmp rfl) .nil,rfl,(r0.taken 0)⟩
                      · refine sp<|sq<|sq<|rg<|rr 3 ?_;refine rn<|ci hm (fun hm=>?_) (fun hm=>?_)
                        · refine sq<|rg<|rr 1 ?_;refine rn<|rt ?_;cases hm;exact⟨_,.cons (.tmp rfl) .nil,rfl,(r0.taken 0)⟩
                        · refine sp<|sq<|rg<|rr 1 ?_;refine rn<|rt ?_;cases hm;exact⟨_,.cons (.tmp rfl) .nil,rfl,(r0.taken 0)⟩
                  · refine rg<|lN ((L.bring 0 rfl).box) ?_;refine lN ((L.bring 9 rfl).box) ?_;obtain⟨f3,H1,hm⟩:=bS hm;refine ca z9i (laws_eqPool_ok (Ext.refl _) (z50 L1.1 ((L.bring 1 rfl).own) ((L.bring 2 rfl).own) ((L.bring 3 rfl).own)) (z50 H.1 ((L.bring 10 rfl).own) ((L.bring 11 rfl).own) ((L.bring 12 rfl).own)) H1) (fun s3 H3 e1=>?_);obtain⟨rfl,i0⟩:=e1;have C0:=L.join i0;refine rr 2 ?_;refine rb 93 hm (fun hm=>?_) (fun hm=>?_)
                    · refine rr 4 ?_;refine rn ?_;exact⟨true,_,⟨hm,i0.ext,(C0.sel [5,6,7,8]),rfl⟩,rfl⟩
                    · refine rr 4 ?_;refine rn ?_;exact⟨(L1.2 != H.2),_,⟨hm,i0.ext,(C0.sel [5,6,7,8]),rfl⟩,rfl⟩
          · refine rg<|rr 3 ?_;refine rb 59 hm (fun hm=>?_) (fun hm=>?_)
            · refine rr 10 ?_;refine rn ?_;exact⟨true,_,⟨hm,(Ext.refl _),(G.sel [2,3,4,5,7,8,9,10,11]),rfl⟩,rfl⟩
            · refine lN ((G.bring 2 rfl).box) ?_;refine lN ((G.bring 7 rfl).box) ?_;obtain⟨g3,J1,hm⟩:=bS hm;refine ca z9i (laws_eqPool_ok (Ext.refl _) (z50 d.1 ((G.bring 3 rfl).own) ((G.bring 4 rfl).own) ((G.bring 5 rfl).own)) (z50 H.1 ((G.bring 8 rfl).own) ((G.bring 9 rfl).own) ((G.bring 10 rfl).own)) J1) (fun t3 J3 f1=>?_);obtain⟨rfl,j0⟩:=f1;have D0:=G.join j0;refine rr 3 ?_;refine rb 65 hm (fun hm=>?_) (fun hm=>?_)
              · refine rr 4 ?_;refine rn ?_;exact⟨true,_,⟨hm,j0.ext,(D0.sel [2,3,4,5,7,8,9,10,11]),rfl⟩,rfl⟩
              · refine rr 4 ?_;refine rn ?_;exact⟨(d.2 != H.2),_,⟨hm,j0.ext,(D0.sel [2,3,4,5,7,8,9,10,11]),rfl⟩,rfl⟩
    · refine rg<|lN ((O.bring 0 rfl).box) ?_;refine lN ((O.bring 6 rfl).box) ?_;obtain⟨i3,K1,hm⟩:=bS hm;refine ca z9i (laws_eqPool_ok (Ext.refl _) (z50 d.1 ((O.bring 1 rfl).own) ((O.bring 2 rfl).own) ((O.bring 3 rfl).own)) (z50 H.1 ((O.bring 7 rfl).own) ((O.bring 8 rfl).own) ((O.bring 9 rfl).own)) K1) (fun u3 K3 g1=>?_);obtain⟨rfl,k0⟩:=g1;have E0:=O.join k0;refine rr 2 ?_;refine rb 44 hm (fun hm=>?_) (fun hm=>?_)
      · refine rr 4 ?_;refine rn ?_;exact⟨true,_,⟨hm,k0.ext,(E0.sel [0,1,2,3,4,5,6,7,8,9,11]),rfl⟩,rfl⟩
      · refine rr 4 ?_;refine rn ?_;exact⟨(d.2 != H.2),_,⟨hm,k0.ext,(E0.sel [0,1,2,3,4,5,6,7,8,9,11]),rfl⟩,rfl⟩

end Go.E


namespace Go.E
open Go.RowKit Go.Proofs
set_option linter.unusedSimpArgs false
set_option linter.unusedVariables false

theorem z6b {fuel:Nat}{x:D.Word}(hf:18446744073709551616≤fuel) (hs:0≤1048576):z2h fuel x x=some true:=by
  skip
  simp [z2h,zS]

theorem zax {fuel:Nat}{x:D.Pair}(hf:18446744073709551616≤fuel) (hs:0≤1048576):z4H fuel x x=some true:=by
  skip
  simp [z4H,zS]

theorem z92 {fuel:Nat}{x:(List Int)}{l:Int}(hf:18446744073709551616≤fuel) (hw:WfL I64 x) (h0:0≤l) (h1:l≤1048576):SzOk (x.length) l (z3E fuel x l):=by
  unfold z3E
  generalize hz:w64 (l - (x.length:Int))=z
  exact SzOk.sub2 h0 h1 hw.1 (m:=0) rfl hz fun g0 g1=>SzOk.same g0

theorem z8Z {fuel:Nat}{x:(List Int)}(hf:18446744073709551616≤fuel) (hs:x.length≤1048576):z3C fuel x=some x:=by
  have hl:=hs
  unfold z3C
  refine z8o hl hf (fun _=>rfl) ?_ ?_
  · intro i y out hy d
    have hi:=(List.getElem?_eq_some_iff.1 hy).1
    have hsy:0≤1048576:=Nat.zero_le _
    simp only [z3m,zb hy,Option.bind_some,lt_t (show(i:Int)<x.length by omega),if_true]
    rw [if_pos (by simp;omega)]
    simp
  · intro out
    simp [z3m]

theorem z6c {fuel:Nat}{x:(List Int)}(hf:18446744073709551616≤fuel) (hs:x.length≤1048576):z1P fuel x x=some true:=by
  have hl:=hs
  unfold z1P
  rw [if_neg (by simp)]
  refine z4u (n:=x.length) (t:=()) (by unfold maxLen;omega) hf rfl ?_ ?_
  · intro i hi
    obtain⟨y,hy⟩:=z3Z hi
    have hsy:0≤1048576:=Nat.zero_le _
    simp [z3p,zb hy,hi,zS]
  · simp [z3p]

theorem zav {fuel:Nat}{x:D.Port}(hf:18446744073709551616≤fuel) (hs:0≤1048576):z4G fuel x x=some true:=by
  skip
  simp [z4G,zS]

theorem zaq {fuel:Nat}{x:D.Port}(hf:18446744073709551616≤fuel) (hs:0≤1048576):z4F fuel x=some x:=by
  skip
  unfold z4F
  rfl

theorem z7x {fuel:Nat}{x:(List D.Pair)}(hf:18446744073709551616≤fuel) (hs:x.length≤1048576):z3h fuel x x=some true:=by
  have hl:=hs
  unfold z3h
  rw [if_neg (by simp)]
  refine z4u (n:=x.length) (t:=()) (by unfold maxLen;omega) hf rfl ?_ ?_
  · intro i hi
    obtain⟨y,hy⟩:=z3Z hi
    have hsy:0≤1048576:=Nat.zero_le _
    simp [z3V,zb hy,hi,zS,zax hf hsy]
  · simp [z3V]

theorem z9X {fuel:Nat}{x:(List D.Word)}(hf:18446744073709551616≤fuel) (hs:x.length≤1048576):z4b fuel x x=some true:=by
  have hl:=hs
  unfold z4b
  rw [if_neg (by simp)]
  refine z4u (n:=x.length) (t:=()) (by unfold maxLen;omega) hf rfl ?_ ?_
  · intro i hi
    obtain⟨y,hy⟩:=z3Z hi
    have hsy:0≤1048576:=Nat.zero_le _
    simp [z3T,zb hy,hi,zS,z6b hf hsy]
  · simp [z3T]

theorem z9Y {fuel:Nat}{x:(List D.Port)}(hf:18446744073709551616≤fuel) (hs:x.length≤1048576):z4c fuel x x=some true:=by
  have hl:=hs
  unfold z4c
  rw [if_neg (by simp)]
  refine z4u (n:=x.length) (t:=()) (by unfold maxLen;omega) hf rfl ?_ ?_
  · intro i hi
    obtain⟨y,hy⟩:=z3Z hi
    have hsy:0≤1048576:=Nat.zero_le _
    simp [z3U,zb hy,hi,zS,zav hf hsy]
  · simp [z3U]

theorem z9B {fuel:Nat}{x:(List D.Port)}{l:Int}(hf:18446744073709551616≤fuel) (hw:WfL D.Port.wf x) (h0:0≤l) (h1:l≤1048576):SzOk (x.length) l (z48 fuel x l):=by
  unfold z48
  generalize hz:w64 (l - (x.length:Int))=z
  exact SzOk.sub2 h0 h1 hw.1 (m:=0) rfl hz fun g0 g1=>SzOk.same g0

theorem z9x {fuel:Nat}{x:(List D.Port)}(hf:18446744073709551616≤fuel) (hs:x.length≤1048576):z46 fuel x=some x:=by
  have hl:=hs
  unfold z46
  refine z8o hl hf (fun _=>rfl) ?_ ?_
  · intro i y out hy d
    have hi:=(List.getElem?_eq_some_iff.1 hy).1
    have hsy:0≤1048576:=Nat.zero_le _
    simp only [z3Q,zb hy,Option.bind_some,lt_t (show(i:Int)<x.length by omega),if_true,zaq hf hsy]
    rw [if_pos (by simp;omega)]
    simp
  · intro out
    simp [z3Q]

theorem zay {fuel:Nat}{x:D.Link}(hf:18446744073709551616≤fuel) (hs:0≤1048576):z4J fuel x x=some true:=by
  skip
  simp [z4J,zS,z6b hf (show 0≤1048576 by exact Nat.zero_le _),z6b hf (show 0≤1048576 by exact Nat.zero_le _)]

theorem zaz {fuel:Nat}{x:D.Cell}(hf:18446744073709551616≤fuel) (hs:D.Cell.sz x≤1048576):z4K fuel x x=some true:=by
  unfold D.Cell.sz at hs
  simp [z4K,zS,z6c hf (show x.Data.length≤1048576 by omega),z9X hf (show x.Words.length≤1048576 by omega)]

theorem za1 {fuel:Nat}{x:D.Agent}(hf:18446744073709551616≤fuel) (hs:D.Agent.sz x≤1048576):z4f fuel x x=some true:=by
  unfold D.Agent.sz at hs
  simp [z4f,zS,z6c hf (show x.Data.length≤1048576 by omega),z9Y hf (show x.Ports.length≤1048576 by omega)]

theorem z9C {fuel:Nat}{x:D.Agent}{l:Int}(hf:18446744073709551616≤fuel) (hw:D.Agent.wf x) (h0:0≤l) (h1:l≤1048576):SzOk (D.Agent.sz x) l (z49 fuel x l):=by
  obtain⟨w0,w1,w2,w3,w4,_⟩:=hw
  unfold z49 D.Agent.sz
  refine SzOk.bind (z92 hf w3 h0 (by omega)) rfl fun r1 g1a g1b=>?_
  refine SzOk.bind (z9B hf w4 g1a (by omega)) rfl fun r2 g2a g2b=>?_
  exact SzOk.same g2a

theorem z9y {fuel:Nat}{x:D.Agent}(hf:18446744073709551616≤fuel) (hs:D.Agent.sz x≤1048576):z47 fuel x=some x:=by
  unfold D.Agent.sz at hs
  unfold z47
  simp only [z8Z hf (show x.Data.length≤1048576 by omega),z9x hf (show x.Ports.length≤1048576 by omega),Option.bind_some]

theorem z9Z {fuel:Nat}{x:(List D.Link)}(hf:18446744073709551616≤fuel) (hs:x.length≤1048576):z4d fuel x x=some true:=by
  have hl:=hs
  unfold z4d
  rw [if_neg (by simp)]
  refine z4u (n:=x.length) (t:=()) (by unfold maxLen;omega) hf rfl ?_ ?_
  · intro i hi
    obtain⟨y,hy⟩:=z3Z hi
    have hsy:0≤1048576:=Nat.zero_le _
    simp [z3W,zb hy,hi,zS,zay hf hsy]
  · simp [z3W]

theorem za0 {fuel:Nat}{x:(List D.Cell)}(hf:18446744073709551616≤fuel) (hs:szL D.Cell.sz x≤1048576):z4e fuel x x=some true:=by
  have hl:=z66 hs
  unfold z4e
  rw [if_neg (by simp)]
  refine z4u (n:=x.length) (t:=()) (by unfold maxLen;omega) hf rfl ?_ ?_
  · intro i hi
    obtain⟨y,hy⟩:=z3Z hi
    have hsy:D.Cell.sz y≤1048576:=z65 hs (List.mem_of_getElem? hy)
    simp [z3X,zb hy,hi,zS,zaz hf hsy]
  · simp [z3X]

theorem z9g {fuel:Nat}{x:(List D.Agent)}(hf:18446744073709551616≤fuel) (hs:szL D.Agent.sz x≤1048576):z3K fuel x x=some true:=by
  have hl:=z66 hs
  unfold z3K
  rw [if_neg (by simp)]
  refine z4u (n:=x.length) (t:=()) (by unfold maxLen;omega) hf rfl ?_ ?_
  · intro i hi
    obtain⟨y,hy⟩:=z3Z hi
    have hsy:D.Agent.sz y≤1048576:=z65 hs (List.mem_of_getElem? hy)
    simp [z3q,zb hy,hi,zS,za1 hf hsy]
  · simp [z3q]

theorem z93 {fuel:Nat}{x:(List D.Agent)}{l:Int}(hf:18446744073709551616≤fuel) (hw:WfL D.Agent.wf x) (h0:0≤l) (h1:l≤1048576):SzOk (szL D.Agent.sz x) l (z3F fuel x l):=by
  unfold z3F
  generalize hz:w64 (l - (x.length:Int))=z
  refine SzOk.sub2 h0 h1 hw.1 (m:=sumL D.Agent.sz x) rfl hz fun g0 g1=>?_
  refine SzOk.loop hw.1 hf g0 (by omega) (fun _=>rfl) ?_ ?_
  · intro i y l hy h0 h1
    have hi:=(List.getElem?_eq_some_iff.1 hy).1
    have hwy:=hw.2 y (List.mem_of_getElem? hy)
    obtain⟨r,h2,h3⟩:=z9C hf hwy h0 h1
    simp only [z3o,zb hy,Option.bind_some,lt_t (show(i:Int)<x.length by omega),if_true,h2]
    by_cases hlt:r<0
    · exact .inl (by simp only [lt_t hlt,if_true])
    · exact .inr ⟨r,by simp only [lt_f hlt,if_false],h3.resolve_left hlt⟩
  · intro l
    simp [z3o]

theorem z90 {fuel:Nat}{x:(List D.Agent)}(hf:18446744073709551616≤fuel) (hs:szL D.Agent.sz x≤1048576):z3D fuel x=some x:=by
  have hl:=z66 hs
  unfold z3D
  refine z8o hl hf (fun _=>rfl) ?_ ?_
  · intro i y out hy d
    have hi:=(List.getElem?_eq_some_iff.1 hy).1
    have hsy:D.Agent.sz y≤1048576:=z65 hs (List.mem_of_getElem? hy)
    simp only [z3n,zb hy,Option.bind_some,lt_t (show(i:Int)<x.length by omega),if_true,z9y hf hsy]
    rw [if_pos (by simp;omega)]
    simp
  · intro out
    simp [z3n]

theorem z9e {fuel:Nat}{x:D.Worker}(hf:18446744073709551616≤fuel) (hs:D.Worker.sz x≤1048576):z3H fuel x x=some true:=by
  unfold D.Worker.sz at hs
  simp [z3H,zS,z7x hf (show x.Redexes.length≤1048576 by omega),z9Z hf (show x.Links.length≤1048576 by omega),z6c hf (show x.Counts.length≤1048576 by omega)]

theorem z9f {fuel:Nat}{x:D.Memory}(hf:18446744073709551616≤fuel) (hs:D.Memory.sz x≤1048576):z3J fuel x x=some true:=by
  unfold D.Memory.sz at hs
  simp [z3J,zS,za0 hf (show szL D.Cell.sz x.Cells≤1048576 by omega),z6b hf (show 0≤1048576 by exact Nat.zero_le _),z7x hf (show x.Redexes.length≤1048576 by omega)]

theorem zby {fuel:Nat}{x:D.Net}(hf:18446744073709551616≤fuel) (hs:D.Net.sz x≤1048576):z55 fuel x x=some true:=by
  unfold D.Net.sz at hs
  simp [z55,zS,z9g hf (show szL D.Agent.sz x.Agents≤1048576 by omega)]

theorem zbo {fuel:Nat}{x:D.Net}{l:Int}(hf:18446744073709551616≤fuel) (hw:D.Net.wf x) (h0:0≤l) (h1:l≤1048576):SzOk (D.Net.sz x) l (z52 fuel x l):=by
  obtain⟨w0,_⟩:=hw
  unfold z52 D.Net.sz
  refine SzOk.bind (z93 hf w0 h0 (by omega)) rfl fun r1 g1a g1b=>?_
  exact SzOk.same g1a

theorem zbn {fuel:Nat}{x:D.Net}(hf:18446744073709551616≤fuel) (hs:D.Net.sz x≤1048576):z2O fuel x=some x:=by
  unfold D.Net.sz at hs
  unfold z2O
  simp only [z90 hf (show szL D.Agent.sz x.Agents≤1048576 by omega),Option.bind_some]

theorem z8C {fuel:Nat}{x:(List D.Worker)}(hf:18446744073709551616≤fuel) (hs:szL D.Worker.sz x≤1048576):z3b fuel x x=some true:=by
  have hl:=z66 hs
  unfold z3b
  rw [if_neg (by simp)]
  refine z4u (n:=x.length) (t:=()) (by unfold maxLen;omega) hf rfl ?_ ?_
  · intro i hi
    obtain⟨y,hy⟩:=z3Z hi
    have hsy:D.Worker.sz y≤1048576:=z65 hs (List.mem_of_getElem? hy)
    simp [z2X,zb hy,hi,zS,z9e hf hsy]
  · simp [z2X]

theorem zaw {fuel:Nat}{x:D.Pool}(hf:18446744073709551616≤fuel) (hs:D.Pool.sz x≤1048576):z2Y fuel x x=some true:=by
  unfold D.Pool.sz at hs
  simp [z2Y,zS,z9f hf (show D.Memory.sz x.Memory≤1048576 by omega),z8C hf (show szL D.Worker.sz x.Workers≤1048576 by omega)]

theorem z8Q:Opens Tryz.prog 2 tInt I64:=Opens.int Tryz.underlying2 (by kernel_rfl)
theorem ze4:Opens Tryz.prog 80 ty80 (WfL I64):=Opens.sl Tryz.underlying80 (by kernel_rfl) z8Q
set_option maxRecDepth 100000 in
theorem zdi:Opens Tryz.prog 240 zbf D.Port.wf:=Opens.struct (f:=fun c:D.Port=>(c.Agent,c.Slot,())) Tryz.underlying240 (by kernel_rfl) (OpensF.cons z8Q rfl rfl (OpensF.cons z8Q rfl rfl OpensF.nil)) (fun⟨a0,a1,_⟩=>⟨⟨a0,a1⟩,rfl⟩)
theorem zdk:Opens Tryz.prog 158 z9t (WfL D.Port.wf):=Opens.sl Tryz.underlying158 (by kernel_rfl) zdi
set_option maxRecDepth 100000 in
theorem zdj:Opens Tryz.prog 160 zan D.Agent.wf:=Opens.struct (f:=fun c:D.Agent=>(c.Kind,c.Level,c.Value,c.Data,c.Ports,())) Tryz.underlying160 (by kernel_rfl) (OpensF.cons z8Q rfl rfl (OpensF.cons z8Q rfl rfl (OpensF.cons z8Q rfl rfl (OpensF.cons ze4 rfl rfl (OpensF.cons zdk rfl rfl OpensF.nil))))) (fun⟨a0,a1,a2,a3,a4,_⟩=>⟨⟨a0,a1,a2,a3,a4⟩,rfl⟩)
theorem ze6:Opens Tryz.prog 47 ty47 (WfL D.Agent.wf):=Opens.sl Tryz.underlying47 (by kernel_rfl) zdj
set_option maxRecDepth 100000 in
theorem ze5:Opens Tryz.prog 49 ty49 D.Net.wf:=Opens.struct (f:=fun c:D.Net=>(c.Agents,())) Tryz.underlying49 (by kernel_rfl) (OpensF.cons ze6 rfl rfl OpensF.nil) (fun⟨a0,_⟩=>⟨⟨a0⟩,rfl⟩)
end Go.E


