/- Models of functions and proofs that the code runs as they say (written by program). Conditions: the model gives a value. -/
import Derived.Test.YtijgffjimnbcpaaGreatFN
namespace Go.E
open Go.RowKit Go.Proofs
set_option linter.unusedVariables false
set_option linter.unusedSimpArgs false
set_option maxHeartbeats 2000000
set_option maxRecDepth 100000

theorem zcY:Enters Tryz.prog 105:=⟨_,_,Tryz.func105,rfl,by kernel_rfl⟩
def z4N (fuel:Nat) (d:Int):Option Int:=some d
def z2v (fuel:Nat) (d:Int × Int) (z:Int):Option (Rd (Int × Int) (Int) (Int)):=some (.next (z,w64 (d.2+1)))
def zT (fuel:Nat) (d:Int × Int) (z:Bool):Option (Rd (Int × Int) (Int) (Int)):=(if z=true then z2v fuel d (w64 (d.1+1)) else z2v fuel d d.1)
def z2w (fuel:Nat) (x1:Bool) (r5:(List D.Wire)) (d:Int × Int):Option (Rd (Int × Int) (Int) (Int)):=(if(decide (d.2<(r5.length:Int)))=true then((idx r5 d.2).bind fun z=>((idx r5 d.2).bind fun G=>(if(decide (G.B.Slot>0))=true then(if(decide (z.A.Slot>0))=true then zT fuel d true else(if(z.A.Agent == 0)=true then zT fuel d x1 else zT fuel d false)) else zT fuel d false))) else some (.brk d.1))
def z3g (fuel:Nat) (x0:D.Net) (x1:Bool):Option (Int):=((z2x fuel x0).bind fun r5=>((iter (z2w fuel x1 r5) fuel (0,0)).bind fun o=>aft o (z4N fuel)))

theorem z7V {W w:World}(hE:Ext W w){F0:Addr}{C0:List Value}{x0:D.Net}{x1:Bool}(D0:ty42.ro W C0 x0) (L0:At W F0 C0){fuel:Nat}{r:Int}(hm:z3g fuel x0 x1=some r):
  Calls Tryz.prog 105 ⟨[.pointer (some F0),.bool x1]⟩ w (Ret fun v w8=>v=.int .i64 r∧St w w8 []):=by
 obtain⟨A1,k2,e4,h3⟩:=zR D0;subst e4;refine into Tryz.func105 47 _ ?_;unfold z3g at hm;have hS:=St.start w;refine sq<|rg<|rr 1 ?_;refine rn<|sq<|rg<|rr 1 ?_;refine rn<|sq<|rg<|rr 1 ?_;obtain⟨r5,P0,hm⟩:=bS hm;refine ca za9 (z6d (hE.trans hS.ext) D0 L0 P0) (fun v7 a1 Y=>?_);obtain⟨L,M,rfl,Z⟩:=Y;have a0:=hS.join Z;refine rr 1 ?_;refine rn<|sq<|sq<|rg<|rr 1 ?_;refine rn ?_;obtain⟨Q0,o0,hm⟩:=bS hm;refine ct (fun(y0:Int) F w9=>Q0=.inl y0∧St w w9 []∧F=[(5,.int .i64 y0)]) ?_ ?_
 ·rintro y0 F d1 ⟨p0,b0,rfl⟩;subst p0;rw [z6] at hm;unfold z4N at hm;refine sq<|rg<|rr 2 ?_;refine rn<|rt ?_;cases hm;exact⟨_,.cons (.tmp rfl) .nil,rfl,b0⟩
 ·refine bk<|wk [1,5,6,7] ?_;refine it (fun(G:Int × Int) F w9=>St w w9 [ow z5T L r5 M]∧F=[(1,.bool x1),(5,.int .i64 G.1),(6,sl L r5 M),(7,.int .i64 G.2)]) o0 ⟨a0,rfl⟩ ?_;rintro G F e1 _ E0 ⟨H,rfl⟩ d q0;unfold z2w at d;refine sq<|sq<|rg<|rr 4 ?_;refine rn<|ci d (fun d=>?_) (fun d=>?_)
  ·refine sp<|sq<|bk<|sq<|rg<|rr 2 ?_;obtain⟨k1,u0,d⟩:=bS d;refine ix (Ext.refl _) ((H.bring 0 rfl).own) u0 (fun X0 J0 j0 r0=>?_);have G0:=z6y r0;subst G0;refine rr 1 ?_;refine lN (At.sub j0 0 2) ?_;refine nw H (fun V0 f1 T0 d0=>?_);have e0:=d0.bring 0 rfl;refine so (A:=[]) e0 0 (fun g1 O=>?_);refine rn<|sq<|rg<|rr 2 ?_;obtain⟨m1,v0,d⟩:=bS d;refine ix (Ext.refl _) ((O.bring 1 rfl).own) v0 (fun Y0 K0 k0 t0=>?_);have H0:=z6y t0;subst H0;refine rr 1 ?_;refine lN (At.sub k0 2 2) ?_;refine nw O (fun W0 i1 U0 f0=>?_);have g0:=f0.bring 0 rfl;refine so (A:=[]) g0 0 (fun R0 z=>?_);refine rn<|sq<|ct (fun(A0:Bool) F w9=>zT fuel G A0=some E0∧Ext R0 w9∧St w w9 [ow z5T L r5 M]∧F=[(1,.bool x1),(5,.int .i64 G.1),(6,sl L r5 M),(7,.int .i64 G.2),(43,.bool A0)]) ?_ ?_
   ·rintro A0 F S0 ⟨d,N0,X,rfl⟩;unfold zT at d;refine ct (fun(B0:Int) F w9=>z2v fuel G B0=some E0∧Ext S0 w9∧St w w9 [ow z5T L r5 M]∧F=[(1,.bool x1),(5,.int .i64 B0),(6,sl L r5 M),(7,.int .i64 G.2)]) ?_ ?_
    ·rintro B0 F j1 ⟨d,O0,i0,rfl⟩;unfold z2v at d;refine rg<|rr 3 ?_;refine rn ?_;cases d;exact⟨_,_,rfl,⟨i0,rfl⟩,rfl⟩
    ·refine ci d (fun d=>?_) (fun d=>?_)
     ·refine rg<|rr 3 ?_;refine rn ?_;exact⟨w64 (G.1+1),_,⟨d,(Ext.refl _),X,rfl⟩,rfl⟩
     ·refine sp ?_;exact⟨G.1,_,⟨d,(Ext.refl _),X,rfl⟩,rfl⟩
   ·refine rg<|rr 1 ?_;refine l1 ((z.bring 0 rfl).box) 1 ?_;refine rr 2 ?_;refine rb 31 d (fun d=>?_) (fun d=>?_)
    ·refine rr 1 ?_;refine l1 ((z.bring 1 rfl).box) 1 ?_;refine rr 2 ?_;refine rb 35 d (fun d=>?_) (fun d=>?_)
     ·refine rr 8 ?_;refine rn ?_;exact⟨true,_,⟨d,(Ext.refl _),((z.bring 2 rfl).taken 1),rfl⟩,rfl⟩
     ·refine rr 1 ?_;refine l1 ((z.bring 1 rfl).box) 0 ?_;refine rr 2 ?_;refine rb 39 d (fun d=>?_) (fun d=>?_)
      ·refine rr 4 ?_;refine rn ?_;exact⟨x1,_,⟨d,(Ext.refl _),((z.bring 2 rfl).taken 1),rfl⟩,rfl⟩
      ·refine rr 4 ?_;refine rn ?_;exact⟨false,_,⟨d,(Ext.refl _),((z.bring 2 rfl).taken 1),rfl⟩,rfl⟩
    ·refine rr 12 ?_;refine rn ?_;exact⟨false,_,⟨d,(Ext.refl _),((z.bring 2 rfl).taken 1),rfl⟩,rfl⟩
  ·refine xt ?_;cases d;exact⟨_,_,⟨q0,(H.taken 0),rfl⟩,rfl⟩

theorem zdu:Enters Tryz.prog 73:=⟨_,_,Tryz.func73,rfl,by kernel_rfl⟩
def z4B (fuel:Nat) (x0:Int) (d:D.Memory):Option D.Memory:=((idx d.Cells (w64 (x0 - 1))).bind fun z=>some (⟨(d.Cells.set (w64 (x0 - 1)).toNat (⟨z.Kind,z.Level,(-1),z.Data,z.Words⟩:D.Cell)),d.Free,(⟨d.Root.Tag,d.Root.At⟩:D.Word),d.Redexes⟩:D.Memory))
def z1Z (fuel:Nat) (x0:Int) (d:Int × D.Memory):Option (Rd (Int × D.Memory) (D.Memory) (D.Memory)):=(if(decide (d.1<x0))=true then(if decide ((d.2.Cells.length:Int)+(([(⟨0,0,w64 (d.1+1),[],[]⟩:D.Cell)]:(List D.Cell)).length:Int)≤4294967296)=true then some (.next (w64 (d.1+1),(⟨(d.2.Cells++([(⟨0,0,w64 (d.1+1),[],[]⟩:D.Cell)]:(List D.Cell))),d.2.Free,(⟨d.2.Root.Tag,d.2.Root.At⟩:D.Word),d.2.Redexes⟩:D.Memory))) else none) else some (.brk d.2))
def z3z (fuel:Nat) (x0:Int):Option (D.Memory):=((iter (z1Z fuel x0) fuel (0,(⟨[],0,(⟨0,0⟩:D.Word),[]⟩:D.Memory))).bind fun o=>aft o (z4B fuel x0))

theorem z7y {W w:World}(hE:Ext W w){x0:Int}  {fuel:Nat}{r:D.Memory}(hm:z3z fuel x0=some r):
  Calls Tryz.prog 73 ⟨[.int .i64 x0]⟩ w (Ret fun v w8=>∃ A0 k0 A1 k1,v=.agg ⟨[sl A0 r.Cells k0,.int .i64 r.Free,.int .i64 r.Root.Tag,.int .i64 r.Root.At,sl A1 r.Redexes k1]⟩∧St w w8 [ow ty29 A0 r.Cells k0,ow ty31 A1 r.Redexes k1]):=by
 refine into Tryz.func73 26 _ ?_;unfold z3z at hm;have hS:=St.start w;refine sq<|rg<|nw hS (fun g1 w2 e3 j1=>?_);refine rn<|sq<|rg<|qt (qb) ?_;refine nw j1 (fun g5 w6 e7 i0=>?_);have j0:=i0.bring 0 rfl;refine so (A:=[]) j0 0 (fun E1 o0=>?_);refine rn<|sq<|sq<|rg<|rr 1 ?_;refine rn ?_;obtain⟨n1,X0,hm⟩:=bS hm;refine ct (fun(d:D.Memory) F w9=>∃ L O M X,n1=.inl d∧St w w9 [ow ty29 L d.Cells O,ow ty31 M d.Redexes X,Box g5 [sl L d.Cells O,.int .i64 d.Free,.int .i64 d.Root.Tag,.int .i64 d.Root.At,sl M d.Redexes X] 33,Box g1 [.slice none 0 0,.int .i64 0,.int .i64 0,.int .i64 0,.slice none 0 0] 33]∧F=[(0,.int .i64 x0),(2,.pointer (some ⟨g1,0,none⟩)),(3,.pointer (some ⟨g5,0,none⟩))]) ?_ ?_
 ·rintro d F F1 ⟨L,O,M,X,Y0,b0,rfl⟩;subst Y0;rw [z6] at hm;unfold z4B at hm;refine sq<|rg<|rr 1 ?_;refine l1 ((b0.bring 2 rfl).box) 0 ?_;refine rr 2 ?_;have p0:=b0.bring 0 rfl;obtain⟨z,d1,hm⟩:=bS hm;refine fo p0 d1 (fun q37 i1 hq39 q0=>?_);obtain⟨p1,y1,t1,B1,f1,r0⟩:=z4p (q0.bring 1 rfl);subst f1;refine rr 1 ?_;have t0:=r0.bring 2 rfl;refine sh t0 hq39 2 (fun G1 d0=>?_);refine rn<|sq<|rg<|lN ((d0.bring 4 rfl).box) ?_;have u0:=d0.bring 5 rfl;refine so (A:=[]) u0 0 (fun H1 v0=>?_);refine rn<|rt ?_;have y0:=v0.bring 3 rfl;have B0:=y0.bring 3 rfl;have C0:=z2u (c:=(⟨z.Kind,z.Level,(-1),z.Data,z.Words⟩:D.Cell)) (B:=_) B0;have D0:=C0.bring 2 rfl;have Y:=St.unfocusN D0;cases hm;have hn58:=(Y.bring 0 rfl).lenEq;have E0:=(Y.bring 0 rfl).reLen hn58;have F0:=(E0.bring 1 rfl).reBox (cs':=[.slice L (d.Cells.set (w64 (x0 - 1)).toNat (⟨z.Kind,z.Level,(-1),z.Data,z.Words⟩:D.Cell)).length O,.int .i64 d.Free,.int .i64 d.Root.Tag,.int .i64 d.Root.At,.slice M d.Redexes.length X]) (by show([.slice L d.Cells.length O,.int .i64 d.Free,.int .i64 d.Root.Tag,.int .i64 d.Root.At,.slice M d.Redexes.length X]:List Value)=[.slice L (d.Cells.set (w64 (x0 - 1)).toNat (⟨z.Kind,z.Level,(-1),z.Data,z.Words⟩:D.Cell)).length O,.int .i64 d.Free,.int .i64 d.Root.Tag,.int .i64 d.Root.At,.slice M d.Redexes.length X];first | (simp only [sl,hn58];done) | (simp only [sl,hn58];rfl));have G0:=(F0.bring 3 rfl).reBox (cs':=[.slice L (d.Cells.set (w64 (x0 - 1)).toNat (⟨z.Kind,z.Level,(-1),z.Data,z.Words⟩:D.Cell)).length O,.int .i64 d.Free,.int .i64 d.Root.Tag,.int .i64 d.Root.At,.slice M d.Redexes.length X]) (by show([.slice L d.Cells.length O,.int .i64 d.Free,.int .i64 d.Root.Tag,.int .i64 d.Root.At,.slice M d.Redexes.length X]:List Value)=[.slice L (d.Cells.set (w64 (x0 - 1)).toNat (⟨z.Kind,z.Level,(-1),z.Data,z.Words⟩:D.Cell)).length O,.int .i64 d.Free,.int .i64 d.Root.Tag,.int .i64 d.Root.At,.slice M d.Redexes.length X];first | (simp only [sl,hn58];done) | (simp only [sl,hn58];rfl));exact⟨_,.cons (ra ((Y.bring 1 rfl).box)) .nil,L,O,M,X,(by first | (simp only [sl,hn58];done) | (simp only [sl,hn58];rfl)),(((G0.bring 3 rfl).bring 3 rfl).taken 2)⟩
 ·refine bk ?_;have H0:=o0.nilSl ty83 83;have J0:=H0.nilSl ty87 87;refine wk [0,2,3,4] ?_;refine it (fun(H:Int × D.Memory) F w9=>∃ f0 g0 a0 e0,St w w9 [ow ty29 f0 H.2.Cells g0,ow ty31 a0 H.2.Redexes e0,Box g5 [sl f0 H.2.Cells g0,.int .i64 H.2.Free,.int .i64 H.2.Root.Tag,.int .i64 H.2.Root.At,sl a0 H.2.Redexes e0] 33,Box g1 [.slice none 0 0,.int .i64 0,.int .i64 0,.int .i64 0,.slice none 0 0] 33]∧F=[(0,.int .i64 x0),(2,.pointer (some ⟨g1,0,none⟩)),(3,.pointer (some ⟨g5,0,none⟩)),(4,.int .i64 H.1)]) X0 ⟨none,0,none,0,(J0.sel [1,0,2,3]),rfl⟩ ?_;rintro H F J1 _ D1 ⟨f0,g0,a0,e0,Z,rfl⟩ G a1;unfold z1Z at G;refine sq<|sq<|rg<|rr 3 ?_;refine rn<|ci G (fun G=>?_) (fun G=>?_)
  ·refine sp<|sq<|bk<|rg<|rr 1 ?_;refine l1 ((Z.bring 2 rfl).box) 0 ?_;refine rr 2 ?_;refine qt (qb) ?_;have K0:=St.noEl ty83 Z;have L0:=K0.nilSl ty30 30;have N0:=L0.nilSl tInt 2;have O0:=z2u (c:=(⟨0,0,w64 (H.1+1),[],[]⟩:D.Cell)) (B:=_) N0;have P0:=St.consEl O0;refine ns (U:=ty83) (els:=[.int .i64 0,.int .i64 0,.int .i64 (w64 (H.1+1)),.slice none 0 0,.slice none 0 0]) (ys:=[(⟨0,0,w64 (H.1+1),[],[]⟩:D.Cell)]) P0 (fun u1 C1 K1 v1 Q0=>?_);have R0:=Q0.bring 1 rfl;have S0:=R0.bring 1 rfl;obtain⟨W0,G⟩:=iS G;refine ao S0 W0 (fun e1 m1 L1 T0=>?_);refine rr 1 ?_;have U0:=T0.bring 2 rfl;refine so (A:=[]) U0 0 (fun M1 V0=>?_);refine rn<|rg<|rr 3 ?_;refine rn ?_;cases G;exact⟨_,_,rfl,⟨e1,m1,a0,e0,(V0.sel [1,2,0,3]),rfl⟩,rfl⟩
  ·refine xt ?_;cases G;exact⟨_,_,⟨f0,g0,a0,e0,a1,Z,rfl⟩,rfl⟩

theorem zaa:Enters Tryz.prog 138:=⟨_,_,Tryz.func138,rfl,by kernel_rfl⟩
def z5e (fuel:Nat) (x0:(List Int)):Option ((List Int)):=(if decide ((([]:(List Int)).length:Int)+(x0.length:Int)≤4294967296)=true then some (([]:(List Int))++x0) else none)

theorem z6H {W w:World}(hE:Ext W w){z:Option Addr}{H:Nat}{x0:(List Int)}(M:ty80.ro W [sl z x0 H] x0){fuel:Nat}{r:(List Int)}(hm:z5e fuel x0=some r):
  Calls Tryz.prog 138 ⟨[sl z x0 H]⟩ w (Ret fun v w8=>∃ A0 k0,v=sl A0 r k0∧St w w8 [ow ty80 A0 r k0]):=by
 refine into Tryz.func138 6 _ ?_;unfold z5e at hm;have hS:=St.start w;refine sq<|rg<|rr 1 ?_;refine rn<|sq<|rg<|n0 (U:=tInt) hS (fun A1 k2 w3 e4 O=>?_);refine rr 1 ?_;have G:=O.bring 0 rfl;obtain⟨X,hm⟩:=iS hm;refine ap Flat.int G (ty80.ext (hE.trans G.ext) M) X (fun L Y Z d=>?_);refine rr 1 ?_;refine rn<|rt ?_;cases hm;exact⟨_,.cons (.tmp rfl) .nil,L,Y,rfl,d⟩

theorem zaV:Enters Tryz.prog 75:=⟨_,_,Tryz.func75,rfl,by kernel_rfl⟩
def z1w (fuel:Nat) (x0:D.Memory) (x1:D.Cell):Option (Int × D.Memory):=((idx x0.Cells x0.Free).bind fun x5=>(if decide (0≤x0.Free∧x0.Free.toNat<x0.Cells.length)=true then some (x0.Free,(⟨(x0.Cells.set x0.Free.toNat x1),x5.Value,(⟨x0.Root.Tag,x0.Root.At⟩:D.Word),x0.Redexes⟩:D.Memory)) else none))

theorem z6j {W w:World}{RR:List Res}{f0:Nat}{x0:D.Memory}{z:Option Addr}{H:Nat}{G:Option Addr}{L:Nat}{x1:D.Cell}{X:Option Addr}{b0:Nat}{Y:Option Addr}{d0:Nat}(hS:St W w (Box f0 [sl z x0.Cells H,.int .i64 x0.Free,.int .i64 x0.Root.Tag,.int .i64 x0.Root.At,sl G x0.Redexes L] 33::ow ty29 z x0.Cells H::ow ty31 G x0.Redexes L::ow ty80 X x1.Data b0::ow ty81 Y x1.Words d0::RR)){fuel:Nat}{r:Int × D.Memory}(hm:z1w fuel x0 x1=some r):
  Calls Tryz.prog 75 ⟨[.pointer (some ⟨f0,0,none⟩),.agg ⟨[.int .i64 x1.Kind,.int .i64 x1.Level,.int .i64 x1.Value,sl X x1.Data b0,sl Y x1.Words d0]⟩]⟩ w (Ret fun v w8=>∃ A0 k0 A1 k1,v=.int .i64 r.1∧St W w8 (Box f0 [sl A0 r.2.Cells k0,.int .i64 r.2.Free,.int .i64 r.2.Root.Tag,.int .i64 r.2.Root.At,sl A1 r.2.Redexes k1] 33::ow ty29 A0 r.2.Cells k0::ow ty31 A1 r.2.Redexes k1::RR)):=by
 refine into Tryz.func75 29 _ ?_;unfold z1w at hm;refine sq<|rg<|nw hS (fun g1 w2 e3 e0=>?_);refine rr 1 ?_;refine rn<|sq<|rg<|rr 3 ?_;refine l1 ((e0.bring 1 rfl).box) 1 ?_;refine rr 1 ?_;refine rn<|sq<|rg<|rr 4 ?_;refine l1 ((e0.bring 1 rfl).box) 0 ?_;refine rr 1 ?_;obtain⟨x5,D0,hm⟩:=bS hm;refine ix (Ext.refl _) ((e0.bring 2 rfl).own) D0 (fun p7 C0 u0 y0=>?_);obtain⟨E0,J0,F0,K0,B0,G0,H0⟩:=z3s y0;subst B0;refine rr 1 ?_;refine l1 u0 2 ?_;refine rr 2 ?_;have g0:=e0.bring 1 rfl;refine so (A:=[]) g0 1 (fun L0 M=>?_);refine rn<|sq<|dn 128 mixed 8 [([],255),([0],254),([1],253),([2],251),([],255),([],255),([3,4,0,1,2,3,4,5],231),([6,5,0,1,2,3,4,5],159)] M.ext (fun d=>?_);have Z:=M.step (Ext.draw _);refine dr 4 d [0,1,2,4] ?_;refine dw [3,5,23,25] ?_;refine dl d 3 ((M.bring 0 rfl).box) 0 ?_;refine dL d 5 ((M.bring 1 rfl).box) ?_;have i0:=Z.bring 2 rfl;obtain⟨v0,hm⟩:=iS hm;have O:=of_decide_eq_true v0;refine do9 i0 d 6 O.1 O.2 (fun q28 hq29=>?_);have j0:=Z.bring 5 rfl;have o0:=j0.bring 5 rfl;have p0:=z2u (c:=x1) (B:=_) o0;have q0:=p0.bring 3 rfl;refine o1 d 7 (me q0 d O.2 hq29 (fun N0 a0=>?_));refine dd d ?_;refine sq<|rg<|rr 2 ?_;refine rn<|rt ?_;cases hm;have hn36:=(a0.bring 0 rfl).lenEq;have r0:=(a0.bring 0 rfl).reLen hn36;have t0:=(r0.bring 1 rfl).reBox (cs':=[.slice z (x0.Cells.set x0.Free.toNat x1).length H,.int .i64 x5.Value,.int .i64 x0.Root.Tag,.int .i64 x0.Root.At,.slice G x0.Redexes.length L]) (by show([.slice z x0.Cells.length H,.int .i64 x5.Value,.int .i64 x0.Root.Tag,.int .i64 x0.Root.At,.slice G x0.Redexes.length L]:List Value)=[.slice z (x0.Cells.set x0.Free.toNat x1).length H,.int .i64 x5.Value,.int .i64 x0.Root.Tag,.int .i64 x0.Root.At,.slice G x0.Redexes.length L];first | (simp only [sl,hn36];done) | (simp only [sl,hn36];rfl));exact⟨_,.cons (.tmp rfl) .nil,z,H,G,L,rfl,(t0.selR [0,1,3] 4)⟩

theorem za7:Enters Tryz.prog 163:=⟨_,_,Tryz.func163,rfl,by kernel_rfl⟩
def z1j (fuel:Nat) (x0:D.Memory):Option (D.Word × D.Memory):=((z1w fuel x0 (⟨13,0,0,[],[]⟩:D.Cell)).bind fun r7=>some ((⟨2,r7.1⟩:D.Word),r7.2))

theorem z5V {W w:World}{RR:List Res}{M:Nat}{x0:D.Memory}{d:Option Addr}{H:Nat}{z:Option Addr}{L:Nat}(hS:St W w (Box M [sl d x0.Cells H,.int .i64 x0.Free,.int .i64 x0.Root.Tag,.int .i64 x0.Root.At,sl z x0.Redexes L] 33::ow ty29 d x0.Cells H::ow ty31 z x0.Redexes L::RR)){fuel:Nat}{r:D.Word × D.Memory}(hm:z1j fuel x0=some r):
  Calls Tryz.prog 163 ⟨[.pointer (some ⟨M,0,none⟩)]⟩ w (Ret fun v w8=>∃ A0 k0 A1 k1,v=.agg ⟨[.int .i64 r.1.Tag,.int .i64 r.1.At]⟩∧St W w8 (Box M [sl A0 r.2.Cells k0,.int .i64 r.2.Free,.int .i64 r.2.Root.Tag,.int .i64 r.2.Root.At,sl A1 r.2.Redexes k1] 33::ow ty29 A0 r.2.Cells k0::ow ty31 A1 r.2.Redexes k1::RR)):=by
 refine into Tryz.func163 7 _ ?_;unfold z1j at hm;refine sq<|rg<|nw hS (fun g1 w2 e3 d0=>?_);refine rn<|sq<|rg<|rr 1 ?_;refine qt (qb) ?_;have e0:=d0.nilSl tInt 2;have f0:=e0.nilSl ty30 30;obtain⟨r7,Z,hm⟩:=bS hm;refine ca zaV (z6j (W:=W) (RR:=_) (x0:=x0) (x1:=(⟨13,0,0,[],[]⟩:D.Cell)) (((((f0.bring 0 rfl).bring 1 rfl).bring 5 rfl).bring 5 rfl).bring 5 rfl)  Z) (fun j0 o0 O=>?_);obtain⟨a0,g0,b0,i0,rfl,X⟩:=O;refine qt (qb) ?_;have Y:=X.bring 3 rfl;refine so (A:=[]) Y 0 (fun p0 G=>?_);refine rn<|rt ?_;cases hm;exact⟨_,.cons (ra ((G.bring 0 rfl).box)) .nil,a0,g0,b0,i0,rfl,(G.selR [1,2,3] 4)⟩

theorem zcK:Enters Tryz.prog 139:=⟨_,_,Tryz.func139,rfl,by kernel_rfl⟩
def z5f (fuel:Nat) (x0:Int) (x1:Int):Option (Int):=(if(decide (x0<x1))=true then some x0 else some x1)

theorem z8t {W w:World}(hE:Ext W w){x0:Int}{x1:Int}  {fuel:Nat}{r:Int}(hm:z5f fuel x0 x1=some r):
  Calls Tryz.prog 139 ⟨[.int .i64 x0,.int .i64 x1]⟩ w (Ret fun v w8=>v=.int .i64 r∧St w w8 []):=by
 refine into Tryz.func139 10 _ ?_;unfold z5f at hm;have hS:=St.start w;refine sq<|rg<|rr 1 ?_;refine rn<|sq<|sq<|rg<|rr 3 ?_;refine rn<|ci hm (fun hm=>?_) (fun hm=>?_)
 ·refine sq<|rg<|rr 2 ?_;refine rn<|rt ?_;cases hm;exact⟨_,.cons (.tmp rfl) .nil,rfl,hS⟩
 ·refine sp<|sq<|rg<|rr 2 ?_;refine rn<|rt ?_;cases hm;exact⟨_,.cons (.tmp rfl) .nil,rfl,hS⟩

theorem zcJ:Enters Tryz.prog 140:=⟨_,_,Tryz.func140,rfl,by kernel_rfl⟩
def z5g (fuel:Nat) (x0:Int) (x1:Int):Option (Int):=(if(decide (x0>x1))=true then some x0 else some x1)

theorem z8u {W w:World}(hE:Ext W w){x0:Int}{x1:Int}  {fuel:Nat}{r:Int}(hm:z5g fuel x0 x1=some r):
  Calls Tryz.prog 140 ⟨[.int .i64 x0,.int .i64 x1]⟩ w (Ret fun v w8=>v=.int .i64 r∧St w w8 []):=by
 refine into Tryz.func140 10 _ ?_;unfold z5g at hm;have hS:=St.start w;refine sq<|rg<|rr 1 ?_;refine rn<|sq<|sq<|rg<|rr 3 ?_;refine rn<|ci hm (fun hm=>?_) (fun hm=>?_)
 ·refine sq<|rg<|rr 2 ?_;refine rn<|rt ?_;cases hm;exact⟨_,.cons (.tmp rfl) .nil,rfl,hS⟩
 ·refine sp<|sq<|rg<|rr 2 ?_;refine rn<|rt ?_;cases hm;exact⟨_,.cons (.tmp rfl) .nil,rfl,hS⟩

theorem z5:Enters Tryz.prog 76:=⟨_,_,Tryz.func76,rfl,by kernel_rfl⟩
def z4w (fuel:Nat) (x0:D.Memory) (x1:Int) (x2:Int):Option (D.Memory):=((z5f fuel x1 x2).bind fun r3=>((z5g fuel x1 x2).bind fun d=>(if decide ((x0.Redexes.length:Int)+(([(⟨r3,d⟩:D.Pair)]:(List D.Pair)).length:Int)≤4294967296)=true then some (⟨x0.Cells,x0.Free,(⟨x0.Root.Tag,x0.Root.At⟩:D.Word),(x0.Redexes++([(⟨r3,d⟩:D.Pair)]:(List D.Pair)))⟩:D.Memory) else none)))

theorem z4 {W w:World}{RR:List Res}{a0:Nat}{x0:D.Memory}{z:Option Addr}{G:Nat}{H:Option Addr}{Y:Nat}{x1:Int}{x2:Int}(hS:St W w (Box a0 [sl z x0.Cells G,.int .i64 x0.Free,.int .i64 x0.Root.Tag,.int .i64 x0.Root.At,sl H x0.Redexes Y] 33::ow ty29 z x0.Cells G::ow ty31 H x0.Redexes Y::RR)){fuel:Nat}{r:D.Memory}(hm:z4w fuel x0 x1 x2=some r):
  Calls Tryz.prog 76 ⟨[.pointer (some ⟨a0,0,none⟩),.int .i64 x1,.int .i64 x2]⟩ w (Ret fun v w8=>∃ A0 k0 A1 k1,v=.tuple ⟨[]⟩∧St W w8 (Box a0 [sl A0 r.Cells k0,.int .i64 r.Free,.int .i64 r.Root.Tag,.int .i64 r.Root.At,sl A1 r.Redexes k1] 33::ow ty29 A0 r.Cells k0::ow ty31 A1 r.Redexes k1::RR)):=by
 refine into Tryz.func76 22 _ ?_;unfold z4w at hm;refine dn 73728 mixed 17 [([],131071),([],131071),([1],131069),([2],131067),([3],131063),([],131071),([],131071),([5,6],130975),([],131071),([],131071),([8,9,7],130303),([7,10],129919),([11],129023),([4,12,10],126959),([0,0,1,2,3,4,5,6,7,8,9,10,11,12,13],131070),([14,0,1,2,3,4,5,6,7,8,9,10,11,12,13],114687),([15,13,13,0,1,2,3,4,5,6,7,8,9,10,11,12,13],90111)] hS.ext (fun d=>?_);have p0:=hS.step (Ext.draw _);refine dr 9 d [0,1,2,3,5,6,8,9] ?_;refine dl d 4 ((hS.bring 0 rfl).box) 4 ?_;obtain⟨r3,t0,hm⟩:=bS hm;refine o1 d 7 (mc d zcK (z8t p0.ext  t0) (fun v5 w6 r0=>?_));obtain⟨rfl,L⟩:=r0;refine⟨L.ext,?_⟩;have O:=p0.join L;obtain⟨Z,o0,hm⟩:=bS hm;refine o1 d 10 (mc d zcJ (z8u O.ext  o0) (fun C0 D0 b0=>?_));obtain⟨rfl,M⟩:=b0;refine⟨M.ext,?_⟩;have d0:=O.join M;refine dp d 11 rfl (fun _=>qb) ?_;refine o1 d 12 (mn (d0.flatEls (U:=ty87) (els:=[.int .i64 r3,.int .i64 Z]) (ys:=[(⟨r3,Z⟩:D.Pair)]) ⟨[.int .i64 r3,.int .i64 Z],_,[],[],rfl,rfl,(zp (c:=(⟨r3,Z⟩:D.Pair)) rfl),⟨rfl,rfl⟩⟩) d (fun v0 B0 E0 y0 e0=>?_));have X:=e0.bring 3 rfl;obtain⟨j0,hm⟩:=iS hm;refine o1 d 13 (mp (Flat.map (Flat.pair Flat.int (Flat.pair Flat.int Flat.unit))) X d ((X.bring 1 rfl).own) j0 (fun q0 u0 F0 f0=>?_));refine dr 1 d [14,15] ?_;refine dw [19,21] ?_;have g0:=f0.bring 2 rfl;refine o1 d 16 (ms (A:=[]) g0 d 4 (fun G0 i0=>?_));refine dd d ?_;cases hm;exact⟨_,.nil,z,G,q0,u0,rfl,(i0.selR [0,3,1] 4)⟩

end Go.E


