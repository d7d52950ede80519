/- Models of functions and proofs that the code runs as they say (written by program). Conditions: the model gives a value. -/
import Derived.Test.YtfndicpnccabkaaGreatMapS
import Derived.Test.YtfndicpnccabkaaGreatQB
import Derived.Test.YtfndicpnccabkaaGreatFL
import Derived.Test.YtfndicpnccabkaaGreatMixed
set_option linter.unusedVariables false
set_option linter.unusedSimpArgs false
namespace Go.E
open Go.RowKit Go.Proofs
set_option maxHeartbeats 2000000
set_option maxRecDepth 100000

theorem zw1:EN 98:=en Tryz.func98
def zaN (fu:Nat)(x0:LC)(o:(List (QH×L9))):Option QX:=some (⟨x0,o⟩:QX)
def z30 (fu:Nat)(x0:LC)(o:Int×(List (QH×L9))):Option (Rd (Int×(List (QH×L9))) ((List (QH×L9))) (QX)):=(if(decide (o.1<(x0.length:Int)))=true then((idx x0 o.1).bind fun q=>(if decide ((((mget o.2 q.a).getD []).length:Int)+(([o.1]:L9).length:Int)≤4294967296)=true then(if decide ((((mget (mput o.2 q.a (((mget o.2 q.a).getD [])++([o.1]:L9))) q.b).getD []).length:Int)+(([o.1]:L9).length:Int)≤4294967296)=true then some (.next (w64 (o.1+1),(mput (mput o.2 q.a (((mget o.2 q.a).getD [])++([o.1]:L9))) q.b (((mget (mput o.2 q.a (((mget o.2 q.a).getD [])++([o.1]:L9))) q.b).getD [])++([o.1]:L9))))) else none) else none)) else some (.brk o.2))
def z58 (fu:Nat)(x0:LC):Option (QX):=((iter (z30 fu x0) fu (0,([]:(List (QH×L9))))).bind fun o=>aft o (zaN fu x0))

theorem zf9 {W:Base}{w:World}(hE:Ext W w){Z:Option Addr}{a0:Nat}{x0:LC}(Q0:ty86.ro W [sl Z x0 a0] x0){fu:Nat}{r:QX}(hm:z58 fu x0=some r):
  CL 98 ⟨[sl Z x0 a0]⟩ w (Ret fun v w8=>∃ g0 A1 k1 A2,v=.pointer (some ⟨g0,0,none⟩)∧St w w8 [Box g0 [sl A1 r.QS k1,.map (some A2)] 225,Own zhq [.map (some A2)] r.ends]∧ty86.ro W [sl A1 r.QS k1] r.QS):=by
 refine into Tryz.func98 43 _ ?_;unfold z58 at hm;have hS:=St.start w;refine sg<|rm 1 ?_;refine sg<|rr 1 ?_;refine RW.makeMapS zok zrX hS rfl rfl rfl rfl (fun g1 w2 e3 U0=>?_);refine qt (qb) ?_;refine nw U0 (fun g5 w6 e7 e0=>?_);refine rm 1 ?_;refine sq<|sg<|rm 3 ?_;obtain⟨V0,K0,hm⟩:=bS hm;refine ct (fun(P0:(List (QH×L9))) F w9=>V0=.inl P0∧St w w9 [Box g5 [sl Z x0 a0,.map (some g1)] 225,Own zhq [.map (some g1)] P0]∧F=[(3,.pointer (some ⟨g5,0,none⟩))]) ?_ ?_
 ·rintro P0 F E1 ⟨L0,f0,rfl⟩;subst L0;rw[z8] at hm;unfold zaN at hm;refine sg<|rm 2 ?_;refine rt ?_;cases hm;exact⟨_,tR rfl,g5,Z,a0,g1,rfl,f0,Q0⟩
 ·refine bk<|wk [3,10,11,12] ?_;refine it (fun(Y:Int×(List (QH×L9))) F w9=>St w w9 [Box g5 [sl Z x0 a0,.map (some g1)] 225,Own zhq [.map (some g1)] Y.2]∧F=[(3,.pointer (some ⟨g5,0,none⟩)),(10,sl Z x0 a0),(11,iv (x0.length:Int)),(12,iv Y.1)]) K0 ⟨e0,rfl⟩ ?_;rintro Y F F1 _ C1 ⟨H,rfl⟩ G M0;unfold z30 at G;refine sg<|rm 1 ?_;refine sq<|ci G (fun G=>?_) (fun G=>?_)
  ·refine sp<|sq<|bk<|sg<|rr 1 ?_;obtain⟨R0,O0,G⟩:=bS G;refine ix (hE.trans H.ext) Q0 O0 (fun D1 T0 G0 N0=>?_);have S0:=zd8 N0;subst S0;refine lN (ax hE H G0) ?_;refine nw H (fun p1 G1 j1 i0=>?_);refine rr 1 ?_;have j0:=i0.b 0 rfl;refine so (A:=[]) j0 0 (fun H1 O=>?_);refine rn<|sq<|dn 5376 mixed 13 [([],8191),([0],8190),([1],8189),([2],8187),([],8191),([4],8175),([],8191),([6],8127),([3,5,0,1,2,3,4,5,6,7],8151),([8],7935),([9,7,8],7551),([8],7935),([3,11,10,10,0,1,2,3,4,5,6,7,8,9,10,11],5111)] O.ext (fun o=>?_);have k0:=O.step (Ext.draw _);refine dr 8 o [0,1,2,4,6] ?_;refine dw [3,4,5,10,11,12,19,21,24] ?_;refine DM.quietS 7936 o 3 rfl ?_ (q1 ((O.b 1 rfl).box) 1);refine DM.quietS 7936 o 5 rfl ?_ (qN (At.sub ((O.b 0 rfl).box) 0 5));refine o1 o 7 (mn (k0.flatEls (U:=z2z) (els:=[iv Y.1]) (ys:=[Y.1]) ⟨[iv Y.1],_,[],[],rfl,rfl,⟨rfl,rfl⟩,⟨rfl,rfl⟩⟩) o (fun X0 s1 J1 m1 o0=>?_));have q0:=o0.b 3 rfl;refine o1 o 8 (LM.mapEntryS zdK q0 o 511 (by kernel_rfl) (by kernel_rfl) rfl rfl rfl rfl (kk:=R0.a) rfl rfl rfl (fun f1 Y0 t1 K1 p0=>?_));refine dr 2 o [9,11] ?_;have b0:=p0.b 0 rfl;obtain⟨H0,G⟩:=iS G;refine o1 o 10 (mp Flat.int b0 o ((b0.b 2 rfl).own) H0 (fun a1 u1 L1 r0=>?_));have t0:=r0.b 1 rfl;have u0:=t0.b 1 rfl;refine o1 o 12 (LM.entryStoreS zdK.key.inj u0 o 8191 (by kernel_rfl) (by kernel_rfl) rfl rfl rfl rfl rfl rfl rfl (fun M1 X=>?_));refine dd o ?_;refine dn 5376 mixed 13 [([],8191),([0],8190),([1],8189),([2],8187),([],8191),([4],8175),([],8191),([6],8127),([3,5,0,1,2,3,4,5,6,7],8151),([8],7935),([9,7,8],7551),([8],7935),([3,11,10,10,0,1,2,3,4,5,6,7,8,9,10,11],5111)] X.ext (fun q=>?_);have v0:=X.step (Ext.draw _);refine dr 8 q [0,1,2,4,6] ?_;refine dw [3,10,11,12,31,33,36] ?_;refine DM.quietS 7936 q 3 rfl ?_ (q1 ((X.b 3 rfl).box) 1);refine DM.quietS 7936 q 5 rfl ?_ (qN (At.sub ((X.b 2 rfl).box) 5 5));refine o1 q 7 (mn (v0.flatEls (U:=z2z) (els:=[iv Y.1]) (ys:=[Y.1]) ⟨[iv Y.1],_,[],[],rfl,rfl,⟨rfl,rfl⟩,⟨rfl,rfl⟩⟩) q (fun b1 v1 N1 n1 y0=>?_));have B0:=y0.b 1 rfl;refine o1 q 8 (LM.mapEntryS zdK B0 q 511 (by kernel_rfl) (by kernel_rfl) rfl rfl rfl rfl (kk:=R0.b) rfl rfl rfl (fun i1 d1 y1 O1 A0=>?_));refine dr 2 q [9,11] ?_;have c0:=A0.b 0 rfl;obtain⟨J0,G⟩:=iS G;refine o1 q 10 (mp Flat.int c0 q ((c0.b 2 rfl).own) J0 (fun e1 B1 P1 C0=>?_));have E0:=C0.b 1 rfl;have F0:=E0.b 1 rfl;refine o1 q 12 (LM.entryStoreS zdK.key.inj F0 q 8191 (by kernel_rfl) (by kernel_rfl) rfl rfl rfl rfl rfl rfl rfl (fun Q1 D0=>?_));refine dd q ?_;refine rg<|rm 2 ?_;cases G;exact⟨_,_,rfl,⟨(((D0.b 0 rfl).b 4 rfl).t 2),rfl⟩,rfl⟩
  ·refine xt ?_;cases G;exact⟨_,_,⟨M0,H,rfl⟩,rfl⟩

end Go.E



