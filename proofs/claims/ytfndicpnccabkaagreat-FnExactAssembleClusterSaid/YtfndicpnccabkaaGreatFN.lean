/- Models of functions and proofs that the code runs as they say (written by program). Conditions: the model gives a value. -/
import Derived.Test.YtfndicpnccabkaaGreatMapS
import Derived.Test.YtfndicpnccabkaaGreatQB
import Derived.Test.YtfndicpnccabkaaGreatFM
import Derived.Test.YtfndicpnccabkaaGreatMixed
set_option linter.unusedVariables false
set_option linter.unusedSimpArgs false
namespace Go.E
open Go.RowKit Go.Proofs
set_option maxHeartbeats 2000000
set_option maxRecDepth 100000

theorem zw0:EN 99:=en Tryz.func99
def zcw (fu:Nat)(o:Unit):Option QH:=none
def z1Q (fu:Nat)(o:Int×Int×Int×Int×Bool)(q:Int):Option (Rd (Int×Int×Int×Int×Int×Bool) (Unit) (QH)):=some (.next (q,o.1,o.2.1,o.2.2.1,o.2.2.2.1,o.2.2.2.2))
def zY (fu:Nat)(x0:QX)(G:Int×Int×Int×Int×Int×Bool)(o:Int×Int×Int×Int×Bool):Option (Rd (Int×Int×Int×Int×Int×Bool) (Unit) (QH)):=(if(o.2.1 != 2)=true then some (.ret (⟨(⟨o.1,o.2.1,o.2.2.1⟩:Qb),o.2.2.2.1,o.2.2.2.2⟩:QH)) else((idx ((mget x0.ends (⟨(⟨o.1,o.2.1,o.2.2.1⟩:Qb),o.2.2.2.1,o.2.2.2.2⟩:QH)).getD []) 0).bind fun q=>(if(q == G.1)=true then((idx ((mget x0.ends (⟨(⟨o.1,o.2.1,o.2.2.1⟩:Qb),o.2.2.2.1,o.2.2.2.2⟩:QH)).getD []) 1).bind fun H=>z1Q fu o H) else z1Q fu o q)))
def zZ (fu:Nat)(x0:QX)(q:Int×Int×Int×Int×Int×Bool):Option (Rd (Int×Int×Int×Int×Int×Bool) (Unit) (QH)):=((idx x0.QS q.1).bind fun o=>(if((((o.a.at_.Qj:Int) == q.2.1) && (((o.a.at_.Qi:Int) == q.2.2.1) && (((o.a.at_.Qo:Int) == q.2.2.2.1) && true))) && (((o.a.slot:Int) == q.2.2.2.2.1) && ((o.a.own == q.2.2.2.2.2) && true)))=true then((idx x0.QS q.1).bind fun G=>zY fu x0 q (G.b.at_.Qj,G.b.at_.Qi,G.b.at_.Qo,G.b.slot,G.b.own)) else zY fu x0 q (o.a.at_.Qj,o.a.at_.Qi,o.a.at_.Qo,o.a.slot,o.a.own)))
def z2L (fu:Nat)(x0:QX)(x1:QH):Option (QH):=((idx ((mget x0.ends x1).getD []) 0).bind fun q=>((iter (zZ fu x0) fu (q,x1.at_.Qj,x1.at_.Qi,x1.at_.Qo,x1.slot,x1.own)).bind fun o=>aft o (zcw fu)))

theorem zdo {W:Base}{w:World}(hE:Ext W w){p0:Addr}{f1:List Value}{x0:QX}{g1:List Value}{x1:QH}(v1:zvc.ro W f1 x0)(g0:At W p0 f1)(y1:zgu.ro W g1 x1){fu:Nat}{r:QH}(hm:z2L fu x0 x1=some r):
  CL 99 ⟨[.pointer (some p0),.agg ⟨g1⟩]⟩ w (Ret fun v w8=>v=.agg ⟨[iv r.at_.Qj,iv r.at_.Qi,iv r.at_.Qo,iv r.slot,.bool r.own]⟩∧St w w8 []):=by
 obtain⟨A1,k2,A4,e6,h3,h5⟩:=zqJ v1;subst e6;have e7:=zeN y1;subst e7;refine into Tryz.func99 61 _ ?_;unfold z2L at hm;have hS:=St.start w;refine sg<|nw hS (fun e0 a2 N1 v0=>?_);refine nw v0 (fun f0 b2 O1 a0=>?_);refine rn<|sq<|dn 0 mixed 9 [([],511),([0],510),([1],509),([2],507),([],511),([3,4],487),([5],479),([6],447),([7,0,1,2,3,4,5,6,7],383)] a0.ext (fun X=>?_);have y0:=a0.step (Ext.draw _);refine dr 6 X [0,1,2] ?_;refine dl X 3 (ax hE a0 g0) 1 ?_;refine dL X 4 ((a0.b 1 rfl).box) ?_;obtain⟨K1,Q1,B1,M0⟩:=zxp x1 h5;refine dq X 5 rfl ((Quiet.lookA zdK M0 rfl rfl rfl).later (hE.trans a0.ext)) (h:=?_);obtain⟨m2,X0,hm⟩:=bS hm;refine dx (hE.trans a0.ext) X 6 B1 X0 (fun U1 n1 G0 R0=>?_);cases R0;refine dl X 7 (ax hE a0 G0) 0 ?_;refine dr 0 X [8] ?_;refine dw [0,3,4,5] ?_;refine dd X ?_;obtain⟨T1,N0,hm⟩:=bS hm;refine ct (fun(F1:Unit) F w9=>False) ?_ ?_
 ·rintro F1 F w9 h9;exact False.elim h9
 ·refine bk<|wk [0,3,4,5] ?_;refine it (fun(H:Int×Int×Int×Int×Int×Bool) F w9=>St w w9 [Box f0 [iv 0,iv 0,iv 0,iv 0,.bool false] 164,Box e0 [iv H.2.1,iv H.2.2.1,iv H.2.2.2.1,iv H.2.2.2.2.1,.bool H.2.2.2.2.2] 164]∧F=[(0,.pointer (some p0)),(3,.pointer (some ⟨e0,0,none⟩)),(4,.pointer (some ⟨f0,0,none⟩)),(5,iv H.1)]) N0 ⟨y0,rfl⟩ ?_;rintro H F d2 _ i1 ⟨c0,rfl⟩ o Q0;unfold zZ at o;refine bk<|sg<|rr 3 ?_;refine l1 (ax hE c0 g0) 0 ?_;refine rr 1 ?_;obtain⟨q0,Y0,o⟩:=bS o;refine ix (hE.trans c0.ext) h3 Y0 (fun V1 p1 H0 S0=>?_);have m1:=zd8 S0;subst m1;refine rr 1 ?_;refine lN (At.sub (ax hE c0 H0) 0 5) ?_;refine nw c0 (fun t0 e2 P1 A0=>?_);have B0:=A0.b 0 rfl;refine so (A:=[]) B0 0 (fun f2 b0=>?_);refine rn<|sq<|sg<|lN ((b0.b 0 rfl).box) ?_;refine lN ((b0.b 2 rfl).box) ?_;refine rm 1 ?_;refine ct (fun(q:Int×Int×Int×Int×Bool) F w9=>zY fu x0 H q=some i1∧St w w9 [Box t0 [iv q.1,iv q.2.1,iv q.2.2.1,iv q.2.2.2.1,.bool q.2.2.2.2] 164,Box f0 [iv 0,iv 0,iv 0,iv 0,.bool false] 164,Box e0 [iv H.2.1,iv H.2.2.1,iv H.2.2.2.1,iv H.2.2.2.2.1,.bool H.2.2.2.2.2] 164]∧F=[(0,.pointer (some p0)),(3,.pointer (some ⟨e0,0,none⟩)),(4,.pointer (some ⟨f0,0,none⟩)),(5,iv H.1),(6,.pointer (some ⟨t0,0,none⟩))]) ?_ ?_
  ·rintro q F j1 ⟨o,G,rfl⟩;unfold zY at o;refine sq<|sg<|rr 2 ?_;refine l1 ((G.b 0 rfl).box) 1 ?_;refine rm 1 ?_;refine ci o (fun o=>?_) (fun o=>?_)
   ·refine sg<|lN ((G.b 0 rfl).box) ?_;have C0:=G.b 1 rfl;refine so (A:=[]) C0 0 (fun g2 k0=>?_);refine rn<|rt ?_;cases o;cases Q0;have hm:some _=some _:=hm;cases hm;exact⟨_,.cons (ra ((k0.b 0 rfl).box)) .nil,rfl,(k0.t 0)⟩
   ·refine sp<|sq<|dn 0 mixed 9 [([],511),([0],510),([1],509),([2],507),([],511),([3,4],487),([5],479),([6],447),([7,0,1,2,3,4,5,6,7],383)] G.ext (fun Y=>?_);have O:=G.step (Ext.draw _);refine dr 6 Y [0,1,2] ?_;refine dw [0,3,4,5,6,42] ?_;refine dl Y 3 (ax hE G g0) 1 ?_;refine dL Y 4 ((G.b 0 rfl).box) ?_;obtain⟨L1,R1,C1,O0⟩:=zxp (⟨(⟨q.1,q.2.1,q.2.2.1⟩:Qb),q.2.2.2.1,q.2.2.2.2⟩:QH) h5;refine dq Y 5 rfl ((Quiet.lookA zdK O0 rfl rfl rfl).later (hE.trans G.ext)) (h:=?_);obtain⟨H1,a1,o⟩:=bS o;refine dx (hE.trans G.ext) Y 6 C1 a1 (fun W1 s1 J0 T0=>?_);cases T0;refine dl Y 7 (ax hE G J0) 0 ?_;refine dr 0 Y [8] ?_;refine dw [0,3,4,5,6,7] ?_;refine dd Y ?_;refine sq<|sg<|rm 3 ?_;refine ct (fun(e1:Int) F w9=>z1Q fu q e1=some i1∧Ext (({ j1 with drawn:=j1.drawn+1 }:World)) w9∧St w w9 [Box t0 [iv q.1,iv q.2.1,iv q.2.2.1,iv q.2.2.2.1,.bool q.2.2.2.2] 164,Box f0 [iv 0,iv 0,iv 0,iv 0,.bool false] 164,Box e0 [iv H.2.1,iv H.2.2.1,iv H.2.2.2.1,iv H.2.2.2.2.1,.bool H.2.2.2.2.2] 164]∧F=[(0,.pointer (some p0)),(3,.pointer (some ⟨e0,0,none⟩)),(4,.pointer (some ⟨f0,0,none⟩)),(6,.pointer (some ⟨t0,0,none⟩)),(7,iv e1)]) ?_ ?_
    ·rintro e1 F i2 ⟨o,E1,o0,rfl⟩;unfold z1Q at o;refine rg<|lN ((o0.b 0 rfl).box) ?_;refine rr 1 ?_;have D0:=o0.b 2 rfl;refine so (A:=[]) D0 0 (fun j2 E0=>?_);refine rm 1 ?_;cases o;exact⟨_,_,rfl,⟨(((E0.b 0 rfl).b 2 rfl).t 2),rfl⟩,rfl⟩
    ·refine ci o (fun o=>?_) (fun o=>?_)
     ·refine dn 0 mixed 9 [([],511),([0],510),([1],509),([2],507),([],511),([3,4],487),([5],479),([6],447),([7,0,1,2,3,4,5,6,7],383)] O.ext (fun Z=>?_);have F0:=O.step (Ext.draw _);refine dr 6 Z [0,1,2] ?_;refine dw [0,3,4,6,7,53] ?_;refine dl Z 3 (ax hE O g0) 1 ?_;refine dL Z 4 ((O.b 0 rfl).box) ?_;obtain⟨M1,S1,D1,P0⟩:=zxp (⟨(⟨q.1,q.2.1,q.2.2.1⟩:Qb),q.2.2.2.1,q.2.2.2.2⟩:QH) h5;refine dq Z 5 rfl ((Quiet.lookA zdK P0 rfl rfl rfl).later (hE.trans O.ext)) (h:=?_);obtain⟨J1,b1,o⟩:=bS o;refine dx (hE.trans O.ext) Z 6 D1 b1 (fun X1 t1 K0 U0=>?_);cases U0;refine dl Z 7 (ax hE O K0) 0 ?_;refine dr 0 Z [8] ?_;refine dw [0,3,4,6,7] ?_;refine dd Z ?_;exact⟨J1,_,⟨o,(Ext.draw _),F0,rfl⟩,rfl⟩
     ·refine sp ?_;exact⟨H1,_,⟨o,(Ext.refl _),O,rfl⟩,rfl⟩
  ·refine ci o (fun o=>?_) (fun o=>?_)
   ·refine rg<|rr 3 ?_;refine l1 (ax hE b0 g0) 0 ?_;refine rr 1 ?_;obtain⟨r0,d1,o⟩:=bS o;refine ix (hE.trans b0.ext) h3 d1 (fun Y1 u1 L0 V0=>?_);have u0:=zd8 V0;subst u0;refine rr 1 ?_;refine lN (At.sub (ax hE b0 L0) 5 5) ?_;have i0:=b0.b 0 rfl;refine so (A:=[]) i0 0 (fun G1 j0=>?_);refine rn ?_;exact⟨(r0.b.at_.Qj,r0.b.at_.Qi,r0.b.at_.Qo,r0.b.slot,r0.b.own),_,⟨o,j0,rfl⟩,rfl⟩
   ·refine sp ?_;exact⟨(q0.a.at_.Qj,q0.a.at_.Qi,q0.a.at_.Qo,q0.a.slot,q0.a.own),_,⟨o,b0,rfl⟩,rfl⟩

theorem zgn:EN 100:=en Tryz.func100
def z47 (fu:Nat)(x0:Qb)(x1:Int):Option (QH):=(if(decide (x1>0))=true then some (⟨x0,x1,true⟩:QH) else some (⟨x0,x1,(x0.Qi != 1)⟩:QH))

theorem zcR {W:Base}{w:World}(hE:Ext W w){X:List Value}{x0:Qb}{x1:Int}(Y:ty34.ro W X x0){fu:Nat}{r:QH}(hm:z47 fu x0 x1=some r):
  CL 100 ⟨[.agg ⟨X⟩,iv x1]⟩ w (Ret fun v w8=>v=.agg ⟨[iv r.at_.Qj,iv r.at_.Qi,iv r.at_.Qo,iv r.slot,.bool r.own]⟩∧St w w8 []):=by
 have e1:=z1f Y;subst e1;refine into Tryz.func100 15 _ ?_;unfold z47 at hm;have hS:=St.start w;refine sg<|nw hS (fun g2 w3 e4 Z=>?_);refine nw Z (fun g6 w7 a0 o=>?_);refine rn<|sg<|lN ((o.b 1 rfl).box) ?_;refine rr 4 ?_;refine rb 9 hm (fun hm=>?_) (fun hm=>?_)
 ·refine rr 4 ?_;refine qt (qb) ?_;have H:=o.b 0 rfl;refine so (A:=[]) H 0 (fun b0 q=>?_);refine rn<|rt ?_;cases hm;exact⟨_,.cons (ra ((q.b 0 rfl).box)) .nil,rfl,(q.t 0)⟩
 ·refine rr 1 ?_;refine l1 ((o.b 1 rfl).box) 1 ?_;refine rr 2 ?_;refine qt (qb) ?_;have O:=o.b 0 rfl;refine so (A:=[]) O 0 (fun c0 G=>?_);refine rn<|rt ?_;cases hm;exact⟨_,.cons (ra ((G.b 0 rfl).box)) .nil,rfl,(G.t 0)⟩

end Go.E



