/- Models of functions and proofs that the code runs as they say (written by program). Conditions: the model gives a value. -/
import Derived.Test.YteommboffflkbaaGreatMixedS
namespace Go.E
open Go.RowKit Go.Proofs
set_option linter.unusedVariables false
set_option linter.unusedSimpArgs false
set_option maxHeartbeats 2000000
set_option maxRecDepth 100000

theorem zpD:EN 95:=en Tryz.func95
def z9E (fu:Nat) (x0:D.Qq) (x1:Int):Option (Int):=((z7O fu x0.QC x1).bind fun d=>(if(decide (d<0))=true then some (-1) else((z74 fu x0.Qc d).bind fun h=>(if(decide (h<0))=true then some (-1) else((z5E fu x0.Qo h).bind fun o=>(if(decide (o<0))=true then some (-1) else((z7O fu x0.Qt o).bind fun q=>(if(decide (q<0))=true then some (-1) else((z4O fu x0.QK q).bind fun G=>(if(decide (G<0))=true then some (-1) else some G))))))))))

theorem laws_szShot_ok {W w:World}(hE:Ext W w){o0:List Value}{x0:D.Qq}{x1:Int}(q0:ty67.ro W o0 x0){fu:Nat}{r:Int}(hm:z9E fu x0 x1=some r):
  CL 95 ⟨[.agg ⟨o0⟩,iv x1]⟩ w (RI w r):=by
 obtain⟨A1,k2,A4,k5,A7,C0,v0,D0,y0,E0,p0,h3,h6,r0,t0,u0⟩:=zft q0;subst p0;refine into Tryz.func95 36 _ ?_;unfold z9E at hm;have hS:=St.start w;refine sq<|rg<|nw hS (fun B0 Q0 A0 G=>?_);refine rr 1 ?_;refine rn<|sq<|rg<|rr 1 ?_;refine l1 ((G.bring 0 rfl).box) 0 ?_;refine rr 1 ?_;obtain⟨F0,f0,hm⟩:=bS hm;refine ca zk6 (laws_szBoolS_ok (hE.trans G.ext) h3 f0) (fun L0 R0 M=>?_);obtain⟨rfl,O⟩:=M;have d:=G.join O;refine rr 1 ?_;refine rn<|sq<|sq<|rg<|rr 2 ?_;refine rn<|ci hm (fun hm=>?_) (fun hm=>?_)
 ·refine sq<|rg<|rr 1 ?_;refine rn<|rt ?_;cases hm;exact⟨_,tR rfl,rfl,(d.taken 0)⟩
 ·refine sp<|sq<|rg<|rr 1 ?_;refine l1 ((d.bring 0 rfl).box) 1 ?_;refine rr 1 ?_;obtain⟨G0,g0,hm⟩:=bS hm;refine ca zj4 (laws_szShardS_ok (hE.trans d.ext) h6 g0) (fun M0 S0 S=>?_);obtain⟨rfl,X⟩:=S;have h:=d.join X;refine rr 1 ?_;refine rn<|sq<|sq<|rg<|rr 2 ?_;refine rn<|ci hm (fun hm=>?_) (fun hm=>?_)
  ·refine sq<|rg<|rr 1 ?_;refine rn<|rt ?_;cases hm;exact⟨_,tR rfl,rfl,(h.taken 0)⟩
  ·refine sp<|sq<|rg<|rr 1 ?_;refine l1 ((h.bring 0 rfl).box) 2 ?_;refine rr 1 ?_;obtain⟨H0,i0,hm⟩:=bS hm;refine ca zkg (laws_szInt64SS_ok (hE.trans h.ext) r0 i0) (fun N0 T0 Y=>?_);obtain⟨rfl,Z⟩:=Y;have o:=h.join Z;refine rr 1 ?_;refine rn<|sq<|sq<|rg<|rr 2 ?_;refine rn<|ci hm (fun hm=>?_) (fun hm=>?_)
   ·refine sq<|rg<|rr 1 ?_;refine rn<|rt ?_;cases hm;exact⟨_,tR rfl,rfl,(o.taken 0)⟩
   ·refine sp<|sq<|rg<|rr 1 ?_;refine l1 ((o.bring 0 rfl).box) 3 ?_;refine rr 1 ?_;obtain⟨J0,j0,hm⟩:=bS hm;refine ca zk6 (laws_szBoolS_ok (hE.trans o.ext) t0 j0) (fun O0 U0 a0=>?_);obtain⟨rfl,b0⟩:=a0;have q:=o.join b0;refine rr 1 ?_;refine rn<|sq<|sq<|rg<|rr 2 ?_;refine rn<|ci hm (fun hm=>?_) (fun hm=>?_)
    ·refine sq<|rg<|rr 1 ?_;refine rn<|rt ?_;cases hm;exact⟨_,tR rfl,rfl,(q.taken 0)⟩
    ·refine sp<|sq<|rg<|rr 1 ?_;refine l1 ((q.bring 0 rfl).box) 4 ?_;refine rr 1 ?_;obtain⟨K0,k0,hm⟩:=bS hm;refine ca zkh (laws_szParcelSS_ok (hE.trans q.ext) u0 k0) (fun P0 V0 d0=>?_);obtain⟨rfl,e0⟩:=d0;have H:=q.join e0;refine rr 1 ?_;refine rn<|sq<|sq<|rg<|rr 2 ?_;refine rn<|ci hm (fun hm=>?_) (fun hm=>?_)
     ·refine sq<|rg<|rr 1 ?_;refine rn<|rt ?_;cases hm;exact⟨_,tR rfl,rfl,(H.taken 0)⟩
     ·refine sp<|sq<|rg<|rr 2 ?_;refine rn<|rt ?_;cases hm;exact⟨_,tR rfl,rfl,(H.taken 0)⟩

theorem zpR:EN 42:=en Tryz.func42
def z7D (fu:Nat) (x0:D.Qx) (x1:Int):Option (Int):=((z7F fu x0.Qa x1).bind fun d=>(if(decide (d<0))=true then some (-1) else((z9E fu x0.Qq d).bind fun h=>(if(decide (h<0))=true then some (-1) else some h))))

theorem laws_szWatched_ok {W w:World}(hE:Ext W w){X:List Value}{x0:D.Qx}{x1:Int}(Z:ty69.ro W X x0){fu:Nat}{r:Int}(hm:z7D fu x0 x1=some r):
  CL 42 ⟨[.agg ⟨X⟩,iv x1]⟩ w (RI w r):=by
 obtain⟨A1,k2,A4,k5,A7,A0,k0,B0,o0,C0,p0,D0,q0,E0,r0,F0,t0,G0,u0,H0,Y,h3,h6,a0,b0,d0,e0,f0,g0,i0,j0⟩:=zfs Z;subst Y;refine into Tryz.func42 18 _ ?_;unfold z7D at hm;have hS:=St.start w;refine sq<|rg<|nw hS (fun y0 N0 v0 h=>?_);refine rr 1 ?_;refine rn<|sq<|rg<|rr 1 ?_;refine lN (At.sub ((h.bring 0 rfl).box) 0 8) ?_;refine rr 1 ?_;obtain⟨J0,O,hm⟩:=bS hm;refine ca zpT (laws_szCluster_ok (hE.trans h.ext) (zhX x0.Qa h3 h6 a0 b0 d0) O) (fun L0 O0 q=>?_);obtain⟨rfl,G⟩:=q;have d:=h.join G;refine rr 1 ?_;refine rn<|sq<|sq<|rg<|rr 2 ?_;refine rn<|ci hm (fun hm=>?_) (fun hm=>?_)
 ·refine sq<|rg<|rr 1 ?_;refine rn<|rt ?_;cases hm;exact⟨_,tR rfl,rfl,(d.taken 0)⟩
 ·refine sp<|sq<|rg<|rr 1 ?_;refine lN (At.sub ((d.bring 0 rfl).box) 8 5) ?_;refine rr 1 ?_;obtain⟨K0,S,hm⟩:=bS hm;refine ca zpD (laws_szShot_ok (hE.trans d.ext) (zhU x0.Qq e0 f0 g0 i0 j0) S) (fun M0 P0 H=>?_);obtain⟨rfl,M⟩:=H;have o:=d.join M;refine rr 1 ?_;refine rn<|sq<|sq<|rg<|rr 2 ?_;refine rn<|ci hm (fun hm=>?_) (fun hm=>?_)
  ·refine sq<|rg<|rr 1 ?_;refine rn<|rt ?_;cases hm;exact⟨_,tR rfl,rfl,(o.taken 0)⟩
  ·refine sp<|sq<|rg<|rr 2 ?_;refine rn<|rt ?_;cases hm;exact⟨_,tR rfl,rfl,(o.taken 0)⟩

theorem zpB:EN 97:=en Tryz.func97
def z9B (fu:Nat) (x0:D.Qq):Option (D.Qq):=((z7N fu x0.QC).bind fun d=>((z72 fu x0.Qc).bind fun h=>((z5D fu x0.Qo).bind fun o=>((z7N fu x0.Qt).bind fun q=>((z4N fu x0.QK).bind fun G=>some (⟨d,h,o,q,G⟩:D.Qq))))))

theorem laws_toShot_ok {W w:World}(hE:Ext W w){J0:List Value}{x0:D.Qq}(Q0:ty67.ro W J0 x0){fu:Nat}{r:D.Qq}(hm:z9B fu x0=some r):
  CL 97 ⟨[.agg ⟨J0⟩]⟩ w (Ret fun v w8=>∃ A0 k0 A1 k1 A2 k2 A3 k3 A4 k4,v=.agg ⟨[sl A0 r.QC k0,sl A1 r.Qc k1,sl A2 r.Qo k2,sl A3 r.Qt k3,sl A4 r.QK k4]⟩∧St w w8 [ow ty56 A0 r.QC k0,ow ty34 A1 r.Qc k1,ow ty28 A2 r.Qo k2,ow ty56 A3 r.Qt k3,ow ty38 A4 r.QK k4]):=by
 obtain⟨A1,k2,A4,k5,A7,p1,d1,t1,e1,u1,P0,h3,h6,R0,S0,T0⟩:=zft Q0;subst P0;refine into Tryz.func97 25 _ ?_;unfold z9B at hm;have hS:=St.start w;refine sq<|rg<|nw hS (fun j1 K1 f1 g0=>?_);refine nw g0 (fun m1 L1 g1 i0=>?_);refine rn<|sq<|rg<|nw i0 (fun n1 M1 i1 d=>?_);refine rn<|sq<|rg<|rr 1 ?_;refine l1 ((d.bring 2 rfl).box) 0 ?_;obtain⟨v1,D0,hm⟩:=bS hm;refine ca zk5 (laws_toBoolS_ok (hE.trans d.ext) h3 D0) (fun E1 N1 O=>?_);obtain⟨K0,U0,rfl,S⟩:=O;have j0:=d.join S;refine rr 1 ?_;have o0:=j0.bring 1 rfl;refine so (A:=[]) o0 0 (fun O1 h=>?_);refine rn<|sq<|rg<|rr 1 ?_;refine l1 ((h.bring 3 rfl).box) 1 ?_;obtain⟨y1,E0,hm⟩:=bS hm;refine ca zj3 (laws_toShardS_ok (hE.trans h.ext) h6 E0) (fun F1 P1 X=>?_);obtain⟨L0,V0,rfl,Y⟩:=X;have p0:=h.join Y;refine rr 1 ?_;have q0:=p0.bring 1 rfl;refine so (A:=[]) q0 1 (fun Q1 o=>?_);refine rn<|sq<|rg<|rr 1 ?_;refine l1 ((o.bring 4 rfl).box) 2 ?_;obtain⟨B1,F0,hm⟩:=bS hm;refine ca zkd (laws_toInt64SS_ok (hE.trans o.ext) R0 F0) (fun G1 R1 Z=>?_);obtain⟨M0,X0,rfl,a0⟩:=Z;have r0:=o.join a0;refine rr 1 ?_;have t0:=r0.bring 1 rfl;refine so (A:=[]) t0 2 (fun S1 q=>?_);refine rn<|sq<|rg<|rr 1 ?_;refine l1 ((q.bring 5 rfl).box) 3 ?_;obtain⟨C1,G0,hm⟩:=bS hm;refine ca zk5 (laws_toBoolS_ok (hE.trans q.ext) S0 G0) (fun H1 T1 b0=>?_);obtain⟨N0,Y0,rfl,d0⟩:=b0;have u0:=q.join d0;refine rr 1 ?_;have v0:=u0.bring 1 rfl;refine so (A:=[]) v0 3 (fun U1 G=>?_);refine rn<|sq<|rg<|rr 1 ?_;refine l1 ((G.bring 6 rfl).box) 4 ?_;obtain⟨D1,H0,hm⟩:=bS hm;refine ca zke (laws_toParcelSS_ok (hE.trans G.ext) T0 H0) (fun J1 V1 e0=>?_);obtain⟨O0,a1,rfl,f0⟩:=e0;have y0:=G.join f0;refine rr 1 ?_;have B0:=y0.bring 1 rfl;refine so (A:=[]) B0 4 (fun W1 H=>?_);refine rn<|sq<|rg<|lN ((H.bring 0 rfl).box) ?_;have C0:=H.bring 6 rfl;refine so (A:=[]) C0 0 (fun X1 M=>?_);refine rn<|rt ?_;cases hm;exact⟨_,.cons (ra ((M.bring 0 rfl).box)) .nil,K0,U0,L0,V0,M0,X0,N0,Y0,O0,a1,rfl,((((((M.bring 2 rfl).bring 3 rfl).bring 4 rfl).bring 5 rfl).bring 6 rfl).taken 5)⟩

theorem zfm:EN 44:=en Tryz.func44
def z35 (fu:Nat) (x0:D.Qx):Option (D.Qx):=((z7C fu x0.Qa).bind fun d=>((z9B fu x0.Qq).bind fun h=>some (⟨d,h⟩:D.Qx)))

theorem laws_toWatched_ok {W w:World}(hE:Ext W w){g0:List Value}{x0:D.Qx}(C0:ty69.ro W g0 x0){fu:Nat}{r:D.Qx}(hm:z35 fu x0=some r):
  CL 44 ⟨[.agg ⟨g0⟩]⟩ w (Ret fun v w8=>∃ A0 k0 A1 k1 A2 k2 A3 k3 A4 k4 A5 k5 A6 k6 A7 k7 A8 k8 A9 k9,v=.agg ⟨[sl A0 r.Qa.Qi.Qc k0,iv r.Qa.Qi.Qy.Qg,iv r.Qa.Qi.Qy.Qj,iv r.Qa.Qi.Qy.Qs,sl A1 r.Qa.Qh k1,sl A2 r.Qa.Qo k2,sl A3 r.Qa.QU k3,sl A4 r.Qa.QZ k4,sl A5 r.Qq.QC k5,sl A6 r.Qq.Qc k6,sl A7 r.Qq.Qo k7,sl A8 r.Qq.Qt k8,sl A9 r.Qq.QK k9]⟩∧St w w8 [ow ty34 A0 r.Qa.Qi.Qc k0,ow ty38 A1 r.Qa.Qh k1,ow ty28 A2 r.Qa.Qo k2,ow ty29 A3 r.Qa.QU k3,ow ty29 A4 r.Qa.QZ k4,ow ty56 A5 r.Qq.QC k5,ow ty34 A6 r.Qq.Qc k6,ow ty28 A7 r.Qq.Qo k7,ow ty56 A8 r.Qq.Qt k8,ow ty38 A9 r.Qq.QK k9]):=by
 obtain⟨A1,k2,A4,k5,A7,u1,X0,v1,Y0,y1,a1,B1,d1,C1,e1,D1,f1,E1,g1,F1,B0,h3,h6,D0,E0,F0,G0,H0,J0,K0,L0⟩:=zfs C0;subst B0;refine into Tryz.func44 13 _ ?_;unfold z35 at hm;have hS:=St.start w;refine sq<|rg<|nw hS (fun n1 L1 i1 S=>?_);refine nw S (fun p1 M1 j1 X=>?_);refine rn<|sq<|rg<|nw X (fun t1 N1 m1 d=>?_);refine rn<|sq<|rg<|rr 1 ?_;refine lN (At.sub ((d.bring 2 rfl).box) 0 8) ?_;obtain⟨G1,e0,hm⟩:=bS hm;refine ca zpS (laws_toCluster_ok (hE.trans d.ext) (zhX x0.Qa h3 h6 D0 E0 F0) e0) (fun J1 O1 G=>?_);obtain⟨i0,M0,j0,N0,o0,O0,p0,P0,q0,Q0,rfl,H⟩:=G;have Y:=d.join H;refine rr 1 ?_;have Z:=Y.bring 5 rfl;refine so (A:=[]) Z 0 (fun P1 h=>?_);refine rn<|sq<|rg<|rr 1 ?_;refine lN (At.sub ((h.bring 7 rfl).box) 8 5) ?_;obtain⟨H1,f0,hm⟩:=bS hm;refine ca zpB (laws_toShot_ok (hE.trans h.ext) (zhU x0.Qq G0 H0 J0 K0 L0) f0) (fun K1 Q1 M=>?_);obtain⟨r0,R0,t0,S0,u0,T0,v0,U0,y0,V0,rfl,O⟩:=M;have a0:=h.join O;refine rr 1 ?_;have b0:=a0.bring 5 rfl;refine so (A:=[]) b0 8 (fun R1 o=>?_);refine rn<|sq<|rg<|lN ((o.bring 0 rfl).box) ?_;have d0:=o.bring 11 rfl;refine so (A:=[]) d0 0 (fun S1 q=>?_);refine rn<|rt ?_;cases hm;exact⟨_,.cons (ra ((q.bring 0 rfl).box)) .nil,i0,M0,j0,N0,o0,O0,p0,P0,q0,Q0,r0,R0,t0,S0,u0,T0,v0,U0,y0,V0,rfl,(((((((((((q.bring 6 rfl).bring 6 rfl).bring 6 rfl).bring 6 rfl).bring 6 rfl).bring 11 rfl).bring 11 rfl).bring 11 rfl).bring 11 rfl).bring 11 rfl).taken 10)⟩

theorem znG:EN 205:=en Tryz.func205
def z98 (fu:Nat) (d:Unit):Option Bool:=some true
def z9b (fu:Nat) (x0:D.Qp) (x1:D.Qp) (o:Int):Option (Rd (Int) (Unit) (Bool)):=(if(decide (o<(x0.Qu.length:Int)))=true then((idx x0.Qu o).bind fun d=>((idx x1.Qu o).bind fun h=>(if(!((((d.A.Qg:Int) == h.A.Qg) && (((d.A.Qj:Int) == h.A.Qj) && (((d.A.Qs:Int) == h.A.Qs) && true))) && ((((d.B.Qg:Int) == h.B.Qg) && (((d.B.Qj:Int) == h.B.Qj) && (((d.B.Qs:Int) == h.B.Qs) && true))) && true)))=true then some (.ret false) else some (.next (w64 (o+1)))))) else some (.brk ()))
def z99 (fu:Nat) (x0:D.Qp) (x1:D.Qp) (d:Unit):Option Bool:=((iter (z9b fu x0 x1) fu 0).bind fun o=>aft o (z98 fu))
def z9c (fu:Nat) (x0:D.Qp) (x1:D.Qp) (o:Int):Option (Rd (Int) (Unit) (Bool)):=(if(decide (o<(x0.QG.length:Int)))=true then((idx x0.QG o).bind fun h=>((idx x1.QG o).bind fun d=>(if(!((h.Qa0 == d.Qa0) && ((h.Qa1 == d.Qa1) && ((((h.QV.Qg:Int) == d.QV.Qg) && (((h.QV.Qj:Int) == d.QV.Qj) && (((h.QV.Qs:Int) == d.QV.Qs) && true))) && true))))=true then some (.ret false) else some (.next (w64 (o+1)))))) else some (.brk ()))
def z9a (fu:Nat) (x0:D.Qp) (x1:D.Qp) (d:Unit):Option Bool:=((iter (z9c fu x0 x1) fu 0).bind fun o=>aft o (z99 fu x0 x1))
def z9d (fu:Nat) (x0:D.Qp) (x1:D.Qp) (d:Int):Option (Rd (Int) (Unit) (Bool)):=(if(decide (d<(x0.Cells.length:Int)))=true then((idx x0.Cells d).bind fun o=>((idx x1.Cells d).bind fun q=>((z3T fu o q).bind fun h=>(if(!h)=true then some (.ret false) else some (.next (w64 (d+1))))))) else some (.brk ()))
def z1C (fu:Nat) (x0:D.Qp) (x1:D.Qp) (d:Bool):Option Bool:=(if d=true then some false else((iter (z9d fu x0 x1) fu 0).bind fun o=>aft o (z9a fu x0 x1)))
def z7z (fu:Nat) (x0:D.Qp) (x1:D.Qp):Option (Bool):=(if((x0.Cells.length:Int) != (x1.Cells.length:Int))=true then z1C fu x0 x1 true else(if((x0.QG.length:Int) != (x1.QG.length:Int))=true then z1C fu x0 x1 true else z1C fu x0 x1 ((x0.Qu.length:Int) != (x1.Qu.length:Int))))

theorem zex {W w:World}(hE:Ext W w){B1:List Value}{x0:D.Qp}{C1:List Value}{x1:D.Qp}(e2:z20.ro W B1 x0) (p2:z20.ro W C1 x1){fu:Nat}{r:Bool}(hm:z7z fu x0 x1=some r):
  CL 205 ⟨[.agg ⟨B1⟩,.agg ⟨C1⟩]⟩ w (RB w r):=by
 obtain⟨A1,k2,A4,k5,A7,o0,V1,h3,h6,f2⟩:=zw e2;subst V1;obtain⟨i0,p0,j0,q0,k0,r0,W1,n2,o2,q2⟩:=zw p2;subst W1;refine into Tryz.func205 86 _ ?_;unfold z7z at hm;have hS:=St.start w;refine sq<|rg<|nw hS (fun Y b3 U2 U0=>?_);refine nw U0 (fun Z Q2 V2 O=>?_);refine rr 1 ?_;refine rn<|sq<|sq<|ct (fun(y1:Bool) F w9=>z1C fu x0 x1 y1=some r∧Ext Q2 w9∧St w w9 [Box Z [sl i0 x1.Cells p0,sl j0 x1.QG q0,sl k0 x1.Qu r0] 166,Box Y [sl A1 x0.Cells k2,sl A4 x0.QG k5,sl A7 x0.Qu o0] 166]∧F=[(2,.pointer (some ⟨Y,0,none⟩)),(3,.pointer (some ⟨Z,0,none⟩)),(32,.bool y1)]) ?_ ?_
 ·rintro y1 F O1 ⟨hm,r2,A0,rfl⟩;unfold z1C at hm;refine ci hm (fun hm=>?_) (fun hm=>?_)
  ·refine sq<|rg<|rr 1 ?_;refine rn<|rt ?_;cases hm;exact⟨_,tR rfl,rfl,(A0.taken 0)⟩
  ·refine sp<|sq<|sq<|rg<|rr 1 ?_;refine rn ?_;obtain⟨E2,e1,hm⟩:=bS hm;refine ct (fun(L1:Unit) F w9=>E2=.inl L1∧Ext O1 w9∧St w w9 [Box Z [sl i0 x1.Cells p0,sl j0 x1.QG q0,sl k0 x1.Qu r0] 166,Box Y [sl A1 x0.Cells k2,sl A4 x0.QG k5,sl A7 x0.Qu o0] 166]∧F=[(2,.pointer (some ⟨Y,0,none⟩)),(3,.pointer (some ⟨Z,0,none⟩))]) ?_ ?_
   ·rintro L1 F P1 ⟨i1,t2,V0,rfl⟩;subst i1;rw [z8] at hm;unfold z9a at hm;refine sq<|sq<|rg<|rr 1 ?_;refine rn ?_;obtain⟨F2,f1,hm⟩:=bS hm;refine ct (fun(M1:Unit) F w9=>F2=.inl M1∧Ext P1 w9∧St w w9 [Box Z [sl i0 x1.Cells p0,sl j0 x1.QG q0,sl k0 x1.Qu r0] 166,Box Y [sl A1 x0.Cells k2,sl A4 x0.QG k5,sl A7 x0.Qu o0] 166]∧F=[(2,.pointer (some ⟨Y,0,none⟩)),(3,.pointer (some ⟨Z,0,none⟩))]) ?_ ?_
    ·rintro M1 F Q1 ⟨j1,u2,X0,rfl⟩;subst j1;rw [z8] at hm;unfold z99 at hm;refine sq<|sq<|rg<|rr 1 ?_;refine rn ?_;obtain⟨G2,g1,hm⟩:=bS hm;refine ct (fun(N1:Unit) F w9=>G2=.inl N1∧Ext Q1 w9∧St w w9 [Box Z [sl i0 x1.Cells p0,sl j0 x1.QG q0,sl k0 x1.Qu r0] 166,Box Y [sl A1 x0.Cells k2,sl A4 x0.QG k5,sl A7 x0.Qu o0] 166]∧F=[]) ?_ ?_
     ·rintro N1 F c3 ⟨m1,v2,Y0,rfl⟩;subst m1;rw [z8] at hm;unfold z98 at hm;refine sq<|rg<|rr 1 ?_;refine rn<|rt ?_;cases hm;exact⟨_,tR rfl,rfl,(Y0.taken 0)⟩
     ·refine bk<|wk [2,3,7] ?_;refine it (fun(K1:Int) F w9=>Ext Q1 w9∧St w w9 [Box Z [sl i0 x1.Cells p0,sl j0 x1.QG q0,sl k0 x1.Qu r0] 166,Box Y [sl A1 x0.Cells k2,sl A4 x0.QG k5,sl A7 x0.Qu o0] 166]∧F=[(2,.pointer (some ⟨Y,0,none⟩)),(3,.pointer (some ⟨Z,0,none⟩)),(7,iv K1)]) g1 ⟨(Ext.refl _),X0,rfl⟩ ?_;rintro K1 F d3 _ W2 ⟨v0,H,rfl⟩ h H0;unfold z9b at h;refine sq<|sq<|rg<|rr 2 ?_;refine l1 ((H.bring 1 rfl).box) 2 ?_;refine rr 2 ?_;refine rn<|ci h (fun h=>?_) (fun h=>?_)
      ·refine sp<|sq<|bk<|sq<|dn 0 mixed 11 [([],2047),([0],2046),([],2047),([1,2],2041),([3],2039),([],2047),([5],2015),([],2047),([6,7],1855),([8],1791),([4,9],1519)] H.ext (fun S=>?_);have B0:=H.step (Ext.draw _);refine dr 7 S [0,2,5,7] ?_;refine dl S 1 ((H.bring 1 rfl).box) 2 ?_;obtain⟨f3,t1,h⟩:=bS h;refine dx (hE.trans H.ext) S 3 f2 t1 (fun Y2 a2 a1 n1=>?_);have X1:=z2r n1;subst X1;refine dL S 4 (ax hE H a1) ?_;refine dl S 6 ((H.bring 0 rfl).box) 2 ?_;obtain⟨g3,u1,h⟩:=bS h;refine dx (hE.trans H.ext) S 8 q2 u1 (fun a3 d2 d1 p1=>?_);have Y1:=z2r p1;subst Y1;refine dL S 9 (ax hE H d1) ?_;refine dr 0 S [10] ?_;refine dw [2,3,7,85] ?_;refine dd S ?_;refine ci h (fun h=>?_) (fun h=>?_)
       ·refine sq<|rg<|rr 1 ?_;refine rn<|rt ?_;cases h;cases H0;have hm:some _=some _:=hm;cases hm;exact⟨_,tR rfl,rfl,(B0.taken 0)⟩
       ·refine sp<|rg<|rr 3 ?_;refine rn ?_;cases h;exact⟨_,_,rfl,⟨(v0.trans (Ext.draw _)),B0,rfl⟩,rfl⟩
      ·refine xt ?_;cases h;exact⟨_,_,⟨H0,v0,H,rfl⟩,rfl⟩
    ·refine bk<|wk [2,3,6] ?_;refine it (fun(J1:Int) F w9=>Ext P1 w9∧St w w9 [Box Z [sl i0 x1.Cells p0,sl j0 x1.QG q0,sl k0 x1.Qu r0] 166,Box Y [sl A1 x0.Cells k2,sl A4 x0.QG k5,sl A7 x0.Qu o0] 166]∧F=[(2,.pointer (some ⟨Y,0,none⟩)),(3,.pointer (some ⟨Z,0,none⟩)),(6,iv J1)]) f1 ⟨(Ext.refl _),V0,rfl⟩ ?_;rintro J1 F e3 _ X2 ⟨u0,M,rfl⟩ o J0;unfold z9c at o;refine sq<|sq<|rg<|rr 2 ?_;refine l1 ((M.bring 1 rfl).box) 1 ?_;refine rr 2 ?_;refine rn<|ci o (fun o=>?_) (fun o=>?_)
     ·refine sp<|sq<|bk<|sq<|dn 0 mixed 11 [([],2047),([0],2046),([],2047),([1,2],2041),([3],2039),([],2047),([5],2015),([],2047),([6,7],1855),([8],1791),([4,9],1519)] M.ext (fun X=>?_);have C0:=M.step (Ext.draw _);refine dr 7 X [0,2,5,7] ?_;refine dl X 1 ((M.bring 1 rfl).box) 1 ?_;obtain⟨i3,v1,o⟩:=bS o;refine dx (hE.trans M.ext) X 3 h6 v1 (fun H2 D1 D0 K0=>?_);have Q0:=z1n K0;subst Q0;refine dL X 4 (ax hE M D0) ?_;refine dl X 6 ((M.bring 0 rfl).box) 1 ?_;obtain⟨R2,M0,o⟩:=bS o;refine dx (hE.trans M.ext) X 8 o2 M0 (fun J2 E1 E0 L0=>?_);have R0:=z1n L0;subst R0;refine dL X 9 (ax hE M E0) ?_;refine dr 0 X [10] ?_;refine dw [2,3,6,67] ?_;refine dd X ?_;refine ci o (fun o=>?_) (fun o=>?_)
      ·refine sq<|rg<|rr 1 ?_;refine rn<|rt ?_;cases o;cases J0;have hm:some _=some _:=hm;cases hm;exact⟨_,tR rfl,rfl,(C0.taken 0)⟩
      ·refine sp<|rg<|rr 3 ?_;refine rn ?_;cases o;exact⟨_,_,rfl,⟨(u0.trans (Ext.draw _)),C0,rfl⟩,rfl⟩
     ·refine xt ?_;cases o;exact⟨_,_,⟨J0,u0,M,rfl⟩,rfl⟩
   ·refine bk<|wk [2,3,5] ?_;refine it (fun(H1:Int) F w9=>Ext O1 w9∧St w w9 [Box Z [sl i0 x1.Cells p0,sl j0 x1.QG q0,sl k0 x1.Qu r0] 166,Box Y [sl A1 x0.Cells k2,sl A4 x0.QG k5,sl A7 x0.Qu o0] 166]∧F=[(2,.pointer (some ⟨Y,0,none⟩)),(3,.pointer (some ⟨Z,0,none⟩)),(5,iv H1)]) e1 ⟨(Ext.refl _),A0,rfl⟩ ?_;rintro H1 F O2 _ D2 ⟨t0,G,rfl⟩ d e0;unfold z9d at d;refine sq<|sq<|rg<|rr 2 ?_;refine l1 ((G.bring 1 rfl).box) 0 ?_;refine rr 2 ?_;refine rn<|ci d (fun d=>?_) (fun d=>?_)
    ·refine sp<|sq<|bk<|sq<|dn 0 mixed 10 [([],1023),([0],1022),([],1023),([1,2],1017),([],1023),([4],1007),([],1023),([5,6],927),([3,7],887),([8],767)] G.ext (fun q=>?_);have b0:=G.step (Ext.draw _);refine dr 6 q [0,2,4,6] ?_;refine dl q 1 ((G.bring 1 rfl).box) 0 ?_;obtain⟨S2,N0,d⟩:=bS d;refine dx (hE.trans G.ext) q 3 h3 N0 (fun K2 F1 F0 f0=>?_);obtain⟨R1,y2,S1,A2,S0,g2,i2⟩:=zq f0;subst S0;refine dl q 5 ((G.bring 0 rfl).box) 0 ?_;obtain⟨T2,O0,d⟩:=bS d;refine dx (hE.trans G.ext) q 7 n2 O0 (fun L2 G1 G0 g0=>?_);obtain⟨T1,B2,U1,C2,T0,j2,m2⟩:=zq g0;subst T0;obtain⟨M2,P0,d⟩:=bS d;refine o1 q 8 (mc q ziH (zb7 (hE.trans b0.ext) f0 F0 g0 G0 P0) (fun N2 P2 y0=>?_));obtain⟨rfl,a0⟩:=y0;refine⟨a0.ext,?_⟩;have d0:=b0.join a0;refine dr 0 q [9] ?_;refine dw [2,3,5,49] ?_;refine dd q ?_;refine ci d (fun d=>?_) (fun d=>?_)
     ·refine sq<|rg<|rr 1 ?_;refine rn<|rt ?_;cases d;cases e0;have hm:some _=some _:=hm;cases hm;exact⟨_,tR rfl,rfl,(d0.taken 0)⟩
     ·refine sp<|rg<|rr 3 ?_;refine rn ?_;cases d;exact⟨_,_,rfl,⟨((t0.trans (Ext.draw _)).trans a0.ext),d0,rfl⟩,rfl⟩
    ·refine xt ?_;cases d;exact⟨_,_,⟨e0,t0,G,rfl⟩,rfl⟩
 ·refine rg<|rr 1 ?_;refine l1 ((O.bring 1 rfl).box) 0 ?_;refine rr 2 ?_;refine l1 ((O.bring 0 rfl).box) 0 ?_;refine rr 3 ?_;refine rb 15 hm (fun hm=>?_) (fun hm=>?_)
  ·refine rr 17 ?_;refine rn ?_;exact⟨true,_,⟨hm,(Ext.refl _),O,rfl⟩,rfl⟩
  ·refine rr 1 ?_;refine l1 ((O.bring 1 rfl).box) 1 ?_;refine rr 2 ?_;refine l1 ((O.bring 0 rfl).box) 1 ?_;refine rr 4 ?_;refine rb 24 hm (fun hm=>?_) (fun hm=>?_)
   ·refine rr 8 ?_;refine rn ?_;exact⟨true,_,⟨hm,(Ext.refl _),O,rfl⟩,rfl⟩
   ·refine rr 1 ?_;refine l1 ((O.bring 1 rfl).box) 2 ?_;refine rr 2 ?_;refine l1 ((O.bring 0 rfl).box) 2 ?_;refine rr 3 ?_;refine rn ?_;exact⟨((x0.Qu.length:Int) != (x1.Qu.length:Int)),_,⟨hm,(Ext.refl _),O,rfl⟩,rfl⟩

theorem zoa:EN 152:=en Tryz.func152
def z6O (fu:Nat) (x0:D.Qq) (x1:Int):Option (Bool):=((idx x0.QC x1).bind fun G=>(if G=true then((idx x0.Qc x1).bind fun H=>((z4a fu (⟨([H]:(List D.Qp)),(⟨0,0,0⟩:D.Qf)⟩:D.Qi)).bind fun o=>(if o=true then((idx x0.Qo x1).bind fun M=>((z1T fu M 7).bind fun q=>some q)) else some false))) else((idx x0.Qc x1).bind fun O=>((z7z fu O (⟨[],[],[]⟩:D.Qp)).bind fun d=>(if d=true then((idx x0.Qo x1).bind fun h=>some ((h.length:Int) == 0)) else some false)))))

theorem zdV {W w:World}(hE:Ext W w){V0:Addr}{S0:List Value}{x0:D.Qq}{x1:Int}(u1:ty73.ro W S0 x0) (O:At W V0 S0){fu:Nat}{r:Bool}(hm:z6O fu x0 x1=some r):
  CL 152 ⟨[.pointer (some V0),iv x1]⟩ w (RB w r):=by
 obtain⟨A1,k2,A4,k5,A7,i2,S1,j2,T1,m2,g1,h3,h6,U0,f2,g2⟩:=zb3 u1;subst g1;refine into Tryz.func152 55 _ ?_;unfold z6O at hm;have hS:=St.start w;refine sq<|rg<|rr 1 ?_;refine rn<|sq<|sq<|rg<|rr 3 ?_;refine l1 (ax hE hS O) 0 ?_;refine rr 1 ?_;obtain⟨J2,M0,hm⟩:=bS hm;refine ix (hE.trans hS.ext) h3 M0 (fun p2 m1 F0 K0=>?_);cases K0;refine l1 (ax hE hS F0) 0 ?_;refine rn<|ci hm (fun hm=>?_) (fun hm=>?_)
 ·refine sq<|rg<|rr 3 ?_;refine l1 (ax hE hS O) 1 ?_;refine rr 1 ?_;obtain⟨q,N0,hm⟩:=bS hm;refine ix (hE.trans hS.ext) h6 N0 (fun q2 n1 G0 L0=>?_);obtain⟨d1,K1,e1,L1,f1,M1,i1,C1,D1,E1⟩:=zw L0;subst i1;refine lN (ax hE hS G0) ?_;have p0:=St.noEl (zcf W) hS;have q0:=St.bor (T:=z3h) (x:=q.Qu) p0 E1;have r0:=St.bor (T:=z3w) (x:=q.QG) q0 D1;have t0:=St.bor (T:=z6K) (x:=q.Cells) r0 C1;have u0:=zhk (W0:=W) (c:=q) (B:=_) t0;have v0:=St.consEl u0;refine ns (U:=(zcf W)) (els:=[.slice d1 q.Cells.length K1,.slice e1 q.QG.length L1,.slice f1 q.Qu.length M1]) (ys:=[q]) v0 (fun U1 n2 B2 X1 y0=>?_);refine qt (qb) ?_;refine nw y0 (fun d2 C2 Y1 A0=>?_);have B0:=A0.bring 0 rfl;refine so (A:=[]) B0 0 (fun D2 M=>?_);refine rn<|sq<|rg ?_;obtain⟨u2,O0,hm⟩:=bS hm;refine ca ziR (zbW (Ext.refl _) (z5J (⟨([q]:(List D.Qp)),(⟨0,0,0⟩:D.Qf)⟩:D.Qi) (roOf zmf (St.ownE (W0:=W) hE (M.bring 1 rfl)))) ((M.bring 0 rfl).box) O0) (fun y2 E2 i0=>?_);obtain⟨rfl,j0⟩:=i0;have o:=M.join j0;refine rr 1 ?_;refine rb 24 hm (fun hm=>?_) (fun hm=>?_)
  ·refine rr 3 ?_;refine l1 (ax hE o O) 2 ?_;refine rr 1 ?_;obtain⟨K2,P0,hm⟩:=bS hm;refine ix (hE.trans o.ext) U0 P0 (fun r2 p1 H0 a0=>?_);obtain⟨V1,o2,j1⟩:=z1z a0;subst j1;refine l1 (ax hE o H0) 0 ?_;obtain⟨v2,Q0,hm⟩:=bS hm;refine ca zej (z7Y (hE.trans o.ext) a0 Q0) (fun A2 F2 k0=>?_);obtain⟨rfl,o0⟩:=k0;have C0:=o.join o0;refine rr 2 ?_;refine rn<|rt ?_;cases hm;exact⟨_,tR rfl,rfl,(C0.taken 0)⟩
  ·refine rr 10 ?_;refine rn<|rt ?_;cases hm;exact⟨_,tR rfl,rfl,(o.taken 0)⟩
 ·refine sp<|sq<|rg<|qt (qb) ?_;refine nw hS (fun e2 G2 a2 D0=>?_);have E0:=D0.bring 0 rfl;refine so (A:=[]) E0 0 (fun H2 h=>?_);refine rn<|sq<|dn 0 mixed 21 [([],2097151),([0],2097150),([1],2097149),([2],2097147),([],2097151),([3,4],2097127),([5],2097119),([],2097151),([6,7],2096959),([8,8],2096895),([9],2096639),([10,9],2095615),([11,9],2094591),([12,9],2092543),([9],2096639),([13,14,9],2072063),([15,9],2063871),([16,9],2031103),([17,9],1965567),([9,18],1834495),([19,9,0,1,2,3,4,5,6,7,8,9,10,11,12,13,14,15,16,17,18,19],1572863)] h.ext (fun d=>?_);have X:=h.step (Ext.draw _);refine dr 17 d [0,1,2,4] ?_;refine dw [0,1,4,6,37,39] ?_;refine dl d 3 (ax hE h O) 1 ?_;obtain⟨L2,R0,hm⟩:=bS hm;refine dx (hE.trans h.ext) d 5 h6 R0 (fun t2 t1 J0 b0=>?_);obtain⟨W1,F1,X0,G1,Y0,H1,f0,v1,y1,B1⟩:=zw b0;subst f0;refine dL d 6 (ax hE h J0) ?_;refine dL d 7 ((h.bring 0 rfl).box) ?_;obtain⟨O1,d0,hm⟩:=bS hm;refine o1 d 8 (mc d znG (zex (hE.trans X.ext) b0 (zd8 (⟨[],[],[]⟩:D.Qp) (slNil z2B 154 _) (slNil za8 223 _) (slNil zak 239 _)) d0) (fun P1 Q1 S=>?_));obtain⟨rfl,G⟩:=S;refine⟨G.ext,?_⟩;have H:=X.join G;refine dr 11 d [9] ?_;refine dw [0,1,4,44] ?_;refine db 44 hm (fun hm=>?_) (fun hm=>?_)
  ·refine dr 7 d [10,11,12,14] ?_;refine dl d 13 (ax hE h O) 2 ?_;obtain⟨R1,e0,hm⟩:=bS hm;refine dx (hE.trans h.ext) d 15 U0 e0 (fun N1 T0 Y Z=>?_);obtain⟨a1,J1,g0⟩:=z1z Z;subst g0;refine dl d 16 (ax hE h Y) 0 ?_;refine dr 0 d [17,18,19,20] ?_;refine dw [4] ?_;refine dd d ?_;refine rt ?_;cases hm;exact⟨_,tR rfl,rfl,(H.taken 0)⟩
  ·refine dr 0 d [10,11,12,13,14,15,16,17,18,19,20] ?_;refine dw [4] ?_;refine dd d ?_;refine rt ?_;cases hm;exact⟨_,tR rfl,rfl,(H.taken 0)⟩

theorem zo9:EN 153:=en Tryz.func153
def z6v (fu:Nat) (x0:D.Qx) (x1:Int) (x2:Int) (x3:Int) (S:Unit):Option Bool:=(if(x1 == x2)=true then some true else((idx x0.Qa.Qh (w64 ((w64 (x1*x3))+x2))).bind fun H=>((idx x0.Qq.QC x1).bind fun M=>((z4K fu H).bind fun o=>(if M=true then((idx x0.Qq.QC x2).bind fun O=>(if(!O)=true then((z4G fu true).bind fun G=>some (o == G)) else((idx x0.Qq.Qt (w64 ((w64 (x1*x3))+x2))).bind fun q=>((z4G fu q).bind fun d=>some (o == d))))) else((z4G fu false).bind fun h=>some (o == h)))))))
def z4i (fu:Nat) (x0:D.Qx) (x1:Int) (x2:Int) (x3:Int) (h:Int):Option (Rd (Int) (Unit) (Bool)):=((idx x0.Qq.QK (w64 ((w64 (x1*x3))+x2))).bind fun o=>(if(decide (h<(o.length:Int)))=true then((idx x0.Qq.QK (w64 ((w64 (x1*x3))+x2))).bind fun q=>((idx q h).bind fun G=>((z5z fu G x2).bind fun d=>(if(!d)=true then some (.ret false) else some (.next (w64 (h+1))))))) else some (.brk ())))
def z21 (fu:Nat) (x0:D.Qx) (x1:Int) (x2:Int) (x3:Int) (d:Bool):Option Bool:=(if d=true then some false else((iter (z4i fu x0 x1 x2 x3) fu 0).bind fun o=>aft o (z6v fu x0 x1 x2 x3)))
def z2Y (fu:Nat) (x0:D.Qx) (x1:Int) (x2:Int) (x3:Int) (q:Unit):Option Bool:=((idx x0.Qq.QK (w64 ((w64 (x1*x3))+x2))).bind fun h=>(if(decide ((h.length:Int)>200))=true then z21 fu x0 x1 x2 x3 true else((idx x0.Qq.QK (w64 ((w64 (x1*x3))+x2))).bind fun o=>((z4K fu o).bind fun d=>z21 fu x0 x1 x2 x3 (decide (d>0))))))
def z4h (fu:Nat) (x0:D.Qx) (x1:Int) (x2:Int) (x3:Int) (d:Bool):Option Bool:=(if d=true then some false else z2Y fu x0 x1 x2 x3 ())
def z4g (fu:Nat) (x0:D.Qx) (x1:Int) (x2:Int) (x3:Int) (d:Bool):Option Bool:=(if d=true then some false else z2Y fu x0 x1 x2 x3 ())
def z2Z (fu:Nat) (x0:D.Qx) (x1:Int) (x2:Int) (x3:Int) (G:Bool):Option Bool:=(if G=true then((idx x0.Qq.Qt (w64 ((w64 (x1*x3))+x2))).bind fun d=>(if d=true then z4h fu x0 x1 x2 x3 true else((idx x0.Qq.QK (w64 ((w64 (x1*x3))+x2))).bind fun h=>z4h fu x0 x1 x2 x3 (decide ((h.length:Int)>0))))) else((idx x0.Qq.Qt (w64 ((w64 (x1*x3))+x2))).bind fun o=>(if(!o)=true then((idx x0.Qq.QC x1).bind fun q=>z4g fu x0 x1 x2 x3 (!q)) else z4g fu x0 x1 x2 x3 false)))
def z4L (fu:Nat) (x0:D.Qx) (x1:Int) (x2:Int) (x3:Int):Option (Bool):=(if(x1 == x2)=true then z2Z fu x0 x1 x2 x3 true else((idx x0.Qq.QC x2).bind fun d=>z2Z fu x0 x1 x2 x3 (!d)))

theorem zdW {W w:World}(hE:Ext W w){M:Addr}{t2:List Value}{x0:D.Qx}{x1:Int}{x2:Int}{x3:Int}(a3:ty75.ro W t2 x0) (O:At W M t2){fu:Nat}{r:Bool}(hm:z4L fu x0 x1 x2 x3=some r):
  CL 153 ⟨[.pointer (some M),iv x1,iv x2,iv x3]⟩ w (RB w r):=by
 obtain⟨A1,k2,A4,k5,A7,u4,f4,v4,g4,x4,i4,y4,j4,B4,k4,C4,m4,D4,n4,E4,U2,h3,h6,p4,q4,r4,J1,s4,t4,Q1,q0⟩:=z7w a3;subst U2;refine into Tryz.func153 155 _ ?_;unfold z4L at hm;have hS:=St.start w;refine sq<|rg<|rr 1 ?_;refine rn<|sq<|rg<|rr 4 ?_;refine rn<|sq<|rg<|rr 6 ?_;refine rn<|sq<|sq<|ct (fun(m2:Bool) F w9=>z2Z fu x0 x1 x2 x3 m2=some r∧Ext w w9∧St w w9 []∧F=[(0,.pointer (some M)),(1,iv x1),(2,iv x2),(9,.pointer (some (M.add 8))),(10,iv (w64 ((w64 (x1*x3))+x2))),(32,.bool m2)]) ?_ ?_
 ·rintro m2 F o2 ⟨hm,d3,o,rfl⟩;unfold z2Z at hm;refine ct (fun(K2:Unit) F w9=>z2Y fu x0 x1 x2 x3 K2=some r∧Ext o2 w9∧St w w9 []∧F=[(0,.pointer (some M)),(1,iv x1),(2,iv x2),(9,.pointer (some (M.add 8))),(10,iv (w64 ((w64 (x1*x3))+x2)))]) ?_ ?_
  ·rintro K2 F V3 ⟨hm,e3,H,rfl⟩;unfold z2Y at hm;refine sq<|sq<|ct (fun(n2:Bool) F w9=>z21 fu x0 x1 x2 x3 n2=some r∧Ext V3 w9∧St w w9 []∧F=[(0,.pointer (some M)),(1,iv x1),(2,iv x2),(9,.pointer (some (M.add 8))),(10,iv (w64 ((w64 (x1*x3))+x2))),(88,.bool n2)]) ?_ ?_
   ·rintro n2 F M2 ⟨hm,f3,J0,rfl⟩;unfold z21 at hm;refine ci hm (fun hm=>?_) (fun hm=>?_)
    ·refine sq<|rg<|rr 1 ?_;refine rn<|rt ?_;cases hm;exact⟨_,tR rfl,rfl,J0⟩
    ·refine sp<|sq<|sq<|rg<|rr 1 ?_;refine rn ?_;obtain⟨r3,W1,hm⟩:=bS hm;refine ct (fun(L2:Unit) F w9=>r3=.inl L2∧Ext M2 w9∧St w w9 []∧F=[(0,.pointer (some M)),(1,iv x1),(2,iv x2),(9,.pointer (some (M.add 8))),(10,iv (w64 ((w64 (x1*x3))+x2)))]) ?_ ?_
     ·rintro L2 F O4 ⟨X1,g3,G,rfl⟩;subst X1;rw [z8] at hm;unfold z6v at hm;refine sq<|dn 0 mixed 43 [([],8796093022207),([],8796093022207),([0,1],8796093022204),([2],8796093022203),([3],8796093022199),([4,3],8796093022183),([5,3],8796093022167),([6,3],8796093022135),([7,3],8796093022071),([3],8796093022199),([8,9,3],8796093021431),([10,3],8796093021175),([11,3,3],8796093020151),([3],8796093022199),([13,3],8796093014007),([14,3],8796093005815),([15,3],8796092989431),([3],8796093022199),([16,17,3],8796092825591),([18,3],8796092760055),([19,12,3],8796092497911),([20],8796091973631),([21,20],8796089876479),([22,20],8796087779327),([23,20],8796083585023),([20],8796091973631),([24,25,20],8796041641983),([26,20],8796024864767),([27,20],8795957755903),([28,20,20],8795823538175),([29],8795556151295),([30,29],8794482409471),([31,29],8793408667647),([32,29],8791261183999),([29],8795556151295),([33,34,29],8769786347519),([35,29],8761196412927),([29,36,20],8726835625983),([20,37,3],8658653020151),([38,29,3],8521215115255),([12,39,3],8246337204215),([3,40],7696581394423),([41,39,0,1,2,3,4,5,6,7,8,9,10,11,12,13,14,15,16,17,18,19,20,21,22,23,24,25,26,27,28,29,30,31,32,33,34,35,36,37,38,39,40,41],6597069766655)] G.ext (fun d=>?_);have k0:=G.step (Ext.draw _);refine dr 39 d [0,1,2,3] ?_;refine db 116 hm (fun hm=>?_) (fun hm=>?_)
      ·refine dr 0 d [4,5,6,7,8,9,10,11,12,13,14,15,16,17,18,19,20,21,22,23,24,25,26,27,28,29,30,31,32,33,34,35,36,37,38,39,40,41,42] ?_;refine dw [8] ?_;refine dd d ?_;refine rt ?_;cases hm;exact⟨_,tR rfl,rfl,k0⟩
      ·refine dr 30 d [4,5,6,7,9,13,14,15,17] ?_;refine dw [2,9,10,116,120,122,128,130] ?_;refine dl d 8 (ax hE G O) 4 ?_;obtain⟨R4,d2,hm⟩:=bS hm;refine dx (hE.trans G.ext) d 10 h6 d2 (fun G4 W2 T1 i1=>?_);obtain⟨o4,F4,V2⟩:=zZ i1;subst V2;refine dl d 11 (ax hE G T1) 0 ?_;refine dl d 16 (ax hE G O) 8 ?_;obtain⟨S4,e2,hm⟩:=bS hm;refine dx (hE.trans G.ext) d 18 J1 e2 (fun H4 X2 U1 Y1=>?_);cases Y1;refine dl d 19 (ax hE G U1) 0 ?_;obtain⟨K4,f2,hm⟩:=bS hm;refine o1 d 12 (mc d ziX (zbw (hE.trans k0.ext) i1 f2) (fun M4 P4 R1=>?_));obtain⟨rfl,C0⟩:=R1;refine⟨C0.ext,?_⟩;have S:=k0.join C0;refine dr 22 d [20] ?_;refine dw [2,9,10,116,125,133] ?_;refine db 133 hm (fun hm=>?_) (fun hm=>?_)
       ·refine dr 18 d [21,22,23,25] ?_;refine dl d 24 (ax hE G O) 8 ?_;obtain⟨T4,g2,hm⟩:=bS hm;refine dx (hE.trans G.ext) d 26 J1 g2 (fun J4 Y2 V1 a2=>?_);cases a2;refine dl d 27 (ax hE G V1) 0 ?_;refine dr 13 d [28,29] ?_;refine dw [9,10,116,125,133,142] ?_;refine db 142 hm (fun hm=>?_) (fun hm=>?_)
        ·refine dr 4 d [30,31,32,33,34,35,36,37,38] ?_;refine dw [116,125,151] ?_;obtain⟨L4,i2,hm⟩:=bS hm;refine o1 d 39 (mc d zei (z9r (hE.trans S.ext)  i2) (fun N4 Q4 S1=>?_));obtain⟨rfl,D0⟩:=S1;refine⟨D0.ext,?_⟩;have E0:=S.join D0;refine dr 0 d [40,41,42] ?_;refine dw [8] ?_;refine dd d ?_;refine rt ?_;cases hm;exact⟨_,tR rfl,rfl,E0⟩
        ·refine dr 9 d [30,31,32,34] ?_;refine dl d 33 (ax hE G O) 11 ?_;obtain⟨W3,j1,hm⟩:=bS hm;refine dx (hE.trans G.ext) d 35 Q1 j1 (fun s3 u2 K0 V0=>?_);cases V0;refine dl d 36 (ax hE G K0) 0 ?_;refine dr 4 d [37,38] ?_;refine dw [116,125,151] ?_;obtain⟨G3,m1,hm⟩:=bS hm;refine o1 d 39 (mc d zei (z9r (hE.trans S.ext)  m1) (fun K3 O3 v0=>?_));obtain⟨rfl,X⟩:=v0;refine⟨X.ext,?_⟩;have F0:=S.join X;refine dr 0 d [40,41,42] ?_;refine dw [8] ?_;refine dd d ?_;refine rt ?_;cases hm;exact⟨_,tR rfl,rfl,F0⟩
       ·refine dr 4 d [21,22,23,24,25,26,27,28,29,30,31,32,33,34,35,36,37,38] ?_;refine dw [116,125,151] ?_;obtain⟨H3,n1,hm⟩:=bS hm;refine o1 d 39 (mc d zei (z9r (hE.trans S.ext)  n1) (fun L3 P3 y0=>?_));obtain⟨rfl,Y⟩:=y0;refine⟨Y.ext,?_⟩;have G0:=S.join Y;refine dr 0 d [40,41,42] ?_;refine dw [8] ?_;refine dd d ?_;refine rt ?_;cases hm;exact⟨_,tR rfl,rfl,G0⟩
     ·refine bk<|wk [0,1,2,9,10,11] ?_;refine it (fun(J2:Int) F w9=>Ext M2 w9∧St w w9 []∧F=[(0,.pointer (some M)),(1,iv x1),(2,iv x2),(9,.pointer (some (M.add 8))),(10,iv (w64 ((w64 (x1*x3))+x2))),(11,iv J2)]) W1 ⟨(Ext.refl _),J0,rfl⟩ ?_;rintro J2 F Q3 _ q3 ⟨u0,q,rfl⟩ h f0;unfold z4i at h;refine sq<|sq<|rg<|rr 4 ?_;refine l1 (ax hE q O) 12 ?_;refine rr 1 ?_;obtain⟨X3,p1,h⟩:=bS h;refine ix (hE.trans q.ext) q0 p1 (fun t3 v2 L0 X0=>?_);obtain⟨N2,i3,K1⟩:=zZ X0;subst K1;refine l1 (ax hE q L0) 0 ?_;refine rr 2 ?_;refine rn<|ci h (fun h=>?_) (fun h=>?_)
      ·refine sp<|sq<|bk<|sq<|rg<|rr 3 ?_;refine l1 (ax hE q O) 12 ?_;refine rr 1 ?_;obtain⟨Y3,t1,h⟩:=bS h;refine ix (hE.trans q.ext) q0 t1 (fun u3 y2 M0 g0=>?_);obtain⟨O2,j3,L1⟩:=zZ g0;subst L1;refine l1 (ax hE q M0) 0 ?_;refine rr 1 ?_;obtain⟨a4,u1,h⟩:=bS h;refine ix (hE.trans q.ext) g0 u1 (fun v3 A2 N0 i0=>?_);obtain⟨P2,k3,Q2,m3,M1,b3,c3⟩:=zC i0;subst M1;refine rr 1 ?_;obtain⟨J3,v1,h⟩:=bS h;refine ca ziQ (zbU (hE.trans q.ext) i0 N0 v1) (fun M3 R3 A0=>?_);obtain⟨rfl,Z⟩:=A0;have b0:=q.join Z;refine rr 1 ?_;refine rn<|ci h (fun h=>?_) (fun h=>?_)
       ·refine sq<|rg<|rr 1 ?_;refine rn<|rt ?_;cases h;cases f0;have hm:some _=some _:=hm;cases hm;exact⟨_,tR rfl,rfl,b0⟩
       ·refine sp<|rg<|rr 3 ?_;refine rn ?_;cases h;exact⟨_,_,rfl,⟨(u0.trans Z.ext),b0,rfl⟩,rfl⟩
      ·refine xt ?_;cases h;exact⟨_,_,⟨f0,u0,q,rfl⟩,rfl⟩
   ·refine rg<|rr 3 ?_;refine l1 (ax hE H O) 12 ?_;refine rr 1 ?_;obtain⟨b4,y1,hm⟩:=bS hm;refine ix (hE.trans H.ext) q0 y1 (fun y3 B2 O0 Y0=>?_);obtain⟨R2,n3,N1⟩:=zZ Y0;subst N1;refine l1 (ax hE H O0) 0 ?_;refine rr 3 ?_;refine rb 78 hm (fun hm=>?_) (fun hm=>?_)
    ·refine rr 10 ?_;refine rn ?_;exact⟨true,_,⟨hm,(Ext.refl _),H,rfl⟩,rfl⟩
    ·refine rr 3 ?_;refine l1 (ax hE H O) 12 ?_;refine rr 1 ?_;obtain⟨c4,B1,hm⟩:=bS hm;refine ix (hE.trans H.ext) q0 B1 (fun A3 C2 P0 j0=>?_);obtain⟨S2,o3,O1⟩:=zZ j0;subst O1;refine l1 (ax hE H P0) 0 ?_;obtain⟨j2,C1,hm⟩:=bS hm;refine ca ziX (zbw (hE.trans H.ext) j0 C1) (fun N3 S3 B0=>?_);obtain⟨rfl,a0⟩:=B0;have H0:=H.join a0;refine rr 2 ?_;refine rn ?_;exact⟨decide (j2>0),_,⟨hm,a0.ext,H0,rfl⟩,rfl⟩
  ·refine ci hm (fun hm=>?_) (fun hm=>?_)
   ·refine sq<|ct (fun(o0:Bool) F w9=>z4h fu x0 x1 x2 x3 o0=some r∧Ext o2 w9∧St w w9 []∧F=[(0,.pointer (some M)),(1,iv x1),(2,iv x2),(9,.pointer (some (M.add 8))),(10,iv (w64 ((w64 (x1*x3))+x2))),(50,.bool o0)]) ?_ ?_
    ·rintro o0 F T3 ⟨hm,r0,d0,rfl⟩;unfold z4h at hm;refine ci hm (fun hm=>?_) (fun hm=>?_)
     ·refine sq<|rg<|rr 1 ?_;refine rn<|rt ?_;cases hm;exact⟨_,tR rfl,rfl,d0⟩
     ·refine sp ?_;exact⟨(),_,⟨hm,r0,d0,rfl⟩,rfl⟩
    ·refine rg<|rr 3 ?_;refine l1 (ax hE o O) 11 ?_;refine rr 1 ?_;obtain⟨d4,D1,hm⟩:=bS hm;refine ix (hE.trans o.ext) Q1 D1 (fun B3 D2 Q0 a1=>?_);cases a1;refine l1 (ax hE o Q0) 0 ?_;refine rr 1 ?_;refine rb 40 hm (fun hm=>?_) (fun hm=>?_)
     ·refine rr 10 ?_;refine rn ?_;exact⟨true,_,⟨hm,(Ext.refl _),o,rfl⟩,rfl⟩
     ·refine rr 3 ?_;refine l1 (ax hE o O) 12 ?_;refine rr 1 ?_;obtain⟨p2,E1,hm⟩:=bS hm;refine ix (hE.trans o.ext) q0 E1 (fun C3 E2 R0 d1=>?_);obtain⟨T2,p3,P1⟩:=zZ d1;subst P1;refine l1 (ax hE o R0) 0 ?_;refine rr 3 ?_;refine rn ?_;exact⟨decide ((p2.length:Int)>0),_,⟨hm,(Ext.refl _),o,rfl⟩,rfl⟩
   ·refine sq<|ct (fun(p0:Bool) F w9=>z4g fu x0 x1 x2 x3 p0=some r∧Ext o2 w9∧St w w9 []∧F=[(0,.pointer (some M)),(1,iv x1),(2,iv x2),(9,.pointer (some (M.add 8))),(10,iv (w64 ((w64 (x1*x3))+x2))),(68,.bool p0)]) ?_ ?_
    ·rintro p0 F U3 ⟨hm,t0,e0,rfl⟩;unfold z4g at hm;refine ci hm (fun hm=>?_) (fun hm=>?_)
     ·refine sq<|rg<|rr 1 ?_;refine rn<|rt ?_;cases hm;exact⟨_,tR rfl,rfl,e0⟩
     ·refine sp ?_;exact⟨(),_,⟨hm,t0,e0,rfl⟩,rfl⟩
    ·refine rg<|rr 3 ?_;refine l1 (ax hE o O) 11 ?_;refine rr 1 ?_;obtain⟨e4,F1,hm⟩:=bS hm;refine ix (hE.trans o.ext) Q1 F1 (fun D3 F2 S0 e1=>?_);cases e1;refine l1 (ax hE o S0) 0 ?_;refine rr 2 ?_;refine rb 59 hm (fun hm=>?_) (fun hm=>?_)
     ·refine rr 3 ?_;refine l1 (ax hE o O) 8 ?_;refine rr 1 ?_;obtain⟨q2,G1,hm⟩:=bS hm;refine ix (hE.trans o.ext) J1 G1 (fun E3 G2 T0 f1=>?_);cases f1;refine l1 (ax hE o T0) 0 ?_;refine rr 2 ?_;refine rn ?_;exact⟨!q2,_,⟨hm,(Ext.refl _),o,rfl⟩,rfl⟩
     ·refine rr 9 ?_;refine rn ?_;exact⟨false,_,⟨hm,(Ext.refl _),o,rfl⟩,rfl⟩
 ·refine rg<|rr 4 ?_;refine rb 23 hm (fun hm=>?_) (fun hm=>?_)
  ·refine rr 9 ?_;refine rn ?_;exact⟨true,_,⟨hm,(Ext.refl _),hS,rfl⟩,rfl⟩
  ·refine rr 3 ?_;refine l1 (ax hE hS O) 8 ?_;refine rr 1 ?_;obtain⟨r2,H1,hm⟩:=bS hm;refine ix (hE.trans hS.ext) J1 H1 (fun F3 H2 U0 g1=>?_);cases g1;refine l1 (ax hE hS U0) 0 ?_;refine rr 2 ?_;refine rn ?_;exact⟨!r2,_,⟨hm,(Ext.refl _),hS,rfl⟩,rfl⟩

theorem zpC:EN 96:=en Tryz.func96
def zcN (fu:Nat) (d:Bool) (h:Unit):Option Bool:=some d
def zcM (fu:Nat) (d:Int) (h:Unit):Option (Rd (Int) (Unit) (Bool)):=some (.next (w64 (d+1)))
def z8b (fu:Nat) (x0:D.Qx) (o:Int) (d:Int):Option (Rd (Int) (Unit) (Rd (Int) (Unit) (Bool))):=(if(decide (d<(x0.Qa.Qi.Qc.length:Int)))=true then((z4L fu x0 o d (x0.Qa.Qi.Qc.length:Int)).bind fun h=>(if(!h)=true then some (.ret (.ret false)) else some (.next (w64 (d+1))))) else some (.brk ()))
def z6N (fu:Nat) (x0:D.Qx) (d:Int):Option (Rd (Int) (Unit) (Bool)):=(if(decide (d<(x0.Qa.Qi.Qc.length:Int)))=true then((iter (z8b fu x0 d) fu 0).bind fun o=>aft o (zcM fu d)) else some (.brk ()))
def zbb (fu:Nat) (x0:D.Qx) (d:Bool):Option Bool:=((iter (z6N fu x0) fu 0).bind fun o=>aft o (zcN fu d))
def z6M (fu:Nat) (x0:D.Qx) (o:Bool × Int) (h:Bool):Option (Rd (Bool × Int) (Bool) (Bool)):=((z6O fu x0.Qq o.2).bind fun d=>(if(!d)=true then some (.ret false) else some (.next (h,w64 (o.2+1)))))
def z3y (fu:Nat) (x0:D.Qx) (d:Bool × Int):Option (Rd (Bool × Int) (Bool) (Bool)):=(if(decide (d.2<(x0.Qa.Qi.Qc.length:Int)))=true then(if d.1=true then z6M fu x0 d true else((idx x0.Qq.QC d.2).bind fun h=>z6M fu x0 d h)) else some (.brk d.1))
def z27 (fu:Nat) (x0:D.Qx) (d:Bool):Option Bool:=(if d=true then some false else((iter (z3y fu x0) fu (false,0)).bind fun o=>aft o (zbb fu x0)))
def zan (fu:Nat) (x0:D.Qx):Option (Bool):=((z9k fu x0.Qa).bind fun d=>(if(!d)=true then some false else(if((x0.Qq.QC.length:Int) != (x0.Qa.Qi.Qc.length:Int))=true then z27 fu x0 true else(if((x0.Qq.Qc.length:Int) != (x0.Qa.Qi.Qc.length:Int))=true then z27 fu x0 true else(if((x0.Qq.Qo.length:Int) != (x0.Qa.Qi.Qc.length:Int))=true then z27 fu x0 true else(if((x0.Qq.Qt.length:Int) != (w64 ((x0.Qa.Qi.Qc.length:Int)*(x0.Qa.Qi.Qc.length:Int))))=true then z27 fu x0 true else z27 fu x0 ((x0.Qq.QK.length:Int) != (w64 ((x0.Qa.Qi.Qc.length:Int)*(x0.Qa.Qi.Qc.length:Int))))))))))

theorem zhq {W w:World}(hE:Ext W w){H:Addr}{V0:List Value}{x0:D.Qx}(Y0:ty75.ro W V0 x0) (M:At W H V0){fu:Nat}{r:Bool}(hm:zan fu x0=some r):
  CL 96 ⟨[.pointer (some H)]⟩ w (RB w r):=by
 obtain⟨A1,k2,A4,k5,A7,X1,Q1,Y1,R1,a2,S1,d2,T1,e2,U1,f2,V1,g2,W1,i2,m1,h3,h6,n1,p1,t1,a1,u1,v1,y1,B1⟩:=z7w Y0;subst m1;refine into Tryz.func96 107 _ ?_;unfold zan at hm;have hS:=St.start w;refine sq<|rg<|rr 1 ?_;refine rn<|sq<|sq<|rg<|rr 3 ?_;obtain⟨n2,Q0,hm⟩:=bS hm;refine ca zkf (zdX (hE.trans hS.ext) (z2F x0.Qa h3 h6 n1 p1 t1) (At.sub M 0 8) Q0) (fun p2 P1 D0=>?_);obtain⟨rfl,E0⟩:=D0;have o:=hS.join E0;refine rr 1 ?_;refine rn<|ci hm (fun hm=>?_) (fun hm=>?_)
 ·refine sq<|rg<|rr 1 ?_;refine rn<|rt ?_;cases hm;exact⟨_,tR rfl,rfl,o⟩
 ·refine sp<|sq<|rg<|rr 5 ?_;refine l1 (ax hE o M) 0 ?_;refine rr 2 ?_;refine rn<|sq<|rg<|rr 4 ?_;refine rn<|sq<|sq<|ct (fun(S0:Bool) F w9=>z27 fu x0 S0=some r∧Ext P1 w9∧St w w9 []∧F=[(0,.pointer (some H)),(3,iv (x0.Qa.Qi.Qc.length:Int)),(4,.pointer (some (H.add 8))),(70,.bool S0)]) ?_ ?_
  ·rintro S0 F g1 ⟨hm,C1,j0,rfl⟩;unfold z27 at hm;refine ci hm (fun hm=>?_) (fun hm=>?_)
   ·refine sq<|rg<|rr 1 ?_;refine rn<|rt ?_;cases hm;exact⟨_,tR rfl,rfl,j0⟩
   ·refine sp<|sq<|rg<|rr 1 ?_;refine rn<|sq<|sq<|rg<|rr 1 ?_;refine rn ?_;obtain⟨F1,K0,hm⟩:=bS hm;refine ct (fun(a0:Bool) F w9=>F1=.inl a0∧Ext g1 w9∧St w w9 []∧F=[(0,.pointer (some H)),(3,iv (x0.Qa.Qi.Qc.length:Int)),(5,.bool a0)]) ?_ ?_
    ·rintro a0 F i1 ⟨N0,D1,G0,rfl⟩;subst N0;rw [z8] at hm;unfold zbb at hm;refine sq<|sq<|rg<|rr 1 ?_;refine rn ?_;obtain⟨G1,L0,hm⟩:=bS hm;refine ct (fun(e1:Unit) F w9=>G1=.inl e1∧Ext i1 w9∧St w w9 []∧F=[(5,.bool a0)]) ?_ ?_
     ·rintro e1 F r2 ⟨O0,E1,H0,rfl⟩;subst O0;rw [z8] at hm;unfold zcN at hm;refine sq<|rg<|rr 2 ?_;refine rn<|rt ?_;cases hm;exact⟨_,tR rfl,rfl,H0⟩
     ·refine bk<|wk [0,3,5,7] ?_;refine it (fun(B0:Int) F w9=>Ext i1 w9∧St w w9 []∧F=[(0,.pointer (some H)),(3,iv (x0.Qa.Qi.Qc.length:Int)),(5,.bool a0),(7,iv B0)]) L0 ⟨(Ext.refl _),G0,rfl⟩ ?_;rintro B0 F j1 _ j2 ⟨e0,k0,rfl⟩ h q0;unfold z6N at h;refine sq<|sq<|rg<|rr 3 ?_;refine rn<|ci h (fun h=>?_) (fun h=>?_)
      ·refine sp<|sq<|bk<|sq<|rg<|rr 1 ?_;refine rn ?_;obtain⟨H1,M0,h⟩:=bS h;refine ct (fun(f1:Unit) F w9=>H1=.inl f1∧Ext j1 w9∧St w w9 []∧F=[(0,.pointer (some H)),(3,iv (x0.Qa.Qi.Qc.length:Int)),(5,.bool a0),(7,iv B0)]) ?_ ?_
       ·rintro f1 F t2 ⟨P0,C0,J0,rfl⟩;subst P0;rw [z8] at h;unfold zcM at h;refine rg<|rr 3 ?_;refine rn ?_;cases h;exact⟨_,_,rfl,⟨(e0.trans C0),J0,rfl⟩,rfl⟩
       ·refine bk<|wk [0,3,5,7,8] ?_;refine it (fun(d1:Int) F w9=>Ext j1 w9∧St w w9 []∧F=[(0,.pointer (some H)),(3,iv (x0.Qa.Qi.Qc.length:Int)),(5,.bool a0),(7,iv B0),(8,iv d1)]) M0 ⟨(Ext.refl _),k0,rfl⟩ ?_;rintro d1 F u2 _ m2 ⟨f0,Y,rfl⟩ q r0;unfold z8b at q;refine sq<|sq<|rg<|rr 3 ?_;refine rn<|ci q (fun q=>?_) (fun q=>?_)
        ·refine sp<|sq<|bk<|sq<|rg<|rr 4 ?_;obtain⟨o2,R0,q⟩:=bS q;refine ca zo9 (zdW (hE.trans Y.ext) Y0 M R0) (fun q2 v2 F0=>?_);obtain⟨rfl,i0⟩:=F0;have o0:=Y.join i0;refine rr 1 ?_;refine rn<|ci q (fun q=>?_) (fun q=>?_)
         ·refine sq<|rg<|rr 1 ?_;refine rn<|rt ?_;cases q;cases r0;have h:some _=some _:=h;cases h;cases q0;have hm:some _=some _:=hm;cases hm;exact⟨_,tR rfl,rfl,o0⟩
         ·refine sp<|rg<|rr 3 ?_;refine rn ?_;cases q;exact⟨_,_,rfl,⟨(f0.trans i0.ext),o0,rfl⟩,rfl⟩
        ·refine xt ?_;cases q;exact⟨_,_,⟨r0,f0,Y,rfl⟩,rfl⟩
      ·refine xt ?_;cases h;exact⟨_,_,⟨q0,e0,k0,rfl⟩,rfl⟩
    ·refine bk<|wk [0,3,4,5,6] ?_;refine it (fun(A0:Bool × Int) F w9=>Ext g1 w9∧St w w9 []∧F=[(0,.pointer (some H)),(3,iv (x0.Qa.Qi.Qc.length:Int)),(4,.pointer (some (H.add 8))),(5,.bool A0.1),(6,iv A0.2)]) K0 ⟨(Ext.refl _),j0,rfl⟩ ?_;rintro A0 F T0 _ J1 ⟨d0,G,rfl⟩ d t0;unfold z3y at d;refine sq<|sq<|rg<|rr 3 ?_;refine rn<|ci d (fun d=>?_) (fun d=>?_)
     ·refine sp<|sq<|bk<|sq<|ct (fun(Z:Bool) F w9=>z6M fu x0 A0 Z=some J1∧Ext T0 w9∧St w w9 []∧F=[(0,.pointer (some H)),(3,iv (x0.Qa.Qi.Qc.length:Int)),(4,.pointer (some (H.add 8))),(5,.bool Z),(6,iv A0.2)]) ?_ ?_
      ·rintro Z F N1 ⟨d,b0,S,rfl⟩;unfold z6M at d;refine sq<|rg<|rr 2 ?_;obtain⟨L1,v0,d⟩:=bS d;refine ca zoa (zdV (hE.trans S.ext) (zb2 x0.Qq a1 u1 v1 y1 B1) (At.sub M 8 5) v0) (fun M1 O1 g0=>?_);obtain⟨rfl,O⟩:=g0;have X:=S.join O;refine rr 1 ?_;refine rn<|ci d (fun d=>?_) (fun d=>?_)
       ·refine sq<|rg<|rr 1 ?_;refine rn<|rt ?_;cases d;cases t0;have hm:some _=some _:=hm;cases hm;exact⟨_,tR rfl,rfl,X⟩
       ·refine sp<|rg<|rr 3 ?_;refine rn ?_;cases d;exact⟨_,_,rfl,⟨((d0.trans b0).trans O.ext),X,rfl⟩,rfl⟩
      ·refine rg<|rr 2 ?_;refine rb 77 d (fun d=>?_) (fun d=>?_)
       ·refine rr 9 ?_;refine rn ?_;exact⟨true,_,⟨d,(Ext.refl _),G,rfl⟩,rfl⟩
       ·refine rr 3 ?_;refine l1 (ax hE G M) 8 ?_;refine rr 1 ?_;obtain⟨U0,y0,d⟩:=bS d;refine ix (hE.trans G.ext) a1 y0 (fun K1 X0 p0 u0=>?_);cases u0;refine l1 (ax hE G p0) 0 ?_;refine rr 2 ?_;refine rn ?_;exact⟨U0,_,⟨d,(Ext.refl _),G,rfl⟩,rfl⟩
     ·refine xt ?_;cases d;exact⟨_,_,⟨t0,d0,G,rfl⟩,rfl⟩
  ·refine rg<|rr 3 ?_;refine l1 (ax hE o M) 8 ?_;refine rr 4 ?_;refine rb 31 hm (fun hm=>?_) (fun hm=>?_)
   ·refine rr 39 ?_;refine rn ?_;exact⟨true,_,⟨hm,(Ext.refl _),o,rfl⟩,rfl⟩
   ·refine rr 3 ?_;refine l1 (ax hE o M) 9 ?_;refine rr 5 ?_;refine rb 40 hm (fun hm=>?_) (fun hm=>?_)
    ·refine rr 30 ?_;refine rn ?_;exact⟨true,_,⟨hm,(Ext.refl _),o,rfl⟩,rfl⟩
    ·refine rr 3 ?_;refine l1 (ax hE o M) 10 ?_;refine rr 5 ?_;refine rb 49 hm (fun hm=>?_) (fun hm=>?_)
     ·refine rr 21 ?_;refine rn ?_;exact⟨true,_,⟨hm,(Ext.refl _),o,rfl⟩,rfl⟩
     ·refine rr 3 ?_;refine l1 (ax hE o M) 11 ?_;refine rr 7 ?_;refine rb 60 hm (fun hm=>?_) (fun hm=>?_)
      ·refine rr 10 ?_;refine rn ?_;exact⟨true,_,⟨hm,(Ext.refl _),o,rfl⟩,rfl⟩
      ·refine rr 3 ?_;refine l1 (ax hE o M) 12 ?_;refine rr 6 ?_;refine rn ?_;exact⟨((x0.Qq.QK.length:Int) != (w64 ((x0.Qa.Qi.Qc.length:Int)*(x0.Qa.Qi.Qc.length:Int)))),_,⟨hm,(Ext.refl _),o,rfl⟩,rfl⟩

theorem zo8:EN 154:=en Tryz.func154
def z2O (fu:Nat) (t2:Unit):Option Int:=some (-1)
def zQ (fu:Nat) (x0:(List Bool)) (x1:Bool) (s1:Int):Option (Rd (Int) (Unit) (Int)):=(if(decide (s1<(x0.length:Int)))=true then((idx x0 s1).bind fun d=>(if(x1 == d)=true then some (.ret s1) else some (.next (w64 (s1+1))))) else some (.brk ()))
def z2v (fu:Nat) (x0:(List Bool)) (x1:Bool):Option (Int):=((iter (zQ fu x0 x1) fu 0).bind fun o=>aft o (z2O fu))

theorem zbN {W w:World}(hE:Ext W w){q:Option Addr}{Y:Nat}{x0:(List Bool)}{x1:Bool}(b0:ty56.ro W [sl q x0 Y] x0){fu:Nat}{r:Int}(hm:z2v fu x0 x1=some r):
  CL 154 ⟨[sl q x0 Y,.bool x1]⟩ w (RI w r):=by
 refine into Tryz.func154 19 _ ?_;unfold z2v at hm;have hS:=St.start w;refine sq<|rg<|rr 1 ?_;refine rn<|sq<|sq<|rg<|rr 3 ?_;refine rn ?_;obtain⟨d0,M,hm⟩:=bS hm;refine ct (fun(t2:Unit) F w9=>d0=.inl t2∧Ext w w9∧St w w9 []∧F=[]) ?_ ?_
 ·rintro t2 F w7 ⟨O,e0,G,rfl⟩;subst O;rw [z8] at hm;unfold z2O at hm;refine sq<|rg<|rr 1 ?_;refine rn<|rt ?_;cases hm;exact⟨_,tR rfl,rfl,G⟩
 ·refine bk<|wk [0,1,7,8] ?_;refine it (fun(s1:Int) F w9=>Ext w w9∧St w w9 []∧F=[(0,sl q x0 Y),(1,.bool x1),(7,iv (x0.length:Int)),(8,iv s1)]) M ⟨(Ext.refl _),hS,rfl⟩ ?_;rintro s1 F i0 _ f0 ⟨Z,h,rfl⟩ d o;unfold zQ at d;refine sq<|rg<|rr 1 ?_;refine rn<|sq<|ci d (fun d=>?_) (fun d=>?_)
  ·refine sp<|sq<|bk<|sq<|rg<|rr 2 ?_;refine rn<|sq<|rg<|rr 3 ?_;obtain⟨j0,X,d⟩:=bS d;refine ix (hE.trans h.ext) b0 X (fun g0 a0 H S=>?_);cases S;refine l1 (ax hE h H) 0 ?_;refine rr 1 ?_;refine rn<|ci d (fun d=>?_) (fun d=>?_)
   ·refine sq<|rg<|rr 2 ?_;refine rn<|rt ?_;cases d;cases o;have hm:some _=some _:=hm;cases hm;exact⟨_,tR rfl,rfl,h⟩
   ·refine sp<|rg<|rr 2 ?_;refine rn ?_;cases d;exact⟨_,_,rfl,⟨Z,h,rfl⟩,rfl⟩
  ·refine xt ?_;cases d;exact⟨_,_,⟨o,Z,h,rfl⟩,rfl⟩

theorem zhJ:EN 98:=en Tryz.func98
def zA (fu:Nat) (x0:(List Bool)) (x1:Bool):Option (Bool):=((z2v fu x0 x1).bind fun r1=>some (decide (r1≥0)))

theorem z4C {W w:World}(hE:Ext W w){d:Option Addr}{h:Nat}{x0:(List Bool)}{x1:Bool}(o:ty56.ro W [sl d x0 h] x0){fu:Nat}{r:Bool}(hm:zA fu x0 x1=some r):
  CL 98 ⟨[sl d x0 h,.bool x1]⟩ w (RB w r):=by
 refine into Tryz.func98 9 _ ?_;unfold zA at hm;have hS:=St.start w;refine sq<|rg<|rr 1 ?_;refine rn<|sq<|rg<|rr 2 ?_;obtain⟨r1,M,hm⟩:=bS hm;refine ca zo8 (zbN (hE.trans hS.ext) o M) (fun v3 w4 q=>?_);obtain⟨rfl,G⟩:=q;have H:=hS.join G;refine rr 2 ?_;refine rn<|rt ?_;cases hm;exact⟨_,tR rfl,rfl,H⟩

theorem znF:EN 206:=en Tryz.func206
def za (fu:Nat) (t2:Unit):Option Bool:=some true
def zb (fu:Nat) (x0:(List D.Qb)) (x1:(List D.Qb)) (x2:D.Qb→D.Qb→Option Bool) (s1:Int):Option (Rd (Int) (Unit) (Bool)):=(if(decide (s1<(x0.length:Int)))=true then((idx x0 s1).bind fun h=>((idx x1 s1).bind fun o=>((x2 h o).bind fun d=>(if(!d)=true then some (.ret false) else some (.next (w64 (s1+1))))))) else some (.brk ()))
def ze (fu:Nat) (x0:(List D.Qb)) (x1:(List D.Qb)) (x2:D.Qb→D.Qb→Option Bool):Option (Bool):=(if((x0.length:Int) != (x1.length:Int))=true then some false else((iter (zb fu x0 x1 x2) fu 0).bind fun o=>aft o (za fu)))

theorem z1N {W w:World}(hE:Ext W w){M:Option Addr}{p0:Nat}{x0:(List D.Qb)}{O:Option Addr}{q0:Nat}{x1:(List D.Qb)}{f2_:Nat}{u2_:List Value}{x2:D.Qb→D.Qb→Option Bool}(A0:z6K.ro W [sl M x0 p0] x0) (B0:z6K.ro W [sl O x1 q0] x1) (r0:Enters Tryz.prog f2_∧∀ {w9:World},Ext W w9→∀ {cz0:List Value}{z0:D.Qb}{cz1:List Value}{z1:D.Qb}{y9:Bool},z2B.ro w9 cz0 z0→z2B.ro w9 cz1 z1→x2 z0 z1=some y9→CL f2_ ⟨[.agg ⟨cz0⟩,.agg ⟨cz1⟩]++u2_⟩ w9 (Ret fun v w8=>v=.bool y9∧St w9 w8 [])){fu:Nat}{r:Bool}(hm:ze fu x0 x1 x2=some r):
  CL 206 ⟨[sl M x0 p0,sl O x1 q0,.func (.func f2_) #[] ⟨u2_⟩]⟩ w (RB w r):=by
 refine into Tryz.func206 32 _ ?_;unfold ze at hm;have hS:=St.start w;refine sq<|rg<|rr 1 ?_;refine rn<|sq<|sq<|rg<|rr 5 ?_;refine rn<|ci hm (fun hm=>?_) (fun hm=>?_)
 ·refine sq<|rg<|rr 1 ?_;refine rn<|rt ?_;cases hm;exact⟨_,tR rfl,rfl,hS⟩
 ·refine sp<|sq<|sq<|rg<|rr 3 ?_;refine rn ?_;obtain⟨o5,H0,hm⟩:=bS hm;refine ct (fun(t2:Unit) F w9=>o5=.inl t2∧St w w9 []∧F=[]) ?_ ?_
  ·rintro t2 F w4 ⟨f0,G0,rfl⟩;subst f0;rw [z8] at hm;unfold za at hm;refine sq<|rg<|rr 1 ?_;refine rn<|rt ?_;cases hm;exact⟨_,tR rfl,rfl,G0⟩
  ·refine bk<|wk [1,2,15,16,17] ?_;refine it (fun(s1:Int) F w9=>St w w9 []∧F=[(1,sl O x1 q0),(2,.func (.func f2_) #[] ⟨u2_⟩),(15,sl M x0 p0),(16,iv (x0.length:Int)),(17,iv s1)]) H0 ⟨hS,rfl⟩ ?_;rintro s1 F g1 _ Y0 ⟨o,rfl⟩ d H;unfold zb at d;refine sq<|rg<|rr 1 ?_;refine rn<|sq<|ci d (fun d=>?_) (fun d=>?_)
   ·refine sp<|sq<|bk<|sq<|rg<|rr 1 ?_;obtain⟨J0,j0,d⟩:=bS d;refine ix (hE.trans o.ext) A0 j0 (fun a1 v0 d0 g0=>?_);obtain⟨L0,T0,M0,U0,t0,C0,D0⟩:=zq g0;subst t0;refine lN (ax hE o d0) ?_;refine nw o (fun R0 i1 P0 Y=>?_);refine rr 1 ?_;have Z:=Y.bring 0 rfl;refine so (A:=[]) Z 0 (fun j1 q=>?_);refine rn<|sq<|rg<|rr 2 ?_;obtain⟨K0,k0,d⟩:=bS d;refine ix (hE.trans q.ext) B0 k0 (fun d1 y0 e0 i0=>?_);obtain⟨N0,V0,O0,X0,u0,E0,F0⟩:=zq i0;subst u0;refine lN (ax hE q e0) ?_;refine nw q (fun S0 m1 Q0 a0=>?_);have b0:=a0.bring 0 rfl;refine so (A:=[]) b0 0 (fun n1 h=>?_);refine rn<|sq<|rg<|rr 1 ?_;refine lN ((h.bring 1 rfl).box) ?_;refine lN ((h.bring 0 rfl).box) ?_;obtain⟨e1,o0,d⟩:=bS d;refine ca r0.1 (r0.2 (hE.trans h.ext) (z4H J0 (ty29.ext (hE.trans h.ext) C0) (z3r.ext (hE.trans h.ext) D0)) (z4H K0 (ty29.ext (hE.trans h.ext) E0) (z3r.ext (hE.trans h.ext) F0)) o0) (fun f1 p1 S=>?_);obtain⟨rfl,X⟩:=S;have G:=h.join X;refine rr 1 ?_;refine rn<|ci d (fun d=>?_) (fun d=>?_)
    ·refine sq<|rg<|rr 1 ?_;refine rn<|rt ?_;cases d;cases H;have hm:some _=some _:=hm;cases hm;exact⟨_,tR rfl,rfl,(G.taken 0)⟩
    ·refine sp<|rg<|rr 2 ?_;refine rn ?_;cases d;exact⟨_,_,rfl,⟨(G.taken 0),rfl⟩,rfl⟩
   ·refine xt ?_;cases d;exact⟨_,_,⟨H,o,rfl⟩,rfl⟩

theorem znE:EN 207:=en Tryz.func207
def zU (fu:Nat) (t2:Unit):Option Bool:=some true
def zV (fu:Nat) (x0:(List D.Qn)) (x1:(List D.Qn)) (s1:Int):Option (Rd (Int) (Unit) (Bool)):=(if(decide (s1<(x0.length:Int)))=true then((idx x0 s1).bind fun d=>((idx x1 s1).bind fun h=>(if(!((d.Qa0 == h.Qa0) && ((d.Qa1 == h.Qa1) && ((((d.QV.Qg:Int) == h.QV.Qg) && (((d.QV.Qj:Int) == h.QV.Qj) && (((d.QV.Qs:Int) == h.QV.Qs) && true))) && true))))=true then some (.ret false) else some (.next (w64 (s1+1)))))) else some (.brk ()))
def z15 (fu:Nat) (x0:(List D.Qn)) (x1:(List D.Qn)):Option (Bool):=(if((x0.length:Int) != (x1.length:Int))=true then some false else((iter (zV fu x0 x1) fu 0).bind fun o=>aft o (zU fu)))

theorem z7h {W w:World}(hE:Ext W w){H:Option Addr}{f0:Nat}{x0:(List D.Qn)}{M:Option Addr}{g0:Nat}{x1:(List D.Qn)}(q0:z3w.ro W [sl H x0 f0] x0) (r0:z3w.ro W [sl M x1 g0] x1){fu:Nat}{r:Bool}(hm:z15 fu x0 x1=some r):
  CL 207 ⟨[sl H x0 f0,sl M x1 g0]⟩ w (RB w r):=by
 refine into Tryz.func207 26 _ ?_;unfold z15 at hm;have hS:=St.start w;refine sq<|rg<|rr 1 ?_;refine rn<|sq<|sq<|rg<|rr 5 ?_;refine rn<|ci hm (fun hm=>?_) (fun hm=>?_)
 ·refine sq<|rg<|rr 1 ?_;refine rn<|rt ?_;cases hm;exact⟨_,tR rfl,rfl,hS⟩
 ·refine sp<|sq<|sq<|rg<|rr 3 ?_;refine rn ?_;obtain⟨t0,Y,hm⟩:=bS hm;refine ct (fun(t2:Unit) F w9=>t0=.inl t2∧Ext w w9∧St w w9 []∧F=[]) ?_ ?_
  ·rintro t2 F w7 ⟨Z,u0,O,rfl⟩;subst Z;rw [z8] at hm;unfold zU at hm;refine sq<|rg<|rr 1 ?_;refine rn<|rt ?_;cases hm;exact⟨_,tR rfl,rfl,O⟩
  ·refine bk<|wk [0,1,12,13] ?_;refine it (fun(s1:Int) F w9=>Ext w w9∧St w w9 []∧F=[(0,sl H x0 f0),(1,sl M x1 g0),(12,iv (x0.length:Int)),(13,iv s1)]) Y ⟨(Ext.refl _),hS,rfl⟩ ?_;rintro s1 F B0 _ v0 ⟨i0,h,rfl⟩ d G;unfold zV at d;refine sq<|rg<|rr 1 ?_;refine rn<|sq<|ci d (fun d=>?_) (fun d=>?_)
   ·refine sp<|sq<|bk<|sq<|rg<|rr 2 ?_;refine rn<|sq<|dn 0 mixed 9 [([],511),([],511),([0,1],508),([2],507),([],511),([],511),([4,5],463),([6],447),([3,7],375)] h.ext (fun o=>?_);have q:=h.step (Ext.draw _);refine dr 5 o [0,1,4,5] ?_;obtain⟨C0,d0,d⟩:=bS d;refine dx (hE.trans h.ext) o 2 q0 d0 (fun y0 o0 S a0=>?_);have j0:=z1n a0;subst j0;refine dL o 3 (ax hE h S) ?_;obtain⟨D0,e0,d⟩:=bS d;refine dx (hE.trans h.ext) o 6 r0 e0 (fun A0 p0 X b0=>?_);have k0:=z1n b0;subst k0;refine dL o 7 (ax hE h X) ?_;refine dr 0 o [8] ?_;refine dw [0,1,12,13,24] ?_;refine dd o ?_;refine ci d (fun d=>?_) (fun d=>?_)
    ·refine sq<|rg<|rr 1 ?_;refine rn<|rt ?_;cases d;cases G;have hm:some _=some _:=hm;cases hm;exact⟨_,tR rfl,rfl,q⟩
    ·refine sp<|rg<|rr 2 ?_;refine rn ?_;cases d;exact⟨_,_,rfl,⟨(i0.trans (Ext.draw _)),q,rfl⟩,rfl⟩
   ·refine xt ?_;cases d;exact⟨_,_,⟨G,i0,h,rfl⟩,rfl⟩

theorem znD:EN 208:=en Tryz.func208
def zE (fu:Nat) (t2:Unit):Option Bool:=some true
def zF (fu:Nat) (x0:(List D.Qk)) (x1:(List D.Qk)) (s1:Int):Option (Rd (Int) (Unit) (Bool)):=(if(decide (s1<(x0.length:Int)))=true then((idx x0 s1).bind fun d=>((idx x1 s1).bind fun h=>(if(!((((d.A.Qg:Int) == h.A.Qg) && (((d.A.Qj:Int) == h.A.Qj) && (((d.A.Qs:Int) == h.A.Qs) && true))) && ((((d.B.Qg:Int) == h.B.Qg) && (((d.B.Qj:Int) == h.B.Qj) && (((d.B.Qs:Int) == h.B.Qs) && true))) && true)))=true then some (.ret false) else some (.next (w64 (s1+1)))))) else some (.brk ()))
def zS (fu:Nat) (x0:(List D.Qk)) (x1:(List D.Qk)):Option (Bool):=(if((x0.length:Int) != (x1.length:Int))=true then some false else((iter (zF fu x0 x1) fu 0).bind fun o=>aft o (zE fu)))

theorem z6j {W w:World}(hE:Ext W w){H:Option Addr}{f0:Nat}{x0:(List D.Qk)}{M:Option Addr}{g0:Nat}{x1:(List D.Qk)}(q0:z3h.ro W [sl H x0 f0] x0) (r0:z3h.ro W [sl M x1 g0] x1){fu:Nat}{r:Bool}(hm:zS fu x0 x1=some r):
  CL 208 ⟨[sl H x0 f0,sl M x1 g0]⟩ w (RB w r):=by
 refine into Tryz.func208 26 _ ?_;unfold zS at hm;have hS:=St.start w;refine sq<|rg<|rr 1 ?_;refine rn<|sq<|sq<|rg<|rr 5 ?_;refine rn<|ci hm (fun hm=>?_) (fun hm=>?_)
 ·refine sq<|rg<|rr 1 ?_;refine rn<|rt ?_;cases hm;exact⟨_,tR rfl,rfl,hS⟩
 ·refine sp<|sq<|sq<|rg<|rr 3 ?_;refine rn ?_;obtain⟨t0,Y,hm⟩:=bS hm;refine ct (fun(t2:Unit) F w9=>t0=.inl t2∧Ext w w9∧St w w9 []∧F=[]) ?_ ?_
  ·rintro t2 F w7 ⟨Z,u0,O,rfl⟩;subst Z;rw [z8] at hm;unfold zE at hm;refine sq<|rg<|rr 1 ?_;refine rn<|rt ?_;cases hm;exact⟨_,tR rfl,rfl,O⟩
  ·refine bk<|wk [0,1,12,13] ?_;refine it (fun(s1:Int) F w9=>Ext w w9∧St w w9 []∧F=[(0,sl H x0 f0),(1,sl M x1 g0),(12,iv (x0.length:Int)),(13,iv s1)]) Y ⟨(Ext.refl _),hS,rfl⟩ ?_;rintro s1 F B0 _ v0 ⟨i0,h,rfl⟩ d G;unfold zF at d;refine sq<|rg<|rr 1 ?_;refine rn<|sq<|ci d (fun d=>?_) (fun d=>?_)
   ·refine sp<|sq<|bk<|sq<|rg<|rr 2 ?_;refine rn<|sq<|dn 0 mixed 9 [([],511),([],511),([0,1],508),([2],507),([],511),([],511),([4,5],463),([6],447),([3,7],375)] h.ext (fun o=>?_);have q:=h.step (Ext.draw _);refine dr 5 o [0,1,4,5] ?_;obtain⟨C0,d0,d⟩:=bS d;refine dx (hE.trans h.ext) o 2 q0 d0 (fun y0 o0 S a0=>?_);have j0:=z2r a0;subst j0;refine dL o 3 (ax hE h S) ?_;obtain⟨D0,e0,d⟩:=bS d;refine dx (hE.trans h.ext) o 6 r0 e0 (fun A0 p0 X b0=>?_);have k0:=z2r b0;subst k0;refine dL o 7 (ax hE h X) ?_;refine dr 0 o [8] ?_;refine dw [0,1,12,13,24] ?_;refine dd o ?_;refine ci d (fun d=>?_) (fun d=>?_)
    ·refine sq<|rg<|rr 1 ?_;refine rn<|rt ?_;cases d;cases G;have hm:some _=some _:=hm;cases hm;exact⟨_,tR rfl,rfl,q⟩
    ·refine sp<|rg<|rr 2 ?_;refine rn ?_;cases d;exact⟨_,_,rfl,⟨(i0.trans (Ext.draw _)),q,rfl⟩,rfl⟩
   ·refine xt ?_;cases d;exact⟨_,_,⟨G,i0,h,rfl⟩,rfl⟩

theorem zo7:EN 155:=en Tryz.func155
def z7K (fu:Nat) (x0:D.Qp) (x1:D.Qp):Option (Bool):=((ze fu x0.Cells x1.Cells (fun y0 y1=>z1L fu y0 y1)).bind fun d=>(if d=true then((z15 fu x0.QG x1.QG).bind fun h=>(if h=true then((zS fu x0.Qu x1.Qu).bind fun o=>some o) else some false)) else some false))

theorem zeF {W w:World}(hE:Ext W w){f0:List Value}{x0:D.Qp}{g0:List Value}{x1:D.Qp}(k0:z20.ro W f0 x0) (r0:z20.ro W g0 x1){fu:Nat}{r:Bool}(hm:z7K fu x0 x1=some r):
  CL 155 ⟨[.agg ⟨f0⟩,.agg ⟨g0⟩]⟩ w (RB w r):=by
 obtain⟨A1,k2,A4,k5,A7,F0,i0,h3,h6,o0⟩:=zw k0;subst i0;obtain⟨v0,G0,y0,H0,A0,J0,j0,p0,q0,t0⟩:=zw r0;subst j0;refine into Tryz.func155 24 _ ?_;unfold z7K at hm;have hS:=St.start w;refine sq<|rg<|nw hS (fun D0 Q0 B0 Z=>?_);refine nw Z (fun E0 R0 C0 o=>?_);refine rr 1 ?_;refine rn<|sq<|rg<|rr 1 ?_;refine l1 ((o.bring 1 rfl).box) 0 ?_;refine rr 1 ?_;refine l1 ((o.bring 0 rfl).box) 0 ?_;obtain⟨K0,b0,hm⟩:=bS hm;refine ca znF (z1N (hE.trans o.ext) h3 p0 ⟨zgc,fun e9=>(fun q G u0=>z8r (Ext.refl _) q G u0)⟩ b0) (fun N0 S0 H=>?_);obtain⟨rfl,M⟩:=H;have d:=o.join M;refine rr 1 ?_;refine rb 10 hm (fun hm=>?_) (fun hm=>?_)
 ·refine rr 1 ?_;refine l1 ((d.bring 1 rfl).box) 1 ?_;refine rr 1 ?_;refine l1 ((d.bring 0 rfl).box) 1 ?_;obtain⟨L0,d0,hm⟩:=bS hm;refine ca znE (z7h (hE.trans d.ext) h6 q0 d0) (fun O0 T0 O=>?_);obtain⟨rfl,S⟩:=O;have h:=d.join S;refine rr 2 ?_;refine rb 17 hm (fun hm=>?_) (fun hm=>?_)
  ·refine rr 1 ?_;refine l1 ((h.bring 1 rfl).box) 2 ?_;refine rr 1 ?_;refine l1 ((h.bring 0 rfl).box) 2 ?_;obtain⟨M0,e0,hm⟩:=bS hm;refine ca znD (z6j (hE.trans h.ext) o0 t0 e0) (fun P0 U0 X=>?_);obtain⟨rfl,Y⟩:=X;have a0:=h.join Y;refine rr 2 ?_;refine rn<|rt ?_;cases hm;exact⟨_,tR rfl,rfl,(a0.taken 0)⟩
  ·refine rr 7 ?_;refine rn<|rt ?_;cases hm;exact⟨_,tR rfl,rfl,(h.taken 0)⟩
 ·refine rr 14 ?_;refine rn<|rt ?_;cases hm;exact⟨_,tR rfl,rfl,(d.taken 0)⟩

theorem zpA:EN 99:=en Tryz.func99
def z3N (fu:Nat) (x0:D.Qq) (x1:Int):Option (Bool):=((idx x0.QC x1).bind fun q=>(if(!q)=true then((idx x0.Qc x1).bind fun G=>((z7K fu G (⟨[],[],[]⟩:D.Qp)).bind fun d=>(if d=true then((idx x0.Qo x1).bind fun H=>some ((H.length:Int) == 0)) else some false))) else((idx x0.Qc x1).bind fun M=>((z4S fu M).bind fun h=>(if h=true then((idx x0.Qo x1).bind fun O=>((z26 fu O).bind fun o=>some o)) else some false)))))

theorem zcx {W w:World}(hE:Ext W w){B0:Addr}{y0:List Value}{x0:D.Qq}{x1:Int}(N0:ty73.ro W y0 x0) (o:At W B0 y0){fu:Nat}{r:Bool}(hm:z3N fu x0 x1=some r):
  CL 99 ⟨[.pointer (some B0),iv x1]⟩ w (RB w r):=by
 obtain⟨A1,k2,A4,k5,A7,n1,O0,p1,P0,t1,C0,h3,h6,A0,a1,d1⟩:=zb3 N0;subst C0;refine into Tryz.func99 51 _ ?_;unfold z3N at hm;have hS:=St.start w;refine sq<|rg<|rr 1 ?_;refine rn<|sq<|sq<|rg<|rr 3 ?_;refine l1 (ax hE hS o) 0 ?_;refine rr 1 ?_;obtain⟨V1,k0,hm⟩:=bS hm;refine ix (hE.trans hS.ext) h3 k0 (fun G1 H0 b0 i0=>?_);cases i0;refine l1 (ax hE hS b0) 0 ?_;refine rr 1 ?_;refine rn<|ci hm (fun hm=>?_) (fun hm=>?_)
 ·refine sq<|rg<|rr 3 ?_;refine l1 (ax hE hS o) 1 ?_;refine rr 1 ?_;obtain⟨W1,o0,hm⟩:=bS hm;refine ix (hE.trans hS.ext) h6 o0 (fun H1 J0 d0 q=>?_);obtain⟨Q0,u1,R0,v1,S0,y1,D0,e1,f1,g1⟩:=zw q;subst D0;refine lN (ax hE hS d0) ?_;refine qt (qb) ?_;obtain⟨M1,p0,hm⟩:=bS hm;refine ca zo7 (zeF (hE.trans hS.ext) q (zd8 (⟨[],[],[]⟩:D.Qp) (slNil z2B 154 _) (slNil za8 223 _) (slNil zak 239 _)) p0) (fun P1 S1 M=>?_);obtain⟨rfl,O⟩:=M;have h:=hS.join O;refine rr 1 ?_;refine rb 22 hm (fun hm=>?_) (fun hm=>?_)
  ·refine rr 3 ?_;refine l1 (ax hE h o) 2 ?_;refine rr 1 ?_;obtain⟨X1,q0,hm⟩:=bS hm;refine ix (hE.trans h.ext) A0 q0 (fun J1 K0 e0 j0=>?_);obtain⟨T0,B1,E0⟩:=z1z j0;subst E0;refine l1 (ax hE h e0) 0 ?_;refine rr 4 ?_;refine rn<|rt ?_;cases hm;exact⟨_,tR rfl,rfl,h⟩
  ·refine rr 11 ?_;refine rn<|rt ?_;cases hm;exact⟨_,tR rfl,rfl,h⟩
 ·refine sp<|sq<|rg<|rr 3 ?_;refine l1 (ax hE hS o) 1 ?_;refine rr 1 ?_;obtain⟨Y1,r0,hm⟩:=bS hm;refine ix (hE.trans hS.ext) h6 r0 (fun K1 L0 f0 G=>?_);obtain⟨U0,C1,V0,D1,X0,E1,F0,i1,j1,m1⟩:=zw G;subst F0;refine lN (ax hE hS f0) ?_;obtain⟨N1,t0,hm⟩:=bS hm;refine ca ziZ (zbJ (hE.trans hS.ext) G t0) (fun Q1 T1 S=>?_);obtain⟨rfl,X⟩:=S;have d:=hS.join X;refine rr 1 ?_;refine rb 41 hm (fun hm=>?_) (fun hm=>?_)
  ·refine rr 3 ?_;refine l1 (ax hE d o) 2 ?_;refine rr 1 ?_;obtain⟨a2,u0,hm⟩:=bS hm;refine ix (hE.trans d.ext) A0 u0 (fun L1 M0 g0 H=>?_);obtain⟨Y0,F1,G0⟩:=z1z H;subst G0;refine l1 (ax hE d g0) 0 ?_;obtain⟨O1,v0,hm⟩:=bS hm;refine ca zkb (z9R (hE.trans d.ext) H v0) (fun R1 U1 Y=>?_);obtain⟨rfl,Z⟩:=Y;have a0:=d.join Z;refine rr 2 ?_;refine rn<|rt ?_;cases hm;exact⟨_,tR rfl,rfl,a0⟩
  ·refine rr 10 ?_;refine rn<|rt ?_;cases hm;exact⟨_,tR rfl,rfl,d⟩

theorem zoB:EN 100:=en Tryz.func100
def z17 (fu:Nat) (x0:D.Qx) (x3:Int) (o:Int):Option Bool:=((idx x0.Qa.Qh x3).bind fun q=>((z7Q fu q).bind fun d=>(if(d == o)=true then((idx x0.Qq.QK x3).bind fun G=>((z7Q fu G).bind fun h=>some (h == 0))) else some false)))
def zg (fu:Nat) (x0:D.Qx) (x1:Int) (x2:Int) (x3:Int) (G:Bool):Option Bool:=(if G=true then some false else((idx x0.Qq.QC x1).bind fun H=>(if H=true then((idx x0.Qq.QC x2).bind fun M=>(if(!M)=true then((z7f fu true).bind fun q=>z17 fu x0 x3 q) else((idx x0.Qq.Qt x3).bind fun o=>((z7f fu o).bind fun d=>z17 fu x0 x3 d)))) else((z7f fu false).bind fun h=>z17 fu x0 x3 h))))
def z1S (fu:Nat) (x0:D.Qx) (x1:Int) (x2:Int) (x3:Int) (O:Bool):Option Bool:=(if(x1 == x2)=true then some O else((idx x0.Qq.QC x2).bind fun d=>(if(!d)=true then(if(!O)=true then zg fu x0 x1 x2 x3 true else((idx x0.Qq.QC x2).bind fun h=>(if h=true then((idx x0.Qq.Qt x3).bind fun o=>(if(!o)=true then((idx x0.Qq.QC x1).bind fun q=>zg fu x0 x1 x2 x3 (!q)) else zg fu x0 x1 x2 x3 false)) else zg fu x0 x1 x2 x3 false))) else((idx x0.Qq.QC x2).bind fun G=>(if G=true then((idx x0.Qq.Qt x3).bind fun H=>(if(!H)=true then((idx x0.Qq.QC x1).bind fun M=>zg fu x0 x1 x2 x3 (!M)) else zg fu x0 x1 x2 x3 false)) else zg fu x0 x1 x2 x3 false)))))
def z2z (fu:Nat) (x0:D.Qx) (x1:Int) (x2:Int) (x3:Int):Option (Bool):=((idx x0.Qq.Qt x3).bind fun d=>(if(!d)=true then((idx x0.Qq.QK x3).bind fun h=>z1S fu x0 x1 x2 x3 ((h.length:Int) == 0)) else z1S fu x0 x1 x2 x3 false))

theorem zbQ {W w:World}(hE:Ext W w){S:Addr}{O1:List Value}{x0:D.Qx}{x1:Int}{x2:Int}{x3:Int}(o2:ty75.ro W O1 x0) (o:At W S O1){fu:Nat}{r:Bool}(hm:z2z fu x0 x1 x2 x3=some r):
  CL 100 ⟨[.pointer (some S),iv x1,iv x2,iv x3]⟩ w (RB w r):=by
 obtain⟨A1,k2,A4,k5,A7,o3,X2,p3,Y2,q3,a3,r3,b3,s3,c3,t3,d3,u3,e3,v3,e2,h3,h6,i3,j3,k3,X,m3,n3,X0,a2⟩:=z7w o2;subst e2;refine into Tryz.func100 128 _ ?_;unfold z2z at hm;have hS:=St.start w;refine sq<|rg<|rr 1 ?_;refine rn<|sq<|rg<|rr 4 ?_;refine rn<|sq<|ct (fun(H1:Bool) F w9=>z1S fu x0 x1 x2 x3 H1=some r∧Ext w w9∧St w w9 []∧F=[(0,.pointer (some S)),(1,iv x1),(2,iv x2),(3,iv x3),(9,.pointer (some (S.add 8))),(10,.bool H1)]) ?_ ?_
 ·rintro H1 F O2 ⟨hm,p2,d,rfl⟩;unfold z1S at hm;refine sq<|sq<|rg<|rr 3 ?_;refine rn<|ci hm (fun hm=>?_) (fun hm=>?_)
  ·refine sq<|rg<|rr 2 ?_;refine rn<|rt ?_;cases hm;exact⟨_,tR rfl,rfl,d⟩
  ·refine sp<|sq<|sq<|ct (fun(J1:Bool) F w9=>zg fu x0 x1 x2 x3 J1=some r∧Ext O2 w9∧St w w9 []∧F=[(0,.pointer (some S)),(1,iv x1),(2,iv x2),(3,iv x3),(9,.pointer (some (S.add 8))),(78,.bool J1)]) ?_ ?_
   ·rintro J1 F P2 ⟨hm,q2,h,rfl⟩;unfold zg at hm;refine ci hm (fun hm=>?_) (fun hm=>?_)
    ·refine sq<|rg<|rr 1 ?_;refine rn<|rt ?_;cases hm;exact⟨_,tR rfl,rfl,h⟩
    ·refine sp<|sq<|ct (fun(K1:Int) F w9=>z17 fu x0 x3 K1=some r∧Ext P2 w9∧St w w9 []∧F=[(0,.pointer (some S)),(3,iv x3),(9,.pointer (some (S.add 8))),(11,iv K1)]) ?_ ?_
     ·rintro K1 F L3 ⟨hm,r2,G,rfl⟩;unfold z17 at hm;refine sq<|rg<|rr 4 ?_;refine l1 (ax hE G o) 4 ?_;refine rr 1 ?_;obtain⟨O3,u1,hm⟩:=bS hm;refine ix (hE.trans G.ext) h6 u1 (fun B3 i2 i1 H0=>?_);obtain⟨f3,y3,f2⟩:=zZ H0;subst f2;refine l1 (ax hE G i1) 0 ?_;obtain⟨F3,v1,hm⟩:=bS hm;refine ca ziW (zcV (hE.trans G.ext) H0 v1) (fun H3 M3 a1=>?_);obtain⟨rfl,d1⟩:=a1;have q:=G.join d1;refine rr 3 ?_;refine rb 117 hm (fun hm=>?_) (fun hm=>?_)
      ·refine rr 3 ?_;refine l1 (ax hE q o) 12 ?_;refine rr 1 ?_;obtain⟨P3,y1,hm⟩:=bS hm;refine ix (hE.trans q.ext) a2 y1 (fun C3 j2 j1 J0=>?_);obtain⟨g3,A3,g2⟩:=zZ J0;subst g2;refine l1 (ax hE q j1) 0 ?_;obtain⟨G3,B1,hm⟩:=bS hm;refine ca ziW (zcV (hE.trans q.ext) J0 B1) (fun J3 N3 e1=>?_);obtain⟨rfl,f1⟩:=e1;have g1:=q.join f1;refine rr 3 ?_;refine rn<|rt ?_;cases hm;exact⟨_,tR rfl,rfl,g1⟩
      ·refine rr 11 ?_;refine rn<|rt ?_;cases hm;exact⟨_,tR rfl,rfl,q⟩
     ·refine rg<|rr 3 ?_;refine l1 (ax hE h o) 8 ?_;refine rr 1 ?_;obtain⟨Q3,C1,hm⟩:=bS hm;refine ix (hE.trans h.ext) X C1 (fun D3 m2 m1 p1=>?_);cases p1;refine l1 (ax hE h m1) 0 ?_;refine rr 1 ?_;refine rb 86 hm (fun hm=>?_) (fun hm=>?_)
      ·refine rr 3 ?_;refine l1 (ax hE h o) 8 ?_;refine rr 1 ?_;obtain⟨R3,D1,hm⟩:=bS hm;refine ix (hE.trans h.ext) X D1 (fun E3 n2 n1 t1=>?_);cases t1;refine l1 (ax hE h n1) 0 ?_;refine rr 2 ?_;refine rb 95 hm (fun hm=>?_) (fun hm=>?_)
       ·refine rr 9 ?_;obtain⟨H2,E1,hm⟩:=bS hm;refine ca zek (zb0 (hE.trans h.ext)  E1) (fun K3 L2 Y=>?_);obtain⟨rfl,H⟩:=Y;have b0:=h.join H;refine rr 1 ?_;refine rn ?_;exact⟨H2,_,⟨hm,H.ext,b0,rfl⟩,rfl⟩
       ·refine rr 3 ?_;refine l1 (ax hE h o) 11 ?_;refine rr 1 ?_;obtain⟨Q2,K0,hm⟩:=bS hm;refine ix (hE.trans h.ext) X0 K0 (fun u2 P1 f0 u0=>?_);cases u0;refine l1 (ax hE h f0) 0 ?_;refine rr 2 ?_;obtain⟨F1,L0,hm⟩:=bS hm;refine ca zek (zb0 (hE.trans h.ext)  L0) (fun J2 M2 Z=>?_);obtain⟨rfl,M⟩:=Z;have d0:=h.join M;refine rr 1 ?_;refine rn ?_;exact⟨F1,_,⟨hm,M.ext,d0,rfl⟩,rfl⟩
      ·refine rr 18 ?_;obtain⟨G1,M0,hm⟩:=bS hm;refine ca zek (zb0 (hE.trans h.ext)  M0) (fun K2 N2 a0=>?_);obtain⟨rfl,O⟩:=a0;have e0:=h.join O;refine rr 1 ?_;refine rn ?_;exact⟨G1,_,⟨hm,O.ext,e0,rfl⟩,rfl⟩
   ·refine rg<|rr 3 ?_;refine l1 (ax hE d o) 8 ?_;refine rr 1 ?_;obtain⟨R2,N0,hm⟩:=bS hm;refine ix (hE.trans d.ext) X N0 (fun v2 Q1 g0 v0=>?_);cases v0;refine l1 (ax hE d g0) 0 ?_;refine rr 2 ?_;refine rb 46 hm (fun hm=>?_) (fun hm=>?_)
    ·refine rr 4 ?_;refine rb 50 hm (fun hm=>?_) (fun hm=>?_)
     ·refine rr 28 ?_;refine rn ?_;exact⟨true,_,⟨hm,(Ext.refl _),d,rfl⟩,rfl⟩
     ·refine rr 3 ?_;refine l1 (ax hE d o) 8 ?_;refine rr 1 ?_;obtain⟨S2,O0,hm⟩:=bS hm;refine ix (hE.trans d.ext) X O0 (fun y2 R1 i0 y0=>?_);cases y0;refine l1 (ax hE d i0) 0 ?_;refine rr 1 ?_;refine rb 58 hm (fun hm=>?_) (fun hm=>?_)
      ·refine rr 3 ?_;refine l1 (ax hE d o) 11 ?_;refine rr 1 ?_;obtain⟨T2,P0,hm⟩:=bS hm;refine ix (hE.trans d.ext) X0 P0 (fun A2 S1 j0 A0=>?_);cases A0;refine l1 (ax hE d j0) 0 ?_;refine rr 3 ?_;refine rb 68 hm (fun hm=>?_) (fun hm=>?_)
       ·refine rr 3 ?_;refine l1 (ax hE d o) 8 ?_;refine rr 1 ?_;obtain⟨L1,Q0,hm⟩:=bS hm;refine ix (hE.trans d.ext) X Q0 (fun B2 T1 k0 B0=>?_);cases B0;refine l1 (ax hE d k0) 0 ?_;refine rr 3 ?_;refine rn ?_;exact⟨!L1,_,⟨hm,(Ext.refl _),d,rfl⟩,rfl⟩
       ·refine rr 10 ?_;refine rn ?_;exact⟨false,_,⟨hm,(Ext.refl _),d,rfl⟩,rfl⟩
      ·refine rr 20 ?_;refine rn ?_;exact⟨false,_,⟨hm,(Ext.refl _),d,rfl⟩,rfl⟩
    ·refine rr 7 ?_;refine l1 (ax hE d o) 8 ?_;refine rr 1 ?_;obtain⟨U2,R0,hm⟩:=bS hm;refine ix (hE.trans d.ext) X R0 (fun C2 U1 o0 C0=>?_);cases C0;refine l1 (ax hE d o0) 0 ?_;refine rr 1 ?_;refine rb 58 hm (fun hm=>?_) (fun hm=>?_)
     ·refine rr 3 ?_;refine l1 (ax hE d o) 11 ?_;refine rr 1 ?_;obtain⟨V2,S0,hm⟩:=bS hm;refine ix (hE.trans d.ext) X0 S0 (fun D2 V1 p0 D0=>?_);cases D0;refine l1 (ax hE d p0) 0 ?_;refine rr 3 ?_;refine rb 68 hm (fun hm=>?_) (fun hm=>?_)
      ·refine rr 3 ?_;refine l1 (ax hE d o) 8 ?_;refine rr 1 ?_;obtain⟨M1,T0,hm⟩:=bS hm;refine ix (hE.trans d.ext) X T0 (fun E2 W1 q0 E0=>?_);cases E0;refine l1 (ax hE d q0) 0 ?_;refine rr 3 ?_;refine rn ?_;exact⟨!M1,_,⟨hm,(Ext.refl _),d,rfl⟩,rfl⟩
      ·refine rr 10 ?_;refine rn ?_;exact⟨false,_,⟨hm,(Ext.refl _),d,rfl⟩,rfl⟩
     ·refine rr 20 ?_;refine rn ?_;exact⟨false,_,⟨hm,(Ext.refl _),d,rfl⟩,rfl⟩
 ·refine rg<|rr 3 ?_;refine l1 (ax hE hS o) 11 ?_;refine rr 1 ?_;obtain⟨W2,U0,hm⟩:=bS hm;refine ix (hE.trans hS.ext) X0 U0 (fun F2 X1 r0 F0=>?_);cases F0;refine l1 (ax hE hS r0) 0 ?_;refine rr 2 ?_;refine rb 23 hm (fun hm=>?_) (fun hm=>?_)
  ·refine rr 3 ?_;refine l1 (ax hE hS o) 12 ?_;refine rr 1 ?_;obtain⟨N1,V0,hm⟩:=bS hm;refine ix (hE.trans hS.ext) a2 V0 (fun G2 Y1 t0 G0=>?_);obtain⟨d2,t2,Y0⟩:=zZ G0;subst Y0;refine l1 (ax hE hS t0) 0 ?_;refine rr 4 ?_;refine rn ?_;exact⟨((N1.length:Int) == 0),_,⟨hm,(Ext.refl _),hS,rfl⟩,rfl⟩
  ·refine rr 11 ?_;refine rn ?_;exact⟨false,_,⟨hm,(Ext.refl _),hS,rfl⟩,rfl⟩

theorem zpQ:EN 45:=en Tryz.func45
def za5 (fu:Nat) (d:Unit):Option Bool:=some true
def z3d (fu:Nat) (x0:D.Qx) (d:((List Bool) × (List D.Qp) × (List (List Int)) × (List Bool) × (List (List D.Qe))) × Int) (h:Int):Option (Rd (Int) (Unit) (Bool)):=(if(decide (h<(w64 (d.2*d.2))))=true then(if decide (d.2≠0)=true then(if decide (d.2≠0)=true then((z2z fu x0 (w64 (h.tdiv d.2)) (h.tmod d.2) h).bind fun o=>(if(!o)=true then some (.ret false) else some (.next (w64 (h+1))))) else none) else none) else some (.brk ()))
def z7X (fu:Nat) (x0:D.Qx) (d:((List Bool) × (List D.Qp) × (List (List Int)) × (List Bool) × (List (List D.Qe))) × Int) (h:Unit):Option Bool:=((iter (z3d fu x0 d) fu 0).bind fun o=>aft o (za5 fu))
def z3e (fu:Nat) (d:((List Bool) × (List D.Qp) × (List (List Int)) × (List Bool) × (List (List D.Qe))) × Int) (o:Int):Option (Rd (Int) (Unit) (Bool)):=(if(decide (o<d.2))=true then((z3N fu (⟨d.1.1,d.1.2.1,d.1.2.2.1,d.1.2.2.2.1,d.1.2.2.2.2⟩:D.Qq) o).bind fun h=>(if(!h)=true then some (.ret false) else some (.next (w64 (o+1))))) else some (.brk ()))
def zG (fu:Nat) (x0:D.Qx) (d:((List Bool) × (List D.Qp) × (List (List Int)) × (List Bool) × (List (List D.Qe))) × Int) (h:Bool):Option Bool:=(if h=true then some false else((iter (z3e fu d) fu 0).bind fun o=>aft o (z7X fu x0 d)))
def z5r (fu:Nat) (x0:D.Qx) (d:((List Bool) × (List D.Qp) × (List (List Int)) × (List Bool) × (List (List D.Qe))) × Int):Option Bool:=(if((d.1.1.length:Int) != d.2)=true then zG fu x0 d true else(if((d.1.2.1.length:Int) != d.2)=true then zG fu x0 d true else(if((d.1.2.2.1.length:Int) != d.2)=true then zG fu x0 d true else(if((d.1.2.2.2.1.length:Int) != (w64 (d.2*d.2)))=true then zG fu x0 d true else((z33 fu d.1.2.2.2.2 d.2).bind fun h=>(if(!h)=true then zG fu x0 d true else((zA fu d.1.1 true).bind fun o=>zG fu x0 d (!o))))))))
def z5h (fu:Nat) (x0:D.Qx):Option (Bool):=((z3o fu x0.Qa).bind fun h=>(if(!h)=true then some false else((z1i fu x0.Qa).bind fun d=>z5r fu x0 ((x0.Qq.QC,x0.Qq.Qc,x0.Qq.Qo,x0.Qq.Qt,x0.Qq.QK),d))))

theorem zdk {W w:World}(hE:Ext W w){f2:List Value}{x0:D.Qx}(g2:ty75.ro W f2 x0){fu:Nat}{r:Bool}(hm:z5h fu x0=some r):
  CL 45 ⟨[.agg ⟨f2⟩]⟩ w (RB w r):=by
 obtain⟨A1,k2,A4,k5,A7,U0,S0,V0,T0,X0,e0,E0,f0,F0,g0,G0,i0,H0,j0,J0,D2,h3,h6,O1,P1,Q1,i2,j2,m2,n2,o2⟩:=z7w g2;subst D2;refine into Tryz.func45 80 _ ?_;unfold z5h at hm;have hS:=St.start w;refine sq<|rg<|nw hS (fun Y r3 n3 P0=>?_);refine rr 1 ?_;refine rn<|sq<|sq<|rg<|rr 1 ?_;refine lN (At.sub ((P0.bring 0 rfl).box) 0 8) ?_;obtain⟨p3,a2,hm⟩:=bS hm;refine ca zkm (zaV (hE.trans P0.ext) (z2F x0.Qa h3 h6 O1 P1 Q1) a2) (fun q3 s3 R1=>?_);obtain⟨rfl,S1⟩:=R1;have d0:=P0.join S1;refine rr 1 ?_;refine rn<|ci hm (fun hm=>?_) (fun hm=>?_)
 ·refine sq<|rg<|rr 1 ?_;refine rn<|rt ?_;cases hm;exact⟨_,tR rfl,rfl,(d0.taken 0)⟩
 ·refine sp<|sq<|ct (fun(d:((List Bool) × (List D.Qp) × (List (List Int)) × (List Bool) × (List (List D.Qe))) × Int) F w9=>∃ b0 k0 K0 o0 L0 p0 M0 q0 N0 r0 O0,z5r fu x0 d=some r∧ty56.ro W [sl k0 d.1.1 K0] d.1.1∧ty34.ro W [sl o0 d.1.2.1 L0] d.1.2.1∧ty28.ro W [sl p0 d.1.2.2.1 M0] d.1.2.2.1∧ty56.ro W [sl q0 d.1.2.2.2.1 N0] d.1.2.2.2.1∧ty38.ro W [sl r0 d.1.2.2.2.2 O0] d.1.2.2.2.2∧St w w9 [Box b0 [sl k0 d.1.1 K0,sl o0 d.1.2.1 L0,sl p0 d.1.2.2.1 M0,sl q0 d.1.2.2.2.1 N0,sl r0 d.1.2.2.2.2 O0] 73,Box Y [sl A1 x0.Qa.Qi.Qc k2,iv x0.Qa.Qi.Qy.Qg,iv x0.Qa.Qi.Qy.Qj,iv x0.Qa.Qi.Qy.Qs,sl A4 x0.Qa.Qh k5,sl A7 x0.Qa.Qo U0,sl S0 x0.Qa.QU V0,sl T0 x0.Qa.QZ X0,sl e0 x0.Qq.QC E0,sl f0 x0.Qq.Qc F0,sl g0 x0.Qq.Qo G0,sl i0 x0.Qq.Qt H0,sl j0 x0.Qq.QK J0] 75]∧F=[(1,.pointer (some ⟨Y,0,none⟩)),(3,.pointer (some ⟨b0,0,none⟩)),(4,iv d.2)]) ?_ ?_
  ·rintro d F m3 ⟨b0,k0,K0,o0,L0,p0,M0,q0,N0,r0,O0,hm,p2,E2,F2,G2,q2,O,rfl⟩;unfold z5r at hm;refine sq<|sq<|ct (fun(e2:Bool) F w9=>zG fu x0 d e2=some r∧Ext m3 w9∧St w w9 [Box b0 [sl k0 d.1.1 K0,sl o0 d.1.2.1 L0,sl p0 d.1.2.2.1 M0,sl q0 d.1.2.2.2.1 N0,sl r0 d.1.2.2.2.2 O0] 73,Box Y [sl A1 x0.Qa.Qi.Qc k2,iv x0.Qa.Qi.Qy.Qg,iv x0.Qa.Qi.Qy.Qj,iv x0.Qa.Qi.Qy.Qs,sl A4 x0.Qa.Qh k5,sl A7 x0.Qa.Qo U0,sl S0 x0.Qa.QU V0,sl T0 x0.Qa.QZ X0,sl e0 x0.Qq.QC E0,sl f0 x0.Qq.Qc F0,sl g0 x0.Qq.Qo G0,sl i0 x0.Qq.Qt H0,sl j0 x0.Qq.QK J0] 75]∧F=[(1,.pointer (some ⟨Y,0,none⟩)),(3,.pointer (some ⟨b0,0,none⟩)),(4,iv d.2),(55,.bool e2)]) ?_ ?_
   ·rintro e2 F y2 ⟨hm,H2,C1,rfl⟩;unfold zG at hm;refine ci hm (fun hm=>?_) (fun hm=>?_)
    ·refine sq<|rg<|rr 1 ?_;refine rn<|rt ?_;cases hm;exact⟨_,tR rfl,rfl,(C1.taken 0)⟩
    ·refine sp<|sq<|sq<|rg<|rr 2 ?_;refine rn ?_;obtain⟨N2,V1,hm⟩:=bS hm;refine ct (fun(u2:Unit) F w9=>N2=.inl u2∧Ext y2 w9∧St w w9 [Box b0 [sl k0 d.1.1 K0,sl o0 d.1.2.1 L0,sl p0 d.1.2.2.1 M0,sl q0 d.1.2.2.2.1 N0,sl r0 d.1.2.2.2.2 O0] 73,Box Y [sl A1 x0.Qa.Qi.Qc k2,iv x0.Qa.Qi.Qy.Qg,iv x0.Qa.Qi.Qy.Qj,iv x0.Qa.Qi.Qy.Qs,sl A4 x0.Qa.Qh k5,sl A7 x0.Qa.Qo U0,sl S0 x0.Qa.QU V0,sl T0 x0.Qa.QZ X0,sl e0 x0.Qq.QC E0,sl f0 x0.Qq.Qc F0,sl g0 x0.Qq.Qo G0,sl i0 x0.Qq.Qt H0,sl j0 x0.Qq.QK J0] 75]∧F=[(1,.pointer (some ⟨Y,0,none⟩)),(4,iv d.2)]) ?_ ?_
     ·rintro u2 F A2 ⟨X1,J2,T1,rfl⟩;subst X1;rw [z8] at hm;unfold z7X at hm;refine sq<|sq<|rg<|rr 4 ?_;refine rn ?_;obtain⟨O2,W1,hm⟩:=bS hm;refine ct (fun(v2:Unit) F w9=>O2=.inl v2∧Ext A2 w9∧St w w9 [Box b0 [sl k0 d.1.1 K0,sl o0 d.1.2.1 L0,sl p0 d.1.2.2.1 M0,sl q0 d.1.2.2.2.1 N0,sl r0 d.1.2.2.2.2 O0] 73,Box Y [sl A1 x0.Qa.Qi.Qc k2,iv x0.Qa.Qi.Qy.Qg,iv x0.Qa.Qi.Qy.Qj,iv x0.Qa.Qi.Qy.Qs,sl A4 x0.Qa.Qh k5,sl A7 x0.Qa.Qo U0,sl S0 x0.Qa.QU V0,sl T0 x0.Qa.QZ X0,sl e0 x0.Qq.QC E0,sl f0 x0.Qq.Qc F0,sl g0 x0.Qq.Qo G0,sl i0 x0.Qq.Qt H0,sl j0 x0.Qq.QK J0] 75]∧F=[]) ?_ ?_
      ·rintro v2 F t3 ⟨Y1,K2,U1,rfl⟩;subst Y1;rw [z8] at hm;unfold za5 at hm;refine sq<|rg<|rr 1 ?_;refine rn<|rt ?_;cases hm;exact⟨_,tR rfl,rfl,(U1.taken 0)⟩
      ·refine bk<|wk [1,4,66,67] ?_;refine it (fun(t2:Int) F w9=>Ext A2 w9∧St w w9 [Box b0 [sl k0 d.1.1 K0,sl o0 d.1.2.1 L0,sl p0 d.1.2.2.1 M0,sl q0 d.1.2.2.2.1 N0,sl r0 d.1.2.2.2.2 O0] 73,Box Y [sl A1 x0.Qa.Qi.Qc k2,iv x0.Qa.Qi.Qy.Qg,iv x0.Qa.Qi.Qy.Qj,iv x0.Qa.Qi.Qy.Qs,sl A4 x0.Qa.Qh k5,sl A7 x0.Qa.Qo U0,sl S0 x0.Qa.QU V0,sl T0 x0.Qa.QZ X0,sl e0 x0.Qq.QC E0,sl f0 x0.Qq.Qc F0,sl g0 x0.Qq.Qo G0,sl i0 x0.Qq.Qt H0,sl j0 x0.Qq.QK J0] 75]∧F=[(1,.pointer (some ⟨Y,0,none⟩)),(4,iv d.2),(66,iv (w64 (d.2*d.2))),(67,iv t2)]) W1 ⟨(Ext.refl _),T1,rfl⟩ ?_;rintro t2 F u3 _ o3 ⟨a1,Q0,rfl⟩ q F1;unfold z3d at q;refine sq<|rg<|rr 1 ?_;refine rn<|sq<|ci q (fun q=>?_) (fun q=>?_)
       ·refine sp<|sq<|bk<|sq<|rg<|rr 2 ?_;refine rn<|sq<|dn 0 mixed 9 [([],511),([],511),([0,1],508),([],511),([],511),([3,4],487),([],511),([2,5,6],411),([7],383)] Q0.ext (fun S=>?_);have R0:=Q0.step (Ext.draw _);refine dr 4 S [0,1,3,4,6] ?_;obtain⟨D1,q⟩:=iS q;refine dp S 2 rfl (fun _=>qQuo (of_decide_eq_true D1)) ?_;obtain⟨E1,q⟩:=iS q;refine dp S 5 rfl (fun _=>qRem (of_decide_eq_true E1)) ?_;obtain⟨P2,G1,q⟩:=bS q;refine o1 S 7 (mc S zoB (zbQ (Ext.refl _) (ty75.ext (hE.trans R0.ext) g2) ((R0.bring 1 rfl).box) G1) (fun S2 Y2 d1=>?_));obtain⟨rfl,Z⟩:=d1;refine⟨Z.ext,?_⟩;have A0:=R0.join Z;refine dr 0 S [8] ?_;refine dw [1,4,66,67,78] ?_;refine dd S ?_;refine ci q (fun q=>?_) (fun q=>?_)
        ·refine sq<|rg<|rr 1 ?_;refine rn<|rt ?_;cases q;cases F1;have hm:some _=some _:=hm;cases hm;exact⟨_,tR rfl,rfl,(A0.taken 0)⟩
        ·refine sp<|rg<|rr 2 ?_;refine rn ?_;cases q;exact⟨_,_,rfl,⟨((a1.trans (Ext.draw _)).trans Z.ext),A0,rfl⟩,rfl⟩
       ·refine xt ?_;cases q;exact⟨_,_,⟨F1,a1,Q0,rfl⟩,rfl⟩
     ·refine bk<|wk [1,3,4,56,57] ?_;refine it (fun(r2:Int) F w9=>Ext y2 w9∧St w w9 [Box b0 [sl k0 d.1.1 K0,sl o0 d.1.2.1 L0,sl p0 d.1.2.2.1 M0,sl q0 d.1.2.2.2.1 N0,sl r0 d.1.2.2.2.2 O0] 73,Box Y [sl A1 x0.Qa.Qi.Qc k2,iv x0.Qa.Qi.Qy.Qg,iv x0.Qa.Qi.Qy.Qj,iv x0.Qa.Qi.Qy.Qs,sl A4 x0.Qa.Qh k5,sl A7 x0.Qa.Qo U0,sl S0 x0.Qa.QU V0,sl T0 x0.Qa.QZ X0,sl e0 x0.Qq.QC E0,sl f0 x0.Qq.Qc F0,sl g0 x0.Qq.Qo G0,sl i0 x0.Qq.Qt H0,sl j0 x0.Qq.QK J0] 75]∧F=[(1,.pointer (some ⟨Y,0,none⟩)),(3,.pointer (some ⟨b0,0,none⟩)),(4,iv d.2),(56,iv d.2),(57,iv r2)]) V1 ⟨(Ext.refl _),C1,rfl⟩ ?_;rintro r2 F a3 _ M2 ⟨Y0,G,rfl⟩ o C0;unfold z3e at o;refine sq<|rg<|rr 1 ?_;refine rn<|sq<|ci o (fun o=>?_) (fun o=>?_)
      ·refine sp<|sq<|bk<|sq<|rg<|rr 2 ?_;refine rn<|sq<|rg<|rr 1 ?_;obtain⟨Q2,H1,o⟩:=bS o;refine ca zpA (zcx (Ext.refl _) (zb2 (⟨d.1.1,d.1.2.1,d.1.2.2.1,d.1.2.2.2.1,d.1.2.2.2.2⟩:D.Qq) (ty56.ext (hE.trans G.ext) p2) (ty34.ext (hE.trans G.ext) E2) (ty28.ext (hE.trans G.ext) F2) (ty56.ext (hE.trans G.ext) G2) (ty38.ext (hE.trans G.ext) q2)) ((G.bring 0 rfl).box) H1) (fun T2 b3 e1=>?_);obtain⟨rfl,t0⟩:=e1;have B0:=G.join t0;refine rr 1 ?_;refine rn<|ci o (fun o=>?_) (fun o=>?_)
       ·refine sq<|rg<|rr 1 ?_;refine rn<|rt ?_;cases o;cases C0;have hm:some _=some _:=hm;cases hm;exact⟨_,tR rfl,rfl,(B0.taken 0)⟩
       ·refine sp<|rg<|rr 2 ?_;refine rn ?_;cases o;exact⟨_,_,rfl,⟨(Y0.trans t0.ext),B0,rfl⟩,rfl⟩
      ·refine xt ?_;cases o;exact⟨_,_,⟨C0,Y0,G,rfl⟩,rfl⟩
   ·refine rg<|rr 1 ?_;refine l1 ((O.bring 0 rfl).box) 0 ?_;refine rr 4 ?_;refine rb 20 hm (fun hm=>?_) (fun hm=>?_)
    ·refine rr 35 ?_;refine rn ?_;exact⟨true,_,⟨hm,(Ext.refl _),O,rfl⟩,rfl⟩
    ·refine rr 1 ?_;refine l1 ((O.bring 0 rfl).box) 1 ?_;refine rr 5 ?_;refine rb 27 hm (fun hm=>?_) (fun hm=>?_)
     ·refine rr 28 ?_;refine rn ?_;exact⟨true,_,⟨hm,(Ext.refl _),O,rfl⟩,rfl⟩
     ·refine rr 1 ?_;refine l1 ((O.bring 0 rfl).box) 2 ?_;refine rr 5 ?_;refine rb 34 hm (fun hm=>?_) (fun hm=>?_)
      ·refine rr 21 ?_;refine rn ?_;exact⟨true,_,⟨hm,(Ext.refl _),O,rfl⟩,rfl⟩
      ·refine rr 1 ?_;refine l1 ((O.bring 0 rfl).box) 3 ?_;refine rr 7 ?_;refine rb 43 hm (fun hm=>?_) (fun hm=>?_)
       ·refine rr 12 ?_;refine rn ?_;exact⟨true,_,⟨hm,(Ext.refl _),O,rfl⟩,rfl⟩
       ·refine rr 1 ?_;refine l1 ((O.bring 0 rfl).box) 4 ?_;refine rr 1 ?_;obtain⟨R2,J1,hm⟩:=bS hm;refine ca zkc (zay (hE.trans O.ext) q2 J1) (fun U2 c3 f1=>?_);obtain⟨rfl,a0⟩:=f1;have X:=O.join a0;refine rr 3 ?_;refine rb 50 hm (fun hm=>?_) (fun hm=>?_)
        ·refine rr 5 ?_;refine rn ?_;exact⟨true,_,⟨hm,a0.ext,X,rfl⟩,rfl⟩
        ·refine rr 1 ?_;refine l1 ((X.bring 0 rfl).box) 0 ?_;obtain⟨d2,K1,hm⟩:=bS hm;refine ca zhJ (z4C (hE.trans X.ext) p2 K1) (fun V2 d3 g1=>?_);obtain⟨rfl,u0⟩:=g1;have m1:=X.join u0;refine rr 2 ?_;refine rn ?_;exact⟨!d2,_,⟨hm,(a0.ext.trans u0.ext),m1,rfl⟩,rfl⟩
  ·refine dn 32 mixed 7 [([],127),([0],126),([],127),([2],123),([],127),([4,1,3,0,1,3,4],109),([3,5,0,1,2,3,4,5],119)] d0.ext (fun h=>?_);have H:=d0.step (Ext.draw _);refine dr 5 h [0,2] ?_;refine dw [1,11,13] ?_;refine dL h 1 (At.sub ((d0.bring 0 rfl).box) 8 5) ?_;obtain⟨L1,D0,hm⟩:=bS hm;refine da h [3,4] (by simp) ?_;intro L2 hi157;simp only [List.mem_cons,List.not_mem_nil,or_false] at hi157
   rcases hi157 with rfl | rfl
   ·refine mc h zfi (z49 (Ext.refl _) (z2F x0.Qa (ty34.ext (hE.trans H.ext) h3) (ty38.ext (hE.trans H.ext) h6) (ty28.ext (hE.trans H.ext) O1) (ty29.ext (hE.trans H.ext) P1) (ty29.ext (hE.trans H.ext) Q1)) (At.sub ((H.bring 0 rfl).box) 0 8) D0) (fun W2 e3 i1=>?_);obtain⟨rfl,v0⟩:=i1;refine⟨v0.ext,?_⟩;have n1:=H.join v0;refine o1 h 4 (mw h n1 (fun M1 f3 B2 p1=>?_));have t1:=p1.bring 0 rfl;refine o1 h 5 (ms (A:=[]) t1 h 0 (fun g3 u1=>?_));refine dr 0 h [6] ?_;refine dd h ?_;exact⟨((x0.Qq.QC,x0.Qq.Qc,x0.Qq.Qo,x0.Qq.Qt,x0.Qq.QK),L1),_,⟨M1,e0,E0,f0,F0,g0,G0,i0,H0,j0,J0,hm,i2,j2,m2,n2,o2,u1,rfl⟩,rfl⟩
   ·refine mw h H (fun N1 i3 C2 M=>?_);refine o1 h 3 (mc h zfi (z49 (Ext.refl _) (z2F x0.Qa (ty34.ext (hE.trans M.ext) h3) (ty38.ext (hE.trans M.ext) h6) (ty28.ext (hE.trans M.ext) O1) (ty29.ext (hE.trans M.ext) P1) (ty29.ext (hE.trans M.ext) Q1)) (At.sub ((M.bring 1 rfl).box) 0 8) D0) (fun X2 j3 j1=>?_));obtain⟨rfl,y0⟩:=j1;refine⟨y0.ext,?_⟩;have v1:=M.join y0;have y1:=v1.bring 0 rfl;refine o1 h 5 (ms (A:=[]) y1 h 0 (fun k3 B1=>?_));refine dr 0 h [6] ?_;refine dd h ?_;exact⟨((x0.Qq.QC,x0.Qq.Qc,x0.Qq.Qo,x0.Qq.Qt,x0.Qq.QK),L1),_,⟨N1,e0,E0,f0,F0,g0,G0,i0,H0,j0,J0,hm,i2,j2,m2,n2,o2,B1,rfl⟩,rfl⟩

theorem zoA:EN 101:=en Tryz.func101
def z9L (fu:Nat) (x0:D.Qq) (x1:D.Qq):Option (Bool):=((z7P fu x0.QC x1.QC).bind fun d=>(if(!d)=true then some false else((z78 fu x0.Qc x1.Qc).bind fun h=>(if(!h)=true then some false else((z5G fu x0.Qo x1.Qo).bind fun o=>(if(!o)=true then some false else((z7P fu x0.Qt x1.Qt).bind fun q=>(if(!q)=true then some false else((z4Q fu x0.QK x1.QK).bind fun G=>(if(!G)=true then some false else some true))))))))))

theorem laws_eqShot_ok {W w:World}(hE:Ext W w){p0:List Value}{x0:D.Qq}{q0:List Value}{x1:D.Qq}(u0:ty73.ro W p0 x0) (B0:ty73.ro W q0 x1){fu:Nat}{r:Bool}(hm:z9L fu x0 x1=some r):
  CL 101 ⟨[.agg ⟨p0⟩,.agg ⟨q0⟩]⟩ w (RB w r):=by
 obtain⟨A1,k2,A4,k5,A7,T0,H0,U0,J0,V0,r0,h3,h6,v0,y0,A0⟩:=zb3 u0;subst r0;obtain⟨K0,X0,L0,Y0,M0,a1,N0,d1,O0,e1,t0,C0,D0,E0,F0,G0⟩:=zb3 B0;subst t0;refine into Tryz.func101 35 _ ?_;unfold z9L at hm;have hS:=St.start w;refine sq<|rg<|nw hS (fun R0 y1 P0 f0=>?_);refine nw f0 (fun S0 B1 Q0 G=>?_);refine rr 1 ?_;refine rn<|sq<|sq<|rg<|rr 1 ?_;refine l1 ((G.bring 1 rfl).box) 0 ?_;refine rr 1 ?_;refine l1 ((G.bring 0 rfl).box) 0 ?_;obtain⟨f1,g0,hm⟩:=bS hm;refine ca zk4 (laws_eqBoolS_ok (hE.trans G.ext) h3 C0 g0) (fun n1 C1 M=>?_);obtain⟨rfl,O⟩:=M;have d:=G.join O;refine rr 1 ?_;refine rn<|ci hm (fun hm=>?_) (fun hm=>?_)
 ·refine sq<|rg<|rr 1 ?_;refine rn<|rt ?_;cases hm;exact⟨_,tR rfl,rfl,(d.taken 0)⟩
 ·refine sp<|sq<|sq<|rg<|rr 1 ?_;refine l1 ((d.bring 1 rfl).box) 1 ?_;refine rr 1 ?_;refine l1 ((d.bring 0 rfl).box) 1 ?_;obtain⟨g1,i0,hm⟩:=bS hm;refine ca ziY (laws_eqShardS_ok (hE.trans d.ext) h6 D0 i0) (fun p1 D1 S=>?_);obtain⟨rfl,X⟩:=S;have h:=d.join X;refine rr 1 ?_;refine rn<|ci hm (fun hm=>?_) (fun hm=>?_)
  ·refine sq<|rg<|rr 1 ?_;refine rn<|rt ?_;cases hm;exact⟨_,tR rfl,rfl,(h.taken 0)⟩
  ·refine sp<|sq<|sq<|rg<|rr 1 ?_;refine l1 ((h.bring 1 rfl).box) 2 ?_;refine rr 1 ?_;refine l1 ((h.bring 0 rfl).box) 2 ?_;obtain⟨i1,j0,hm⟩:=bS hm;refine ca zk9 (laws_eqInt64SS_ok (hE.trans h.ext) v0 E0 j0) (fun t1 E1 Y=>?_);obtain⟨rfl,Z⟩:=Y;have o:=h.join Z;refine rr 1 ?_;refine rn<|ci hm (fun hm=>?_) (fun hm=>?_)
   ·refine sq<|rg<|rr 1 ?_;refine rn<|rt ?_;cases hm;exact⟨_,tR rfl,rfl,(o.taken 0)⟩
   ·refine sp<|sq<|sq<|rg<|rr 1 ?_;refine l1 ((o.bring 1 rfl).box) 3 ?_;refine rr 1 ?_;refine l1 ((o.bring 0 rfl).box) 3 ?_;obtain⟨j1,k0,hm⟩:=bS hm;refine ca zk4 (laws_eqBoolS_ok (hE.trans o.ext) y0 F0 k0) (fun u1 F1 a0=>?_);obtain⟨rfl,b0⟩:=a0;have q:=o.join b0;refine rr 1 ?_;refine rn<|ci hm (fun hm=>?_) (fun hm=>?_)
    ·refine sq<|rg<|rr 1 ?_;refine rn<|rt ?_;cases hm;exact⟨_,tR rfl,rfl,(q.taken 0)⟩
    ·refine sp<|sq<|sq<|rg<|rr 1 ?_;refine l1 ((q.bring 1 rfl).box) 4 ?_;refine rr 1 ?_;refine l1 ((q.bring 0 rfl).box) 4 ?_;obtain⟨m1,o0,hm⟩:=bS hm;refine ca zka (laws_eqParcelSS_ok (hE.trans q.ext) A0 G0 o0) (fun v1 G1 d0=>?_);obtain⟨rfl,e0⟩:=d0;have H:=q.join e0;refine rr 1 ?_;refine rn<|ci hm (fun hm=>?_) (fun hm=>?_)
     ·refine sq<|rg<|rr 1 ?_;refine rn<|rt ?_;cases hm;exact⟨_,tR rfl,rfl,(H.taken 0)⟩
     ·refine sp<|sq<|rg<|rr 1 ?_;refine rn<|rt ?_;cases hm;exact⟨_,tR rfl,rfl,(H.taken 0)⟩

theorem zpP:EN 46:=en Tryz.func46
def z7G (fu:Nat) (x0:D.Qx) (x1:D.Qx):Option (Bool):=((z36 fu x0.Qa x1.Qa).bind fun d=>(if(!d)=true then some false else((z9L fu x0.Qq x1.Qq).bind fun h=>(if(!h)=true then some false else some true))))

theorem laws_eqWatched_ok {W w:World}(hE:Ext W w){Y:List Value}{x0:D.Qx}{Z:List Value}{x1:D.Qx}(d0:ty75.ro W Y x0) (i0:ty75.ro W Z x1){fu:Nat}{r:Bool}(hm:z7G fu x0 x1=some r):
  CL 46 ⟨[.agg ⟨Y⟩,.agg ⟨Z⟩]⟩ w (RB w r):=by
 obtain⟨A1,k2,A4,k5,A7,f1,F0,g1,G0,i1,H0,j1,J0,m1,K0,n1,L0,p1,M0,t1,a0,h3,h6,e0,f0,g0,j0,k0,o0,p0,q0⟩:=z7w d0;subst a0;obtain⟨N0,u1,O0,v1,P0,y1,Q0,B1,R0,C1,S0,D1,T0,E1,U0,F1,V0,G1,X0,H1,b0,r0,t0,u0,v0,y0,A0,B0,C0,D0,E0⟩:=z7w i0;subst b0;refine into Tryz.func46 17 _ ?_;unfold z7G at hm;have hS:=St.start w;refine sq<|rg<|nw hS (fun d1 N1 Y0 O=>?_);refine nw O (fun e1 O1 a1 h=>?_);refine rr 1 ?_;refine rn<|sq<|sq<|rg<|rr 1 ?_;refine lN (At.sub ((h.bring 1 rfl).box) 0 8) ?_;refine rr 1 ?_;refine lN (At.sub ((h.bring 0 rfl).box) 0 8) ?_;obtain⟨J1,S,hm⟩:=bS hm;refine ca zfo (laws_eqCluster_ok (hE.trans h.ext) (z2F x0.Qa h3 h6 e0 f0 g0) (z2F x1.Qa r0 t0 u0 v0 y0) S) (fun L1 P1 q=>?_);obtain⟨rfl,G⟩:=q;have d:=h.join G;refine rr 1 ?_;refine rn<|ci hm (fun hm=>?_) (fun hm=>?_)
 ·refine sq<|rg<|rr 1 ?_;refine rn<|rt ?_;cases hm;exact⟨_,tR rfl,rfl,(d.taken 0)⟩
 ·refine sp<|sq<|sq<|rg<|rr 1 ?_;refine lN (At.sub ((d.bring 1 rfl).box) 8 5) ?_;refine rr 1 ?_;refine lN (At.sub ((d.bring 0 rfl).box) 8 5) ?_;obtain⟨K1,X,hm⟩:=bS hm;refine ca zoA (laws_eqShot_ok (hE.trans d.ext) (zb2 x0.Qq j0 k0 o0 p0 q0) (zb2 x1.Qq A0 B0 C0 D0 E0) X) (fun M1 Q1 H=>?_);obtain⟨rfl,M⟩:=H;have o:=d.join M;refine rr 1 ?_;refine rn<|ci hm (fun hm=>?_) (fun hm=>?_)
  ·refine sq<|rg<|rr 1 ?_;refine rn<|rt ?_;cases hm;exact⟨_,tR rfl,rfl,(o.taken 0)⟩
  ·refine sp<|sq<|rg<|rr 1 ?_;refine rn<|rt ?_;cases hm;exact⟨_,tR rfl,rfl,(o.taken 0)⟩

end Go.E


