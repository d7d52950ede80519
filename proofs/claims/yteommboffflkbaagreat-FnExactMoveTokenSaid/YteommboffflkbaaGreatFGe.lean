/- Models of functions and proofs that the code runs as they say (written by program). Conditions: the model gives a value. -/
import Derived.Test.YteommboffflkbaaGreatFGd
namespace Go.E
open Go.RowKit Go.Proofs
set_option linter.unusedVariables false
set_option linter.unusedSimpArgs false
set_option maxHeartbeats 2000000
set_option maxRecDepth 100000

theorem zmP:Enters Tryz.prog 144:=⟨_,_,Tryz.func144,rfl,by kernel_rfl⟩
def zaz (fuel:Nat) (t2:Unit):Option Bool:=some true
def z6F (fuel:Nat) (x0:(List D.Qi)) (x1:(List D.Qi)) (s1:Int):Option (Rd (Int) (Unit) (Bool)):=(if(decide (s1<(x0.length:Int)))=true then((idx x0 s1).bind fun h=>((idx x1 s1).bind fun o=>((z7F fuel h o).bind fun d=>(if(!d)=true then some (.ret false) else some (.next (w64 (s1+1))))))) else some (.brk ()))
def z73 (fuel:Nat) (x0:(List D.Qi)) (x1:(List D.Qi)):Option (Bool):=(if((x0.length:Int) != (x1.length:Int))=true then some false else((iter (z6F fuel x0 x1) fuel 0).bind fun o=>aft o (zaz fuel)))

theorem laws_eqParcelS_ok {W w:World}(hE:Ext W w){S:Option Addr}{j0:Nat}{x0:(List D.Qi)}{X:Option Addr}{k0:Nat}{x1:(List D.Qi)}(u0:z62.ro W [sl S x0 j0] x0) (v0:z62.ro W [sl X x1 k0] x1){fuel:Nat}{r:Bool}(hm:z73 fuel x0 x1=some r):
  Calls Tryz.prog 144 ⟨[sl S x0 j0,sl X x1 k0]⟩ w (Ret fun v w8=>v=.bool r∧St w w8 []):=by
 refine into Tryz.func144 27 _ ?_;unfold z73 at hm;have hS:=St.start w;refine sq<|rg<|rr 1 ?_;refine rn<|sq<|sq<|rg<|rr 5 ?_;refine rn<|ci hm (fun hm=>?_) (fun hm=>?_)
 ·refine sq<|rg<|rr 1 ?_;refine rn<|rt ?_;cases hm;exact⟨_,.cons (.tmp rfl) .nil,rfl,hS⟩
 ·refine sp<|sq<|sq<|rg<|rr 1 ?_;refine rn ?_;obtain⟨y0,d0,hm⟩:=bS hm;refine ct (fun(t2:Unit) F w9=>y0=.inl t2∧Ext w w9∧St w w9 []∧F=[]) ?_ ?_
  ·rintro t2 F w7 ⟨e0,J0,Z,rfl⟩;subst e0;rw [z8] at hm;unfold zaz at hm;refine sq<|rg<|rr 1 ?_;refine rn<|rt ?_;cases hm;exact⟨_,.cons (.tmp rfl) .nil,rfl,Z⟩
  ·refine bk<|wk [0,1,5] ?_;refine it (fun(s1:Int) F w9=>Ext w w9∧St w w9 []∧F=[(0,sl S x0 j0),(1,sl X x1 k0),(5,.int .i64 s1)]) d0 ⟨(Ext.refl _),hS,rfl⟩ ?_;rintro s1 F T0 _ O0 ⟨o0,o,rfl⟩ d H;unfold z6F at d;refine sq<|sq<|rg<|rr 4 ?_;refine rn<|ci d (fun d=>?_) (fun d=>?_)
   ·refine sp<|sq<|bk<|sq<|dn 0 mixed 10 [([],1023),([],1023),([0,1],1020),([2],1019),([],1023),([],1023),([4,5],975),([6],959),([3,7],887),([8],767)] o.ext (fun h=>?_);have y:=o.step (Ext.draw _);refine dr 6 h [0,1,4,5] ?_;obtain⟨V0,f0,d⟩:=bS d;refine dx (hE.trans o.ext) h 2 u0 f0 (fun P0 r0 a0 M=>?_);obtain⟨A0,K0,B0,L0,p0,E0,F0⟩:=zv M;subst p0;refine dL h 3 (At.ext (hE.trans o.ext) a0) ?_;obtain⟨X0,g0,d⟩:=bS d;refine dx (hE.trans o.ext) h 6 v0 g0 (fun Q0 t0 b0 O=>?_);obtain⟨C0,M0,D0,N0,q0,G0,H0⟩:=zv O;subst q0;refine dL h 7 (At.ext (hE.trans o.ext) b0) ?_;obtain⟨R0,i0,d⟩:=bS d;refine o1 h 8 (mc h zmj (laws_eqParcel_ok (hE.trans y.ext) M O i0) (fun S0 U0 Y=>?_));obtain⟨rfl,q⟩:=Y;refine⟨q.ext,?_⟩;have G:=y.join q;refine dr 0 h [9] ?_;refine dw [0,1,5,26] ?_;refine dd h ?_;refine ci d (fun d=>?_) (fun d=>?_)
    ·refine sq<|rg<|rr 1 ?_;refine rn<|rt ?_;cases d;cases H;have hm:some _=some _:=hm;cases hm;exact⟨_,.cons (.tmp rfl) .nil,rfl,G⟩
    ·refine sp<|rg<|rr 3 ?_;refine rn ?_;cases d;exact⟨_,_,rfl,⟨((o0.trans (Ext.draw _)).trans q.ext),G,rfl⟩,rfl⟩
   ·refine xt ?_;cases d;exact⟨_,_,⟨H,o0,o,rfl⟩,rfl⟩

theorem zou:Enters Tryz.prog 77:=⟨_,_,Tryz.func77,rfl,by kernel_rfl⟩
def za8 (fuel:Nat) (t2:Unit):Option Bool:=some true
def z5S (fuel:Nat) (x0:(List (List D.Qi))) (x1:(List (List D.Qi))) (s1:Int):Option (Rd (Int) (Unit) (Bool)):=(if(decide (s1<(x0.length:Int)))=true then((idx x0 s1).bind fun h=>((idx x1 s1).bind fun o=>((z73 fuel h o).bind fun d=>(if(!d)=true then some (.ret false) else some (.next (w64 (s1+1))))))) else some (.brk ()))
def z6p (fuel:Nat) (x0:(List (List D.Qi))) (x1:(List (List D.Qi))):Option (Bool):=(if((x0.length:Int) != (x1.length:Int))=true then some false else((iter (z5S fuel x0 x1) fuel 0).bind fun o=>aft o (za8 fuel)))

theorem laws_eqParcelSS_ok {W w:World}(hE:Ext W w){S:Option Addr}{j0:Nat}{x0:(List (List D.Qi))}{X:Option Addr}{k0:Nat}{x1:(List (List D.Qi))}(u0:ty38.ro W [sl S x0 j0] x0) (v0:ty38.ro W [sl X x1 k0] x1){fuel:Nat}{r:Bool}(hm:z6p fuel x0 x1=some r):
  Calls Tryz.prog 77 ⟨[sl S x0 j0,sl X x1 k0]⟩ w (Ret fun v w8=>v=.bool r∧St w w8 []):=by
 refine into Tryz.func77 27 _ ?_;unfold z6p at hm;have hS:=St.start w;refine sq<|rg<|rr 1 ?_;refine rn<|sq<|sq<|rg<|rr 5 ?_;refine rn<|ci hm (fun hm=>?_) (fun hm=>?_)
 ·refine sq<|rg<|rr 1 ?_;refine rn<|rt ?_;cases hm;exact⟨_,.cons (.tmp rfl) .nil,rfl,hS⟩
 ·refine sp<|sq<|sq<|rg<|rr 1 ?_;refine rn ?_;obtain⟨y0,d0,hm⟩:=bS hm;refine ct (fun(t2:Unit) F w9=>y0=.inl t2∧Ext w w9∧St w w9 []∧F=[]) ?_ ?_
  ·rintro t2 F w7 ⟨e0,C0,Z,rfl⟩;subst e0;rw [z8] at hm;unfold za8 at hm;refine sq<|rg<|rr 1 ?_;refine rn<|rt ?_;cases hm;exact⟨_,.cons (.tmp rfl) .nil,rfl,Z⟩
  ·refine bk<|wk [0,1,5] ?_;refine it (fun(s1:Int) F w9=>Ext w w9∧St w w9 []∧F=[(0,sl S x0 j0),(1,sl X x1 k0),(5,.int .i64 s1)]) d0 ⟨(Ext.refl _),hS,rfl⟩ ?_;rintro s1 F L0 _ F0 ⟨o0,o,rfl⟩ d H;unfold z5S at d;refine sq<|sq<|rg<|rr 4 ?_;refine rn<|ci d (fun d=>?_) (fun d=>?_)
   ·refine sp<|sq<|bk<|sq<|dn 0 mixed 10 [([],1023),([],1023),([0,1],1020),([2],1019),([],1023),([],1023),([4,5],975),([6],959),([3,7],887),([8],767)] o.ext (fun h=>?_);have y:=o.step (Ext.draw _);refine dr 6 h [0,1,4,5] ?_;obtain⟨N0,f0,d⟩:=bS d;refine dx (hE.trans o.ext) h 2 u0 f0 (fun G0 r0 a0 M=>?_);obtain⟨A0,D0,p0⟩:=z1i M;subst p0;refine dl h 3 (At.ext (hE.trans o.ext) a0) 0 ?_;obtain⟨O0,g0,d⟩:=bS d;refine dx (hE.trans o.ext) h 6 v0 g0 (fun H0 t0 b0 O=>?_);obtain⟨B0,E0,q0⟩:=z1i O;subst q0;refine dl h 7 (At.ext (hE.trans o.ext) b0) 0 ?_;obtain⟨J0,i0,d⟩:=bS d;refine o1 h 8 (mc h zmP (laws_eqParcelS_ok (hE.trans y.ext) M O i0) (fun K0 M0 Y=>?_));obtain⟨rfl,q⟩:=Y;refine⟨q.ext,?_⟩;have G:=y.join q;refine dr 0 h [9] ?_;refine dw [0,1,5,26] ?_;refine dd h ?_;refine ci d (fun d=>?_) (fun d=>?_)
    ·refine sq<|rg<|rr 1 ?_;refine rn<|rt ?_;cases d;cases H;have hm:some _=some _:=hm;cases hm;exact⟨_,.cons (.tmp rfl) .nil,rfl,G⟩
    ·refine sp<|rg<|rr 3 ?_;refine rn ?_;cases d;exact⟨_,_,rfl,⟨((o0.trans (Ext.draw _)).trans q.ext),G,rfl⟩,rfl⟩
   ·refine xt ?_;cases d;exact⟨_,_,⟨H,o0,o,rfl⟩,rfl⟩

theorem zot:Enters Tryz.prog 78:=⟨_,_,Tryz.func78,rfl,by kernel_rfl⟩
def zaA (fuel:Nat) (t2:Unit):Option Bool:=some true
def z6G (fuel:Nat) (x0:(List (List Int))) (x1:(List (List Int))) (s1:Int):Option (Rd (Int) (Unit) (Bool)):=(if(decide (s1<(x0.length:Int)))=true then((idx x0 s1).bind fun h=>((idx x1 s1).bind fun o=>((z3d fuel h o).bind fun d=>(if(!d)=true then some (.ret false) else some (.next (w64 (s1+1))))))) else some (.brk ()))
def z74 (fuel:Nat) (x0:(List (List Int))) (x1:(List (List Int))):Option (Bool):=(if((x0.length:Int) != (x1.length:Int))=true then some false else((iter (z6G fuel x0 x1) fuel 0).bind fun o=>aft o (zaA fuel)))

theorem laws_eqInt64SS_ok {W w:World}(hE:Ext W w){S:Option Addr}{j0:Nat}{x0:(List (List Int))}{X:Option Addr}{k0:Nat}{x1:(List (List Int))}(u0:ty28.ro W [sl S x0 j0] x0) (v0:ty28.ro W [sl X x1 k0] x1){fuel:Nat}{r:Bool}(hm:z74 fuel x0 x1=some r):
  Calls Tryz.prog 78 ⟨[sl S x0 j0,sl X x1 k0]⟩ w (Ret fun v w8=>v=.bool r∧St w w8 []):=by
 refine into Tryz.func78 27 _ ?_;unfold z74 at hm;have hS:=St.start w;refine sq<|rg<|rr 1 ?_;refine rn<|sq<|sq<|rg<|rr 5 ?_;refine rn<|ci hm (fun hm=>?_) (fun hm=>?_)
 ·refine sq<|rg<|rr 1 ?_;refine rn<|rt ?_;cases hm;exact⟨_,.cons (.tmp rfl) .nil,rfl,hS⟩
 ·refine sp<|sq<|sq<|rg<|rr 1 ?_;refine rn ?_;obtain⟨y0,d0,hm⟩:=bS hm;refine ct (fun(t2:Unit) F w9=>y0=.inl t2∧Ext w w9∧St w w9 []∧F=[]) ?_ ?_
  ·rintro t2 F w7 ⟨e0,C0,Z,rfl⟩;subst e0;rw [z8] at hm;unfold zaA at hm;refine sq<|rg<|rr 1 ?_;refine rn<|rt ?_;cases hm;exact⟨_,.cons (.tmp rfl) .nil,rfl,Z⟩
  ·refine bk<|wk [0,1,5] ?_;refine it (fun(s1:Int) F w9=>Ext w w9∧St w w9 []∧F=[(0,sl S x0 j0),(1,sl X x1 k0),(5,.int .i64 s1)]) d0 ⟨(Ext.refl _),hS,rfl⟩ ?_;rintro s1 F L0 _ F0 ⟨o0,o,rfl⟩ d H;unfold z6G at d;refine sq<|sq<|rg<|rr 4 ?_;refine rn<|ci d (fun d=>?_) (fun d=>?_)
   ·refine sp<|sq<|bk<|sq<|dn 0 mixed 10 [([],1023),([],1023),([0,1],1020),([2],1019),([],1023),([],1023),([4,5],975),([6],959),([3,7],887),([8],767)] o.ext (fun h=>?_);have y:=o.step (Ext.draw _);refine dr 6 h [0,1,4,5] ?_;obtain⟨N0,f0,d⟩:=bS d;refine dx (hE.trans o.ext) h 2 u0 f0 (fun G0 r0 a0 M=>?_);obtain⟨A0,D0,p0⟩:=z1F M;subst p0;refine dl h 3 (At.ext (hE.trans o.ext) a0) 0 ?_;obtain⟨O0,g0,d⟩:=bS d;refine dx (hE.trans o.ext) h 6 v0 g0 (fun H0 t0 b0 O=>?_);obtain⟨B0,E0,q0⟩:=z1F O;subst q0;refine dl h 7 (At.ext (hE.trans o.ext) b0) 0 ?_;obtain⟨J0,i0,d⟩:=bS d;refine o1 h 8 (mc h zee (laws_eqInt64S_ok (hE.trans y.ext) M O i0) (fun K0 M0 Y=>?_));obtain⟨rfl,q⟩:=Y;refine⟨q.ext,?_⟩;have G:=y.join q;refine dr 0 h [9] ?_;refine dw [0,1,5,26] ?_;refine dd h ?_;refine ci d (fun d=>?_) (fun d=>?_)
    ·refine sq<|rg<|rr 1 ?_;refine rn<|rt ?_;cases d;cases H;have hm:some _=some _:=hm;cases hm;exact⟨_,.cons (.tmp rfl) .nil,rfl,G⟩
    ·refine sp<|rg<|rr 3 ?_;refine rn ?_;cases d;exact⟨_,_,rfl,⟨((o0.trans (Ext.draw _)).trans q.ext),G,rfl⟩,rfl⟩
   ·refine xt ?_;cases d;exact⟨_,_,⟨H,o0,o,rfl⟩,rfl⟩

theorem zoP:Enters Tryz.prog 19:=⟨_,_,Tryz.func19,rfl,by kernel_rfl⟩
def z75 (fuel:Nat) (x0:D.Qa) (x1:D.Qa):Option (Bool):=((z96 fuel x0.Qe x1.Qe).bind fun d=>(if(!d)=true then some false else((z6p fuel x0.Qf x1.Qf).bind fun h=>(if(!h)=true then some false else((z74 fuel x0.Qt x1.Qt).bind fun o=>(if(!o)=true then some false else((z3d fuel x0.QK x1.QK).bind fun q=>(if(!q)=true then some false else((z3d fuel x0.QZ x1.QZ).bind fun y=>(if(!y)=true then some false else some true))))))))))

theorem laws_eqCluster_ok {W w:World}(hE:Ext W w){o0:List Value}{x0:D.Qa}{p0:List Value}{x1:D.Qa}(t0:ty40.ro W o0 x0) (A0:ty40.ro W p0 x1){fuel:Nat}{r:Bool}(hm:z75 fuel x0 x1=some r):
  Calls Tryz.prog 19 ⟨[.agg ⟨o0⟩,.agg ⟨p0⟩]⟩ w (Ret fun v w8=>v=.bool r∧St w w8 []):=by
 obtain⟨A1,k2,A4,k5,A7,S0,G0,T0,H0,U0,q0,h3,h6,u0,v0,y0⟩:=z2E t0;subst q0;obtain⟨J0,V0,K0,X0,L0,Y0,M0,a1,N0,b1,r0,B0,C0,D0,E0,F0⟩:=z2E A0;subst r0;refine into Tryz.func19 35 _ ?_;unfold z75 at hm;have hS:=St.start w;refine sq<|rg<|nw hS (fun Q0 t1 O0 e0=>?_);refine nw e0 (fun R0 u1 P0 y=>?_);refine rr 1 ?_;refine rn<|sq<|sq<|rg<|rr 1 ?_;refine lN (At.sub ((y.bring 1 rfl).box) 0 4) ?_;refine rr 1 ?_;refine lN (At.sub ((y.bring 0 rfl).box) 0 4) ?_;obtain⟨d1,f0,hm⟩:=bS hm;refine ca zov (laws_eqGrid_ok (hE.trans y.ext) (z54 x0.Qe h3) (z54 x1.Qe B0) f0) (fun j1 v1 H=>?_);obtain⟨rfl,M⟩:=H;have d:=y.join M;refine rr 1 ?_;refine rn<|ci hm (fun hm=>?_) (fun hm=>?_)
 ·refine sq<|rg<|rr 1 ?_;refine rn<|rt ?_;cases hm;exact⟨_,.cons (.tmp rfl) .nil,rfl,(d.taken 0)⟩
 ·refine sp<|sq<|sq<|rg<|rr 1 ?_;refine l1 ((d.bring 1 rfl).box) 4 ?_;refine rr 1 ?_;refine l1 ((d.bring 0 rfl).box) 4 ?_;obtain⟨e1,g0,hm⟩:=bS hm;refine ca zou (laws_eqParcelSS_ok (hE.trans d.ext) h6 C0 g0) (fun m1 y1 O=>?_);obtain⟨rfl,S⟩:=O;have h:=d.join S;refine rr 1 ?_;refine rn<|ci hm (fun hm=>?_) (fun hm=>?_)
  ·refine sq<|rg<|rr 1 ?_;refine rn<|rt ?_;cases hm;exact⟨_,.cons (.tmp rfl) .nil,rfl,(h.taken 0)⟩
  ·refine sp<|sq<|sq<|rg<|rr 1 ?_;refine l1 ((h.bring 1 rfl).box) 5 ?_;refine rr 1 ?_;refine l1 ((h.bring 0 rfl).box) 5 ?_;obtain⟨f1,i0,hm⟩:=bS hm;refine ca zot (laws_eqInt64SS_ok (hE.trans h.ext) u0 D0 i0) (fun n1 B1 X=>?_);obtain⟨rfl,Y⟩:=X;have o:=h.join Y;refine rr 1 ?_;refine rn<|ci hm (fun hm=>?_) (fun hm=>?_)
   ·refine sq<|rg<|rr 1 ?_;refine rn<|rt ?_;cases hm;exact⟨_,.cons (.tmp rfl) .nil,rfl,(o.taken 0)⟩
   ·refine sp<|sq<|sq<|rg<|rr 1 ?_;refine l1 ((o.bring 1 rfl).box) 6 ?_;refine rr 1 ?_;refine l1 ((o.bring 0 rfl).box) 6 ?_;obtain⟨g1,j0,hm⟩:=bS hm;refine ca zee (laws_eqInt64S_ok (hE.trans o.ext) v0 E0 j0) (fun p1 C1 Z=>?_);obtain⟨rfl,a0⟩:=Z;have q:=o.join a0;refine rr 1 ?_;refine rn<|ci hm (fun hm=>?_) (fun hm=>?_)
    ·refine sq<|rg<|rr 1 ?_;refine rn<|rt ?_;cases hm;exact⟨_,.cons (.tmp rfl) .nil,rfl,(q.taken 0)⟩
    ·refine sp<|sq<|sq<|rg<|rr 1 ?_;refine l1 ((q.bring 1 rfl).box) 7 ?_;refine rr 1 ?_;refine l1 ((q.bring 0 rfl).box) 7 ?_;obtain⟨i1,k0,hm⟩:=bS hm;refine ca zee (laws_eqInt64S_ok (hE.trans q.ext) y0 F0 k0) (fun s1 D1 b0=>?_);obtain⟨rfl,d0⟩:=b0;have G:=q.join d0;refine rr 1 ?_;refine rn<|ci hm (fun hm=>?_) (fun hm=>?_)
     ·refine sq<|rg<|rr 1 ?_;refine rn<|rt ?_;cases hm;exact⟨_,.cons (.tmp rfl) .nil,rfl,(G.taken 0)⟩
     ·refine sp<|sq<|rg<|rr 1 ?_;refine rn<|rt ?_;cases hm;exact⟨_,.cons (.tmp rfl) .nil,rfl,(G.taken 0)⟩

end Go.E


