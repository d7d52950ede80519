/- Models of functions and proofs that the code runs as they say (written by program). Conditions: the model gives a value. -/
import Derived.Test.YteommboffflkbaaGreatFGd
namespace Go.E
open Go.RowKit Go.Proofs
set_option linter.unusedVariables false
set_option linter.unusedSimpArgs false
set_option maxHeartbeats 2000000
set_option maxRecDepth 100000

theorem zoc:EN 144:=en Tryz.func144
def zbo (fu:Nat) (t2:Unit):Option Bool:=some true
def z7p (fu:Nat) (x0:(List D.Qe)) (x1:(List D.Qe)) (s1:Int):Option (Rd (Int) (Unit) (Bool)):=(if(decide (s1<(x0.length:Int)))=true then((idx x0 s1).bind fun h=>((idx x1 s1).bind fun o=>((z8j fu h o).bind fun d=>(if(!d)=true then some (.ret false) else some (.next (w64 (s1+1))))))) else some (.brk ()))
def z7H (fu:Nat) (x0:(List D.Qe)) (x1:(List D.Qe)):Option (Bool):=(if((x0.length:Int) != (x1.length:Int))=true then some false else((iter (z7p fu x0 x1) fu 0).bind fun o=>aft o (zbo fu)))

theorem laws_eqParcelS_ok {W w:World}(hE:Ext W w){X:Option Addr}{k0:Nat}{x0:(List D.Qe)}{Y:Option Addr}{o0:Nat}{x1:(List D.Qe)}(v0:z7U.ro W [sl X x0 k0] x0) (y0:z7U.ro W [sl Y x1 o0] x1){fu:Nat}{r:Bool}(hm:z7H fu x0 x1=some r):
  CL 144 ⟨[sl X x0 k0,sl Y x1 o0]⟩ w (RB w r):=by
 refine into Tryz.func144 27 _ ?_;unfold z7H at hm;have hS:=St.start w;refine sq<|rg<|rr 1 ?_;refine rn<|sq<|sq<|rg<|rr 5 ?_;refine rn<|ci hm (fun hm=>?_) (fun hm=>?_)
 ·refine sq<|rg<|rr 1 ?_;refine rn<|rt ?_;cases hm;exact⟨_,tR rfl,rfl,hS⟩
 ·refine sp<|sq<|sq<|rg<|rr 1 ?_;refine rn ?_;obtain⟨A0,e0,hm⟩:=bS hm;refine ct (fun(t2:Unit) F w9=>A0=.inl t2∧Ext w w9∧St w w9 []∧F=[]) ?_ ?_
  ·rintro t2 F w7 ⟨f0,K0,a0,rfl⟩;subst f0;rw [z8] at hm;unfold zbo at hm;refine sq<|rg<|rr 1 ?_;refine rn<|rt ?_;cases hm;exact⟨_,tR rfl,rfl,a0⟩
  ·refine bk<|wk [0,1,5] ?_;refine it (fun(s1:Int) F w9=>Ext w w9∧St w w9 []∧F=[(0,sl X x0 k0),(1,sl Y x1 o0),(5,iv s1)]) e0 ⟨(Ext.refl _),hS,rfl⟩ ?_;rintro s1 F U0 _ P0 ⟨p0,o,rfl⟩ d M;unfold z7p at d;refine sq<|sq<|rg<|rr 4 ?_;refine rn<|ci d (fun d=>?_) (fun d=>?_)
   ·refine sp<|sq<|bk<|sq<|dn 0 mixed 10 [([],1023),([],1023),([0,1],1020),([2],1019),([],1023),([],1023),([4,5],975),([6],959),([3,7],887),([8],767)] o.ext (fun h=>?_);have G:=o.step (Ext.draw _);refine dr 6 h [0,1,4,5] ?_;obtain⟨X0,g0,d⟩:=bS d;refine dx (hE.trans o.ext) h 2 v0 g0 (fun Q0 t0 b0 O=>?_);obtain⟨B0,L0,C0,M0,q0,F0,G0⟩:=zC O;subst q0;refine dL h 3 (ax hE o b0) ?_;obtain⟨Y0,i0,d⟩:=bS d;refine dx (hE.trans o.ext) h 6 y0 i0 (fun R0 u0 d0 S=>?_);obtain⟨D0,N0,E0,O0,r0,H0,J0⟩:=zC S;subst r0;refine dL h 7 (ax hE o d0) ?_;obtain⟨S0,j0,d⟩:=bS d;refine o1 h 8 (mc h znL (laws_eqParcel_ok (hE.trans G.ext) O S j0) (fun T0 V0 Z=>?_));obtain⟨rfl,q⟩:=Z;refine⟨q.ext,?_⟩;have H:=G.join q;refine dr 0 h [9] ?_;refine dw [0,1,5,26] ?_;refine dd h ?_;refine ci d (fun d=>?_) (fun d=>?_)
    ·refine sq<|rg<|rr 1 ?_;refine rn<|rt ?_;cases d;cases M;have hm:some _=some _:=hm;cases hm;exact⟨_,tR rfl,rfl,H⟩
    ·refine sp<|rg<|rr 3 ?_;refine rn ?_;cases d;exact⟨_,_,rfl,⟨((p0.trans (Ext.draw _)).trans q.ext),H,rfl⟩,rfl⟩
   ·refine xt ?_;cases d;exact⟨_,_,⟨M,p0,o,rfl⟩,rfl⟩

theorem zka:EN 77:=en Tryz.func77
def zaR (fu:Nat) (t2:Unit):Option Bool:=some true
def z6B (fu:Nat) (x0:(List (List D.Qe))) (x1:(List (List D.Qe))) (s1:Int):Option (Rd (Int) (Unit) (Bool)):=(if(decide (s1<(x0.length:Int)))=true then((idx x0 s1).bind fun h=>((idx x1 s1).bind fun o=>((z7H fu h o).bind fun d=>(if(!d)=true then some (.ret false) else some (.next (w64 (s1+1))))))) else some (.brk ()))
def z4Q (fu:Nat) (x0:(List (List D.Qe))) (x1:(List (List D.Qe))):Option (Bool):=(if((x0.length:Int) != (x1.length:Int))=true then some false else((iter (z6B fu x0 x1) fu 0).bind fun o=>aft o (zaR fu)))

theorem laws_eqParcelSS_ok {W w:World}(hE:Ext W w){X:Option Addr}{k0:Nat}{x0:(List (List D.Qe))}{Y:Option Addr}{o0:Nat}{x1:(List (List D.Qe))}(v0:ty38.ro W [sl X x0 k0] x0) (y0:ty38.ro W [sl Y x1 o0] x1){fu:Nat}{r:Bool}(hm:z4Q fu x0 x1=some r):
  CL 77 ⟨[sl X x0 k0,sl Y x1 o0]⟩ w (RB w r):=by
 refine into Tryz.func77 27 _ ?_;unfold z4Q at hm;have hS:=St.start w;refine sq<|rg<|rr 1 ?_;refine rn<|sq<|sq<|rg<|rr 5 ?_;refine rn<|ci hm (fun hm=>?_) (fun hm=>?_)
 ·refine sq<|rg<|rr 1 ?_;refine rn<|rt ?_;cases hm;exact⟨_,tR rfl,rfl,hS⟩
 ·refine sp<|sq<|sq<|rg<|rr 1 ?_;refine rn ?_;obtain⟨A0,e0,hm⟩:=bS hm;refine ct (fun(t2:Unit) F w9=>A0=.inl t2∧Ext w w9∧St w w9 []∧F=[]) ?_ ?_
  ·rintro t2 F w7 ⟨f0,D0,a0,rfl⟩;subst f0;rw [z8] at hm;unfold zaR at hm;refine sq<|rg<|rr 1 ?_;refine rn<|rt ?_;cases hm;exact⟨_,tR rfl,rfl,a0⟩
  ·refine bk<|wk [0,1,5] ?_;refine it (fun(s1:Int) F w9=>Ext w w9∧St w w9 []∧F=[(0,sl X x0 k0),(1,sl Y x1 o0),(5,iv s1)]) e0 ⟨(Ext.refl _),hS,rfl⟩ ?_;rintro s1 F M0 _ G0 ⟨p0,o,rfl⟩ d M;unfold z6B at d;refine sq<|sq<|rg<|rr 4 ?_;refine rn<|ci d (fun d=>?_) (fun d=>?_)
   ·refine sp<|sq<|bk<|sq<|dn 0 mixed 10 [([],1023),([],1023),([0,1],1020),([2],1019),([],1023),([],1023),([4,5],975),([6],959),([3,7],887),([8],767)] o.ext (fun h=>?_);have G:=o.step (Ext.draw _);refine dr 6 h [0,1,4,5] ?_;obtain⟨O0,g0,d⟩:=bS d;refine dx (hE.trans o.ext) h 2 v0 g0 (fun H0 t0 b0 O=>?_);obtain⟨B0,E0,q0⟩:=zZ O;subst q0;refine dl h 3 (ax hE o b0) 0 ?_;obtain⟨P0,i0,d⟩:=bS d;refine dx (hE.trans o.ext) h 6 y0 i0 (fun J0 u0 d0 S=>?_);obtain⟨C0,F0,r0⟩:=zZ S;subst r0;refine dl h 7 (ax hE o d0) 0 ?_;obtain⟨K0,j0,d⟩:=bS d;refine o1 h 8 (mc h zoc (laws_eqParcelS_ok (hE.trans G.ext) O S j0) (fun L0 N0 Z=>?_));obtain⟨rfl,q⟩:=Z;refine⟨q.ext,?_⟩;have H:=G.join q;refine dr 0 h [9] ?_;refine dw [0,1,5,26] ?_;refine dd h ?_;refine ci d (fun d=>?_) (fun d=>?_)
    ·refine sq<|rg<|rr 1 ?_;refine rn<|rt ?_;cases d;cases M;have hm:some _=some _:=hm;cases hm;exact⟨_,tR rfl,rfl,H⟩
    ·refine sp<|rg<|rr 3 ?_;refine rn ?_;cases d;exact⟨_,_,rfl,⟨((p0.trans (Ext.draw _)).trans q.ext),H,rfl⟩,rfl⟩
   ·refine xt ?_;cases d;exact⟨_,_,⟨M,p0,o,rfl⟩,rfl⟩

theorem zk9:EN 78:=en Tryz.func78
def zbp (fu:Nat) (t2:Unit):Option Bool:=some true
def z7q (fu:Nat) (x0:(List (List Int))) (x1:(List (List Int))) (s1:Int):Option (Rd (Int) (Unit) (Bool)):=(if(decide (s1<(x0.length:Int)))=true then((idx x0 s1).bind fun h=>((idx x1 s1).bind fun o=>((z3J fu h o).bind fun d=>(if(!d)=true then some (.ret false) else some (.next (w64 (s1+1))))))) else some (.brk ()))
def z5G (fu:Nat) (x0:(List (List Int))) (x1:(List (List Int))):Option (Bool):=(if((x0.length:Int) != (x1.length:Int))=true then some false else((iter (z7q fu x0 x1) fu 0).bind fun o=>aft o (zbp fu)))

theorem laws_eqInt64SS_ok {W w:World}(hE:Ext W w){X:Option Addr}{k0:Nat}{x0:(List (List Int))}{Y:Option Addr}{o0:Nat}{x1:(List (List Int))}(v0:ty28.ro W [sl X x0 k0] x0) (y0:ty28.ro W [sl Y x1 o0] x1){fu:Nat}{r:Bool}(hm:z5G fu x0 x1=some r):
  CL 78 ⟨[sl X x0 k0,sl Y x1 o0]⟩ w (RB w r):=by
 refine into Tryz.func78 27 _ ?_;unfold z5G at hm;have hS:=St.start w;refine sq<|rg<|rr 1 ?_;refine rn<|sq<|sq<|rg<|rr 5 ?_;refine rn<|ci hm (fun hm=>?_) (fun hm=>?_)
 ·refine sq<|rg<|rr 1 ?_;refine rn<|rt ?_;cases hm;exact⟨_,tR rfl,rfl,hS⟩
 ·refine sp<|sq<|sq<|rg<|rr 1 ?_;refine rn ?_;obtain⟨A0,e0,hm⟩:=bS hm;refine ct (fun(t2:Unit) F w9=>A0=.inl t2∧Ext w w9∧St w w9 []∧F=[]) ?_ ?_
  ·rintro t2 F w7 ⟨f0,D0,a0,rfl⟩;subst f0;rw [z8] at hm;unfold zbp at hm;refine sq<|rg<|rr 1 ?_;refine rn<|rt ?_;cases hm;exact⟨_,tR rfl,rfl,a0⟩
  ·refine bk<|wk [0,1,5] ?_;refine it (fun(s1:Int) F w9=>Ext w w9∧St w w9 []∧F=[(0,sl X x0 k0),(1,sl Y x1 o0),(5,iv s1)]) e0 ⟨(Ext.refl _),hS,rfl⟩ ?_;rintro s1 F M0 _ G0 ⟨p0,o,rfl⟩ d M;unfold z7q at d;refine sq<|sq<|rg<|rr 4 ?_;refine rn<|ci d (fun d=>?_) (fun d=>?_)
   ·refine sp<|sq<|bk<|sq<|dn 0 mixed 10 [([],1023),([],1023),([0,1],1020),([2],1019),([],1023),([],1023),([4,5],975),([6],959),([3,7],887),([8],767)] o.ext (fun h=>?_);have G:=o.step (Ext.draw _);refine dr 6 h [0,1,4,5] ?_;obtain⟨O0,g0,d⟩:=bS d;refine dx (hE.trans o.ext) h 2 v0 g0 (fun H0 t0 b0 O=>?_);obtain⟨B0,E0,q0⟩:=z1z O;subst q0;refine dl h 3 (ax hE o b0) 0 ?_;obtain⟨P0,i0,d⟩:=bS d;refine dx (hE.trans o.ext) h 6 y0 i0 (fun J0 u0 d0 S=>?_);obtain⟨C0,F0,r0⟩:=z1z S;subst r0;refine dl h 7 (ax hE o d0) 0 ?_;obtain⟨K0,j0,d⟩:=bS d;refine o1 h 8 (mc h zfn (laws_eqInt64S_ok (hE.trans G.ext) O S j0) (fun L0 N0 Z=>?_));obtain⟨rfl,q⟩:=Z;refine⟨q.ext,?_⟩;have H:=G.join q;refine dr 0 h [9] ?_;refine dw [0,1,5,26] ?_;refine dd h ?_;refine ci d (fun d=>?_) (fun d=>?_)
    ·refine sq<|rg<|rr 1 ?_;refine rn<|rt ?_;cases d;cases M;have hm:some _=some _:=hm;cases hm;exact⟨_,tR rfl,rfl,H⟩
    ·refine sp<|rg<|rr 3 ?_;refine rn ?_;cases d;exact⟨_,_,rfl,⟨((p0.trans (Ext.draw _)).trans q.ext),H,rfl⟩,rfl⟩
   ·refine xt ?_;cases d;exact⟨_,_,⟨M,p0,o,rfl⟩,rfl⟩

theorem zfo:EN 19:=en Tryz.func19
def z36 (fu:Nat) (x0:D.Qa) (x1:D.Qa):Option (Bool):=((z9N fu x0.Qi x1.Qi).bind fun d=>(if(!d)=true then some false else((z4Q fu x0.Qh x1.Qh).bind fun h=>(if(!h)=true then some false else((z5G fu x0.Qo x1.Qo).bind fun o=>(if(!o)=true then some false else((z3J fu x0.QU x1.QU).bind fun q=>(if(!q)=true then some false else((z3J fu x0.QZ x1.QZ).bind fun G=>(if(!G)=true then some false else some true))))))))))

theorem laws_eqCluster_ok {W w:World}(hE:Ext W w){p0:List Value}{x0:D.Qa}{q0:List Value}{x1:D.Qa}(u0:ty40.ro W p0 x0) (B0:ty40.ro W q0 x1){fu:Nat}{r:Bool}(hm:z36 fu x0 x1=some r):
  CL 19 ⟨[.agg ⟨p0⟩,.agg ⟨q0⟩]⟩ w (RB w r):=by
 obtain⟨A1,k2,A4,k5,A7,T0,H0,U0,J0,V0,r0,h3,h6,v0,y0,A0⟩:=z88 u0;subst r0;obtain⟨K0,X0,L0,Y0,M0,a1,N0,d1,O0,e1,t0,C0,D0,E0,F0,G0⟩:=z88 B0;subst t0;refine into Tryz.func19 35 _ ?_;unfold z36 at hm;have hS:=St.start w;refine sq<|rg<|nw hS (fun R0 y1 P0 f0=>?_);refine nw f0 (fun S0 B1 Q0 G=>?_);refine rr 1 ?_;refine rn<|sq<|sq<|rg<|rr 1 ?_;refine lN (At.sub ((G.bring 1 rfl).box) 0 4) ?_;refine rr 1 ?_;refine lN (At.sub ((G.bring 0 rfl).box) 0 4) ?_;obtain⟨f1,g0,hm⟩:=bS hm;refine ca zpF (laws_eqGrid_ok (hE.trans G.ext) (z5J x0.Qi h3) (z5J x1.Qi C0) g0) (fun n1 C1 M=>?_);obtain⟨rfl,O⟩:=M;have d:=G.join O;refine rr 1 ?_;refine rn<|ci hm (fun hm=>?_) (fun hm=>?_)
 ·refine sq<|rg<|rr 1 ?_;refine rn<|rt ?_;cases hm;exact⟨_,tR rfl,rfl,(d.taken 0)⟩
 ·refine sp<|sq<|sq<|rg<|rr 1 ?_;refine l1 ((d.bring 1 rfl).box) 4 ?_;refine rr 1 ?_;refine l1 ((d.bring 0 rfl).box) 4 ?_;obtain⟨g1,i0,hm⟩:=bS hm;refine ca zka (laws_eqParcelSS_ok (hE.trans d.ext) h6 D0 i0) (fun p1 D1 S=>?_);obtain⟨rfl,X⟩:=S;have h:=d.join X;refine rr 1 ?_;refine rn<|ci hm (fun hm=>?_) (fun hm=>?_)
  ·refine sq<|rg<|rr 1 ?_;refine rn<|rt ?_;cases hm;exact⟨_,tR rfl,rfl,(h.taken 0)⟩
  ·refine sp<|sq<|sq<|rg<|rr 1 ?_;refine l1 ((h.bring 1 rfl).box) 5 ?_;refine rr 1 ?_;refine l1 ((h.bring 0 rfl).box) 5 ?_;obtain⟨i1,j0,hm⟩:=bS hm;refine ca zk9 (laws_eqInt64SS_ok (hE.trans h.ext) v0 E0 j0) (fun t1 E1 Y=>?_);obtain⟨rfl,Z⟩:=Y;have o:=h.join Z;refine rr 1 ?_;refine rn<|ci hm (fun hm=>?_) (fun hm=>?_)
   ·refine sq<|rg<|rr 1 ?_;refine rn<|rt ?_;cases hm;exact⟨_,tR rfl,rfl,(o.taken 0)⟩
   ·refine sp<|sq<|sq<|rg<|rr 1 ?_;refine l1 ((o.bring 1 rfl).box) 6 ?_;refine rr 1 ?_;refine l1 ((o.bring 0 rfl).box) 6 ?_;obtain⟨j1,k0,hm⟩:=bS hm;refine ca zfn (laws_eqInt64S_ok (hE.trans o.ext) y0 F0 k0) (fun u1 F1 a0=>?_);obtain⟨rfl,b0⟩:=a0;have q:=o.join b0;refine rr 1 ?_;refine rn<|ci hm (fun hm=>?_) (fun hm=>?_)
    ·refine sq<|rg<|rr 1 ?_;refine rn<|rt ?_;cases hm;exact⟨_,tR rfl,rfl,(q.taken 0)⟩
    ·refine sp<|sq<|sq<|rg<|rr 1 ?_;refine l1 ((q.bring 1 rfl).box) 7 ?_;refine rr 1 ?_;refine l1 ((q.bring 0 rfl).box) 7 ?_;obtain⟨m1,o0,hm⟩:=bS hm;refine ca zfn (laws_eqInt64S_ok (hE.trans q.ext) A0 G0 o0) (fun v1 G1 d0=>?_);obtain⟨rfl,e0⟩:=d0;have H:=q.join e0;refine rr 1 ?_;refine rn<|ci hm (fun hm=>?_) (fun hm=>?_)
     ·refine sq<|rg<|rr 1 ?_;refine rn<|rt ?_;cases hm;exact⟨_,tR rfl,rfl,(H.taken 0)⟩
     ·refine sp<|sq<|rg<|rr 1 ?_;refine rn<|rt ?_;cases hm;exact⟨_,tR rfl,rfl,(H.taken 0)⟩

end Go.E


