/- Models of functions and proofs that the code runs as they say (written by program). Conditions: the model gives a value. -/
import Derived.Test.YteommboffflkbaaGreatHW
namespace Go.E
open Go.RowKit Go.Proofs
set_option linter.unusedVariables false
set_option linter.unusedSimpArgs false
set_option maxHeartbeats 2000000
set_option maxRecDepth 100000

theorem zoz:EN 102:=en Tryz.func102
def zc2 (fu:Nat) (d:Unit):Option Bool:=some true
def z6P (fu:Nat) (x0:D.Qx) (d:Int):Option (Rd (Int) (Unit) (Bool)):=(if(decide (d<(x0.Qq.Qt.length:Int)))=true then((idx x0.Qq.Qt d).bind fun h=>(if h=true then some (.ret false) else some (.next (w64 (d+1))))) else some (.brk ()))
def zac (fu:Nat) (x0:D.Qx) (d:Unit):Option Bool:=((iter (z6P fu x0) fu 0).bind fun o=>aft o (zc2 fu))
def z6Q (fu:Nat) (x0:D.Qx) (d:Int):Option (Rd (Int) (Unit) (Bool)):=(if(decide (d<(x0.Qq.QC.length:Int)))=true then((idx x0.Qq.QC d).bind fun h=>(if(!h)=true then some (.ret false) else some (.next (w64 (d+1))))) else some (.brk ()))
def z8Q (fu:Nat) (x0:D.Qx):Option (Bool):=((iter (z6Q fu x0) fu 0).bind fun o=>aft o (zac fu x0))

theorem zfG {W w:World}(hE:Ext W w){S:Addr}{p0:List Value}{x0:D.Qx}(C0:ty75.ro W p0 x0) (X:At W S p0){fu:Nat}{r:Bool}(hm:z8Q fu x0=some r):
  CL 102 ⟨[.pointer (some S)]⟩ w (RB w r):=by
 obtain⟨A1,k2,A4,k5,A7,Y0,K0,a1,L0,d1,M0,e1,N0,f1,O0,g1,P0,i1,Q0,j1,y0,h3,h6,R0,S0,T0,D0,U0,V0,E0,X0⟩:=z7w C0;subst y0;refine into Tryz.func102 42 _ ?_;unfold z8Q at hm;have hS:=St.start w;refine sq<|rg<|rr 1 ?_;refine rn<|sq<|sq<|rg<|rr 1 ?_;refine rn ?_;obtain⟨H0,d0,hm⟩:=bS hm;refine ct (fun(t0:Unit) F w9=>H0=.inl t0∧Ext w w9∧St w w9 []∧F=[(0,.pointer (some S))]) ?_ ?_
 ·rintro t0 F v0 ⟨f0,F0,Y,rfl⟩;subst f0;rw [z8] at hm;unfold zac at hm;refine sq<|sq<|rg<|rr 1 ?_;refine rn ?_;obtain⟨J0,e0,hm⟩:=bS hm;refine ct (fun(u0:Unit) F w9=>J0=.inl u0∧Ext v0 w9∧St w w9 []∧F=[]) ?_ ?_
  ·rintro u0 F u1 ⟨g0,G0,Z,rfl⟩;subst g0;rw [z8] at hm;unfold zc2 at hm;refine sq<|rg<|rr 1 ?_;refine rn<|rt ?_;cases hm;exact⟨_,tR rfl,rfl,Z⟩
  ·refine bk<|wk [0,4] ?_;refine it (fun(r0:Int) F w9=>Ext v0 w9∧St w w9 []∧F=[(0,.pointer (some S)),(4,iv r0)]) e0 ⟨(Ext.refl _),Y,rfl⟩ ?_;rintro r0 F v1 _ m1 ⟨H,o,rfl⟩ d M;unfold z6P at d;refine sq<|sq<|rg<|rr 5 ?_;refine l1 (ax hE o X) 11 ?_;refine rr 2 ?_;refine rn<|ci d (fun d=>?_) (fun d=>?_)
   ·refine sp<|sq<|bk<|sq<|rg<|rr 4 ?_;refine l1 (ax hE o X) 11 ?_;refine rr 1 ?_;obtain⟨B1,k0,d⟩:=bS d;refine ix (hE.trans o.ext) E0 k0 (fun p1 A0 a0 i0=>?_);cases i0;refine l1 (ax hE o a0) 0 ?_;refine rn<|ci d (fun d=>?_) (fun d=>?_)
    ·refine sq<|rg<|rr 1 ?_;refine rn<|rt ?_;cases d;cases M;have hm:some _=some _:=hm;cases hm;exact⟨_,tR rfl,rfl,o⟩
    ·refine sp<|rg<|rr 3 ?_;refine rn ?_;cases d;exact⟨_,_,rfl,⟨H,o,rfl⟩,rfl⟩
   ·refine xt ?_;cases d;exact⟨_,_,⟨M,H,o,rfl⟩,rfl⟩
 ·refine bk<|wk [0,3] ?_;refine it (fun(q0:Int) F w9=>Ext w w9∧St w w9 []∧F=[(0,.pointer (some S)),(3,iv q0)]) d0 ⟨(Ext.refl _),hS,rfl⟩ ?_;rintro q0 F y1 _ n1 ⟨G,q,rfl⟩ h O;unfold z6Q at h;refine sq<|sq<|rg<|rr 5 ?_;refine l1 (ax hE q X) 8 ?_;refine rr 2 ?_;refine rn<|ci h (fun h=>?_) (fun h=>?_)
  ·refine sp<|sq<|bk<|sq<|rg<|rr 4 ?_;refine l1 (ax hE q X) 8 ?_;refine rr 1 ?_;obtain⟨C1,o0,h⟩:=bS h;refine ix (hE.trans q.ext) D0 o0 (fun t1 B0 b0 j0=>?_);cases j0;refine l1 (ax hE q b0) 0 ?_;refine rr 1 ?_;refine rn<|ci h (fun h=>?_) (fun h=>?_)
   ·refine sq<|rg<|rr 1 ?_;refine rn<|rt ?_;cases h;cases O;have hm:some _=some _:=hm;cases hm;exact⟨_,tR rfl,rfl,q⟩
   ·refine sp<|rg<|rr 3 ?_;refine rn ?_;cases h;exact⟨_,_,rfl,⟨G,q,rfl⟩,rfl⟩
  ·refine xt ?_;cases h;exact⟨_,_,⟨O,G,q,rfl⟩,rfl⟩

theorem zoy:EN 103:=en Tryz.func103
def z86 (fu:Nat) (x0:D.Qq):Option (Bool):=((zA fu x0.QC false).bind fun d=>(if(!d)=true then((zA fu x0.Qt true).bind fun h=>some (!h)) else some false))

theorem zdD {W w:World}(hE:Ext W w){Y:Addr}{S:List Value}{x0:D.Qq}(a0:ty73.ro W S x0) (X:At W Y S){fu:Nat}{r:Bool}(hm:z86 fu x0=some r):
  CL 103 ⟨[.pointer (some Y)]⟩ w (RB w r):=by
 obtain⟨A1,k2,A4,k5,A7,i0,d0,j0,e0,k0,Z,h3,h6,f0,b0,g0⟩:=zb3 a0;subst Z;refine into Tryz.func103 17 _ ?_;unfold z86 at hm;have hS:=St.start w;refine sq<|rg<|rr 1 ?_;refine rn<|sq<|rg<|rr 3 ?_;refine l1 (ax hE hS X) 0 ?_;obtain⟨o0,M,hm⟩:=bS hm;refine ca zhJ (z4C (hE.trans hS.ext) h3 M) (fun q0 t0 h=>?_);obtain⟨rfl,o⟩:=h;have d:=hS.join o;refine rr 2 ?_;refine rb 9 hm (fun hm=>?_) (fun hm=>?_)
 ·refine rr 3 ?_;refine l1 (ax hE d X) 3 ?_;obtain⟨p0,O,hm⟩:=bS hm;refine ca zhJ (z4C (hE.trans d.ext) b0 O) (fun r0 u0 q=>?_);obtain⟨rfl,G⟩:=q;have H:=d.join G;refine rr 3 ?_;refine rn<|rt ?_;cases hm;exact⟨_,tR rfl,rfl,H⟩
 ·refine rr 8 ?_;refine rn<|rt ?_;cases hm;exact⟨_,tR rfl,rfl,d⟩

end Go.E


