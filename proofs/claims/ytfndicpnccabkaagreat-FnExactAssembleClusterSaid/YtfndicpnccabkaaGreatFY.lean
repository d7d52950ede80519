/- Models of functions and proofs that the code runs as they say (written by program). Conditions: the model gives a value. -/
import Derived.Test.YtfndicpnccabkaaGreatFZ
import Derived.Test.YtfndicpnccabkaaGreatFP
import Derived.Test.YtfndicpnccabkaaGreatFI
import Derived.Test.YtfndicpnccabkaaGreatFVb
import Derived.Test.YtfndicpnccabkaaGreatFH
import Derived.Test.YtfndicpnccabkaaGreatMapS
import Derived.Test.YtfndicpnccabkaaGreatQB
import Derived.Test.YtfndicpnccabkaaGreatFZb
import Derived.Test.YtfndicpnccabkaaGreatMixed
set_option linter.unusedVariables false
set_option linter.unusedSimpArgs false
namespace Go.E
open Go.RowKit Go.Proofs
set_option maxHeartbeats 2000000
set_option maxRecDepth 100000

variable {W:Base}{w:World}
theorem zum:EN 115:=en Tryz.func115
def z4v (fu:Nat)(x0:Qv):Option (Int):=some (x0.Qk.Qf.length:Int)

theorem zdp (hE:Ext W w){q:Addr}{o:List Value}{x0:Qv}(O:ty52.ro W o x0)(H:At W q o){fu:Nat}{r:Int}(hm:z4v fu x0=some r):
  CL 115 ⟨[.pointer (some q)]⟩ w (RI w r):=by
 obtain⟨A1,k2,A4,k5,A7,c0,X,e0,Y,f0,G,h3,h6,Z,a0,b0⟩:=z7A O;subst G;refine into Tryz.func115 9 _ ?_;unfold z4v at hm;have hS:=St.start w;refine sg<|rm 1 ?_;refine sg<|rr 4 ?_;refine l1 (ax hE hS H) 0 ?_;refine rm 2 ?_;refine rt ?_;cases hm;exact⟨_,tR rfl,rfl,hS⟩

theorem zts:EN 214:=en Tryz.func214
def z1g (fu:Nat)(t2:Unit):Option Int:=some (-1)
def zm (fu:Nat)(x0:LE)(x1:Qh→Option Bool)(s1:Int):Option (Rd (Int) (Unit) (Int)):=(if(decide (s1<(x0.length:Int)))=true then((idx x0 s1).bind fun q=>((x1 q).bind fun o=>(if o=true then some (.ret s1) else some (.next (w64 (s1+1)))))) else some (.brk ()))
def zP (fu:Nat)(x0:LE)(x1:Qh→Option Bool):Option (Int):=((iter (zm fu x0 x1) fu 0).bind fun o=>aft o (z1g fu))

theorem z7k (hE:Ext W w){Y:Option Addr}{i0:Nat}{x0:LE}{L0:Nat}{M0:List Value}{x1:Qh→Option Bool}(q0:zdB.ro W [sl Y x0 i0] x0)(j0:Enters Tryz.prog L0∧∀ {w9:World},Ext W w9→∀ {N0:List Value}{z0:Qh}{y9:Bool},zdA.ro w9 N0 z0→x1 z0=some y9→CL L0 ⟨[.agg ⟨N0⟩]++M0⟩ w9 (Ret fun v w8=>v=.bool y9∧St w9 w8 [])){fu:Nat}{r:Int}(hm:zP fu x0 x1=some r):
  CL 214 ⟨[sl Y x0 i0,.func (.func L0) #[] ⟨M0⟩]⟩ w (RI w r):=by
 refine into Tryz.func214 19 _ ?_;unfold zP at hm;have hS:=St.start w;refine sg<|rm 1 ?_;refine sq<|sg<|rm 3 ?_;obtain⟨r0,c0,hm⟩:=bS hm;refine ct (fun(t2:Unit) F w9=>r0=.inl t2∧Ext w w9∧St w w9 []∧F=[]) ?_ ?_
 ·rintro t2 F w7 ⟨e0,A0,a0,rfl⟩;subst e0;rw[z8] at hm;unfold z1g at hm;refine sg<|rm 1 ?_;refine rt ?_;cases hm;exact⟨_,tR rfl,rfl,a0⟩
 ·refine bk<|wk [0,1,7,8] ?_;refine it (fun(s1:Int) F w9=>Ext w w9∧St w w9 []∧F=[(0,sl Y x0 i0),(1,.func (.func L0) #[] ⟨M0⟩),(7,iv (x0.length:Int)),(8,iv s1)]) c0 ⟨(Ext.refl _),hS,rfl⟩ ?_;rintro s1 F H0 _ D0 ⟨k0,q,rfl⟩ o O;unfold zm at o;refine sg<|rm 1 ?_;refine sq<|ci o (fun o=>?_) (fun o=>?_)
  ·refine sp<|sq<|bk<|sg<|rm 2 ?_;refine sg<|rr 3 ?_;obtain⟨K0,f0,o⟩:=bS o;refine ix (hE.trans q.ext) q0 f0 (fun E0 p0 b0 X=>?_);obtain⟨t0,B0,u0,C0,o0,v0,y0⟩:=z3D X;subst o0;refine lN (ax hE q b0) ?_;obtain⟨F0,g0,o⟩:=bS o;refine ca j0.1 (j0.2 (hE.trans q.ext) (zdA.ext (hE.trans q.ext) X) g0) (fun G0 J0 Z=>?_);obtain⟨rfl,G⟩:=Z;have H:=q.join G;refine rn<|ci o (fun o=>?_) (fun o=>?_)
   ·refine sg<|rm 2 ?_;refine rt ?_;cases o;cases O;have hm:some _=some _:=hm;cases hm;exact⟨_,tR rfl,rfl,H⟩
   ·refine sp<|rg<|rm 2 ?_;cases o;exact⟨_,_,rfl,⟨(k0.trans G.ext),H,rfl⟩,rfl⟩
  ·refine xt ?_;cases o;exact⟨_,_,⟨O,k0,q,rfl⟩,rfl⟩

theorem zo8:EN 172:=en Tryz.func172
def ze (fu:Nat)(x0:LE)(x1:Qh→Option Bool):Option (Bool):=((zP fu x0 x1).bind fun r1=>some (decide (r1≥0)))

theorem z2k (hE:Ext W w){o:Option Addr}{q:Nat}{x0:LE}{a0:Nat}{c0:List Value}{x1:Qh→Option Bool}(G:zdB.ro W [sl o x0 q] x0)(H:Enters Tryz.prog a0∧∀ {w9:World},Ext W w9→∀ {b0:List Value}{z0:Qh}{y9:Bool},zdA.ro w9 b0 z0→x1 z0=some y9→CL a0 ⟨[.agg ⟨b0⟩]++c0⟩ w9 (Ret fun v w8=>v=.bool y9∧St w9 w8 [])){fu:Nat}{r:Bool}(hm:ze fu x0 x1=some r):
  CL 172 ⟨[sl o x0 q,.func (.func a0) #[] ⟨c0⟩]⟩ w (RB w r):=by
 refine into Tryz.func172 9 _ ?_;unfold ze at hm;have hS:=St.start w;refine sg<|rm 1 ?_;refine sg<|rr 2 ?_;obtain⟨r1,Z,hm⟩:=bS hm;refine ca zts (z7k (hE.trans hS.ext) G H Z) (fun v3 w4 O=>?_);obtain⟨rfl,X⟩:=O;have Y:=hS.join X;refine rm 2 ?_;refine rt ?_;cases hm;exact⟨_,tR rfl,rfl,Y⟩

theorem ztP:EN 174:=en Tryz.func174
def z2r (fu:Nat)(x0:Qh)(x1:Int)(q:Bool):Option Bool:=(if q=true then some false else(if(x0.Qi == 1)=true then some (x0.A.Qj == x1) else(if(x0.Qi == 2)=true then(if(x0.A.Qj == x1)=true then some (x0.A.Qi == 2) else some false) else(if(x0.Qi == 3)=true then(if(((x0.A.Qj:Int) == 0) && (((x0.A.Qi:Int) == 0) && (((x0.A.Qo:Int) == 0) && true)))=true then(if(x0.B.Qj == x1)=true then(if(x0.Qz.Qi != 0)=true then((z2q fu x0.Qz).bind fun o=>some o) else some false) else some false) else some false) else(if(x0.Qi == 4)=true then(if(((x0.A.Qj:Int) == 0) && (((x0.A.Qi:Int) == 0) && (((x0.A.Qo:Int) == 0) && true)))=true then some (((x0.B.Qj:Int) == 0) && (((x0.B.Qi:Int) == 0) && (((x0.B.Qo:Int) == 0) && true))) else some false) else some false)))))
def z61 (fu:Nat)(x0:Qh)(x1:Int):Option (Bool):=(if(!(x0.Qi == 3))=true then((z1T fu x0.Qz (⟨0,0,0,[],[]⟩:Qa)).bind fun o=>z2r fu x0 x1 (!o)) else z2r fu x0 x1 false)

theorem zfx (hE:Ext W w){e0:List Value}{x0:Qh}{x1:Int}(g0:zdA.ro W e0 x0){fu:Nat}{r:Bool}(hm:z61 fu x0 x1=some r):
  CL 174 ⟨[.agg ⟨e0⟩,iv x1]⟩ w (RB w r):=by
 obtain⟨A1,k2,A4,k5,e7,h3,h6⟩:=z3D g0;subst e7;refine into Tryz.func174 79 _ ?_;unfold z61 at hm;have hS:=St.start w;refine sg<|nw hS (fun f0 k0 o0 q=>?_);refine rm 1 ?_;refine sg<|rr 1 ?_;refine l1 ((q.b 0 rfl).box) 0 ?_;refine rm 2 ?_;refine sq<|sq<|ct (fun(c0:Bool) F w9=>z2r fu x0 x1 c0=some r∧Ext k0 w9∧St w w9 [Box f0 [iv x0.Qi,iv x0.Qz.Qi,iv x0.Qz.QC,iv x0.Qz.Value,sl A1 x0.Qz.Data k2,sl A4 x0.Qz.QM k5,iv x0.A.Qj,iv x0.A.Qi,iv x0.A.Qo,iv x0.B.Qj,iv x0.B.Qi,iv x0.B.Qo] 189]∧F=[(1,iv x1),(2,.pointer (some ⟨f0,0,none⟩)),(17,.bool c0)]) ?_ ?_
 ·rintro c0 F t0 ⟨hm,i0,o,rfl⟩;unfold z2r at hm;refine ci hm (fun hm=>?_) (fun hm=>?_)
  ·refine sg<|rm 1 ?_;refine rt ?_;cases hm;exact⟨_,tR rfl,rfl,(o.t 0)⟩
  ·refine sp<|sq<|sg<|rr 1 ?_;refine l1 ((o.b 0 rfl).box) 0 ?_;refine rn<|bk<|sg<|rm 2 ?_;refine ci hm (fun hm=>?_) (fun hm=>?_)
   ·refine sg<|rr 2 ?_;refine l1 ((o.b 0 rfl).box) 6 ?_;refine rm 3 ?_;refine rt ?_;cases hm;exact⟨_,tR rfl,rfl,(o.t 0)⟩
   ·refine sg<|rm 2 ?_;refine ci hm (fun hm=>?_) (fun hm=>?_)
    ·refine sg<|rr 2 ?_;refine l1 ((o.b 0 rfl).box) 6 ?_;refine rr 3 ?_;refine rb 34 hm (fun hm=>?_) (fun hm=>?_)
     ·refine rr 2 ?_;refine l1 ((o.b 0 rfl).box) 7 ?_;refine rm 3 ?_;refine rt ?_;cases hm;exact⟨_,tR rfl,rfl,(o.t 0)⟩
     ·refine rm 6 ?_;refine rt ?_;cases hm;exact⟨_,tR rfl,rfl,(o.t 0)⟩
    ·refine sg<|rm 2 ?_;refine ci hm (fun hm=>?_) (fun hm=>?_)
     ·refine sg<|rr 1 ?_;refine lN (At.sub ((o.b 0 rfl).box) 6 3) ?_;refine qt (qb) ?_;refine rr 2 ?_;refine rb 46 hm (fun hm=>?_) (fun hm=>?_)
      ·refine rr 2 ?_;refine l1 ((o.b 0 rfl).box) 9 ?_;refine rr 4 ?_;refine rb 53 hm (fun hm=>?_) (fun hm=>?_)
       ·refine rr 2 ?_;refine l1 ((o.b 0 rfl).box) 1 ?_;refine rr 3 ?_;refine rb 59 hm (fun hm=>?_) (fun hm=>?_)
        ·refine rr 1 ?_;refine lN (At.sub ((o.b 0 rfl).box) 1 5) ?_;obtain⟨p0,a0,hm⟩:=bS hm;refine ca zoc (zaQ (hE.trans o.ext) (z6y x0.Qz h3 h6) a0) (fun q0 u0 H=>?_);obtain⟨rfl,O⟩:=H;have Y:=o.join O;refine rm 2 ?_;refine rt ?_;cases hm;exact⟨_,tR rfl,rfl,(Y.t 0)⟩
        ·refine rm 5 ?_;refine rt ?_;cases hm;exact⟨_,tR rfl,rfl,(o.t 0)⟩
       ·refine rm 11 ?_;refine rt ?_;cases hm;exact⟨_,tR rfl,rfl,(o.t 0)⟩
      ·refine rm 18 ?_;refine rt ?_;cases hm;exact⟨_,tR rfl,rfl,(o.t 0)⟩
     ·refine sp<|sg<|rr 1 ?_;refine l1 ((o.b 0 rfl).box) 0 ?_;refine rr 2 ?_;refine rb 67 hm (fun hm=>?_) (fun hm=>?_)
      ·refine rr 1 ?_;refine lN (At.sub ((o.b 0 rfl).box) 6 3) ?_;refine qt (qb) ?_;refine rr 3 ?_;refine rb 73 hm (fun hm=>?_) (fun hm=>?_)
       ·refine rr 1 ?_;refine lN (At.sub ((o.b 0 rfl).box) 9 3) ?_;refine qt (qb) ?_;refine rm 3 ?_;refine rt ?_;cases hm;exact⟨_,tR rfl,rfl,(o.t 0)⟩
       ·refine rm 6 ?_;refine rt ?_;cases hm;exact⟨_,tR rfl,rfl,(o.t 0)⟩
      ·refine rm 12 ?_;refine rt ?_;cases hm;exact⟨_,tR rfl,rfl,(o.t 0)⟩
 ·refine rg<|rr 3 ?_;refine rb 11 hm (fun hm=>?_) (fun hm=>?_)
  ·refine rr 1 ?_;refine lN (At.sub ((q.b 0 rfl).box) 1 5) ?_;refine qt (qb) ?_;obtain⟨j0,b0,hm⟩:=bS hm;refine ca zo5 (zbj (hE.trans q.ext) (z6y x0.Qz h3 h6) (z6y (⟨0,0,0,[],[]⟩:Qa) (zp1 z2z 2 _) (zp1 ty34 34 _)) b0) (fun r0 v0 X=>?_);obtain⟨rfl,G⟩:=X;have Z:=q.join G;refine rm 2 ?_;exact⟨!j0,_,⟨hm,G.ext,Z,rfl⟩,rfl⟩
  ·refine rm 6 ?_;exact⟨false,_,⟨hm,(Ext.refl _),q,rfl⟩,rfl⟩

theorem zo7:EN 173:=en Tryz.func173
def z1M (fu:Nat)(x0:Qh)(x1:Int):Option (Bool):=((z61 fu x0 x1).bind fun o=>some (!o))

theorem z9O (hE:Ext W w){X:List Value}{x0:Qh}{Z:Addr}{x1:Int}(Y:zdA.ro W X x0)(a0:At W Z [iv x1]){fu:Nat}{r:Bool}(hm:z1M fu x0 x1=some r):
  CL 173 ⟨[.agg ⟨X⟩,.pointer (some Z)]⟩ w (RB w r):=by
 obtain⟨A1,k2,A4,k5,e7,h3,h6⟩:=z3D Y;subst e7;refine into Tryz.func173 8 _ ?_;unfold z1M at hm;have hS:=St.start w;refine sg<|nw hS (fun c0 g0 b0 o=>?_);refine rm 1 ?_;refine sg<|lN ((o.b 0 rfl).box) ?_;refine l1 (ax hE o a0) 0 ?_;obtain⟨e0,O,hm⟩:=bS hm;refine ca ztP (zfx (hE.trans o.ext) Y O) (fun f0 i0 q=>?_);obtain⟨rfl,G⟩:=q;have H:=o.join G;refine rm 2 ?_;refine rt ?_;cases hm;exact⟨_,tR rfl,rfl,(H.t 0)⟩

theorem zuk:EN 116:=en Tryz.func116
def z7u (fu:Nat)(t2:Unit):Option Bool:=some true
def zK (fu:Nat)(s1:Int)(o:Bool):Option (Rd (Int) (Unit) (Bool)):=(if o=true then some (.ret false) else some (.next (w64 (s1+1))))
def z2K (fu:Nat)(x0:(List LE))(x1:Int)(s1:Int):Option (Rd (Int) (Unit) (Bool)):=(if(decide (s1<(x0.length:Int)))=true then((idx x0 s1).bind fun o=>(if decide (x1≠0)=true then(if decide (x1≠0)=true then(if((w64 (s1.tdiv x1)) == (s1.tmod x1))=true then(if(decide ((o.length:Int)>0))=true then zK fu s1 true else(if(decide ((o.length:Int)>200))=true then zK fu s1 true else((ze fu o (fun y0=>z1M fu y0 (s1.tmod x1))).bind fun q=>zK fu s1 q))) else(if(decide ((o.length:Int)>200))=true then zK fu s1 true else((ze fu o (fun y0=>z1M fu y0 (s1.tmod x1))).bind fun G=>zK fu s1 G))) else none) else none)) else some (.brk ()))
def z4q (fu:Nat)(x0:(List LE))(x1:Int):Option (Bool):=(if((x0.length:Int) != (w64 (x1*x1)))=true then some false else((iter (z2K fu x0 x1) fu 0).bind fun o=>aft o (z7u fu)))

theorem zeE (hE:Ext W w){c0:Option Addr}{e0:Nat}{x0:(List LE)}{x1:Int}(F0:ty50.ro W [sl c0 x0 e0] x0){fu:Nat}{r:Bool}(hm:z4q fu x0 x1=some r):
  CL 116 ⟨[sl c0 x0 e0,iv x1]⟩ w (RB w r):=by
 refine into Tryz.func116 47 _ ?_;unfold z4q at hm;have hS:=St.start w;refine sg<|rm 1 ?_;refine sq<|sg<|rm 6 ?_;refine ci hm (fun hm=>?_) (fun hm=>?_)
 ·refine sg<|rm 1 ?_;refine rt ?_;cases hm;exact⟨_,tR rfl,rfl,hS⟩
 ·refine sp<|sq<|sg<|rm 3 ?_;obtain⟨o5,J0,hm⟩:=bS hm;refine ct (fun(t2:Unit) F w9=>o5=.inl t2∧St w w9 []∧F=[]) ?_ ?_
  ·rintro t2 F w4 ⟨u0,H0,rfl⟩;subst u0;rw[z8] at hm;unfold z7u at hm;refine sg<|rm 1 ?_;refine rt ?_;cases hm;exact⟨_,tR rfl,rfl,H0⟩
  ·refine bk<|wk [1,15,16,17] ?_;refine it (fun(s1:Int) F w9=>St w w9 []∧F=[(1,iv x1),(15,sl c0 x0 e0),(16,iv (x0.length:Int)),(17,iv s1)]) J0 ⟨hS,rfl⟩ ?_;rintro s1 F V0 _ K0 ⟨H,rfl⟩ o b0;unfold z2K at o;refine sg<|rm 1 ?_;refine sq<|ci o (fun o=>?_) (fun o=>?_)
   ·refine sp<|sq<|bk<|sg<|rr 1 ?_;obtain⟨d1,v0,o⟩:=bS o;refine ix (hE.trans H.ext) F0 v0 (fun S0 E0 q0 X=>?_);obtain⟨O0,R0,D0⟩:=z3E X;subst D0;refine l1 (ax hE H q0) 0 ?_;refine rm 2 ?_;refine sq<|dn 256 mixed 9 [([],511),([],511),([0,1],508),([],511),([],511),([3,4],487),([],511),([2,0,1,2,6],507),([6,5,7,0,1,2,3,4,5,6,7],415)] H.ext (fun G=>?_);have i0:=H.step (Ext.draw _);refine dr 5 G [0,1,3,4] ?_;obtain⟨r0,o⟩:=iS o;refine dp G 2 rfl (fun _=>zy8 (of_decide_eq_true r0)) ?_;obtain⟨t0,o⟩:=iS o;refine dp G 5 rfl (fun _=>zy7 (of_decide_eq_true t0)) ?_;refine o1 G 6 (mw G i0 (fun Q0 X0 P0 j0=>?_));refine dr 1 G [7] ?_;refine dw [1,6,7,8,15,16,17,27] ?_;have k0:=j0.b 0 rfl;refine o1 G 8 (ms (A:=[]) k0 G 0 (fun N0 q=>?_));refine dd G ?_;refine sq<|ct (fun(C0:Bool) F w9=>zK fu s1 C0=some K0∧Ext N0 w9∧St w w9 []∧F=[(1,iv x1),(15,sl c0 x0 e0),(16,iv (x0.length:Int)),(17,iv s1),(45,.bool C0)]) ?_ ?_
    ·rintro C0 F Y0 ⟨o,G0,a0,rfl⟩;unfold zK at o;refine ci o (fun o=>?_) (fun o=>?_)
     ·refine sg<|rm 1 ?_;refine rt ?_;cases o;cases b0;have hm:some _=some _:=hm;cases hm;exact⟨_,tR rfl,rfl,a0⟩
     ·refine sp<|rg<|rm 2 ?_;cases o;exact⟨_,_,rfl,⟨a0,rfl⟩,rfl⟩
    ·refine rg<|rr 1 ?_;refine l1 ((q.b 0 rfl).box) 0 ?_;refine rr 2 ?_;refine rb 31 o (fun o=>?_) (fun o=>?_)
     ·refine rr 5 ?_;refine rb 36 o (fun o=>?_) (fun o=>?_)
      ·refine rm 9 ?_;exact⟨true,_,⟨o,(Ext.refl _),(q.t 0),rfl⟩,rfl⟩
      ·refine rr 5 ?_;refine rb 41 o (fun o=>?_) (fun o=>?_)
       ·refine rm 4 ?_;exact⟨true,_,⟨o,(Ext.refl _),(q.t 0),rfl⟩,rfl⟩
       ·refine rr 2 ?_;obtain⟨L0,y0,o⟩:=bS o;refine ca zo8 (z2k (Ext.refl _) (zdB.ext (hE.trans q.ext) X) ⟨zo7,fun e9=>(fun O B0=>z9O (Ext.refl _) O (At.ext e9 ((q.b 0 rfl).box)) B0)⟩ y0) (fun T0 a1 f0=>?_);obtain⟨rfl,Y⟩:=f0;have o0:=q.join Y;refine rm 1 ?_;exact⟨L0,_,⟨o,Y.ext,(o0.t 0),rfl⟩,rfl⟩
     ·refine rr 10 ?_;refine rb 41 o (fun o=>?_) (fun o=>?_)
      ·refine rm 4 ?_;exact⟨true,_,⟨o,(Ext.refl _),(q.t 0),rfl⟩,rfl⟩
      ·refine rr 2 ?_;obtain⟨M0,A0,o⟩:=bS o;refine ca zo8 (z2k (Ext.refl _) (zdB.ext (hE.trans q.ext) X) ⟨zo7,fun e9=>(fun O B0=>z9O (Ext.refl _) O (At.ext e9 ((q.b 0 rfl).box)) B0)⟩ A0) (fun U0 b1 g0=>?_);obtain⟨rfl,Z⟩:=g0;have p0:=q.join Z;refine rm 1 ?_;exact⟨M0,_,⟨o,Z.ext,(p0.t 0),rfl⟩,rfl⟩
   ·refine xt ?_;cases o;exact⟨_,_,⟨b0,H,rfl⟩,rfl⟩

theorem ztO:EN 176:=en Tryz.func176
def z9u (fu:Nat)(x0:Int)(x1:Int):Option (Bool):=(if(decide (x0<0))=true then some true else some (decide (x0>x1)))

theorem zgT (hE:Ext W w){x0:Int}{o:Addr}{x1:Int}(q:At W o [iv x1]){fu:Nat}{r:Bool}(hm:z9u fu x0 x1=some r):
  CL 176 ⟨[iv x0,.pointer (some o)]⟩ w (RB w r):=by
 refine into Tryz.func176 11 _ ?_;unfold z9u at hm;have hS:=St.start w;refine sg<|rm 1 ?_;refine sg<|rr 3 ?_;refine rb 6 hm (fun hm=>?_) (fun hm=>?_)
 ·refine rm 5 ?_;refine rt ?_;cases hm;exact⟨_,tR rfl,rfl,hS⟩
 ·refine rr 1 ?_;refine l1 (ax hE hS q) 0 ?_;refine rm 3 ?_;refine rt ?_;cases hm;exact⟨_,tR rfl,rfl,hS⟩

theorem zjr:EN 117:=en Tryz.func117
def z7w (fu:Nat)(x0:Int)(x1:L9):Option (Bool):=((zD fu x1 (fun y0=>z9u fu y0 x0)).bind fun r5=>some (!r5))

theorem zcZ (hE:Ext W w){x0:Int}{O:Option Addr}{X:Nat}{x1:L9}(Y:ty45.ro W [sl O x1 X] x1){fu:Nat}{r:Bool}(hm:z7w fu x0 x1=some r):
  CL 117 ⟨[iv x0,sl O x1 X]⟩ w (RB w r):=by
 refine into Tryz.func117 9 _ ?_;unfold z7w at hm;have hS:=St.start w;refine sg<|nw hS (fun g1 w2 e3 H=>?_);refine rm 1 ?_;refine sg<|rr 2 ?_;obtain⟨r5,Z,hm⟩:=bS hm;refine ca zo6 (z5m (Ext.refl _) (ty45.ext (hE.trans H.ext) Y) ⟨ztO,fun e9=>(fun  a0=>zgT (Ext.refl _) (At.ext e9 ((H.b 0 rfl).box)) a0)⟩ Z) (fun v7 b0 o=>?_);obtain⟨rfl,q⟩:=o;have G:=H.join q;refine rm 2 ?_;refine rt ?_;cases hm;exact⟨_,tR rfl,rfl,(G.t 0)⟩

theorem ztN:EN 177:=en Tryz.func177
def z1K (fu:Nat)(t2:Unit):Option Int:=some (-1)
def zB (fu:Nat)(x0:LO)(x1:L9→Option Bool)(s1:Int):Option (Rd (Int) (Unit) (Int)):=(if(decide (s1<(x0.length:Int)))=true then((idx x0 s1).bind fun q=>((x1 q).bind fun o=>(if o=true then some (.ret s1) else some (.next (w64 (s1+1)))))) else some (.brk ()))
def z1r (fu:Nat)(x0:LO)(x1:L9→Option Bool):Option (Int):=((iter (zB fu x0 x1) fu 0).bind fun o=>aft o (z1K fu))

theorem z9c (hE:Ext W w){Y:Option Addr}{i0:Nat}{x0:LO}{G0:Nat}{H0:List Value}{x1:L9→Option Bool}(q0:ty44.ro W [sl Y x0 i0] x0)(j0:Enters Tryz.prog G0∧∀ {w9:World},Ext W w9→∀ {J0:Option Addr}{K0:Nat}{z0:L9}{y9:Bool},ty45.ro w9 [sl J0 z0 K0] z0→x1 z0=some y9→CL G0 ⟨[sl J0 z0 K0]++H0⟩ w9 (Ret fun v w8=>v=.bool y9∧St w9 w8 [])){fu:Nat}{r:Int}(hm:z1r fu x0 x1=some r):
  CL 177 ⟨[sl Y x0 i0,.func (.func G0) #[] ⟨H0⟩]⟩ w (RI w r):=by
 refine into Tryz.func177 19 _ ?_;unfold z1r at hm;have hS:=St.start w;refine sg<|rm 1 ?_;refine sq<|sg<|rm 3 ?_;obtain⟨r0,c0,hm⟩:=bS hm;refine ct (fun(t2:Unit) F w9=>r0=.inl t2∧Ext w w9∧St w w9 []∧F=[]) ?_ ?_
 ·rintro t2 F w7 ⟨e0,u0,a0,rfl⟩;subst e0;rw[z8] at hm;unfold z1K at hm;refine sg<|rm 1 ?_;refine rt ?_;cases hm;exact⟨_,tR rfl,rfl,a0⟩
 ·refine bk<|wk [0,1,7,8] ?_;refine it (fun(s1:Int) F w9=>Ext w w9∧St w w9 []∧F=[(0,sl Y x0 i0),(1,.func (.func G0) #[] ⟨H0⟩),(7,iv (x0.length:Int)),(8,iv s1)]) c0 ⟨(Ext.refl _),hS,rfl⟩ ?_;rintro s1 F D0 _ y0 ⟨k0,q,rfl⟩ o O;unfold zB at o;refine sg<|rm 1 ?_;refine sq<|ci o (fun o=>?_) (fun o=>?_)
  ·refine sp<|sq<|bk<|sg<|rm 2 ?_;refine sg<|rr 3 ?_;obtain⟨F0,f0,o⟩:=bS o;refine ix (hE.trans q.ext) q0 f0 (fun A0 p0 b0 X=>?_);obtain⟨t0,v0,o0⟩:=zL X;subst o0;refine l1 (ax hE q b0) 0 ?_;obtain⟨B0,g0,o⟩:=bS o;refine ca j0.1 (j0.2 (hE.trans q.ext) (ty45.ext (hE.trans q.ext) X) g0) (fun C0 E0 Z=>?_);obtain⟨rfl,G⟩:=Z;have H:=q.join G;refine rn<|ci o (fun o=>?_) (fun o=>?_)
   ·refine sg<|rm 2 ?_;refine rt ?_;cases o;cases O;have hm:some _=some _:=hm;cases hm;exact⟨_,tR rfl,rfl,H⟩
   ·refine sp<|rg<|rm 2 ?_;cases o;exact⟨_,_,rfl,⟨(k0.trans G.ext),H,rfl⟩,rfl⟩
  ·refine xt ?_;cases o;exact⟨_,_,⟨O,k0,q,rfl⟩,rfl⟩

theorem zuj:EN 118:=en Tryz.func118
def zC (fu:Nat)(x0:LO)(x1:L9→Option Bool):Option (Bool):=((z1r fu x0 x1).bind fun r1=>some (decide (r1≥0)))

theorem z8t (hE:Ext W w){o:Option Addr}{q:Nat}{x0:LO}{a0:Nat}{e0:List Value}{x1:L9→Option Bool}(G:ty44.ro W [sl o x0 q] x0)(H:Enters Tryz.prog a0∧∀ {w9:World},Ext W w9→∀ {b0:Option Addr}{c0:Nat}{z0:L9}{y9:Bool},ty45.ro w9 [sl b0 z0 c0] z0→x1 z0=some y9→CL a0 ⟨[sl b0 z0 c0]++e0⟩ w9 (Ret fun v w8=>v=.bool y9∧St w9 w8 [])){fu:Nat}{r:Bool}(hm:zC fu x0 x1=some r):
  CL 118 ⟨[sl o x0 q,.func (.func a0) #[] ⟨e0⟩]⟩ w (RB w r):=by
 refine into Tryz.func118 9 _ ?_;unfold zC at hm;have hS:=St.start w;refine sg<|rm 1 ?_;refine sg<|rr 2 ?_;obtain⟨r1,Z,hm⟩:=bS hm;refine ca ztN (z9c (hE.trans hS.ext) G H Z) (fun v3 w4 O=>?_);obtain⟨rfl,X⟩:=O;have Y:=hS.join X;refine rm 2 ?_;refine rt ?_;cases hm;exact⟨_,tR rfl,rfl,Y⟩

theorem zuh:EN 120:=en Tryz.func120
def z31 (fu:Nat)(x0:L9):Option (Bool):=(if((x0.length:Int) == 7)=true then((z7w fu 1000000000 x0).bind fun r2=>some r2) else some false)

theorem zdM (hE:Ext W w){q:Option Addr}{G:Nat}{x0:L9}(H:ty45.ro W [sl q x0 G] x0){fu:Nat}{r:Bool}(hm:z31 fu x0=some r):
  CL 120 ⟨[sl q x0 G]⟩ w (RB w r):=by
 refine into Tryz.func120 10 _ ?_;unfold z31 at hm;have hS:=St.start w;refine sg<|rm 1 ?_;refine sg<|rr 4 ?_;refine rb 6 hm (fun hm=>?_) (fun hm=>?_)
 ·refine rr 1 ?_;obtain⟨r2,Y,hm⟩:=bS hm;refine ca zjr (zcZ (hE.trans hS.ext) H Y) (fun v4 w5 O=>?_);obtain⟨rfl,X⟩:=O;have o:=hS.join X;refine rm 2 ?_;refine rt ?_;cases hm;exact⟨_,tR rfl,rfl,o⟩
 ·refine rm 4 ?_;refine rt ?_;cases hm;exact⟨_,tR rfl,rfl,hS⟩

theorem zui:EN 119:=en Tryz.func119
def z5i (fu:Nat)(x0:L9):Option (Bool):=((z31 fu x0).bind fun r1=>some (!r1))

theorem zdN (hE:Ext W w){o:Option Addr}{q:Nat}{x0:L9}(G:ty45.ro W [sl o x0 q] x0){fu:Nat}{r:Bool}(hm:z5i fu x0=some r):
  CL 119 ⟨[sl o x0 q]⟩ w (RB w r):=by
 refine into Tryz.func119 6 _ ?_;unfold z5i at hm;have hS:=St.start w;refine sg<|rm 1 ?_;refine sg<|rr 1 ?_;obtain⟨r1,Y,hm⟩:=bS hm;refine ca zuh (zdM (hE.trans hS.ext) G Y) (fun v3 w4 H=>?_);obtain⟨rfl,O⟩:=H;have X:=hS.join O;refine rm 2 ?_;refine rt ?_;cases hm;exact⟨_,tR rfl,rfl,X⟩

theorem zod:EN 122:=en Tryz.func122
def z2Q (fu:Nat)(x0:Int)(x1:Int):Option (Qb):=some (⟨x0,3,x1⟩:Qb)

theorem zbk (hE:Ext W w){x0:Int}{x1:Int}  {fu:Nat}{r:Qb}(hm:z2Q fu x0 x1=some r):
  CL 122 ⟨[iv x0,iv x1]⟩ w (Ret fun v w8=>v=.agg ⟨[iv r.Qj,iv r.Qi,iv r.Qo]⟩∧St w w8 []):=by
 refine into Tryz.func122 8 _ ?_;unfold z2Q at hm;have hS:=St.start w;refine sg<|nw hS (fun g1 w2 e3 q=>?_);refine rn<|sg<|rr 2 ?_;refine qt (qb) ?_;have G:=q.b 0 rfl;refine so (A:=[]) G 0 (fun w6 o=>?_);refine rn<|rt ?_;cases hm;exact⟨_,.cons (ra ((o.b 0 rfl).box)) .nil,rfl,(o.t 0)⟩

theorem zoe:EN 121:=en Tryz.func121
def z5o (fu:Nat)(o:LC):Option LC:=some o
def z5n (fu:Nat)(o:LC×Int)(q:LC):Option (Rd (LC×Int) LC LC):=some (.next (q,w64 (o.2+1)))
def z1x (fu:Nat)(o:Int×LC)(q:LC):Option (Rd (Int×LC) LC (Rd (LC×Int) LC LC)):=some (.next (w64 (o.1+1),q))
def z1w (fu:Nat)(q:Int×LC)(o:LC):Option (Rd (Int×LC) LC (Rd (LC×Int) LC LC)):=z1x fu q o
def zx (fu:Nat)(X:LC×Int)(o:Int×LC)(q:Qh)(Y:Bool):Option (Rd (Int×LC) LC (Rd (LC×Int) LC LC)):=(if Y=true then(if decide ((o.2.length:Int)+(([(⟨(⟨q.A,0,false⟩:QH),(⟨q.B,0,false⟩:QH)⟩:D.Qc)]:LC).length:Int)≤4294967296)=true then z1x fu o (o.2++([(⟨(⟨q.A,0,false⟩:QH),(⟨q.B,0,false⟩:QH)⟩:D.Qc)]:LC)) else none) else(if(q.Qi == 3)=true then((z2Q fu X.2 o.1).bind fun H=>((z1z fu H q.Qz.QM).bind fun G=>(if decide ((o.2.length:Int)+(G.length:Int)≤4294967296)=true then((z47 fu H 0).bind fun O=>(if decide (((o.2++G).length:Int)+(([(⟨O,(⟨q.B,0,false⟩:QH)⟩:D.Qc)]:LC).length:Int)≤4294967296)=true then z1w fu o ((o.2++G)++([(⟨O,(⟨q.B,0,false⟩:QH)⟩:D.Qc)]:LC)) else none)) else none))) else z1w fu o o.2))
def zy (fu:Nat)(G:LC×Int)(H:LE)(o:Int×LC):Option (Rd (Int×LC) LC (Rd (LC×Int) LC LC)):=(if(decide (o.1<(H.length:Int)))=true then((idx H o.1).bind fun q=>(if(q.Qi == 1)=true then zx fu G o q (q.Qi == 1) else zx fu G o q (q.Qi == 2))) else some (.brk o.2))
def zV (fu:Nat)(x0:Qv)(q:LC×Int):Option (Rd (LC×Int) LC LC):=(if(decide (q.2<(x0.Qd.length:Int)))=true then((idx x0.Qd q.2).bind fun G=>((iter (zy fu q G) fu (0,q.1)).bind fun o=>aft o (z5n fu q))) else some (.brk q.1))
def zt (fu:Nat)(x0:Qv):Option LC:=((iter (zV fu x0) fu ([],0)).bind fun o=>aft o (z5o fu))

theorem z6j (hE:Ext W w){b2:Addr}{Y1:List Value}{x0:Qv}(v2:ty52.ro W Y1 x0)(t2:At W b2 Y1){fu:Nat}{r:LC}(hm:zt fu x0=some r):
  CL 121 ⟨[.pointer (some b2)]⟩ w (Ret fun v w8=>∃ A0 k0,v=sl A0 r k0∧St w w8 [ow ty86 A0 r k0]):=by
 obtain⟨A1,k2,A4,k5,A7,j3,a3,k3,b3,m3,o2,h3,h6,e3,f3,g3⟩:=z7A v2;subst o2;refine into Tryz.func121 65 _ ?_;unfold zt at hm;have hS:=St.start w;refine sg<|rm 1 ?_;refine sg<|rm 1 ?_;refine sq<|sg<|rr 3 ?_;refine l1 (ax hE hS t2) 4 ?_;refine rm 2 ?_;obtain⟨H2,K1,hm⟩:=bS hm;refine ct (fun(s1:LC) F w9=>∃ e1 j1,H2=.inl s1∧St w w9 [ow ty86 e1 s1 j1]∧F=[(3,sl e1 s1 j1)]) ?_ ?_
 ·rintro s1 F q3 ⟨e1,j1,M1,B1,rfl⟩;subst M1;rw[z8] at hm;unfold z5o at hm;refine sg<|rm 2 ?_;refine rt ?_;cases hm;exact⟨_,tR rfl,e1,j1,rfl,B1⟩
 ·refine bk ?_;have C1:=hS.nilSl zfK 169;refine wk [3,12,13,14] ?_;refine it (fun(a0:LC×Int) F w9=>∃ B0 b1,St w w9 [ow ty86 B0 a0.1 b1]∧F=[(3,sl B0 a0.1 b1),(12,sl A4 x0.Qd k5),(13,iv (x0.Qd.length:Int)),(14,iv a0.2)]) K1 ⟨none,0,C1,rfl⟩ ?_;rintro a0 F r3 _ n3 ⟨B0,b1,f0,rfl⟩ O N1;unfold zV at O;refine sg<|rm 1 ?_;refine sq<|ci O (fun O=>?_) (fun O=>?_)
  ·refine sp<|sq<|bk<|sg<|rr 1 ?_;obtain⟨t0,R1,O⟩:=bS O;refine ix (hE.trans f0.ext) h6 R1 (fun o3 r2 H1 V0=>?_);obtain⟨f1,m1,p2⟩:=z3E V0;subst p2;refine l1 (ax hE f0 H1) 0 ?_;refine rm 2 ?_;refine sg<|rm 3 ?_;obtain⟨J2,L1,O⟩:=bS O;refine ct (fun(t1:LC) F w9=>∃ g1 n1,J2=.inl t1∧St w w9 [ow ty86 g1 t1 n1]∧F=[(3,sl g1 t1 n1),(12,sl A4 x0.Qd k5),(13,iv (x0.Qd.length:Int)),(14,iv a0.2)]) ?_ ?_
   ·rintro t1 F s3 ⟨g1,n1,O1,D1,rfl⟩;subst O1;rw[z8] at O;unfold z5n at O;refine rg<|rm 2 ?_;cases O;exact⟨_,_,rfl,⟨g1,n1,D1,rfl⟩,rfl⟩
   ·refine bk<|wk [3,4,12,13,14,19,20,21] ?_;refine it (fun(X:Int×LC) F w9=>∃ u0 y0,St w w9 [ow ty86 u0 X.2 y0]∧F=[(3,sl u0 X.2 y0),(4,iv a0.2),(12,sl A4 x0.Qd k5),(13,iv (x0.Qd.length:Int)),(14,iv a0.2),(19,sl f1 t0 m1),(20,iv (t0.length:Int)),(21,iv X.1)]) L1 ⟨B0,b1,f0,rfl⟩ ?_;rintro X F t3 _ V1 ⟨u0,y0,g0,rfl⟩ o P1;unfold zy at o;refine sg<|rm 1 ?_;refine sq<|ci o (fun o=>?_) (fun o=>?_)
    ·refine sp<|sq<|bk<|sg<|rr 1 ?_;obtain⟨q,S1,o⟩:=bS o;refine ix (hE.trans g0.ext) V0 S1 (fun p3 s2 J1 Q1=>?_);obtain⟨g2,F2,i2,G2,q2,i3,y2⟩:=z3D Q1;subst q2;refine lN (ax hE g0 J1) ?_;refine nw g0 (fun a2 u3 d3 E1=>?_);refine rr 1 ?_;have F1:=E1.b 0 rfl;refine so (A:=[]) F1 0 (fun Y2 v0=>?_);refine rn<|sg<|rr 1 ?_;refine l1 ((v0.b 0 rfl).box) 0 ?_;refine rn<|bk<|sq<|sg<|rm 2 ?_;refine ct (fun(X1:Bool) F w9=>zx fu a0 X q X1=some V1∧Ext Y2 w9∧St w w9 [Box a2 [iv q.Qi,iv q.Qz.Qi,iv q.Qz.QC,iv q.Qz.Value,sl g2 q.Qz.Data F2,sl i2 q.Qz.QM G2,iv q.A.Qj,iv q.A.Qi,iv q.A.Qo,iv q.B.Qj,iv q.B.Qi,iv q.B.Qo] 189,ow ty86 u0 X.2 y0]∧F=[(3,sl u0 X.2 y0),(4,iv a0.2),(6,iv X.1),(7,.pointer (some ⟨a2,0,none⟩)),(12,sl A4 x0.Qd k5),(13,iv (x0.Qd.length:Int)),(14,iv a0.2),(19,sl f1 t0 m1),(20,iv (t0.length:Int)),(21,iv X.1),(27,iv q.Qi),(28,.bool X1)]) ?_ ?_
     ·rintro X1 F v3 ⟨o,A2,b0,rfl⟩;unfold zx at o;refine ct (fun(u1:LC) F w9=>∃ i1 p1,z1x fu X u1=some V1∧St w w9 [ow ty86 i1 u1 p1]∧F=[(3,sl i1 u1 p1),(4,iv a0.2),(12,sl A4 x0.Qd k5),(13,iv (x0.Qd.length:Int)),(14,iv a0.2),(19,sl f1 t0 m1),(20,iv (t0.length:Int)),(21,iv X.1)]) ?_ ?_
      ·rintro u1 F y3 ⟨i1,p1,o,G1,rfl⟩;unfold z1x at o;refine rg<|rm 2 ?_;cases o;exact⟨_,_,rfl,⟨i1,p1,G1,rfl⟩,rfl⟩
      ·refine ci o (fun o=>?_) (fun o=>?_)
       ·refine rg<|rr 2 ?_;refine lN (At.sub ((b0.b 0 rfl).box) 6 3) ?_;refine qt (qb) ?_;refine rr 1 ?_;refine lN (At.sub ((b0.b 0 rfl).box) 9 3) ?_;refine qt (qb) ?_;refine qt (qb) ?_;refine ns (b0.flatEls (U:=zfK) (els:=[iv q.A.Qj,iv q.A.Qi,iv q.A.Qo,iv 0,.bool false,iv q.B.Qj,iv q.B.Qi,iv q.B.Qo,iv 0,.bool false]) (ys:=[(⟨(⟨q.A,0,false⟩:QH),(⟨q.B,0,false⟩:QH)⟩:D.Qc)]) ⟨[iv q.A.Qj,iv q.A.Qi,iv q.A.Qo,iv 0,.bool false,iv q.B.Qj,iv q.B.Qi,iv q.B.Qo,iv 0,.bool false],_,[],[],rfl,rfl,(zbS (c:=(⟨(⟨q.A,0,false⟩:QH),(⟨q.B,0,false⟩:QH)⟩:D.Qc)) rfl),⟨rfl,rfl⟩⟩) (fun c3 B2 N2 j2 H0=>?_);have o0:=H0.b 2 rfl;obtain⟨S0,o⟩:=iS o;refine ap (Flat.map (Flat.pair (Flat.map (Flat.pair (Flat.map fL0) fL1)) (Flat.pair (Flat.map (Flat.pair (Flat.map fL0) fL1)) Flat.unit))) o0 ((o0.b 1 rfl).own) S0 (fun v1 T1 O2 J0=>?_);refine rm 1 ?_;exact⟨(X.2++([(⟨(⟨q.A,0,false⟩:QH),(⟨q.B,0,false⟩:QH)⟩:D.Qc)]:LC)),_,⟨v1,T1,o,(J0.t 1),rfl⟩,rfl⟩
       ·refine sg<|rm 2 ?_;refine ct (fun(c0:LC) F w9=>∃ e0 i0,z1w fu X c0=some V1∧St w w9 [ow ty86 e0 c0 i0]∧F=[(3,sl e0 c0 i0),(4,iv a0.2),(12,sl A4 x0.Qd k5),(13,iv (x0.Qd.length:Int)),(14,iv a0.2),(19,sl f1 t0 m1),(20,iv (t0.length:Int)),(21,iv X.1)]) ?_ ?_
        ·rintro c0 F P2 ⟨e0,i0,o,K0,rfl⟩;unfold z1w at o;exact⟨c0,_,⟨e0,i0,o,K0,rfl⟩,rfl⟩
        ·refine ci o (fun o=>?_) (fun o=>?_)
         ·refine sg<|rr 2 ?_;obtain⟨d1,X0,o⟩:=bS o;refine ca zod (zbk (hE.trans b0.ext)  X0) (fun K2 Q2 C0=>?_);obtain⟨rfl,D0⟩:=C0;have L0:=b0.join D0;refine nw L0 (fun u2 R2 m2 M0=>?_);have N0:=M0.b 0 rfl;refine so (A:=[]) N0 0 (fun S2 Y=>?_);refine rn<|sg<|rr 1 ?_;refine lN ((Y.b 0 rfl).box) ?_;refine rr 2 ?_;refine l1 ((Y.b 1 rfl).box) 5 ?_;obtain⟨W1,Y0,o⟩:=bS o;refine ca zoh (zbm (hE.trans Y.ext) (zM d1) y2 Y0) (fun L2 T2 E0=>?_);obtain⟨d2,C2,rfl,F0⟩:=E0;have O0:=Y.join F0;have p0:=O0.b 3 rfl;obtain⟨T0,o⟩:=iS o;refine ap (Flat.map (Flat.pair (Flat.map (Flat.pair (Flat.map fL0) fL1)) (Flat.pair (Flat.map (Flat.pair (Flat.map fL0) fL1)) Flat.unit))) p0 ((p0.b 1 rfl).own) T0 (fun e2 D2 U2 Z=>?_);refine rm 1 ?_;refine dn 256 mixed 10 [([],1023),([],1023),([1],1021),([],1023),([3],1015),([4],1007),([2,5],987),([6],959),([0,7,2],894),([8,8,0,1,2,3,4,5,6,7,8],766)] Z.ext (fun G=>?_);have q0:=Z.step (Ext.draw _);refine dr 8 G [0,3] ?_;refine dw [3,4,8,12,13,14,19,20,21,53,56] ?_;refine DM.quietS 964 G 1 rfl ?_ (qN ((Z.b 2 rfl).box));refine DM.quietS 992 G 4 rfl ?_ (qN (At.sub ((Z.b 3 rfl).box) 9 3));refine dp G 5 rfl (fun _=>qb) ?_;obtain⟨H,a1,o⟩:=bS o;refine o1 G 2 (mc G zgn (zcR (hE.trans q0.ext) (zM d1) a1) (fun M2 V2 G0=>?_));obtain⟨rfl,j0⟩:=G0;refine⟨j0.ext,?_⟩;have P0:=q0.join j0;refine dp G 6 rfl (fun _=>qb) ?_;refine o1 G 7 (mn (P0.flatEls (U:=zfK) (els:=[iv H.at_.Qj,iv H.at_.Qi,iv H.at_.Qo,iv H.slot,.bool H.own,iv q.B.Qj,iv q.B.Qi,iv q.B.Qo,iv 0,.bool false]) (ys:=[(⟨H,(⟨q.B,0,false⟩:QH)⟩:D.Qc)]) ⟨[iv H.at_.Qj,iv H.at_.Qi,iv H.at_.Qo,iv H.slot,.bool H.own,iv q.B.Qj,iv q.B.Qi,iv q.B.Qo,iv 0,.bool false],_,[],[],rfl,rfl,(zbS (c:=(⟨H,(⟨q.B,0,false⟩:QH)⟩:D.Qc)) rfl),⟨rfl,rfl⟩⟩) G (fun f2 E2 W2 n2 Q0=>?_));have r0:=Q0.b 1 rfl;obtain⟨U0,o⟩:=iS o;refine o1 G 8 (mp (Flat.map (Flat.pair (Flat.map (Flat.pair (Flat.map fL0) fL1)) (Flat.pair (Flat.map (Flat.pair (Flat.map fL0) fL1)) Flat.unit))) r0 G ((r0.b 1 rfl).own) U0 (fun y1 U1 X2 R0=>?_));refine dr 0 G [9] ?_;refine dw [3,4,12,13,14,19,20,21] ?_;refine dd G ?_;exact⟨((X.2++W1)++([(⟨H,(⟨q.B,0,false⟩:QH)⟩:D.Qc)]:LC)),_,⟨y1,U1,o,(R0.t 1),rfl⟩,rfl⟩
         ·refine sp ?_;exact⟨X.2,_,⟨u0,y0,o,((b0.b 1 rfl).t 1),rfl⟩,rfl⟩
     ·refine ci o (fun o=>?_) (fun o=>?_)
      ·refine sp ?_;exact⟨(q.Qi == 1),_,⟨o,(Ext.refl _),v0,rfl⟩,rfl⟩
      ·refine rg<|rm 2 ?_;exact⟨(q.Qi == 2),_,⟨o,(Ext.refl _),v0,rfl⟩,rfl⟩
    ·refine xt ?_;cases o;exact⟨_,_,⟨u0,y0,P1,g0,rfl⟩,rfl⟩
  ·refine xt ?_;cases O;exact⟨_,_,⟨B0,b1,N1,f0,rfl⟩,rfl⟩

theorem zwh:EN 57:=en Tryz.func57
def zn (fu:Nat)(x0:Qv)(H:Bool):Option Bool:=(if H=true then some false else((zC fu x0.QL (fun y0=>z5i fu y0)).bind fun o=>(if o=true then some false else((zt fu x0).bind fun q=>((z2u fu x0.Qk q).bind fun G=>some G)))))
def z1c (fu:Nat)(x0:Qv)(o:Int)(H:Bool):Option Bool:=(if H=true then some false else(if((x0.QL.length:Int) != o)=true then zn fu x0 true else(if((x0.QY.length:Int) != o)=true then zn fu x0 true else(if((x0.Got.length:Int) != o)=true then zn fu x0 true else((z7w fu 1000000000 x0.QY).bind fun q=>(if(!q)=true then zn fu x0 true else((z7w fu 1000000000 x0.Got).bind fun G=>zn fu x0 (!G))))))))
def z59 (fu:Nat)(x0:Qv):Option (Bool):=((z4v fu x0).bind fun o=>(if(decide (o<1))=true then z1c fu x0 o true else(if(decide (o>4))=true then z1c fu x0 o true else((z4q fu x0.Qd o).bind fun q=>z1c fu x0 o (!q)))))

theorem zfa (hE:Ext W w){O0:List Value}{x0:Qv}(f0:ty52.ro W O0 x0){fu:Nat}{r:Bool}(hm:z59 fu x0=some r):
  CL 57 ⟨[.agg ⟨O0⟩]⟩ w (RB w r):=by
 obtain⟨A1,k2,A4,k5,A7,P0,M0,Q0,N0,R0,T0,h3,h6,U0,V0,X0⟩:=z7A f0;subst T0;refine into Tryz.func57 55 _ ?_;unfold z59 at hm;have hS:=St.start w;refine sg<|nw hS (fun c0 F1 j1 Z=>?_);refine rm 1 ?_;refine sq<|rg ?_;obtain⟨S0,C0,hm⟩:=bS hm;refine ca zum (zdp (Ext.refl _) (ty52.ext (hE.trans Z.ext) f0) ((Z.b 0 rfl).box) C0) (fun u1 f1 g0=>?_);obtain⟨rfl,i0⟩:=g0;have q:=Z.join i0;refine rm 1 ?_;refine sq<|sq<|ct (fun(K0:Bool) F w9=>z1c fu x0 S0 K0=some r∧Ext f1 w9∧St w w9 [Box c0 [sl A1 x0.Qk.Qf k2,iv x0.Qk.QO.Qj,iv x0.Qk.QO.Qi,iv x0.Qk.QO.Qo,sl A4 x0.Qd k5,sl A7 x0.QL P0,sl M0 x0.QY Q0,sl N0 x0.Got R0] 52]∧F=[(1,.pointer (some ⟨c0,0,none⟩)),(3,iv S0),(17,.bool K0)]) ?_ ?_
 ·rintro K0 F g1 ⟨hm,Y0,o,rfl⟩;unfold z1c at hm;refine ci hm (fun hm=>?_) (fun hm=>?_)
  ·refine sg<|rm 1 ?_;refine rt ?_;cases hm;exact⟨_,tR rfl,rfl,(o.t 0)⟩
  ·refine sp<|sq<|sq<|ct (fun(L0:Bool) F w9=>zn fu x0 L0=some r∧Ext g1 w9∧St w w9 [Box c0 [sl A1 x0.Qk.Qf k2,iv x0.Qk.QO.Qj,iv x0.Qk.QO.Qi,iv x0.Qk.QO.Qo,sl A4 x0.Qd k5,sl A7 x0.QL P0,sl M0 x0.QY Q0,sl N0 x0.Got R0] 52]∧F=[(1,.pointer (some ⟨c0,0,none⟩)),(48,.bool L0)]) ?_ ?_
   ·rintro L0 F G1 ⟨hm,a1,G,rfl⟩;unfold zn at hm;refine ci hm (fun hm=>?_) (fun hm=>?_)
    ·refine sg<|rm 1 ?_;refine rt ?_;cases hm;exact⟨_,tR rfl,rfl,(G.t 0)⟩
    ·refine sp<|sq<|sg<|rr 1 ?_;refine l1 ((G.b 0 rfl).box) 5 ?_;obtain⟨n1,D0,hm⟩:=bS hm;refine ca zuj (z8t (hE.trans G.ext) U0 ⟨zui,fun e9=>(fun e0 b1=>zdN (Ext.refl _) e0 b1)⟩ D0) (fun v1 H1 j0=>?_);obtain⟨rfl,k0⟩:=j0;have H:=G.join k0;refine rn<|ci hm (fun hm=>?_) (fun hm=>?_)
     ·refine sg<|rm 1 ?_;refine rt ?_;cases hm;exact⟨_,tR rfl,rfl,(H.t 0)⟩
     ·refine sp<|sg<|rr 1 ?_;obtain⟨p1,E0,hm⟩:=bS hm;refine ca zoe (z6j (Ext.refl _) (ty52.ext (hE.trans H.ext) f0) ((H.b 0 rfl).box) E0) (fun y1 J1 o0=>?_);obtain⟨i1,m1,rfl,p0⟩:=o0;have O:=H.join p0;obtain⟨s1,F0,hm⟩:=bS hm;refine ca zw2 (ze9 (Ext.refl _) (z6x x0.Qk (ty33.ext (hE.trans O.ext) h3)) (At.sub ((O.b 1 rfl).box) 0 4) ((O.b 0 rfl).own) F0) (fun B1 K1 q0=>?_);obtain⟨rfl,r0⟩:=q0;have y0:=O.join r0;refine rm 1 ?_;refine rt ?_;cases hm;exact⟨_,tR rfl,rfl,(y0.t 0)⟩
   ·refine rg<|rr 1 ?_;refine l1 ((o.b 0 rfl).box) 5 ?_;refine rr 4 ?_;refine rb 23 hm (fun hm=>?_) (fun hm=>?_)
    ·refine rm 25 ?_;exact⟨true,_,⟨hm,(Ext.refl _),o,rfl⟩,rfl⟩
    ·refine rr 1 ?_;refine l1 ((o.b 0 rfl).box) 6 ?_;refine rr 5 ?_;refine rb 30 hm (fun hm=>?_) (fun hm=>?_)
     ·refine rm 18 ?_;exact⟨true,_,⟨hm,(Ext.refl _),o,rfl⟩,rfl⟩
     ·refine rr 1 ?_;refine l1 ((o.b 0 rfl).box) 7 ?_;refine rr 5 ?_;refine rb 37 hm (fun hm=>?_) (fun hm=>?_)
      ·refine rm 11 ?_;exact⟨true,_,⟨hm,(Ext.refl _),o,rfl⟩,rfl⟩
      ·refine rr 1 ?_;refine l1 ((o.b 0 rfl).box) 6 ?_;obtain⟨t1,G0,hm⟩:=bS hm;refine ca zjr (zcZ (hE.trans o.ext) V0 G0) (fun C1 L1 t0=>?_);obtain⟨rfl,Y⟩:=t0;have X:=o.join Y;refine rr 3 ?_;refine rb 43 hm (fun hm=>?_) (fun hm=>?_)
       ·refine rm 5 ?_;exact⟨true,_,⟨hm,Y.ext,X,rfl⟩,rfl⟩
       ·refine rr 1 ?_;refine l1 ((X.b 0 rfl).box) 7 ?_;obtain⟨d1,H0,hm⟩:=bS hm;refine ca zjr (zcZ (hE.trans X.ext) X0 H0) (fun D1 M1 u0=>?_);obtain⟨rfl,a0⟩:=u0;have A0:=X.join a0;refine rm 2 ?_;exact⟨!d1,_,⟨hm,(Y.ext.trans a0.ext),A0,rfl⟩,rfl⟩
 ·refine rg<|rr 3 ?_;refine rb 7 hm (fun hm=>?_) (fun hm=>?_)
  ·refine rm 10 ?_;exact⟨true,_,⟨hm,(Ext.refl _),q,rfl⟩,rfl⟩
  ·refine rr 4 ?_;refine rb 11 hm (fun hm=>?_) (fun hm=>?_)
   ·refine rm 6 ?_;exact⟨true,_,⟨hm,(Ext.refl _),q,rfl⟩,rfl⟩
   ·refine rr 1 ?_;refine l1 ((q.b 0 rfl).box) 4 ?_;refine rr 1 ?_;obtain⟨e1,J0,hm⟩:=bS hm;refine ca zuk (zeE (hE.trans q.ext) h6 J0) (fun E1 N1 v0=>?_);obtain⟨rfl,b0⟩:=v0;have B0:=q.join b0;refine rm 2 ?_;exact⟨!e1,_,⟨hm,b0.ext,B0,rfl⟩,rfl⟩

theorem zwg:EN 58:=en Tryz.func58
def z5b (fu:Nat)(x0:Qv)(o:LB×LD):Option (QV×Int):=(if(decide ((w64 ((o.1.length:Int)+1))>600))=true then some ((⟨[]⟩:QV),4) else((z1X fu x0.Qk).bind fun q=>((zt fu x0).bind fun G=>(if decide ((q.length:Int)+(G.length:Int)≤4294967296)=true then((z8Q fu o.1 o.2 (q++G)).bind fun H=>some (H,0)) else none))))
def z8T (fu:Nat)(q:Int×LB×LD)(o:LB×LD):Option (Rd (Int×LB×LD) (LB×LD) (QV×Int)):=some (.next (w64 (q.1+1),o.1,o.2))
def z1G (fu:Nat)(q:Int×LB×LD)(o:LB×LD):Option (Rd (Int×LB×LD) (LB×LD) (Rd (Int×LB×LD) (LB×LD) (QV×Int))):=some (.next (w64 (q.1+1),o.1,o.2))
def z1H (fu:Nat)(O:Int×LB×LD)(H:LE)(o:Int×LB×LD):Option (Rd (Int×LB×LD) (LB×LD) (Rd (Int×LB×LD) (LB×LD) (QV×Int))):=(if(decide (o.1<(H.length:Int)))=true then((idx H o.1).bind fun q=>(if(q.Qi == 3)=true then(if decide ((o.2.1.length:Int)+(([q.Qz]:LB).length:Int)≤4294967296)=true then((z2Q fu O.1 o.1).bind fun G=>(if decide ((o.2.2.length:Int)+(([G]:LD).length:Int)≤4294967296)=true then z1G fu o ((o.2.1++([q.Qz]:LB)),(o.2.2++([G]:LD))) else none)) else none) else z1G fu o (o.2.1,o.2.2))) else some (.brk (o.2.1,o.2.2)))
def zR (fu:Nat)(x0:Qv)(q:Int×LB×LD):Option (Rd (Int×LB×LD) (LB×LD) (QV×Int)):=(if(decide (q.1<(x0.Qd.length:Int)))=true then((idx x0.Qd q.1).bind fun G=>((iter (z1H fu q G) fu (0,q.2.1,q.2.2)).bind fun o=>aft o (z8T fu q))) else some (.brk (q.2.1,q.2.2)))
def z3Y (fu:Nat)(x0:Qv):Option (QV×Int):=((z3C fu x0.Qk).bind fun q=>((iter (zR fu x0) fu (0,q.1,q.2)).bind fun o=>aft o (z5b fu x0)))

theorem zd1 (hE:Ext W w){H0:Addr}{J2:List Value}{x0:Qv}(M2:ty52.ro W J2 x0)(M1:At W H0 J2){fu:Nat}{r:QV×Int}(hm:z3Y fu x0=some r):
  CL 58 ⟨[.pointer (some H0)]⟩ w (Ret fun v w8=>∃ A0 k0,v=.tuple ⟨[.agg ⟨[sl A0 r.1.QG k0]⟩,iv r.2]⟩∧St w w8 [ow ty28 A0 r.1.QG k0]):=by
 obtain⟨A1,k2,A4,k5,A7,F3,t3,G3,u3,H3,U2,h3,h6,C3,D3,E3⟩:=z7A M2;subst U2;refine into Tryz.func58 65 _ ?_;unfold z3Y at hm;have hS:=St.start w;refine sg<|nw hS (fun i0 V3 B3 i1=>?_);refine rm 1 ?_;refine sg<|rr 3 ?_;obtain⟨N3,t2,hm⟩:=bS hm;refine ca zwv (zea (hE.trans i1.ext) (z6x x0.Qk h3) (At.sub M1 0 4) t2) (fun R3 W3 X1=>?_);obtain⟨P2,a3,Q2,b3,rfl,Y1⟩:=X1;have j1:=i1.join Y1;refine rm 5 ?_;refine sq<|sg<|rr 3 ?_;refine l1 (ax hE j1 M1) 4 ?_;refine rm 2 ?_;obtain⟨d3,q2,hm⟩:=bS hm;refine ct (fun(J0:LB×LD) F w9=>∃ R1 E2 S1 F2,d3=.inl J0∧St w w9 [Own (zaF W) [sl R1 J0.1 E2] J0.1,ow ty82 S1 J0.2 F2,Box i0 [.slice none 0 0] 30]∧F=[(0,.pointer (some H0)),(2,.pointer (some ⟨i0,0,none⟩)),(4,sl R1 J0.1 E2),(5,sl S1 J0.2 F2)]) ?_ ?_
 ·rintro J0 F X3 ⟨R1,E2,S1,F2,r2,G0,rfl⟩;subst r2;rw[z8] at hm;unfold z5b at hm;refine sq<|sg<|rm 4 ?_;refine ci hm (fun hm=>?_) (fun hm=>?_)
  ·refine sg<|qt (qb) ?_;have i2:=G0.b 2 rfl;refine so (A:=[]) i2 0 (fun Y3 m1=>?_);refine rm 1 ?_;refine rt ?_;cases hm;have j2:=m1.nilSl z8n 118;exact⟨_,.cons (ra ((m1.b 0 rfl).box)) (tR rfl),none,0,rfl,(j2.t 1)⟩
  ·refine sp<|sg<|rr 5 ?_;obtain⟨O3,u2,hm⟩:=bS hm;refine ca zqe (zav (hE.trans G0.ext) (z6x x0.Qk h3) (At.sub M1 0 4) u2) (fun S3 a4 a2=>?_);obtain⟨v3,J3,rfl,b2⟩:=a2;have n1:=G0.join b2;refine rr 1 ?_;obtain⟨P3,v2,hm⟩:=bS hm;refine ca zoe (z6j (hE.trans n1.ext) M2 M1 v2) (fun T3 b4 d2=>?_);obtain⟨y3,K3,rfl,e2⟩:=d2;have m2:=n1.join e2;have p1:=m2.b 1 rfl;obtain⟨p2,hm⟩:=iS hm;refine ap (Flat.map (Flat.pair (Flat.map (Flat.pair (Flat.map fL0) fL1)) (Flat.pair (Flat.map (Flat.pair (Flat.map fL0) fL1)) Flat.unit))) p1 ((p1.b 1 rfl).own) p2 (fun A3 L3 c4 r0=>?_);obtain⟨Q3,y2,hm⟩:=bS hm;refine ca zwu (zhF (Ext.refl _) (zy6 zmS (St.ownE (W0:=W) hE (r0.b 2 rfl))) ((r0.b 3 rfl).own) ((r0.b 0 rfl).own) y2) (fun U3 d4 f2=>?_);obtain⟨R2,c3,rfl,g2⟩:=f2;have n2:=r0.join g2;have o2:=n2.b 5 rfl;refine so (A:=[]) o2 0 (fun e4 s1=>?_);refine rm 1 ?_;refine rt ?_;cases hm;exact⟨_,.cons (ra ((s1.b 0 rfl).box)) (tR rfl),R2,c3,rfl,((s1.b 1 rfl).t 1)⟩
 ·refine bk<|wk [0,2,4,5,20,21,22] ?_;refine it (fun(b0:Int×LB×LD) F w9=>∃ L0 K1 M0 L1,St w w9 [Own (zaF W) [sl L0 b0.2.1 K1] b0.2.1,ow ty82 M0 b0.2.2 L1,Box i0 [.slice none 0 0] 30]∧F=[(0,.pointer (some H0)),(2,.pointer (some ⟨i0,0,none⟩)),(4,sl L0 b0.2.1 K1),(5,sl M0 b0.2.2 L1),(20,sl A4 x0.Qd k5),(21,iv (x0.Qd.length:Int)),(22,iv b0.1)]) q2 ⟨P2,a3,Q2,b3,j1,rfl⟩ ?_;rintro b0 F f4 _ M3 ⟨L0,K1,M0,L1,t0,rfl⟩ G s2;unfold zR at G;refine sg<|rm 1 ?_;refine sq<|ci G (fun G=>?_) (fun G=>?_)
  ·refine sp<|sq<|bk<|sg<|rr 1 ?_;obtain⟨C0,F1,G⟩:=bS G;refine ix (hE.trans t0.ext) h6 F1 (fun e3 K2 t1 F0=>?_);obtain⟨K0,J1,T1⟩:=z3E F0;subst T1;refine l1 (ax hE t0 t1) 0 ?_;refine rm 2 ?_;refine sg<|rm 3 ?_;obtain⟨G2,B1,G⟩:=bS G;refine ct (fun(X:LB×LD) F w9=>∃ j0 u0 o0 v0,G2=.inl X∧St w w9 [Own (zaF W) [sl j0 X.1 u0] X.1,ow ty82 o0 X.2 v0,Box i0 [.slice none 0 0] 30]∧F=[(0,.pointer (some H0)),(2,.pointer (some ⟨i0,0,none⟩)),(4,sl j0 X.1 u0),(5,sl o0 X.2 v0),(20,sl A4 x0.Qd k5),(21,iv (x0.Qd.length:Int)),(22,iv b0.1)]) ?_ ?_
   ·rintro X F i3 ⟨j0,u0,o0,v0,C1,P0,rfl⟩;subst C1;rw[z8] at G;unfold z8T at G;refine rg<|rm 2 ?_;cases G;exact⟨_,_,rfl,⟨j0,u0,o0,v0,P0,rfl⟩,rfl⟩
   ·refine bk<|wk [0,2,4,5,6,20,21,22,27,28,29] ?_;refine it (fun(q:Int×LB×LD) F w9=>∃ c0 f0 e0 g0,St w w9 [Own (zaF W) [sl c0 q.2.1 f0] q.2.1,ow ty82 e0 q.2.2 g0,Box i0 [.slice none 0 0] 30]∧F=[(0,.pointer (some H0)),(2,.pointer (some ⟨i0,0,none⟩)),(4,sl c0 q.2.1 f0),(5,sl e0 q.2.2 g0),(6,iv b0.1),(20,sl A4 x0.Qd k5),(21,iv (x0.Qd.length:Int)),(22,iv b0.1),(27,sl K0 C0 J1),(28,iv (C0.length:Int)),(29,iv q.1)]) B1 ⟨L0,K1,M0,L1,t0,rfl⟩ ?_;rintro q F j3 _ H2 ⟨c0,f0,e0,g0,Z,rfl⟩ o D1;unfold z1H at o;refine sg<|rm 1 ?_;refine sq<|ci o (fun o=>?_) (fun o=>?_)
    ·refine sp<|sq<|bk<|sg<|rr 1 ?_;obtain⟨H,G1,o⟩:=bS o;refine ix (hE.trans Z.ext) F0 G1 (fun f3 L2 u1 E1=>?_);obtain⟨N1,A2,O1,B2,U1,V1,W1⟩:=z3D E1;subst U1;refine lN (ax hE Z u1) ?_;refine nw Z (fun W2 k3 S2 Q0=>?_);refine rr 1 ?_;have R0:=Q0.b 0 rfl;refine so (A:=[]) R0 0 (fun m3 a0=>?_);refine rn<|sg<|rr 1 ?_;refine l1 ((a0.b 0 rfl).box) 0 ?_;refine rm 1 ?_;refine ct (fun(Y:LB×LD) F w9=>∃ p0 y0 q0 B0,z1G fu q Y=some H2∧St w w9 [Own (zaF W) [sl p0 Y.1 y0] Y.1,ow ty82 q0 Y.2 B0,Box i0 [.slice none 0 0] 30]∧F=[(0,.pointer (some H0)),(2,.pointer (some ⟨i0,0,none⟩)),(4,sl p0 Y.1 y0),(5,sl q0 Y.2 B0),(6,iv b0.1),(20,sl A4 x0.Qd k5),(21,iv (x0.Qd.length:Int)),(22,iv b0.1),(27,sl K0 C0 J1),(28,iv (C0.length:Int)),(29,iv q.1)]) ?_ ?_
     ·rintro Y F n3 ⟨p0,y0,q0,B0,o,S0,rfl⟩;unfold z1G at o;refine rg<|rm 2 ?_;cases o;exact⟨_,_,rfl,⟨p0,y0,q0,B0,S0,rfl⟩,rfl⟩
     ·refine ci o (fun o=>?_) (fun o=>?_)
      ·refine rg<|rr 2 ?_;refine lN (At.sub ((a0.b 0 rfl).box) 1 5) ?_;have T0:=St.noEl (z9v W) a0;have U0:=St.bor (T:=ty82) (x:=H.Qz.QM) T0 W1;have V0:=St.bor (T:=ty45) (x:=H.Qz.Data) U0 V1;have X0:=zdC (W0:=W) (c:=H.Qz) (B:=_) V0;have Y0:=St.consEl X0;refine ns (U:=(z9v W)) (els:=[iv H.Qz.Qi,iv H.Qz.QC,iv H.Qz.Value,.slice N1 H.Qz.Data.length A2,.slice O1 H.Qz.QM.length B2]) (ys:=[H.Qz]) Y0 (fun N2 X2 o3 T2 a1=>?_);have b1:=a1.b 2 rfl;have d1:=b1.b 1 rfl;obtain⟨v1,o⟩:=iS o;refine ao d1 v1 (fun P1 C2 p3 D0=>?_) (hpos:=(Nat.le_of_ble_eq_true rfl));refine rr 3 ?_;obtain⟨O,H1,o⟩:=bS o;refine ca zod (zbk (hE.trans D0.ext)  H1) (fun g3 q3 N0=>?_);obtain⟨rfl,O0⟩:=N0;have e1:=D0.join O0;refine ns (e1.flatEls (U:=ty34) (els:=[iv O.Qj,iv O.Qi,iv O.Qo]) (ys:=[O]) ⟨[iv O.Qj,iv O.Qi,iv O.Qo],_,[],[],rfl,rfl,(z8q (c:=O) rfl),⟨rfl,rfl⟩⟩) (fun O2 Y2 r3 V2 f1=>?_);have E0:=f1.b 3 rfl;obtain⟨y1,o⟩:=iS o;refine ap (Flat.map fL0) E0 ((E0.b 1 rfl).own) y1 (fun Q1 D2 s3 g1=>?_);refine rm 2 ?_;exact⟨((q.2.1++([H.Qz]:LB)),(q.2.2++([O]:LD))),_,⟨P1,C2,Q1,D2,o,(g1.sel [2,0,4]),rfl⟩,rfl⟩
      ·refine sp ?_;exact⟨(q.2.1,q.2.2),_,⟨c0,f0,e0,g0,o,(a0.sel [1,2,3]),rfl⟩,rfl⟩
    ·refine xt ?_;cases o;exact⟨_,_,⟨c0,f0,e0,g0,D1,Z,rfl⟩,rfl⟩
  ·refine xt ?_;cases G;exact⟨_,_,⟨L0,K1,M0,L1,s2,t0,rfl⟩,rfl⟩

theorem zqf:EN 19:=en Tryz.func19
def z1Y (fu:Nat)(x0:Qv):Option (QV×Int):=((z59 fu x0).bind fun q=>(if(!q)=true then some ((⟨[]⟩:QV),1) else((z3Y fu x0).bind fun o=>some (o.1,o.2))))

theorem zax (hE:Ext W w){o0:List Value}{x0:Qv}(O:ty52.ro W o0 x0){fu:Nat}{r:QV×Int}(hm:z1Y fu x0=some r):
  CL 19 ⟨[.agg ⟨o0⟩]⟩ w (Ret fun v w8=>∃ A0 k0,v=.tuple ⟨[.agg ⟨[sl A0 r.1.QG k0]⟩,iv r.2]⟩∧St w w8 [ow ty28 A0 r.1.QG k0]):=by
 obtain⟨A1,k2,A4,k5,A7,G0,t0,H0,u0,J0,q0,h3,h6,D0,E0,F0⟩:=z7A O;subst q0;refine into Tryz.func19 11 _ ?_;unfold z1Y at hm;have hS:=St.start w;refine sg<|nw hS (fun B0 O0 v0 b0=>?_);refine nw b0 (fun C0 P0 y0 q=>?_);refine rm 1 ?_;refine sq<|sg<|lN ((q.b 1 rfl).box) ?_;obtain⟨K0,i0,hm⟩:=bS hm;refine ca zwh (zfa (hE.trans q.ext) O i0) (fun M0 Q0 X=>?_);obtain⟨rfl,Y⟩:=X;have o:=q.join Y;refine rm 1 ?_;refine ci hm (fun hm=>?_) (fun hm=>?_)
 ·refine sg<|qt (qb) ?_;have c0:=o.b 0 rfl;refine so (A:=[]) c0 0 (fun R0 G=>?_);refine rm 1 ?_;refine rt ?_;cases hm;have e0:=G.nilSl z8n 118;exact⟨_,.cons (ra ((G.b 0 rfl).box)) (tR rfl),none,0,rfl,(e0.t 1)⟩
 ·refine sp<|sq<|rg ?_;obtain⟨L0,j0,hm⟩:=bS hm;refine ca zwg (zd1 (Ext.refl _) (ty52.ext (hE.trans o.ext) O) ((o.b 1 rfl).box) j0) (fun N0 S0 Z=>?_);obtain⟨p0,r0,rfl,a0⟩:=Z;have f0:=o.join a0;refine rr 2 ?_;have g0:=f0.b 1 rfl;refine so (A:=[]) g0 0 (fun T0 H=>?_);refine rm 1 ?_;refine rt ?_;cases hm;exact⟨_,.cons (ra ((H.b 0 rfl).box)) (tR rfl),p0,r0,rfl,((H.b 1 rfl).t 1)⟩

theorem zjq:EN 169:=en Tryz.func169
def z98 (fu:Nat)(t2:Unit):Option Bool:=some true
def z49 (fu:Nat)(x0:L9)(x1:Int)(s1:Int):Option (Rd (Int) (Unit) (Bool)):=(if(decide (s1<x1))=true then((idx x0 s1).bind fun q=>((zS fu q 0 1000000000).bind fun o=>(if(!o)=true then some (.ret false) else some (.next (w64 (s1+1)))))) else some (.brk ()))
def z3f (fu:Nat)(x0:L9)(x1:Int):Option (Bool):=(if((x0.length:Int) != x1)=true then some false else((iter (z49 fu x0 x1) fu 0).bind fun o=>aft o (z98 fu)))

theorem z9T (hE:Ext W w){X:Option Addr}{i0:Nat}{x0:L9}{x1:Int}(o0:ty45.ro W [sl X x0 i0] x0){fu:Nat}{r:Bool}(hm:z3f fu x0 x1=some r):
  CL 169 ⟨[sl X x0 i0,iv x1]⟩ w (RB w r):=by
 refine into Tryz.func169 21 _ ?_;unfold z3f at hm;have hS:=St.start w;refine sg<|rm 1 ?_;refine sq<|sg<|rm 4 ?_;refine ci hm (fun hm=>?_) (fun hm=>?_)
 ·refine sg<|rm 1 ?_;refine rt ?_;cases hm;exact⟨_,tR rfl,rfl,hS⟩
 ·refine sp<|sq<|sg<|rm 1 ?_;obtain⟨p0,b0,hm⟩:=bS hm;refine ct (fun(t2:Unit) F w9=>p0=.inl t2∧Ext w w9∧St w w9 []∧F=[]) ?_ ?_
  ·rintro t2 F w7 ⟨c0,q0,Z,rfl⟩;subst c0;rw[z8] at hm;unfold z98 at hm;refine sg<|rm 1 ?_;refine rt ?_;cases hm;exact⟨_,tR rfl,rfl,Z⟩
  ·refine bk<|wk [0,1,5] ?_;refine it (fun(s1:Int) F w9=>Ext w w9∧St w w9 []∧F=[(0,sl X x0 i0),(1,iv x1),(5,iv s1)]) b0 ⟨(Ext.refl _),hS,rfl⟩ ?_;rintro s1 F y0 _ r0 ⟨j0,q,rfl⟩ o O;unfold z49 at o;refine sq<|sg<|rm 3 ?_;refine ci o (fun o=>?_) (fun o=>?_)
   ·refine sp<|sq<|bk<|sg<|rr 2 ?_;obtain⟨B0,f0,o⟩:=bS o;refine ix (hE.trans q.ext) o0 f0 (fun t0 k0 a0 e0=>?_);cases e0;refine l1 (ax hE q a0) 0 ?_;obtain⟨u0,g0,o⟩:=bS o;refine ca z6w (z1d (hE.trans q.ext)  g0) (fun v0 A0 Y=>?_);obtain⟨rfl,G⟩:=Y;have H:=q.join G;refine rm 1 ?_;refine ci o (fun o=>?_) (fun o=>?_)
    ·refine sg<|rm 1 ?_;refine rt ?_;cases o;cases O;have hm:some _=some _:=hm;cases hm;exact⟨_,tR rfl,rfl,H⟩
    ·refine sp<|rg<|rm 3 ?_;cases o;exact⟨_,_,rfl,⟨(j0.trans G.ext),H,rfl⟩,rfl⟩
   ·refine xt ?_;cases o;exact⟨_,_,⟨O,j0,q,rfl⟩,rfl⟩

theorem zt8:EN 240:=en Tryz.func240
def zdk (fu:Nat)(t2:Unit):Option Bool:=some true
def z93 (fu:Nat)(x0:L9)(x1:L9)(s1:Int):Option (Rd (Int) (Unit) (Bool)):=(if(decide (s1<(x0.length:Int)))=true then((idx x0 s1).bind fun o=>((idx x1 s1).bind fun q=>(if(o != q)=true then some (.ret false) else some (.next (w64 (s1+1)))))) else some (.brk ()))
def z9e (fu:Nat)(x0:L9)(x1:L9):Option (Bool):=(if((x0.length:Int) != (x1.length:Int))=true then some false else((iter (z93 fu x0 x1) fu 0).bind fun o=>aft o (zdk fu)))

theorem ziy (hE:Ext W w){X:Option Addr}{k0:Nat}{x0:L9}{Y:Option Addr}{o0:Nat}{x1:L9}(t0:ty45.ro W [sl X x0 k0] x0)(u0:ty45.ro W [sl Y x1 o0] x1){fu:Nat}{r:Bool}(hm:z9e fu x0 x1=some r):
  CL 240 ⟨[sl X x0 k0,sl Y x1 o0]⟩ w (RB w r):=by
 refine into Tryz.func240 26 _ ?_;unfold z9e at hm;have hS:=St.start w;refine sg<|rm 1 ?_;refine sq<|sg<|rm 5 ?_;refine ci hm (fun hm=>?_) (fun hm=>?_)
 ·refine sg<|rm 1 ?_;refine rt ?_;cases hm;exact⟨_,tR rfl,rfl,hS⟩
 ·refine sp<|sq<|sg<|rm 1 ?_;obtain⟨v0,c0,hm⟩:=bS hm;refine ct (fun(t2:Unit) F w9=>v0=.inl t2∧Ext w w9∧St w w9 []∧F=[]) ?_ ?_
  ·rintro t2 F w7 ⟨e0,y0,Z,rfl⟩;subst e0;rw[z8] at hm;unfold zdk at hm;refine sg<|rm 1 ?_;refine rt ?_;cases hm;exact⟨_,tR rfl,rfl,Z⟩
  ·refine bk<|wk [0,1,5] ?_;refine it (fun(s1:Int) F w9=>Ext w w9∧St w w9 []∧F=[(0,sl X x0 k0),(1,sl Y x1 o0),(5,iv s1)]) c0 ⟨(Ext.refl _),hS,rfl⟩ ?_;rintro s1 F D0 _ A0 ⟨p0,q,rfl⟩ o O;unfold z93 at o;refine sq<|sg<|rm 4 ?_;refine ci o (fun o=>?_) (fun o=>?_)
   ·refine sp<|sq<|bk<|sq<|dn 0 mixed 9 [([],511),([],511),([0,1],508),([2],507),([],511),([],511),([4,5],463),([6],447),([3,7],375)] q.ext (fun G=>?_);have H:=q.step (Ext.draw _);refine dr 5 G [0,1,4,5] ?_;obtain⟨E0,i0,o⟩:=bS o;refine dx (hE.trans q.ext) G 2 t0 i0 (fun B0 q0 a0 f0=>?_);cases f0;refine dl G 3 (ax hE q a0) 0 ?_;obtain⟨F0,j0,o⟩:=bS o;refine dx (hE.trans q.ext) G 6 u0 j0 (fun C0 r0 b0 g0=>?_);cases g0;refine dl G 7 (ax hE q b0) 0 ?_;refine dr 0 G [8] ?_;refine dw [0,1,5,25] ?_;refine dd G ?_;refine ci o (fun o=>?_) (fun o=>?_)
    ·refine sg<|rm 1 ?_;refine rt ?_;cases o;cases O;have hm:some _=some _:=hm;cases hm;exact⟨_,tR rfl,rfl,H⟩
    ·refine sp<|rg<|rm 3 ?_;cases o;exact⟨_,_,rfl,⟨(p0.trans (Ext.draw _)),H,rfl⟩,rfl⟩
   ·refine xt ?_;cases o;exact⟨_,_,⟨O,p0,q,rfl⟩,rfl⟩

theorem zt7:EN 241:=en Tryz.func241
def z96 (fu:Nat)(t2:Unit):Option Bool:=some true
def z2V (fu:Nat)(x0:LD)(x1:LD)(s1:Int):Option (Rd (Int) (Unit) (Bool)):=(if(decide (s1<(x0.length:Int)))=true then((idx x0 s1).bind fun o=>((idx x1 s1).bind fun q=>(if(!(((o.Qj:Int) == q.Qj) && (((o.Qi:Int) == q.Qi) && (((o.Qo:Int) == q.Qo) && true))))=true then some (.ret false) else some (.next (w64 (s1+1)))))) else some (.brk ()))
def z2B (fu:Nat)(x0:LD)(x1:LD):Option (Bool):=(if((x0.length:Int) != (x1.length:Int))=true then some false else((iter (z2V fu x0 x1) fu 0).bind fun o=>aft o (z96 fu)))

theorem zdb (hE:Ext W w){X:Option Addr}{k0:Nat}{x0:LD}{Y:Option Addr}{o0:Nat}{x1:LD}(v0:ty82.ro W [sl X x0 k0] x0)(y0:ty82.ro W [sl Y x1 o0] x1){fu:Nat}{r:Bool}(hm:z2B fu x0 x1=some r):
  CL 241 ⟨[sl X x0 k0,sl Y x1 o0]⟩ w (RB w r):=by
 refine into Tryz.func241 26 _ ?_;unfold z2B at hm;have hS:=St.start w;refine sg<|rm 1 ?_;refine sq<|sg<|rm 5 ?_;refine ci hm (fun hm=>?_) (fun hm=>?_)
 ·refine sg<|rm 1 ?_;refine rt ?_;cases hm;exact⟨_,tR rfl,rfl,hS⟩
 ·refine sp<|sq<|sg<|rm 1 ?_;obtain⟨A0,c0,hm⟩:=bS hm;refine ct (fun(t2:Unit) F w9=>A0=.inl t2∧Ext w w9∧St w w9 []∧F=[]) ?_ ?_
  ·rintro t2 F w7 ⟨e0,B0,Z,rfl⟩;subst e0;rw[z8] at hm;unfold z96 at hm;refine sg<|rm 1 ?_;refine rt ?_;cases hm;exact⟨_,tR rfl,rfl,Z⟩
  ·refine bk<|wk [0,1,5] ?_;refine it (fun(s1:Int) F w9=>Ext w w9∧St w w9 []∧F=[(0,sl X x0 k0),(1,sl Y x1 o0),(5,iv s1)]) c0 ⟨(Ext.refl _),hS,rfl⟩ ?_;rintro s1 F F0 _ C0 ⟨p0,q,rfl⟩ o O;unfold z2V at o;refine sq<|sg<|rm 4 ?_;refine ci o (fun o=>?_) (fun o=>?_)
   ·refine sp<|sq<|bk<|sq<|dn 0 mixed 9 [([],511),([],511),([0,1],508),([2],507),([],511),([],511),([4,5],463),([6],447),([3,7],375)] q.ext (fun G=>?_);have H:=q.step (Ext.draw _);refine dr 5 G [0,1,4,5] ?_;obtain⟨G0,i0,o⟩:=bS o;refine dx (hE.trans q.ext) G 2 v0 i0 (fun D0 t0 a0 f0=>?_);have q0:=z1f f0;subst q0;refine dL G 3 (ax hE q a0) ?_;obtain⟨H0,j0,o⟩:=bS o;refine dx (hE.trans q.ext) G 6 y0 j0 (fun E0 u0 b0 g0=>?_);have r0:=z1f g0;subst r0;refine dL G 7 (ax hE q b0) ?_;refine dr 0 G [8] ?_;refine dw [0,1,5,25] ?_;refine dd G ?_;refine ci o (fun o=>?_) (fun o=>?_)
    ·refine sg<|rm 1 ?_;refine rt ?_;cases o;cases O;have hm:some _=some _:=hm;cases hm;exact⟨_,tR rfl,rfl,H⟩
    ·refine sp<|rg<|rm 3 ?_;cases o;exact⟨_,_,rfl,⟨(p0.trans (Ext.draw _)),H,rfl⟩,rfl⟩
   ·refine xt ?_;cases o;exact⟨_,_,⟨O,p0,q,rfl⟩,rfl⟩

theorem ztt:EN 213:=en Tryz.func213
def z5y (fu:Nat)(x0:Qa)(x1:Qa):Option (Bool):=(if(x0.Qi == x1.Qi)=true then(if(x0.QC == x1.QC)=true then(if(x0.Value == x1.Value)=true then((z9e fu x0.Data x1.Data).bind fun o=>(if o=true then((z2B fu x0.QM x1.QM).bind fun q=>some q) else some false)) else some false) else some false) else some false)

theorem zfq (hE:Ext W w){i0:Addr}{f0:List Value}{x0:Qa}{j0:Addr}{g0:List Value}{x1:Qa}(o0:z90.ro W f0 x0)(H:At W i0 f0)(r0:z90.ro W g0 x1)(O:At W j0 g0){fu:Nat}{r:Bool}(hm:z5y fu x0 x1=some r):
  CL 213 ⟨[.pointer (some i0),.pointer (some j0)]⟩ w (RB w r):=by
 obtain⟨A1,k2,A4,k5,e7,h3,h6⟩:=zO o0;subst e7;obtain⟨t0,v0,u0,y0,k0,p0,q0⟩:=zO r0;subst k0;refine into Tryz.func213 58 _ ?_;unfold z5y at hm;have hS:=St.start w;refine sg<|rm 1 ?_;refine sq<|dn 0 mixed 54 [([],18014398509481983),([0],18014398509481982),([1],18014398509481981),([2],18014398509481979),([],18014398509481983),([4],18014398509481967),([5],18014398509481951),([6],18014398509481919),([3,7],18014398509481847),([8],18014398509481727),([9],18014398509481471),([10,9],18014398509480447),([11,9],18014398509479423),([12,9],18014398509477375),([9],18014398509481471),([14,9],18014398509465087),([15,9],18014398509448703),([16,9],18014398509415935),([13,17,9],18014398509342207),([9,18],18014398509219327),([19,9],18014398508957695),([20],18014398508433407),([21,20],18014398506336255),([22,20],18014398504239103),([23,20],18014398500044799),([20],18014398508433407),([25,20],18014398474878975),([26,20],18014398441324543),([27,20],18014398374215679),([24,28,20],18014398223220735),([20,29],18014397971562495),([30,20],18014397435740159),([31],18014396361998335),([32,31],18014392067031039),([33,31],18014387772063743),([34,31],18014379182129151),([31],18014396361998335),([36,31],18014327642521599),([37,31],18014258923044863),([38,31],18014121484091391),([35,39,31,31],18013812246446079),([31,40],18013296850370559),([41,40],18012199486226431),([42],18010000462970879),([43,42],18001204369948671),([44,42],17992408276926463),([45,42],17974816090882047),([42],18010000462970879),([47,42],17869262974615551),([48,42],17728525486260223),([49,42],17447050509549567),([46,50,42,42],16813731811950591),([42,51],15758200649285631),([52,51,0,1,2,3,4,5,6,7,8,9,10,11,12,13,14,15,16,17,18,19,20,21,22,23,24,25,26,27,28,29,30,31,32,33,34,35,36,37,38,39,40,41,42,43,44,45,46,47,48,49,50,51,52],13510798882111487)] hS.ext (fun o=>?_);have q:=hS.step (Ext.draw _);refine dr 48 o [0,1,2,4,5,6] ?_;refine dl o 3 (ax hE hS H) 0 ?_;refine dl o 7 (ax hE hS O) 0 ?_;refine dr 44 o [8,9] ?_;refine dw [0,1,4,14] ?_;refine db 14 hm (fun hm=>?_) (fun hm=>?_)
 ·refine dr 38 o [10,11,12,14,15,16] ?_;refine dl o 13 (ax hE hS H) 1 ?_;refine dl o 17 (ax hE hS O) 1 ?_;refine dr 33 o [18,19,20] ?_;refine dw [0,1,4,25] ?_;refine db 25 hm (fun hm=>?_) (fun hm=>?_)
  ·refine dr 27 o [21,22,23,25,26,27] ?_;refine dl o 24 (ax hE hS H) 2 ?_;refine dl o 28 (ax hE hS O) 2 ?_;refine dr 22 o [29,30,31] ?_;refine dw [0,1,4,36] ?_;refine db 36 hm (fun hm=>?_) (fun hm=>?_)
   ·refine dr 16 o [32,33,34,36,37,38] ?_;refine dl o 35 (ax hE hS H) 3 ?_;refine dl o 39 (ax hE hS O) 3 ?_;obtain⟨A0,c0,hm⟩:=bS hm;refine o1 o 40 (mc o zt8 (ziy (hE.trans q.ext) h3 p0 c0) (fun C0 E0 Z=>?_));obtain⟨rfl,X⟩:=Z;refine⟨X.ext,?_⟩;have G:=q.join X;refine dr 11 o [41,42] ?_;refine dw [0,1,4,47] ?_;refine db 47 hm (fun hm=>?_) (fun hm=>?_)
    ·refine dr 5 o [43,44,45,47,48,49] ?_;refine dw [4,47,50,54] ?_;refine dl o 46 (ax hE hS H) 4 ?_;refine dl o 50 (ax hE hS O) 4 ?_;obtain⟨B0,e0,hm⟩:=bS hm;refine o1 o 51 (mc o zt7 (zdb (hE.trans G.ext) h6 q0 e0) (fun D0 F0 a0=>?_));obtain⟨rfl,Y⟩:=a0;refine⟨Y.ext,?_⟩;have b0:=G.join Y;refine dr 0 o [52,53] ?_;refine dw [4] ?_;refine dd o ?_;refine rt ?_;cases hm;exact⟨_,tR rfl,rfl,b0⟩
    ·refine dr 0 o [43,44,45,46,47,48,49,50,51,52,53] ?_;refine dw [4] ?_;refine dd o ?_;refine rt ?_;cases hm;exact⟨_,tR rfl,rfl,G⟩
   ·refine dr 0 o [32,33,34,35,36,37,38,39,40,41,42,43,44,45,46,47,48,49,50,51,52,53] ?_;refine dw [4] ?_;refine dd o ?_;refine rt ?_;cases hm;exact⟨_,tR rfl,rfl,q⟩
  ·refine dr 0 o [21,22,23,24,25,26,27,28,29,30,31,32,33,34,35,36,37,38,39,40,41,42,43,44,45,46,47,48,49,50,51,52,53] ?_;refine dw [4] ?_;refine dd o ?_;refine rt ?_;cases hm;exact⟨_,tR rfl,rfl,q⟩
 ·refine dr 0 o [10,11,12,13,14,15,16,17,18,19,20,21,22,23,24,25,26,27,28,29,30,31,32,33,34,35,36,37,38,39,40,41,42,43,44,45,46,47,48,49,50,51,52,53] ?_;refine dw [4] ?_;refine dd o ?_;refine rt ?_;cases hm;exact⟨_,tR rfl,rfl,q⟩

theorem ztR:EN 170:=en Tryz.func170
def z7E (fu:Nat)(x0:Qh)(x1:Int):Option (Bool):=((z5y fu x0.Qz (⟨0,0,0,[],[]⟩:Qa)).bind fun o=>(if(x0.Qi == 1)=true then(if o=true then some (x0.A.Qj == x1) else some false) else(if(x0.Qi == 2)=true then(if o=true then(if(x0.A.Qj == x1)=true then some (x0.A.Qi == 2) else some false) else some false) else(if(x0.Qi == 3)=true then(if(x0.Qz.Qi != 0)=true then((z5r fu x0.Qz).bind fun q=>(if q=true then(if(((x0.A.Qj:Int) == 0) && (((x0.A.Qi:Int) == 0) && (((x0.A.Qo:Int) == 0) && true)))=true then some (x0.B.Qj == x1) else some false) else some false)) else some false) else(if(x0.Qi == 4)=true then(if o=true then(if(((x0.A.Qj:Int) == 0) && (((x0.A.Qi:Int) == 0) && (((x0.A.Qo:Int) == 0) && true)))=true then some (((x0.B.Qj:Int) == 0) && (((x0.B.Qi:Int) == 0) && (((x0.B.Qo:Int) == 0) && true))) else some false) else some false) else some false)))))

theorem zgB (hE:Ext W w){r0:Addr}{q0:List Value}{x0:Qh}{x1:Int}(t0:zdA.ro W q0 x0)(H:At W r0 q0){fu:Nat}{r:Bool}(hm:z7E fu x0 x1=some r):
  CL 170 ⟨[.pointer (some r0),iv x1]⟩ w (RB w r):=by
 obtain⟨A1,k2,A4,k5,e7,h3,h6⟩:=z3D t0;subst e7;refine into Tryz.func170 100 _ ?_;unfold z7E at hm;have hS:=St.start w;refine sg<|rm 1 ?_;refine sg<|qt (qb) ?_;refine nw hS (fun y0 F0 u0 f0=>?_);have g0:=f0.b 0 rfl;refine so (A:=[]) g0 0 (fun G0 i0=>?_);refine rn<|sg<|qt (qb) ?_;refine nw i0 (fun A0 H0 v0 j0=>?_);have k0:=j0.b 0 rfl;refine so (A:=[]) k0 0 (fun J0 O=>?_);refine rn<|sg<|rr 3 ?_;obtain⟨B0,o0,hm⟩:=bS hm;refine ca ztt (zfq (Ext.refl _) (z6y x0.Qz (ty45.ext (hE.trans O.ext) h3) (ty82.ext (hE.trans O.ext) h6)) (At.sub (ax hE O H) 1 5) (z6y (⟨0,0,0,[],[]⟩:Qa) (zp1 z2z 2 _) (zp1 ty34 34 _)) ((O.b 0 rfl).box) o0) (fun D0 K0 b0=>?_);obtain⟨rfl,c0⟩:=b0;have o:=O.join c0;refine rm 1 ?_;refine sq<|sg<|rr 3 ?_;refine l1 (ax hE o H) 0 ?_;refine rn<|bk<|sg<|rm 2 ?_;refine ci hm (fun hm=>?_) (fun hm=>?_)
 ·refine sg<|rr 2 ?_;refine rb 21 hm (fun hm=>?_) (fun hm=>?_)
  ·refine rr 4 ?_;refine l1 (ax hE o H) 6 ?_;refine rm 4 ?_;refine rt ?_;cases hm;exact⟨_,tR rfl,rfl,(o.t 0)⟩
  ·refine rm 9 ?_;refine rt ?_;cases hm;exact⟨_,tR rfl,rfl,(o.t 0)⟩
 ·refine sg<|rm 2 ?_;refine ci hm (fun hm=>?_) (fun hm=>?_)
  ·refine sg<|rr 2 ?_;refine rb 33 hm (fun hm=>?_) (fun hm=>?_)
   ·refine rr 4 ?_;refine l1 (ax hE o H) 6 ?_;refine rr 4 ?_;refine rb 42 hm (fun hm=>?_) (fun hm=>?_)
    ·refine rr 4 ?_;refine l1 (ax hE o H) 7 ?_;refine rm 3 ?_;refine rt ?_;cases hm;exact⟨_,tR rfl,rfl,(o.t 0)⟩
    ·refine rm 8 ?_;refine rt ?_;cases hm;exact⟨_,tR rfl,rfl,(o.t 0)⟩
   ·refine rm 17 ?_;refine rt ?_;cases hm;exact⟨_,tR rfl,rfl,(o.t 0)⟩
  ·refine sg<|rm 2 ?_;refine ci hm (fun hm=>?_) (fun hm=>?_)
   ·refine sq<|dn 0 mixed 30 [([],1073741823),([0],1073741822),([1],1073741821),([2],1073741819),([3],1073741815),([4],1073741807),([5],1073741791),([6],1073741759),([7,6],1073741631),([8,6],1073741503),([9,6,6],1073741247),([6,10],1073740735),([11,10],1073739775),([12],1073737727),([13,12],1073729535),([14,12],1073721343),([15,12],1073704959),([12],1073737727),([16,17,12],1073541119),([12,18],1073475583),([19,12],1073217535),([20],1072693247),([21,20],1070596095),([22,20],1068498943),([23,20],1064304639),([24,20],1055916031),([20],1072693247),([25,26,20],972029951),([20,27],938475519),([28,20,0,1,2,3,4,5,6,7,8,9,10,11,12,13,14,15,16,17,18,19,20,21,22,23,24,25,26,27,28],805306367)] o.ext (fun q=>?_);have X:=o.step (Ext.draw _);refine dr 26 q [0,1,2,3] ?_;refine dw [0,1,4,5,55] ?_;refine dl q 4 (ax hE o H) 1 ?_;refine dr 23 q [5,6] ?_;refine db 58 hm (fun hm=>?_) (fun hm=>?_)
    ·refine dr 20 q [7,8,9] ?_;obtain⟨C0,p0,hm⟩:=bS hm;refine o1 q 10 (mc q zob (zdc (hE.trans X.ext) (z6y x0.Qz h3 h6) (At.sub H 1 5) p0) (fun E0 L0 e0=>?_));obtain⟨rfl,a0⟩:=e0;refine⟨a0.ext,?_⟩;have Y:=X.join a0;refine dr 17 q [11,12] ?_;refine dw [0,1,4,5,64] ?_;refine db 64 hm (fun hm=>?_) (fun hm=>?_)
     ·refine dr 14 q [13,14,15] ?_;refine dL q 16 (At.sub (ax hE o H) 6 3) ?_;refine dL q 17 ((o.b 1 rfl).box) ?_;refine dr 9 q [18,19,20] ?_;refine dw [0,1,4,72] ?_;refine db 72 hm (fun hm=>?_) (fun hm=>?_)
      ·refine dr 4 q [21,22,23,24,26] ?_;refine dl q 25 (ax hE o H) 9 ?_;refine dr 0 q [27,28,29] ?_;refine dw [4] ?_;refine dd q ?_;refine rt ?_;cases hm;exact⟨_,tR rfl,rfl,(Y.t 0)⟩
      ·refine dr 0 q [21,22,23,24,25,26,27,28,29] ?_;refine dw [4] ?_;refine dd q ?_;refine rt ?_;cases hm;exact⟨_,tR rfl,rfl,(Y.t 0)⟩
     ·refine dr 0 q [13,14,15,16,17,18,19,20,21,22,23,24,25,26,27,28,29] ?_;refine dw [4] ?_;refine dd q ?_;refine rt ?_;cases hm;exact⟨_,tR rfl,rfl,(Y.t 0)⟩
    ·refine dr 0 q [7,8,9,10,11,12,13,14,15,16,17,18,19,20,21,22,23,24,25,26,27,28,29] ?_;refine dw [4] ?_;refine dd q ?_;refine rt ?_;cases hm;exact⟨_,tR rfl,rfl,(X.t 0)⟩
   ·refine sg<|rm 2 ?_;refine ci hm (fun hm=>?_) (fun hm=>?_)
    ·refine sq<|dn 0 mixed 18 [([],262143),([0],262142),([1],262141),([2,1],262137),([3,1],262133),([4,1],262125),([1],262141),([5,6,1],262045),([1,7],262013),([8,1],261887),([9],261631),([10,9],260607),([11,9],259583),([12,9],257535),([9],261631),([13,14,9],237055),([9,15],228863),([16,9,0,1,2,3,4,5,6,7,8,9,10,11,12,13,14,15,16],196607)] o.ext (fun G=>?_);have Z:=o.step (Ext.draw _);refine dr 16 G [0,1] ?_;refine dw [0,4,5,84] ?_;refine db 84 hm (fun hm=>?_) (fun hm=>?_)
     ·refine dr 13 G [2,3,4] ?_;refine dL G 5 (At.sub (ax hE o H) 6 3) ?_;refine dL G 6 ((o.b 1 rfl).box) ?_;refine dr 8 G [7,8,9] ?_;refine dw [0,4,5,92] ?_;refine db 92 hm (fun hm=>?_) (fun hm=>?_)
      ·refine dr 5 G [10,11,12] ?_;refine dL G 13 (At.sub (ax hE o H) 9 3) ?_;refine dL G 14 ((o.b 1 rfl).box) ?_;refine dr 0 G [15,16,17] ?_;refine dw [4] ?_;refine dd G ?_;refine rt ?_;cases hm;exact⟨_,tR rfl,rfl,(Z.t 0)⟩
      ·refine dr 0 G [10,11,12,13,14,15,16,17] ?_;refine dw [4] ?_;refine dd G ?_;refine rt ?_;cases hm;exact⟨_,tR rfl,rfl,(Z.t 0)⟩
     ·refine dr 0 G [2,3,4,5,6,7,8,9,10,11,12,13,14,15,16,17] ?_;refine dw [4] ?_;refine dd G ?_;refine rt ?_;cases hm;exact⟨_,tR rfl,rfl,(Z.t 0)⟩
    ·refine sp<|sg<|rm 1 ?_;refine rt ?_;cases hm;exact⟨_,tR rfl,rfl,(o.t 0)⟩

theorem zuo:EN 112:=en Tryz.func112
def zc6 (fu:Nat)(o:Unit):Option Bool:=some true
def zc5 (fu:Nat)(o:Int)(q:Unit):Option (Rd (Int) (Unit) (Bool)):=some (.next (w64 (o+1)))
def z4K (fu:Nat)(x0:Qv)(q:Int)(G:Int):Option (Rd (Int) (Unit) (Rd (Int) (Unit) (Bool))):=((idx x0.Qd q).bind fun H=>(if(decide (G<(H.length:Int)))=true then((idx x0.Qd q).bind fun O=>((idx O G).bind fun X=>(if decide ((x0.Qk.Qf.length:Int)≠0)=true then((z7E fu X (q.tmod (x0.Qk.Qf.length:Int))).bind fun o=>(if(!o)=true then some (.ret (.ret false)) else some (.next (w64 (G+1))))) else none))) else some (.brk ())))
def z4L (fu:Nat)(x0:Qv)(q:Int):Option (Rd (Int) (Unit) (Bool)):=(if(decide (q<(x0.Qd.length:Int)))=true then((idx x0.Qd q).bind fun G=>(if(decide ((G.length:Int)>200))=true then some (.ret false) else((iter (z4K fu x0 q) fu 0).bind fun o=>aft o (zc5 fu q)))) else some (.brk ()))
def z9x (fu:Nat)(x0:Qv)(q:Unit):Option Bool:=((iter (z4L fu x0) fu 0).bind fun o=>aft o (zc6 fu))
def z4J (fu:Nat)(q:Int)(o:Bool):Option (Rd (Int) (Unit) (Bool)):=(if o=true then some (.ret false) else some (.next (w64 (q+1))))
def z4M (fu:Nat)(x0:Qv)(o:Int):Option (Rd (Int) (Unit) (Bool)):=(if(decide (o<(x0.Qk.Qf.length:Int)))=true then((idx x0.QL o).bind fun G=>((z3f fu G 7).bind fun q=>(if(!q)=true then z4J fu o true else((idx x0.Qd (w64 ((w64 (o*(x0.Qk.Qf.length:Int)))+o))).bind fun H=>z4J fu o (decide ((H.length:Int)>0)))))) else some (.brk ()))
def z14 (fu:Nat)(x0:Qv)(q:Bool):Option Bool:=(if q=true then some false else((iter (z4M fu x0) fu 0).bind fun o=>aft o (z9x fu x0)))
def z7D (fu:Nat)(x0:Qv):Option (Bool):=((z7F fu x0.Qk).bind fun o=>(if(!o)=true then z14 fu x0 true else(if((x0.Qd.length:Int) != (w64 ((x0.Qk.Qf.length:Int)*(x0.Qk.Qf.length:Int))))=true then z14 fu x0 true else(if((x0.QL.length:Int) != (x0.Qk.Qf.length:Int))=true then z14 fu x0 true else((z3f fu x0.QY (x0.Qk.Qf.length:Int)).bind fun q=>(if(!q)=true then z14 fu x0 true else((z3f fu x0.Got (x0.Qk.Qf.length:Int)).bind fun G=>z14 fu x0 (!G))))))))

theorem zgA (hE:Ext W w){j0:Addr}{R1:List Value}{x0:Qv}(s2:ty52.ro W R1 x0)(e0:At W j0 R1){fu:Nat}{r:Bool}(hm:z7D fu x0=some r):
  CL 112 ⟨[.pointer (some j0)]⟩ w (RB w r):=by
 obtain⟨A1,k2,A4,k5,A7,m3,f3,n3,g3,o3,j2,h3,h6,v2,y2,A2⟩:=z7A s2;subst j2;refine into Tryz.func112 129 _ ?_;unfold z7D at hm;have hS:=St.start w;refine sg<|rm 1 ?_;refine sg<|rr 4 ?_;refine l1 (ax hE hS e0) 0 ?_;refine rm 2 ?_;refine sq<|sq<|ct (fun(O1:Bool) F w9=>z14 fu x0 O1=some r∧Ext w w9∧St w w9 []∧F=[(0,.pointer (some j0)),(3,iv (x0.Qk.Qf.length:Int)),(55,.bool O1)]) ?_ ?_
 ·rintro O1 F a2 ⟨hm,B2,K0,rfl⟩;unfold z14 at hm;refine ci hm (fun hm=>?_) (fun hm=>?_)
  ·refine sg<|rm 1 ?_;refine rt ?_;cases hm;exact⟨_,tR rfl,rfl,K0⟩
  ·refine sp<|sq<|sg<|rm 1 ?_;obtain⟨J2,v1,hm⟩:=bS hm;refine ct (fun(W1:Unit) F w9=>J2=.inl W1∧Ext a2 w9∧St w w9 []∧F=[(0,.pointer (some j0)),(3,iv (x0.Qk.Qf.length:Int))]) ?_ ?_
   ·rintro W1 F b2 ⟨C1,C2,m1,rfl⟩;subst C1;rw[z8] at hm;unfold z9x at hm;refine sq<|sg<|rm 1 ?_;obtain⟨K2,y1,hm⟩:=bS hm;refine ct (fun(X1:Unit) F w9=>K2=.inl X1∧Ext b2 w9∧St w w9 []∧F=[]) ?_ ?_
    ·rintro X1 F B3 ⟨D1,D2,n1,rfl⟩;subst D1;rw[z8] at hm;unfold zc6 at hm;refine sg<|rm 1 ?_;refine rt ?_;cases hm;exact⟨_,tR rfl,rfl,n1⟩
    ·refine bk<|wk [0,3,5] ?_;refine it (fun(e1:Int) F w9=>Ext b2 w9∧St w w9 []∧F=[(0,.pointer (some j0)),(3,iv (x0.Qk.Qf.length:Int)),(5,iv e1)]) y1 ⟨(Ext.refl _),m1,rfl⟩ ?_;rintro e1 F d2 _ s3 ⟨B0,b0,rfl⟩ G u0;unfold z4L at G;refine sq<|sg<|rr 4 ?_;refine l1 (ax hE b0 e0) 4 ?_;refine rm 2 ?_;refine ci G (fun G=>?_) (fun G=>?_)
     ·refine sp<|sq<|bk<|sq<|sg<|rr 3 ?_;refine l1 (ax hE b0 e0) 4 ?_;refine rr 1 ?_;obtain⟨E3,H1,G⟩:=bS G;refine ix (hE.trans b0.ext) h6 H1 (fun u3 p2 s1 F1=>?_);obtain⟨i3,p3,m2⟩:=z3E F1;subst m2;refine l1 (ax hE b0 s1) 0 ?_;refine rm 2 ?_;refine ci G (fun G=>?_) (fun G=>?_)
      ·refine sg<|rm 1 ?_;refine rt ?_;cases G;cases u0;have hm:some _=some _:=hm;cases hm;exact⟨_,tR rfl,rfl,b0⟩
      ·refine sp<|sg<|rm 1 ?_;obtain⟨L2,B1,G⟩:=bS G;refine ct (fun(Y1:Unit) F w9=>L2=.inl Y1∧Ext d2 w9∧St w w9 []∧F=[(0,.pointer (some j0)),(3,iv (x0.Qk.Qf.length:Int)),(5,iv e1)]) ?_ ?_
       ·rintro Y1 F C3 ⟨E1,j1,p1,rfl⟩;subst E1;rw[z8] at G;unfold zc5 at G;refine rg<|rm 3 ?_;cases G;exact⟨_,_,rfl,⟨(B0.trans j1),p1,rfl⟩,rfl⟩
       ·refine bk<|wk [0,3,5,6] ?_;refine it (fun(V1:Int) F w9=>Ext d2 w9∧St w w9 []∧F=[(0,.pointer (some j0)),(3,iv (x0.Qk.Qf.length:Int)),(5,iv e1),(6,iv V1)]) B1 ⟨(Ext.refl _),b0,rfl⟩ ?_;rintro V1 F D3 _ t3 ⟨C0,O,rfl⟩ q Q0;unfold z4K at q;refine sq<|sg<|rr 4 ?_;refine l1 (ax hE O e0) 4 ?_;refine rr 1 ?_;obtain⟨F3,J1,q⟩:=bS q;refine ix (hE.trans O.ext) h6 J1 (fun v3 q2 t1 G1=>?_);obtain⟨j3,q3,n2⟩:=z3E G1;subst n2;refine l1 (ax hE O t1) 0 ?_;refine rm 2 ?_;refine ci q (fun q=>?_) (fun q=>?_)
        ·refine sp<|sq<|bk<|sq<|dn 0 mixed 14 [([],16383),([0],16382),([1],16381),([2],16379),([],16383),([3,4],16359),([5],16351),([],16383),([6,7],16191),([],16383),([],16383),([9,10],14847),([8,11],14079),([12],12287)] O.ext (fun X=>?_);have L0:=O.step (Ext.draw _);refine dr 7 X [0,1,2,4,7,9,10] ?_;refine dw [0,3,5,6,117,119,122,124,125] ?_;refine dl X 3 (ax hE O e0) 4 ?_;obtain⟨G3,K1,q⟩:=bS q;refine dx (hE.trans O.ext) X 5 h6 K1 (fun y3 r2 u1 S0=>?_);obtain⟨k3,r3,o2⟩:=z3E S0;subst o2;refine dl X 6 (ax hE O u1) 0 ?_;obtain⟨H3,L1,q⟩:=bS q;refine dx (hE.trans O.ext) X 8 S0 L1 (fun A3 S1 M0 r0=>?_);obtain⟨e2,E2,f2,F2,f1,t2,u2⟩:=z3D r0;subst f1;obtain⟨P0,q⟩:=iS q;refine dp X 11 rfl (fun _=>zy7 (of_decide_eq_true P0)) ?_;obtain⟨O2,T0,q⟩:=bS q;refine o1 X 12 (mc X ztR (zgB (hE.trans L0.ext) r0 M0 T0) (fun S2 X2 D0=>?_));obtain⟨rfl,f0⟩:=D0;refine⟨f0.ext,?_⟩;have o0:=L0.join f0;refine dr 0 X [13] ?_;refine dw [0,3,5,6,128] ?_;refine dd X ?_;refine ci q (fun q=>?_) (fun q=>?_)
         ·refine sg<|rm 1 ?_;refine rt ?_;cases q;cases Q0;have G:some _=some _:=G;cases G;cases u0;have hm:some _=some _:=hm;cases hm;exact⟨_,tR rfl,rfl,o0⟩
         ·refine sp<|rg<|rm 3 ?_;cases q;exact⟨_,_,rfl,⟨((C0.trans (Ext.draw _)).trans f0.ext),o0,rfl⟩,rfl⟩
        ·refine xt ?_;cases q;exact⟨_,_,⟨Q0,C0,O,rfl⟩,rfl⟩
     ·refine xt ?_;cases G;exact⟨_,_,⟨u0,B0,b0,rfl⟩,rfl⟩
   ·refine bk<|wk [0,3,4] ?_;refine it (fun(d1:Int) F w9=>Ext a2 w9∧St w w9 []∧F=[(0,.pointer (some j0)),(3,iv (x0.Qk.Qf.length:Int)),(4,iv d1)]) v1 ⟨(Ext.refl _),K0,rfl⟩ ?_;rintro d1 F P1 _ M1 ⟨A0,Z,rfl⟩ o q0;unfold z4M at o;refine sq<|sg<|rm 3 ?_;refine ci o (fun o=>?_) (fun o=>?_)
    ·refine sp<|sq<|bk<|sq<|ct (fun(v0:Bool) F w9=>z4J fu d1 v0=some M1∧Ext P1 w9∧St w w9 []∧F=[(0,.pointer (some j0)),(3,iv (x0.Qk.Qf.length:Int)),(4,iv d1),(84,.bool v0)]) ?_ ?_
     ·rintro v0 F Y2 ⟨o,y0,p0,rfl⟩;unfold z4J at o;refine ci o (fun o=>?_) (fun o=>?_)
      ·refine sg<|rm 1 ?_;refine rt ?_;cases o;cases q0;have hm:some _=some _:=hm;cases hm;exact⟨_,tR rfl,rfl,p0⟩
      ·refine sp<|rg<|rm 3 ?_;cases o;exact⟨_,_,rfl,⟨(A0.trans y0),p0,rfl⟩,rfl⟩
     ·refine rg<|rr 3 ?_;refine l1 (ax hE Z e0) 5 ?_;refine rr 1 ?_;obtain⟨e3,U0,o⟩:=bS o;refine ix (hE.trans Z.ext) v2 U0 (fun M2 T1 N0 t0=>?_);obtain⟨g2,G2,g1⟩:=zL t0;subst g1;refine l1 (ax hE Z N0) 0 ?_;obtain⟨P2,V0,o⟩:=bS o;refine ca zjq (z9T (hE.trans Z.ext) t0 V0) (fun T2 a3 E0=>?_);obtain⟨rfl,g0⟩:=E0;have a0:=Z.join g0;refine rr 2 ?_;refine rb 70 o (fun o=>?_) (fun o=>?_)
      ·refine rm 14 ?_;exact⟨true,_,⟨o,g0.ext,a0,rfl⟩,rfl⟩
      ·refine rr 3 ?_;refine l1 (ax hE a0 e0) 4 ?_;refine rr 5 ?_;obtain⟨Q1,X0,o⟩:=bS o;refine ix (hE.trans a0.ext) h6 X0 (fun N2 U1 O0 R0=>?_);obtain⟨i2,H2,i1⟩:=z3E R0;subst i1;refine l1 (ax hE a0 O0) 0 ?_;refine rm 3 ?_;exact⟨decide ((Q1.length:Int)>0),_,⟨o,g0.ext,a0,rfl⟩,rfl⟩
    ·refine xt ?_;cases o;exact⟨_,_,⟨q0,A0,Z,rfl⟩,rfl⟩
 ·refine rg<|rr 3 ?_;obtain⟨Q2,Y0,hm⟩:=bS hm;refine ca zw7 (zgC (hE.trans hS.ext) (z6x x0.Qk h3) (At.sub e0 0 4) Y0) (fun U2 b3 F0=>?_);obtain⟨rfl,Y⟩:=F0;have H:=hS.join Y;refine rr 2 ?_;refine rb 18 hm (fun hm=>?_) (fun hm=>?_)
  ·refine rm 37 ?_;exact⟨true,_,⟨hm,Y.ext,H,rfl⟩,rfl⟩
  ·refine rr 3 ?_;refine l1 (ax hE H e0) 4 ?_;refine rr 7 ?_;refine rb 29 hm (fun hm=>?_) (fun hm=>?_)
   ·refine rm 26 ?_;exact⟨true,_,⟨hm,Y.ext,H,rfl⟩,rfl⟩
   ·refine rr 3 ?_;refine l1 (ax hE H e0) 5 ?_;refine rr 5 ?_;refine rb 38 hm (fun hm=>?_) (fun hm=>?_)
    ·refine rm 17 ?_;exact⟨true,_,⟨hm,Y.ext,H,rfl⟩,rfl⟩
    ·refine rr 3 ?_;refine l1 (ax hE H e0) 6 ?_;refine rr 1 ?_;obtain⟨R2,a1,hm⟩:=bS hm;refine ca zjq (z9T (hE.trans H.ext) y2 a1) (fun V2 c3 G0=>?_);obtain⟨rfl,i0⟩:=G0;have c0:=H.join i0;refine rr 3 ?_;refine rb 47 hm (fun hm=>?_) (fun hm=>?_)
     ·refine rm 8 ?_;exact⟨true,_,⟨hm,(Y.ext.trans i0.ext),c0,rfl⟩,rfl⟩
     ·refine rr 3 ?_;refine l1 (ax hE c0 e0) 7 ?_;refine rr 1 ?_;obtain⟨N1,b1,hm⟩:=bS hm;refine ca zjq (z9T (hE.trans c0.ext) A2 b1) (fun W2 d3 H0=>?_);obtain⟨rfl,k0⟩:=H0;have J0:=c0.join k0;refine rm 2 ?_;exact⟨!N1,_,⟨hm,((Y.ext.trans i0.ext).trans k0.ext),J0,rfl⟩,rfl⟩

theorem zof:EN 113:=en Tryz.func113
def zcE (fu:Nat)(o:Qg):Option (Qg×Bool):=some (o,true)
def z9Z (fu:Nat)(q:Int×Int×Qg)(o:Int×Qg):Option (Rd (Int×Int×Qg) (Qg) (Qg×Bool)):=some (.next (o.1,w64 (q.2.1+1),o.2))
def z5w (fu:Nat)(q:Int×Int×Qg)(o:Int×Qg):Option (Rd (Int×Int×Qg) (Int×Qg) (Rd (Int×Int×Qg) (Qg) (Qg×Bool))):=some (.next (o.1,w64 (q.2.1+1),o.2))
def z5v (fu:Nat)(q:Int×Int×Qg)(o:Int×Qg):Option (Rd (Int×Int×Qg) (Int×Qg) (Rd (Int×Int×Qg) (Qg) (Qg×Bool))):=z5w fu q (o.1,o.2)
def z3G (fu:Nat)(Y:Qg×L9)(q:Int×Int×Qg)(O:Qh)(o:Bool×Qg):Option (Rd (Int×Int×Qg) (Int×Qg) (Rd (Int×Int×Qg) (Qg) (Qg×Bool))):=(if o.1=true then some (.ret (.ret (o.2,false))) else((idx Y.2 q.1).bind fun X=>((zT fu o.2 O.B).bind fun G=>((zN fu o.2 X G).bind fun H=>z5v fu q (w64 (q.1+1),H)))))
def z3H (fu:Nat)(x0:Qv)(X:Qg×L9)(o:Int×Int×Qg)(q:Qh)(Y:Bool):Option (Rd (Int×Int×Qg) (Int×Qg) (Rd (Int×Int×Qg) (Qg) (Qg×Bool))):=(if Y=true then((z1e fu o.2.2 x0.Qk q.A q.B).bind fun G=>(if(!G.1)=true then some (.ret (.ret (G.2,false))) else z5w fu o (o.1,G.2))) else(if(q.Qi == 3)=true then((idx X.2 o.1).bind fun Z=>((z2m fu o.2.2 x0.Qk q.Qz Z).bind fun H=>(if(!H.1)=true then z3G fu X o q (true,H.2) else((z2E fu x0.Qk q.B).bind fun O=>z3G fu X o q (!O,H.2))))) else z5v fu o (o.1,o.2.2)))
def z1k (fu:Nat)(x0:Qv)(O:Qg×L9)(X:Int×Int×Qg)(o:Int×Int×Qg):Option (Rd (Int×Int×Qg) (Int×Qg) (Rd (Int×Int×Qg) (Qg) (Qg×Bool))):=((idx x0.Qd X.2.1).bind fun G=>(if(decide (o.2.1<(G.length:Int)))=true then((idx x0.Qd X.2.1).bind fun H=>((idx H o.2.1).bind fun q=>(if(q.Qi == 1)=true then z3H fu x0 O o q (q.Qi == 1) else z3H fu x0 O o q (q.Qi == 2)))) else some (.brk (o.1,o.2.2))))
def z2A (fu:Nat)(x0:Qv)(G:Qg×L9)(q:Int×Int×Qg):Option (Rd (Int×Int×Qg) (Qg) (Qg×Bool)):=(if(decide (q.2.1<(x0.Qd.length:Int)))=true then((iter (z1k fu x0 G q) fu (q.1,0,q.2.2)).bind fun o=>aft o (z9Z fu q)) else some (.brk q.2.2))
def za0 (fu:Nat)(x0:Qv)(H:LB):Option (Qg×Bool):=((z8v fu x0.Qk H).bind fun G=>((za7 fu x0.Qk G.1).bind fun q=>(if(!q.1)=true then some (q.2,false) else((iter (z2A fu x0 G) fu (0,0,q.2)).bind fun o=>aft o (zcE fu)))))
def z9Y (fu:Nat)(q:Int×LB)(o:LB):Option (Rd (Int×LB) LB (Qg×Bool)):=some (.next (w64 (q.1+1),o))
def z5u (fu:Nat)(o:Int×LB)(q:LB):Option (Rd (Int×LB) LB (Rd (Int×LB) LB (Qg×Bool))):=some (.next (w64 (o.1+1),q))
def z5x (fu:Nat)(x0:Qv)(G:Int×LB)(o:Int×LB):Option (Rd (Int×LB) LB (Rd (Int×LB) LB (Qg×Bool))):=((idx x0.Qd G.1).bind fun H=>(if(decide (o.1<(H.length:Int)))=true then((idx x0.Qd G.1).bind fun O=>((idx O o.1).bind fun X=>(if(X.Qi == 3)=true then((idx x0.Qd G.1).bind fun Y=>((idx Y o.1).bind fun q=>(if decide ((o.2.length:Int)+(([q.Qz]:LB).length:Int)≤4294967296)=true then z5u fu o (o.2++([q.Qz]:LB)) else none))) else z5u fu o o.2))) else some (.brk o.2)))
def z3J (fu:Nat)(x0:Qv)(q:Int×LB):Option (Rd (Int×LB) LB (Qg×Bool)):=(if(decide (q.1<(x0.Qd.length:Int)))=true then((iter (z5x fu x0 q) fu (0,q.2)).bind fun o=>aft o (z9Y fu q)) else some (.brk q.2))
def z6C (fu:Nat)(x0:Qv):Option (Qg×Bool):=((iter (z3J fu x0) fu (0,([]:LB))).bind fun o=>aft o (za0 fu x0))

theorem zdZ (hE:Ext W w){Q0:Addr}{L6:List Value}{x0:Qv}(t7:ty52.ro W L6 x0)(S0:At W Q0 L6){fu:Nat}{r:Qg×Bool}(hm:z6C fu x0=some r):
  CL 113 ⟨[.pointer (some Q0)]⟩ w (Ret fun v w8=>∃ g0 A1 k1 A2 k2 A3 k3 A4 k4 A5 k5 A6 k6,v=.tuple ⟨[.pointer (some ⟨g0,0,none⟩),.bool r.2]⟩∧St w w8 [Box g0 [sl A1 r.1.Qq k1,sl A2 r.1.Qu k2,sl A3 r.1.cells k3,sl A4 r.1.QK k4,sl A5 r.1.ends k5,sl A6 r.1.Qt k6] 143,ow ty28 A1 r.1.Qq k1,ow z13 A2 r.1.Qu k2,ow ty44 A3 r.1.cells k3,ow ty44 A4 r.1.QK k4,ow ty44 A5 r.1.ends k5,ow ty44 A6 r.1.Qt k6]):=by
 obtain⟨A1,k2,A4,k5,A7,S8,F8,T8,G8,U8,r7,h3,h6,P8,Q8,R8⟩:=z7A t7;subst r7;refine into Tryz.func113 170 _ ?_;unfold z6C at hm;have hS:=St.start w;refine sg<|rm 2 ?_;refine sg<|n0 (U:=(z9v W)) hS (fun f7 B7 f9 O8 W5=>?_);refine rm 1 ?_;refine sq<|sg<|rm 1 ?_;obtain⟨M7,Y5,hm⟩:=bS hm;refine ct (fun(s5:LB) F w9=>∃ B5 m6,M7=.inl s5∧St w w9 [Own (zaF W) [sl B5 s5 m6] s5]∧F=[(0,.pointer (some Q0)),(4,sl B5 s5 m6)]) ?_ ?_
 ·rintro s5 F g9 ⟨B5,m6,a6,e2,rfl⟩;subst a6;rw[z8] at hm;unfold za0 at hm;refine sg<|rr 4 ?_;obtain⟨y0,b6,hm⟩:=bS hm;refine ca zwz (zht (Ext.refl _) (z6x x0.Qk (ty33.ext (hE.trans e2.ext) h3)) (At.sub (ax hE e2 S0) 0 4) (zy6 zmS (St.ownE (W0:=W) hE (e2.b 0 rfl))) b6) (fun d9 i9 T5=>?_);obtain⟨r0,H8,V8,J8,W8,K8,X8,L8,Y8,M8,a9,N8,b9,N0,P0,rfl,U5⟩:=T5;have X5:=e2.join U5;refine rm 5 ?_;refine sq<|sg<|rr 4 ?_;obtain⟨c9,c6,hm⟩:=bS hm;refine ca zwy (zjV (W:=w) (RR:=_) (x0:=x0.Qk) (x1:=y0.1) X5 (ty36.ext hE (z6x x0.Qk h3)) (At.ext hE (At.sub S0 0 4)) c6) (fun e9 j9 V5=>?_);obtain⟨E6,X6,F6,Y6,G6,a7,H6,b7,J6,c7,K6,d7,rfl,a4⟩:=V5;refine rm 1 ?_;refine ci hm (fun hm=>?_) (fun hm=>?_)
  ·refine sg<|rm 3 ?_;refine rt ?_;cases hm;exact⟨_,.cons (.tmp rfl) (tR rfl),r0,E6,X6,F6,Y6,G6,a7,H6,b7,J6,c7,K6,d7,rfl,(a4.t 7)⟩
  ·refine sp<|sg<|rm 1 ?_;refine sq<|sg<|rm 1 ?_;obtain⟨q6,o4,hm⟩:=bS hm;refine ct (fun(R0:Qg) F w9=>∃ p1 f2 s1 g2 t1 i2 u1 j2 v1 m2 y1 n2,q6=.inl R0∧St w w9 [Box r0 [sl p1 R0.Qq f2,sl s1 R0.Qu g2,sl t1 R0.cells i2,sl u1 R0.QK j2,sl v1 R0.ends m2,sl y1 R0.Qt n2] 143,ow ty28 p1 R0.Qq f2,ow z13 s1 R0.Qu g2,ow ty44 t1 R0.cells i2,ow ty44 u1 R0.QK j2,ow ty44 v1 R0.ends m2,ow ty44 y1 R0.Qt n2]∧F=[(7,.pointer (some ⟨r0,0,none⟩))]) ?_ ?_
   ·rintro R0 F d8 ⟨p1,f2,s1,g2,t1,i2,u1,j2,v1,m2,y1,n2,r4,F3,rfl⟩;subst r4;rw[z8] at hm;unfold zcE at hm;refine sg<|rm 3 ?_;refine rt ?_;cases hm;exact⟨_,.cons (.tmp rfl) (tR rfl),r0,p1,f2,s1,g2,t1,i2,u1,j2,v1,m2,y1,n2,rfl,F3⟩
   ·refine bk<|wk [0,7,8,9,10] ?_;refine it (fun(p0:Int×Int×Qg) F w9=>∃ t3 n5 u3 o5 v3 p5 T0 f1 U0 g1 V0 i1,St w w9 [Box r0 [sl t3 p0.2.2.Qq n5,sl u3 p0.2.2.Qu o5,sl v3 p0.2.2.cells p5,sl T0 p0.2.2.QK f1,sl U0 p0.2.2.ends g1,sl V0 p0.2.2.Qt i1] 143,ow ty28 t3 p0.2.2.Qq n5,ow z13 u3 p0.2.2.Qu o5,ow ty44 v3 p0.2.2.cells p5,ow ty44 T0 p0.2.2.QK f1,ow ty44 U0 p0.2.2.ends g1,ow ty44 V0 p0.2.2.Qt i1,ow ty45 N0 y0.2 P0]∧F=[(0,.pointer (some Q0)),(7,.pointer (some ⟨r0,0,none⟩)),(8,sl N0 y0.2 P0),(9,iv p0.1),(10,iv p0.2.1)]) o4 ⟨E6,X6,F6,Y6,G6,a7,H6,b7,J6,c7,K6,d7,(a4.t 8),rfl⟩ ?_;rintro p0 F e8 _ L7 ⟨t3,n5,u3,o5,v3,p5,T0,f1,U0,g1,V0,i1,Y0,rfl⟩ O d1;unfold z2A at O;refine sq<|sg<|rr 4 ?_;refine l1 (ax hE Y0 S0) 4 ?_;refine rm 2 ?_;refine ci O (fun O=>?_) (fun O=>?_)
    ·refine sp<|sq<|bk<|sg<|rm 1 ?_;obtain⟨r6,p4,O⟩:=bS O;refine ct (fun(c0:Int×Qg) F w9=>∃ B1 o2 C1 p2 D1 q2 E1 r2 F1 s2 G1 t2,r6=.inl c0∧St w w9 [Box r0 [sl B1 c0.2.Qq o2,sl C1 c0.2.Qu p2,sl D1 c0.2.cells q2,sl E1 c0.2.QK r2,sl F1 c0.2.ends s2,sl G1 c0.2.Qt t2] 143,ow ty28 B1 c0.2.Qq o2,ow z13 C1 c0.2.Qu p2,ow ty44 D1 c0.2.cells q2,ow ty44 E1 c0.2.QK r2,ow ty44 F1 c0.2.ends s2,ow ty44 G1 c0.2.Qt t2,ow ty45 N0 y0.2 P0]∧F=[(0,.pointer (some Q0)),(7,.pointer (some ⟨r0,0,none⟩)),(8,sl N0 y0.2 P0),(9,iv c0.1),(10,iv p0.2.1)]) ?_ ?_
     ·rintro c0 F f8 ⟨B1,o2,C1,p2,D1,q2,E1,r2,F1,s2,G1,t2,s4,G3,rfl⟩;subst s4;rw[z8] at O;unfold z9Z at O;refine rg<|rm 3 ?_;cases O;exact⟨_,_,rfl,⟨B1,o2,C1,p2,D1,q2,E1,r2,F1,s2,G1,t2,G3,rfl⟩,rfl⟩
     ·refine bk<|wk [0,7,8,9,10,11] ?_;refine it (fun(q:Int×Int×Qg) F w9=>∃ A0 G0 B0 H0 C0 J0 D0 K0 E0 L0 F0 M0,St w w9 [Box r0 [sl A0 q.2.2.Qq G0,sl B0 q.2.2.Qu H0,sl C0 q.2.2.cells J0,sl D0 q.2.2.QK K0,sl E0 q.2.2.ends L0,sl F0 q.2.2.Qt M0] 143,ow ty28 A0 q.2.2.Qq G0,ow z13 B0 q.2.2.Qu H0,ow ty44 C0 q.2.2.cells J0,ow ty44 D0 q.2.2.QK K0,ow ty44 E0 q.2.2.ends L0,ow ty44 F0 q.2.2.Qt M0,ow ty45 N0 y0.2 P0]∧F=[(0,.pointer (some Q0)),(7,.pointer (some ⟨r0,0,none⟩)),(8,sl N0 y0.2 P0),(9,iv q.1),(10,iv p0.2.1),(11,iv q.2.1)]) p4 ⟨t3,n5,u3,o5,v3,p5,T0,f1,U0,g1,V0,i1,Y0,rfl⟩ ?_;rintro q F B6 _ T2 ⟨A0,G0,B0,H0,C0,J0,D0,K0,E0,L0,F0,M0,Y,rfl⟩ o e1;unfold z1k at o;refine sq<|sg<|rr 4 ?_;refine l1 (ax hE Y S0) 4 ?_;refine rr 1 ?_;obtain⟨y8,G4,o⟩:=bS o;refine ix (hE.trans Y.ext) h6 G4 (fun O7 M6 b4 x4=>?_);obtain⟨e7,x7,G5⟩:=z3E x4;subst G5;refine l1 (ax hE Y b4) 0 ?_;refine rm 2 ?_;refine ci o (fun o=>?_) (fun o=>?_)
      ·refine sp<|sq<|bk<|sg<|rr 3 ?_;refine l1 (ax hE Y S0) 4 ?_;refine rr 1 ?_;obtain⟨A8,H4,o⟩:=bS o;refine ix (hE.trans Y.ext) h6 H4 (fun P7 N6 c4 X2=>?_);obtain⟨g7,y7,H5⟩:=z3E X2;subst H5;refine l1 (ax hE Y c4) 0 ?_;refine rr 1 ?_;obtain⟨i0,J4,o⟩:=bS o;refine ix (hE.trans Y.ext) X2 J4 (fun q5 O6 t0 y4=>?_);obtain⟨i7,C7,j7,D7,J5,P5,Q5⟩:=z3D y4;subst J5;refine rm 1 ?_;refine sg<|rr 3 ?_;refine l1 (ax hE Y t0) 0 ?_;refine rn<|bk<|sq<|sg<|rm 2 ?_;refine ct (fun(c3:Bool) F w9=>z3H fu x0 y0 q i0 c3=some T2∧Ext B6 w9∧St w w9 [Box r0 [sl A0 q.2.2.Qq G0,sl B0 q.2.2.Qu H0,sl C0 q.2.2.cells J0,sl D0 q.2.2.QK K0,sl E0 q.2.2.ends L0,sl F0 q.2.2.Qt M0] 143,ow ty28 A0 q.2.2.Qq G0,ow z13 B0 q.2.2.Qu H0,ow ty44 C0 q.2.2.cells J0,ow ty44 D0 q.2.2.QK K0,ow ty44 E0 q.2.2.ends L0,ow ty44 F0 q.2.2.Qt M0,ow ty45 N0 y0.2 P0]∧F=[(0,.pointer (some Q0)),(7,.pointer (some ⟨r0,0,none⟩)),(8,sl N0 y0.2 P0),(9,iv q.1),(10,iv p0.2.1),(11,iv q.2.1),(12,.pointer (some q5)),(109,iv i0.Qi),(110,.bool c3)]) ?_ ?_
       ·rintro c3 F g8 ⟨o,W6,j0,rfl⟩;unfold z3H at o;refine ct (fun(e0:Int×Qg) F w9=>∃ H1 u2 J1 v2 K1 y2 L1 B2 M1 C2 N1 D2,z5w fu q e0=some T2∧St w w9 [Box r0 [sl H1 e0.2.Qq u2,sl J1 e0.2.Qu v2,sl K1 e0.2.cells y2,sl L1 e0.2.QK B2,sl M1 e0.2.ends C2,sl N1 e0.2.Qt D2] 143,ow ty28 H1 e0.2.Qq u2,ow z13 J1 e0.2.Qu v2,ow ty44 K1 e0.2.cells y2,ow ty44 L1 e0.2.QK B2,ow ty44 M1 e0.2.ends C2,ow ty44 N1 e0.2.Qt D2,ow ty45 N0 y0.2 P0]∧F=[(0,.pointer (some Q0)),(7,.pointer (some ⟨r0,0,none⟩)),(8,sl N0 y0.2 P0),(9,iv e0.1),(10,iv p0.2.1),(11,iv q.2.1)]) ?_ ?_
        ·rintro e0 F i8 ⟨H1,u2,J1,v2,K1,y2,L1,B2,M1,C2,N1,D2,o,H3,rfl⟩;unfold z5w at o;refine rg<|rm 3 ?_;cases o;exact⟨_,_,rfl,⟨H1,u2,J1,v2,K1,y2,L1,B2,M1,C2,N1,D2,H3,rfl⟩,rfl⟩
        ·refine ci o (fun o=>?_) (fun o=>?_)
         ·refine sq<|dn 4096 mixed 14 [([],16383),([],16383),([1],16381),([2],16379),([],16383),([4],16367),([5],16351),([6],16319),([],16383),([8],16127),([9],15871),([10],15359),([0,3,7,11],14198),([12],12287)] j0.ext (fun o0=>?_);have J3:=j0.step (Ext.draw _);refine dr 4 o0 [0,1,2,3,4,5,6,8,9,10] ?_;refine dw [0,7,8,9,10,11,113,116,119,123] ?_;refine dL o0 7 (At.sub (ax hE j0 t0) 6 3) ?_;refine dL o0 11 (At.sub (ax hE j0 t0) 9 3) ?_;obtain⟨u6,K4,o⟩:=bS o;refine o1 o0 12 (mW o0 zmt (z8s (W:=w) (RR:=_) (x0:=q.2.2) (x1:=x0.Qk) (x2:=i0.A) (x3:=i0.B) J3 (ty36.ext hE (z6x x0.Qk h3)) (At.ext hE (At.sub S0 0 4)) (ty34.ext hE (zM i0.A)) (ty34.ext hE (zM i0.B)) K4) (fun X7 j8 y3=>?_));obtain⟨d3,W4,e3,X4,f3,Y4,g3,a5,i3,b5,j3,c5,rfl,a1⟩:=y3;refine⟨a1.ext,?_⟩;refine dr 0 o0 [13] ?_;refine dw [0,7,8,9,10,11,126] ?_;refine dd o0 ?_;refine ci o (fun o=>?_) (fun o=>?_)
          ·refine sg<|rm 3 ?_;refine rt ?_;cases o;cases e1;have O:some _=some _:=O;cases O;cases d1;have hm:some _=some _:=hm;cases hm;exact⟨_,.cons (.tmp rfl) (tR rfl),r0,d3,W4,e3,X4,f3,Y4,g3,a5,i3,b5,j3,c5,rfl,(a1.t 7)⟩
          ·refine sp ?_;exact⟨(q.1,u6.2),_,⟨d3,W4,e3,X4,f3,Y4,g3,a5,i3,b5,j3,c5,o,a1,rfl⟩,rfl⟩
         ·refine sg<|rm 2 ?_;refine ct (fun(Z:Int×Qg) F w9=>∃ O1 E2 P1 F2 Q1 G2 R1 H2 S1 J2 T1 K2,z5v fu q Z=some T2∧St w w9 [Box r0 [sl O1 Z.2.Qq E2,sl P1 Z.2.Qu F2,sl Q1 Z.2.cells G2,sl R1 Z.2.QK H2,sl S1 Z.2.ends J2,sl T1 Z.2.Qt K2] 143,ow ty28 O1 Z.2.Qq E2,ow z13 P1 Z.2.Qu F2,ow ty44 Q1 Z.2.cells G2,ow ty44 R1 Z.2.QK H2,ow ty44 S1 Z.2.ends J2,ow ty44 T1 Z.2.Qt K2,ow ty45 N0 y0.2 P0]∧F=[(0,.pointer (some Q0)),(7,.pointer (some ⟨r0,0,none⟩)),(8,sl N0 y0.2 P0),(9,iv Z.1),(10,iv p0.2.1),(11,iv q.2.1)]) ?_ ?_
          ·rintro Z F k8 ⟨O1,E2,P1,F2,Q1,G2,R1,H2,S1,J2,T1,K2,o,K3,rfl⟩;unfold z5v at o;exact⟨(Z.1,Z.2),_,⟨O1,E2,P1,F2,Q1,G2,R1,H2,S1,J2,T1,K2,o,K3,rfl⟩,rfl⟩
          ·refine ci o (fun o=>?_) (fun o=>?_)
           ·refine sq<|sq<|ct (fun(a0:Bool×Qg) F w9=>∃ U1 L2 V1 M2 W1 N2 X1 O2 Y1 P2 a2 Q2,z3G fu y0 q i0 a0=some T2∧St w w9 [Box r0 [sl U1 a0.2.Qq L2,sl V1 a0.2.Qu M2,sl W1 a0.2.cells N2,sl X1 a0.2.QK O2,sl Y1 a0.2.ends P2,sl a2 a0.2.Qt Q2] 143,ow ty28 U1 a0.2.Qq L2,ow z13 V1 a0.2.Qu M2,ow ty44 W1 a0.2.cells N2,ow ty44 X1 a0.2.QK O2,ow ty44 Y1 a0.2.ends P2,ow ty44 a2 a0.2.Qt Q2,ow ty45 N0 y0.2 P0]∧F=[(0,.pointer (some Q0)),(7,.pointer (some ⟨r0,0,none⟩)),(8,sl N0 y0.2 P0),(9,iv q.1),(10,iv p0.2.1),(11,iv q.2.1),(12,.pointer (some q5)),(153,.bool a0.1)]) ?_ ?_
            ·rintro a0 F m8 ⟨U1,L2,V1,M2,W1,N2,X1,O2,Y1,P2,a2,Q2,o,v0,rfl⟩;unfold z3G at o;refine ci o (fun o=>?_) (fun o=>?_)
             ·refine sg<|rm 3 ?_;refine rt ?_;cases o;cases e1;have O:some _=some _:=O;cases O;cases d1;have hm:some _=some _:=hm;cases hm;exact⟨_,.cons (.tmp rfl) (tR rfl),r0,U1,L2,V1,M2,W1,N2,X1,O2,Y1,P2,a2,Q2,rfl,(v0.t 7)⟩
             ·refine sp<|sq<|dn 2048 mixed 12 [([],4095),([],4095),([],4095),([1,2],4089),([3],4087),([],4095),([],4095),([6],4031),([7],3967),([8],3839),([5,9],3551),([0,4,10,10],3054)] v0.ext (fun f0=>?_);have k0:=v0.step (Ext.draw _);refine dr 5 f0 [0,1,2,5,6,7,8] ?_;obtain⟨C6,L4,o⟩:=bS o;refine DM.idxS 2064 ttok (Ext.refl _) f0 3 ((v0.b 7 rfl).own) L4 (fun Q7 P6 d4 B4=>?_);cases B4;refine dl f0 4 d4 0 ?_;refine DM.quietS 3072 f0 9 rfl ?_ (qN (At.sub (ax hE v0 t0) 9 3));obtain⟨v6,M4,o⟩:=bS o;refine o1 f0 10 (mc f0 zgi (z3q (Ext.refl _) (zbT a0.2 ((k0.b 1 rfl).own) ((k0.b 2 rfl).own) ((k0.b 3 rfl).own) ((k0.b 4 rfl).own) ((k0.b 5 rfl).own) ((k0.b 6 rfl).own)) ((k0.b 0 rfl).box) (zM i0.B) M4) (fun Y7 n8 B3=>?_));obtain⟨rfl,U2⟩:=B3;refine⟨U2.ext,?_⟩;have L3:=k0.join U2;obtain⟨x6,N4,o⟩:=bS o;refine o1 f0 11 (mW f0 zi2 (z5c (W:=w) (RR:=_) (x0:=a0.2) (x1:=C6) (x2:=v6) L3  N4) (fun a8 o8 C3=>?_));obtain⟨t5,d6,u5,e6,v5,f6,x5,g6,y5,i6,C5,j6,rfl,W2⟩:=C3;refine⟨W2.ext,?_⟩;refine dd f0 ?_;refine rg<|rm 3 ?_;exact⟨(w64 (q.1+1),x6),_,⟨t5,d6,u5,e6,v5,f6,x5,g6,y5,i6,C5,j6,o,W2,rfl⟩,rfl⟩
            ·refine dn 2048 mixed 24 [([],16777215),([],16777215),([1],16777213),([2],16777211),([],16777215),([4],16777199),([5],16777183),([],16777215),([],16777215),([7,8],16776831),([9],16776703),([0,3,6,10],16776118),([11],16775167),([12,11],16773119),([13],16769023),([14,13],16752639),([15,13],16736255),([13],16769023),([17,13],16637951),([18,13],16506879),([19,13],16244735),([16,20,13,13],15654911),([21,13],14671871),([13,22],12574719)] j0.ext (fun X=>?_);have M3:=j0.step (Ext.draw _);refine dr 15 X [0,1,2,3,4,5,6,7,8] ?_;refine dw [0,7,8,9,10,11,12,130,133,136,137,138] ?_;obtain⟨D6,O4,o⟩:=bS o;refine DM.idxS 16776192 ttok (Ext.refl _) X 9 ((j0.b 7 rfl).own) O4 (fun R7 Q6 e4 C4=>?_);cases C4;refine dl X 10 e4 0 ?_;obtain⟨r5,P4,o⟩:=bS o;refine o1 X 11 (mW X zqc (zby (W:=w) (RR:=_) (x0:=q.2.2) (x1:=x0.Qk) (x2:=i0.Qz) (x3:=D6) M3 (ty36.ext hE (z6x x0.Qk h3)) (At.ext hE (At.sub S0 0 4)) (z90.ext hE (z6y i0.Qz P5 Q5)) (At.ext hE (At.sub t0 1 5)) P4) (fun b8 p8 D3=>?_));obtain⟨n3,e5,o3,f5,p3,g5,q3,i5,r3,j5,s3,m5,rfl,O0⟩:=D3;refine⟨O0.ext,?_⟩;refine dr 10 X [12,13] ?_;refine dw [0,7,8,9,10,11,12,143] ?_;refine db 143 o (fun o=>?_) (fun o=>?_)
             ·refine dr 0 X [14,15,16,17,18,19,20,21,22,23] ?_;refine dw [0,7,8,9,10,11,12,153] ?_;refine dd X ?_;exact⟨(true,r5.2),_,⟨n3,e5,o3,f5,p3,g5,q3,i5,r3,j5,s3,m5,o,O0,rfl⟩,rfl⟩
             ·refine dr 4 X [14,15,16,17,18,19] ?_;refine dV X 20 rfl (qN (At.sub (At.ext hE t0) 9 3)) ?_;obtain⟨y6,Q4,o⟩:=bS o;refine o1 X 21 (mc X zgj (z7B (hE.trans O0.ext) (z6x x0.Qk h3) (At.sub S0 0 4) (zM i0.B) Q4) (fun c8 q8 E3=>?_));obtain⟨rfl,V2⟩:=E3;refine⟨V2.ext,?_⟩;have N3:=O0.join V2;refine dr 0 X [22,23] ?_;refine dw [0,7,8,9,10,11,12,153] ?_;refine dd X ?_;exact⟨(!y6,r5.2),_,⟨n3,e5,o3,f5,p3,g5,q3,i5,r3,j5,s3,m5,o,N3,rfl⟩,rfl⟩
           ·refine sp ?_;exact⟨(q.1,q.2.2),_,⟨A0,G0,B0,H0,C0,J0,D0,K0,E0,L0,F0,M0,o,j0,rfl⟩,rfl⟩
       ·refine ci o (fun o=>?_) (fun o=>?_)
        ·refine sp ?_;exact⟨(i0.Qi == 1),_,⟨o,(Ext.refl _),Y,rfl⟩,rfl⟩
        ·refine rg<|rm 2 ?_;exact⟨(i0.Qi == 2),_,⟨o,(Ext.refl _),Y,rfl⟩,rfl⟩
      ·refine xt ?_;cases o;exact⟨_,_,⟨A0,G0,B0,H0,C0,J0,D0,K0,E0,L0,F0,M0,e1,Y,rfl⟩,rfl⟩
    ·refine xt ?_;cases O;exact⟨_,_,⟨t3,n5,u3,o5,v3,p5,T0,f1,U0,g1,V0,i1,d1,(Y0.t 7),rfl⟩,rfl⟩
 ·refine bk<|wk [0,4,5] ?_;refine it (fun(b3:Int×LB) F w9=>∃ m3 d5,St w w9 [Own (zaF W) [sl m3 b3.2 d5] b3.2]∧F=[(0,.pointer (some Q0)),(4,sl m3 b3.2 d5),(5,iv b3.1)]) Y5 ⟨f7,B7,W5,rfl⟩ ?_;rintro b3 F r8 _ N7 ⟨m3,d5,b1,rfl⟩ b0 t4;unfold z3J at b0;refine sq<|sg<|rr 4 ?_;refine l1 (ax hE b1 S0) 4 ?_;refine rm 2 ?_;refine ci b0 (fun b0=>?_) (fun b0=>?_)
  ·refine sp<|sq<|bk<|sg<|rm 1 ?_;obtain⟨s6,q4,b0⟩:=bS b0;refine ct (fun(m1:LB) F w9=>∃ b2 R2,s6=.inl m1∧St w w9 [Own (zaF W) [sl b2 m1 R2] m1]∧F=[(0,.pointer (some Q0)),(4,sl b2 m1 R2),(5,iv b3.1)]) ?_ ?_
   ·rintro m1 F s8 ⟨b2,R2,u4,O3,rfl⟩;subst u4;rw[z8] at b0;unfold z9Y at b0;refine rg<|rm 3 ?_;cases b0;exact⟨_,_,rfl,⟨b2,R2,O3,rfl⟩,rfl⟩
   ·refine bk<|wk [0,4,5,6] ?_;refine it (fun(u0:Int×LB) F w9=>∃ X0 j1,St w w9 [Own (zaF W) [sl X0 u0.2 j1] u0.2]∧F=[(0,.pointer (some Q0)),(4,sl X0 u0.2 j1),(5,iv b3.1),(6,iv u0.1)]) q4 ⟨m3,d5,b1,rfl⟩ ?_;rintro u0 F t8 _ t6 ⟨X0,j1,H,rfl⟩ G v4;unfold z5x at G;refine sq<|sg<|rr 4 ?_;refine l1 (ax hE H S0) 4 ?_;refine rr 1 ?_;obtain⟨B8,R4,G⟩:=bS G;refine ix (hE.trans H.ext) h6 R4 (fun S7 R6 f4 D4=>?_);obtain⟨k7,E7,K5⟩:=z3E D4;subst K5;refine l1 (ax hE H f4) 0 ?_;refine rm 2 ?_;refine ci G (fun G=>?_) (fun G=>?_)
    ·refine sp<|sq<|bk<|sg<|rr 3 ?_;refine l1 (ax hE H S0) 4 ?_;refine rr 1 ?_;obtain⟨C8,S4,G⟩:=bS G;refine ix (hE.trans H.ext) h6 S4 (fun T7 S6 g4 Y2=>?_);obtain⟨m7,F7,L5⟩:=z3E Y2;subst L5;refine l1 (ax hE H g4) 0 ?_;refine rr 1 ?_;obtain⟨D8,T4,G⟩:=bS G;refine ix (hE.trans H.ext) Y2 T4 (fun U7 T6 i4 E4=>?_);obtain⟨n7,G7,o7,H7,M5,u7,v7⟩:=z3D E4;subst M5;refine rr 1 ?_;refine l1 (ax hE H i4) 0 ?_;refine rm 1 ?_;refine ct (fun(n1:LB) F w9=>∃ d2 S2,z5u fu u0 n1=some t6∧St w w9 [Own (zaF W) [sl d2 n1 S2] n1]∧F=[(0,.pointer (some Q0)),(4,sl d2 n1 S2),(5,iv b3.1),(6,iv u0.1)]) ?_ ?_
     ·rintro n1 F u8 ⟨d2,S2,G,P3,rfl⟩;unfold z5u at G;refine rg<|rm 3 ?_;cases G;exact⟨_,_,rfl,⟨d2,S2,P3,rfl⟩,rfl⟩
     ·refine ci G (fun G=>?_) (fun G=>?_)
      ·refine rg<|rr 4 ?_;refine l1 (ax hE H S0) 4 ?_;refine rr 1 ?_;obtain⟨E8,U4,G⟩:=bS G;refine ix (hE.trans H.ext) h6 U4 (fun V7 U6 j4 a3=>?_);obtain⟨p7,J7,N5⟩:=z3E a3;subst N5;refine l1 (ax hE H j4) 0 ?_;refine rr 1 ?_;obtain⟨q0,V4,G⟩:=bS G;refine ix (hE.trans H.ext) a3 V4 (fun W7 V6 m4 F4=>?_);obtain⟨D5,n6,E5,o6,O5,R5,S5⟩:=z3D F4;subst O5;refine rr 1 ?_;refine lN (At.sub (ax hE H m4) 1 5) ?_;have Q3:=St.noEl (z9v W) H;have R3:=St.bor (T:=ty82) (x:=q0.Qz.QM) Q3 S5;have S3:=St.bor (T:=ty45) (x:=q0.Qz.Data) R3 R5;have T3:=zdC (W0:=W) (c:=q0.Qz) (B:=_) S3;have U3:=St.consEl T3;refine ns (U:=(z9v W)) (els:=[iv q0.Qz.Qi,iv q0.Qz.QC,iv q0.Qz.Value,.slice D5 q0.Qz.Data.length n6,.slice E5 q0.Qz.QM.length o6]) (ys:=[q0.Qz]) U3 (fun q7 K7 v8 s7 V3=>?_);have W3:=V3.b 1 rfl;have X3:=W3.b 1 rfl;obtain⟨n4,G⟩:=iS G;refine ao X3 n4 (fun F5 p6 x8 Y3=>?_) (hpos:=(Nat.le_of_ble_eq_true rfl));refine rm 1 ?_;exact⟨(u0.2++([q0.Qz]:LB)),_,⟨F5,p6,G,Y3,rfl⟩,rfl⟩
      ·refine sp ?_;exact⟨u0.2,_,⟨X0,j1,G,H,rfl⟩,rfl⟩
    ·refine xt ?_;cases G;exact⟨_,_,⟨X0,j1,v4,H,rfl⟩,rfl⟩
  ·refine xt ?_;cases b0;exact⟨_,_,⟨m3,d5,t4,b1,rfl⟩,rfl⟩

end Go.E




