/- Models of functions and proofs that the code runs as they say (written by program). Conditions: the model gives a value. -/
import Derived.Test.YtfndicpnccabkaaGreatQB
import Derived.Test.YtfndicpnccabkaaGreatFC
namespace Go.E
open Go.RowKit Go.Proofs
set_option linter.unusedVariables false
set_option linter.unusedSimpArgs false
set_option maxHeartbeats 2000000
set_option maxRecDepth 100000

theorem zge:Enters Tryz.prog 238:=⟨_,_,Tryz.func238,rfl,by kernel_rfl⟩
def z5o (fuel:Nat) (x0:Int):Option (Bool):=some (x0 != x0)

theorem z9h {W:Base}{w:World}(hE:Ext W w){x0:Int}  {fuel:Nat}{r:Bool}(hm:z5o fuel x0=some r):
  Calls Tryz.prog 238 ⟨[.int .i64 x0]⟩ w (Ret fun v w8=>v=.bool r∧St w w8 []):=by
 refine into Tryz.func238 6 _ ?_;unfold z5o at hm;have hS:=St.start w;refine sq<|rg<|rr 1 ?_;refine rn<|sq<|rg<|rr 4 ?_;refine rn<|rt ?_;cases hm;exact⟨_,.cons (.tmp rfl) .nil,rfl,hS⟩

theorem zgi:Enters Tryz.prog 208:=⟨_,_,Tryz.func208,rfl,by kernel_rfl⟩
def z2s (fuel:Nat) (x0:Int) (x1:Int):Option (Int):=((z5o fuel x0).bind fun r1=>((z5o fuel x1).bind fun o=>(if r1=true then(if o=true then some 0 else some (-1)) else(if o=true then some 1 else(if(decide (x0<x1))=true then some (-1) else(if(decide (x0>x1))=true then some 1 else some 0))))))

theorem z8x {W:Base}{w:World}(hE:Ext W w){x0:Int}{x1:Int}  {fuel:Nat}{r:Int}(hm:z2s fuel x0 x1=some r):
  Calls Tryz.prog 208 ⟨[.int .i64 x0,.int .i64 x1]⟩ w (Ret fun v w8=>v=.int .i64 r∧St w w8 []):=by
 refine into Tryz.func208 20 _ ?_;unfold z2s at hm;have hS:=St.start w;refine sq<|rg<|rr 1 ?_;refine rn<|sq<|rg<|rr 1 ?_;obtain⟨r1,Z,hm⟩:=bS hm;refine ca zge (z9h (hE.trans hS.ext)  Z) (fun v3 w4 X=>?_);obtain⟨rfl,Y⟩:=X;have O:=hS.join Y;refine rr 1 ?_;refine rn<|sq<|rg<|rr 1 ?_;obtain⟨a0,H,hm⟩:=bS hm;refine ca zge (z9h (hE.trans O.ext)  H) (fun b0 c0 q=>?_);obtain⟨rfl,G⟩:=q;have o:=O.join G;refine rr 1 ?_;refine rn<|sq<|sq<|rg<|rr 1 ?_;refine rn<|ci hm (fun hm=>?_) (fun hm=>?_)
 ·refine sq<|sq<|rg<|rr 1 ?_;refine rn<|ci hm (fun hm=>?_) (fun hm=>?_)
  ·refine sq<|rg<|rr 1 ?_;refine rn<|rt ?_;cases hm;exact⟨_,.cons (.tmp rfl) .nil,rfl,o⟩
  ·refine sp<|sq<|rg<|rr 1 ?_;refine rn<|rt ?_;cases hm;exact⟨_,.cons (.tmp rfl) .nil,rfl,o⟩
 ·refine sp<|sq<|sq<|rg<|rr 1 ?_;refine rn<|ci hm (fun hm=>?_) (fun hm=>?_)
  ·refine sq<|rg<|rr 1 ?_;refine rn<|rt ?_;cases hm;exact⟨_,.cons (.tmp rfl) .nil,rfl,o⟩
  ·refine sp<|sq<|sq<|rg<|rr 3 ?_;refine rn<|ci hm (fun hm=>?_) (fun hm=>?_)
   ·refine sq<|rg<|rr 1 ?_;refine rn<|rt ?_;cases hm;exact⟨_,.cons (.tmp rfl) .nil,rfl,o⟩
   ·refine sp<|sq<|sq<|rg<|rr 3 ?_;refine rn<|ci hm (fun hm=>?_) (fun hm=>?_)
    ·refine sq<|rg<|rr 1 ?_;refine rn<|rt ?_;cases hm;exact⟨_,.cons (.tmp rfl) .nil,rfl,o⟩
    ·refine sp<|sq<|rg<|rr 1 ?_;refine rn<|rt ?_;cases hm;exact⟨_,.cons (.tmp rfl) .nil,rfl,o⟩

theorem zgj:Enters Tryz.prog 207:=⟨_,_,Tryz.func207,rfl,by kernel_rfl⟩
def z1h (fuel:Nat) (x0:(List Int)) (x1:(List Int)) (t2:Unit):Option Int:=(if(decide ((x0.length:Int)<(x1.length:Int)))=true then some (-1) else some 0)
def zR (fuel:Nat) (x0:(List Int)) (x1:(List Int)) (s1:Int):Option (Rd (Int) (Unit) (Int)):=(if(decide (s1<(x0.length:Int)))=true then((idx x0 s1).bind fun q=>(if(decide (s1≥(x1.length:Int)))=true then some (.ret 1) else((idx x1 s1).bind fun G=>((z2s fuel q G).bind fun o=>(if(o != 0)=true then some (.ret o) else some (.next (w64 (s1+1)))))))) else some (.brk ()))
def zK (fuel:Nat) (x0:(List Int)) (x1:(List Int)):Option (Int):=((iter (zR fuel x0 x1) fuel 0).bind fun o=>aft o (z1h fuel x0 x1))

theorem z5y {W:Base}{w:World}(hE:Ext W w){H:Option Addr}{Z:Nat}{x0:(List Int)}{a0:Option Addr}{b0:Nat}{x1:(List Int)}(v0:ty45.ro W [sl H x0 Z] x0) (y0:ty45.ro W [sl a0 x1 b0] x1){fuel:Nat}{r:Int}(hm:zK fuel x0 x1=some r):
  Calls Tryz.prog 207 ⟨[sl H x0 Z,sl a0 x1 b0]⟩ w (Ret fun v w8=>v=.int .i64 r∧St w w8 []):=by
 refine into Tryz.func207 36 _ ?_;unfold zK at hm;have hS:=St.start w;refine sq<|rg<|rr 1 ?_;refine rn<|sq<|sq<|rg<|rr 3 ?_;refine rn ?_;obtain⟨A0,g0,hm⟩:=bS hm;refine ct (fun(t2:Unit) F w9=>A0=.inl t2∧Ext w w9∧St w w9 []∧F=[(0,sl H x0 Z),(1,sl a0 x1 b0)]) ?_ ?_
 ·rintro t2 F w7 ⟨i0,B0,X,rfl⟩;subst i0;rw [z6] at hm;unfold z1h at hm;refine sq<|sq<|rg<|rr 5 ?_;refine rn<|ci hm (fun hm=>?_) (fun hm=>?_)
  ·refine sq<|rg<|rr 1 ?_;refine rn<|rt ?_;cases hm;exact⟨_,.cons (.tmp rfl) .nil,rfl,X⟩
  ·refine sp<|sq<|rg<|rr 1 ?_;refine rn<|rt ?_;cases hm;exact⟨_,.cons (.tmp rfl) .nil,rfl,X⟩
 ·refine bk<|wk [0,1,9,10,11] ?_;refine it (fun(s1:Int) F w9=>Ext w w9∧St w w9 []∧F=[(0,sl H x0 Z),(1,sl a0 x1 b0),(9,sl H x0 Z),(10,.int .i64 (x0.length:Int)),(11,.int .i64 s1)]) g0 ⟨(Ext.refl _),hS,rfl⟩ ?_;rintro s1 F H0 _ C0 ⟨r0,q,rfl⟩ o G;unfold zR at o;refine sq<|rg<|rr 1 ?_;refine rn<|sq<|ci o (fun o=>?_) (fun o=>?_)
  ·refine sp<|sq<|bk<|sq<|rg<|rr 1 ?_;obtain⟨K0,o0,o⟩:=bS o;refine ix (hE.trans q.ext) v0 o0 (fun D0 t0 e0 j0=>?_);cases j0;refine l1 (At.ext (hE.trans q.ext) e0) 0 ?_;refine rr 2 ?_;refine rn<|sq<|sq<|rg<|rr 4 ?_;refine rn<|ci o (fun o=>?_) (fun o=>?_)
   ·refine sq<|rg<|rr 1 ?_;refine rn<|rt ?_;cases o;cases G;have hm:some _=some _:=hm;cases hm;exact⟨_,.cons (.tmp rfl) .nil,rfl,q⟩
   ·refine sp<|sq<|rg<|rr 2 ?_;obtain⟨L0,p0,o⟩:=bS o;refine ix (hE.trans q.ext) y0 p0 (fun E0 u0 f0 k0=>?_);cases k0;refine l1 (At.ext (hE.trans q.ext) f0) 0 ?_;refine rr 1 ?_;refine rn<|sq<|rg<|rr 2 ?_;obtain⟨F0,q0,o⟩:=bS o;refine ca zgi (z8x (hE.trans q.ext)  q0) (fun G0 J0 c0=>?_);obtain⟨rfl,O⟩:=c0;have Y:=q.join O;refine rr 1 ?_;refine rn<|sq<|rg<|rr 2 ?_;refine rn<|ci o (fun o=>?_) (fun o=>?_)
    ·refine sq<|rg<|rr 2 ?_;refine rn<|rt ?_;cases o;cases G;have hm:some _=some _:=hm;cases hm;exact⟨_,.cons (.tmp rfl) .nil,rfl,Y⟩
    ·refine sp<|rg<|rr 2 ?_;refine rn ?_;cases o;exact⟨_,_,rfl,⟨(r0.trans O.ext),Y,rfl⟩,rfl⟩
  ·refine xt ?_;cases o;exact⟨_,_,⟨G,r0,q,rfl⟩,rfl⟩

theorem zkB:Enters Tryz.prog 203:=⟨_,_,Tryz.func203,rfl,by kernel_rfl⟩
def z69 (fuel:Nat) (o:(List Int) × (List Int) × Int):Option D.traversal:=some (⟨o.1,o.2.1,o.2.2⟩:D.traversal)
def zL (fuel:Nat) (q:Int × (List Int) × (List Int) × Int) (o:(List Int) × (List Int) × Int):Option (Rd (Int × (List Int) × (List Int) × Int) ((List Int) × (List Int) × Int) (D.traversal)):=some (.next (w64 (q.1+1),o.1,o.2.1,o.2.2))
def zM (fuel:Nat) (x1:(List Int)) (o:Int × (List Int) × (List Int) × Int) (q:(List Int)) (G:(List Int)) (H:Bool):Option (Rd (Int × (List Int) × (List Int) × Int) ((List Int) × (List Int) × Int) (D.traversal)):=(if H=true then((idx x1 0).bind fun O=>(if(!q.isEmpty)=true then zL fuel o (q,G,O) else none)) else zL fuel o (o.2.1,o.2.2.1,o.2.2.2))
def zN (fuel:Nat) (x0:D.Net) (x1:(List Int)) (o:Int × (List Int) × (List Int) × Int):Option (Rd (Int × (List Int) × (List Int) × Int) ((List Int) × (List Int) × Int) (D.traversal)):=(if(decide (o.1<(x1.length:Int)))=true then((idx x1 o.1).bind fun O=>((z1N fuel x0 O).bind fun q=>((z6y fuel x0 q).bind fun G=>(if o.2.1.isEmpty=true then zM fuel x1 o q G true else((zK fuel G o.2.2.1).bind fun H=>zM fuel x1 o q G (decide (H<0))))))) else some (.brk (o.2.1,o.2.2.1,o.2.2.2)))
def z1w (fuel:Nat) (x0:D.Net) (x1:(List Int)):Option (D.traversal):=((iter (zN fuel x0 x1) fuel (0,[],[],0)).bind fun o=>aft o (z69 fuel))

theorem z8Y {W:Base}{w:World}(hE:Ext W w){v0:Addr}{C1:List Value}{x0:D.Net}{Z:Option Addr}{c0:Nat}{x1:(List Int)}(L0:ty30.ro W C1 x0) (D1:At W v0 C1) (E1:ty45.ro W [sl Z x1 c0] x1){fuel:Nat}{r:D.traversal}(hm:z1w fuel x0 x1=some r):
  Calls Tryz.prog 203 ⟨[.pointer (some v0),sl Z x1 c0]⟩ w (Ret fun v w8=>∃ A0 k0 A1 k1,v=.agg ⟨[sl A0 r.list_ k0,sl A1 r.code k1,.int .i64 r.least]⟩∧St w w8 [ow ty45 A0 r.list_ k0,ow ty45 A1 r.code k1]):=by
 obtain⟨A1,k2,e4,h3⟩:=z2Y L0;subst e4;refine into Tryz.func203 40 _ ?_;unfold z1w at hm;have hS:=St.start w;refine sq<|rg<|nw hS (fun g5 w6 e7 R0=>?_);refine rn<|sq<|rg<|nw R0 (fun a0 X1 R1 S0=>?_);refine rn<|sq<|sq<|rg<|rr 3 ?_;refine rn ?_;obtain⟨L1,f1,hm⟩:=bS hm;refine ct (fun(f0:(List Int) × (List Int) × Int) F w9=>∃ o0 C0 y0 D0,L1=.inl f0∧(f0.1=[]→o0=none)∧St w w9 [ow ty45 o0 f0.1 C0,ow ty45 y0 f0.2.1 D0,Box a0 [sl o0 f0.1 C0,sl y0 f0.2.1 D0,.int .i64 f0.2.2] 283,Box g5 [.slice none 0 0,.slice none 0 0,.int .i64 0] 283]∧F=[(4,.pointer (some ⟨g5,0,none⟩)),(5,.pointer (some ⟨a0,0,none⟩))]) ?_ ?_
 ·rintro f0 F Y1 ⟨o0,C0,y0,D0,g1,S1,t0,rfl⟩;subst g1;rw [z6] at hm;unfold z69 at hm;refine sq<|rg<|lN ((t0.bring 2 rfl).box) ?_;have T0:=t0.bring 3 rfl;refine so (A:=[]) T0 0 (fun a2 u0=>?_);refine rn<|rt ?_;cases hm;exact⟨_,.cons (ra ((u0.bring 0 rfl).box)) .nil,o0,C0,y0,D0,rfl,(((u0.bring 2 rfl).bring 2 rfl).taken 2)⟩
 ·refine bk ?_;have U0:=S0.nilSl tInt 2;have V0:=U0.nilSl tInt 2;refine wk [0,1,4,5,10,11,12] ?_;refine it (fun(q:Int × (List Int) × (List Int) × Int) F w9=>∃ O e0 i0 j0,(q.2.1=[]→O=none)∧St w w9 [ow ty45 O q.2.1 e0,ow ty45 i0 q.2.2.1 j0,Box a0 [sl O q.2.1 e0,sl i0 q.2.2.1 j0,.int .i64 q.2.2.2] 283,Box g5 [.slice none 0 0,.slice none 0 0,.int .i64 0] 283]∧F=[(0,.pointer (some v0)),(1,sl Z x1 c0),(4,.pointer (some ⟨g5,0,none⟩)),(5,.pointer (some ⟨a0,0,none⟩)),(10,sl Z x1 c0),(11,.int .i64 (x1.length:Int)),(12,.int .i64 q.1)]) f1 ⟨none,0,none,0,(fun _=>rfl),(V0.sel [1,0,2,3]),rfl⟩ ?_;rintro q F b2 _ F1 ⟨O,e0,i0,j0,M0,H,rfl⟩ o i1;unfold zN at o;refine sq<|rg<|rr 1 ?_;refine rn<|sq<|ci o (fun o=>?_) (fun o=>?_)
  ·refine sp<|sq<|bk<|sq<|rg ?_;obtain⟨i2,n1,o⟩:=bS o;refine ix (hE.trans H.ext) E1 n1 (fun T1 G1 b1 j1=>?_);cases j1;refine l1 (At.ext (hE.trans H.ext) b1) 0 ?_;refine rr 1 ?_;refine rn<|sq<|rg<|rr 2 ?_;obtain⟨G0,p1,o⟩:=bS o;refine ca zdH (z6H (hE.trans H.ext) L0 D1 p1) (fun V1 d2 N0=>?_);obtain⟨J0,v1,rfl,O0⟩:=N0;have X:=H.join O0;refine rr 1 ?_;refine rn<|sq<|rg<|rr 2 ?_;obtain⟨H0,s1,o⟩:=bS o;refine ca zkc (zct (Ext.refl _) (ty30.ext (hE.trans X.ext) L0) (At.ext (hE.trans X.ext) D1) ((X.bring 0 rfl).own) s1) (fun W1 P1 P0=>?_);obtain⟨K0,y1,rfl,Q0⟩:=P0;have G:=X.join Q0;refine rr 1 ?_;refine rn<|sq<|ct (fun(B1:Bool) F w9=>zM fuel x1 q G0 H0 B1=some F1∧Ext P1 w9∧St w w9 [ow ty45 K0 H0 y1,ow ty45 J0 G0 v1,ow ty45 O q.2.1 e0,ow ty45 i0 q.2.2.1 j0,Box a0 [sl O q.2.1 e0,sl i0 q.2.2.1 j0,.int .i64 q.2.2.2] 283,Box g5 [.slice none 0 0,.slice none 0 0,.int .i64 0] 283]∧F=[(0,.pointer (some v0)),(1,sl Z x1 c0),(4,.pointer (some ⟨g5,0,none⟩)),(5,.pointer (some ⟨a0,0,none⟩)),(8,sl J0 G0 v1),(9,sl K0 H0 y1),(10,sl Z x1 c0),(11,.int .i64 (x1.length:Int)),(12,.int .i64 q.1),(31,.bool B1)]) ?_ ?_
   ·rintro B1 F e2 ⟨o,K1,Y,rfl⟩;unfold zM at o;refine ct (fun(g0:(List Int) × (List Int) × Int) F w9=>∃ p0 E0 B0 F0,zL fuel q g0=some F1∧(g0.1=[]→p0=none)∧St w w9 [ow ty45 p0 g0.1 E0,ow ty45 B0 g0.2.1 F0,Box a0 [sl p0 g0.1 E0,sl B0 g0.2.1 F0,.int .i64 g0.2.2] 283,Box g5 [.slice none 0 0,.slice none 0 0,.int .i64 0] 283]∧F=[(0,.pointer (some v0)),(1,sl Z x1 c0),(4,.pointer (some ⟨g5,0,none⟩)),(5,.pointer (some ⟨a0,0,none⟩)),(10,sl Z x1 c0),(11,.int .i64 (x1.length:Int)),(12,.int .i64 q.1)]) ?_ ?_
    ·rintro g0 F f2 ⟨p0,E0,B0,F0,o,J1,X0,rfl⟩;unfold zL at o;refine rg<|rr 2 ?_;refine rn ?_;cases o;exact⟨_,_,rfl,⟨p0,E0,B0,F0,J1,X0,rfl⟩,rfl⟩
    ·refine ci o (fun o=>?_) (fun o=>?_)
     ·refine rg<|rr 3 ?_;obtain⟨Q1,t1,o⟩:=bS o;refine ix (hE.trans Y.ext) E1 t1 (fun U1 H1 d1 m1=>?_);cases m1;refine l1 (At.ext (hE.trans Y.ext) d1) 0 ?_;refine qt (qb) ?_;have Y0:=Y.bring 4 rfl;refine so (A:=[]) Y0 0 (fun g2 a1=>?_);obtain⟨e1,o⟩:=iS o;refine rn ?_;exact⟨(G0,H0,Q1),_,⟨J0,v1,K0,y1,o,(fun h9=>absurd h9 (zoG e1)),(a1.sel [2,1,0,5]),rfl⟩,rfl⟩
     ·refine sp ?_;exact⟨(q.2.1,q.2.2.1,q.2.2.2),_,⟨O,e0,i0,j0,o,M0,(Y.sel [2,3,4,5]),rfl⟩,rfl⟩
   ·refine rg<|rr 1 ?_;refine l1 ((G.bring 4 rfl).box) 0 ?_;refine qt (Quiet.sliceNil ttok (zni (e:=2) (U:=tInt) (show ty45.ro _ [.slice O q.2.1.length e0] q.2.1 from((G.bring 2 rfl).own)) M0) rfl rfl rfl rfl rfl) ?_;refine rr 1 ?_;refine rb 25 o (fun o=>?_) (fun o=>?_)
    ·refine rr 6 ?_;refine rn ?_;exact⟨true,_,⟨o,(Ext.refl _),G,rfl⟩,rfl⟩
    ·refine rr 2 ?_;refine l1 ((G.bring 4 rfl).box) 1 ?_;obtain⟨M1,u1,o⟩:=bS o;refine ca zgj (z5y (Ext.refl _) ((G.bring 0 rfl).own) ((G.bring 3 rfl).own) u1) (fun N1 O1 q0=>?_);obtain⟨rfl,b0⟩:=q0;have r0:=G.join b0;refine rr 2 ?_;refine rn ?_;exact⟨decide (M1<0),_,⟨o,b0.ext,r0,rfl⟩,rfl⟩
  ·refine xt ?_;cases o;exact⟨_,_,⟨O,e0,i0,j0,i1,M0,H,rfl⟩,rfl⟩

end Go.E


