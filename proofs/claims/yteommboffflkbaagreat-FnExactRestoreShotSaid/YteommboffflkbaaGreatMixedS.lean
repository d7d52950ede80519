/- Models of functions and proofs that the code runs as they say (written by program). Conditions: the model gives a value. -/
import Derived.Test.YteommboffflkbaaGreatFGe
import Derived.Test.YteommboffflkbaaGreatRow
namespace Go.E
open Go.RowKit Go.Proofs
set_option linter.unusedVariables false
set_option linter.unusedSimpArgs false
set_option maxHeartbeats 2000000
set_option maxRecDepth 100000

theorem zei:EN 198:=en Tryz.func198
def z4G (fu:Nat) (x0:Bool):Option (Int):=(if x0=true then some 1 else some 0)

theorem z9r {W w:World}(hE:Ext W w){x0:Bool}  {fu:Nat}{r:Int}(hm:z4G fu x0=some r):
  CL 198 ⟨[.bool x0]⟩ w (RI w r):=by
 refine into Tryz.func198 4 _ ?_;unfold z4G at hm;have hS:=St.start w;refine sq<|rg<|rr 1 ?_;refine rn<|sq<|sq<|rg<|rr 1 ?_;refine rn<|ci hm (fun hm=>?_) (fun hm=>?_)
 ·refine sq<|rg<|rr 1 ?_;refine rn<|rt ?_;cases hm;exact⟨_,tR rfl,rfl,hS⟩
 ·refine sp<|sq<|rg<|rr 1 ?_;refine rn<|rt ?_;cases hm;exact⟨_,tR rfl,rfl,hS⟩

theorem ziX:EN 145:=en Tryz.func145
def zaJ (fu:Nat) (t2:Int):Option Int:=some t2
def z4f (fu:Nat) (x0:(List D.Qe)) (s1:Int × Int):Option (Rd (Int × Int) (Int) (Int)):=(if(decide (s1.2<(x0.length:Int)))=true then((idx x0 s1.2).bind fun h=>((z4G fu (h.Qj == 4)).bind fun d=>some (.next (w64 (s1.1+d),w64 (s1.2+1))))) else some (.brk s1.1))
def z4K (fu:Nat) (x0:(List D.Qe)):Option (Int):=((iter (z4f fu x0) fu (0,0)).bind fun o=>aft o (zaJ fu))

theorem zbw {W w:World}(hE:Ext W w){q:Option Addr}{d0:Nat}{x0:(List D.Qe)}(i0:z7U.ro W [sl q x0 d0] x0){fu:Nat}{r:Int}(hm:z4K fu x0=some r):
  CL 145 ⟨[sl q x0 d0]⟩ w (RI w r):=by
 refine into Tryz.func145 21 _ ?_;unfold z4K at hm;have hS:=St.start w;refine sq<|rg<|rr 1 ?_;refine rn<|sq<|rg<|rr 1 ?_;refine rn<|sq<|sq<|rg<|rr 1 ?_;refine rn ?_;obtain⟨j0,S,hm⟩:=bS hm;refine ct (fun(t2:Int) F w9=>j0=.inl t2∧Ext w w9∧St w w9 []∧F=[(3,iv t2)]) ?_ ?_
 ·rintro t2 F w7 ⟨X,r0,H,rfl⟩;subst X;rw [z8] at hm;unfold zaJ at hm;refine sq<|rg<|rr 2 ?_;refine rn<|rt ?_;cases hm;exact⟨_,tR rfl,rfl,H⟩
 ·refine bk<|wk [0,3,4] ?_;refine it (fun(s1:Int × Int) F w9=>Ext w w9∧St w w9 []∧F=[(0,sl q x0 d0),(3,iv s1.1),(4,iv s1.2)]) S ⟨(Ext.refl _),hS,rfl⟩ ?_;rintro s1 F C0 _ v0 ⟨e0,h,rfl⟩ d Y;unfold z4f at d;refine sq<|sq<|rg<|rr 4 ?_;refine rn<|ci d (fun d=>?_) (fun d=>?_)
  ·refine sp<|sq<|bk<|rg<|rr 3 ?_;obtain⟨E0,a0,d⟩:=bS d;refine ix (hE.trans h.ext) i0 a0 (fun y0 g0 O Z=>?_);obtain⟨k0,t0,o0,u0,f0,p0,q0⟩:=zC Z;subst f0;refine rr 1 ?_;refine l1 (ax hE h O) 0 ?_;refine rr 1 ?_;obtain⟨A0,b0,d⟩:=bS d;refine ca zei (z9r (hE.trans h.ext)  b0) (fun B0 D0 G=>?_);obtain⟨rfl,o⟩:=G;have M:=h.join o;refine rr 2 ?_;refine rn<|rg<|rr 3 ?_;refine rn ?_;cases d;exact⟨_,_,rfl,⟨(e0.trans o.ext),M,rfl⟩,rfl⟩
  ·refine xt ?_;cases d;exact⟨_,_,⟨Y,e0,h,rfl⟩,rfl⟩

theorem zek:EN 156:=en Tryz.func156
def z7f (fu:Nat) (x0:Bool):Option (Int):=(if x0=true then some 1 else some 0)

theorem zb0 {W w:World}(hE:Ext W w){x0:Bool}  {fu:Nat}{r:Int}(hm:z7f fu x0=some r):
  CL 156 ⟨[.bool x0]⟩ w (RI w r):=by
 refine into Tryz.func156 4 _ ?_;unfold z7f at hm;have hS:=St.start w;refine sq<|rg<|rr 1 ?_;refine rn<|sq<|sq<|rg<|rr 1 ?_;refine rn<|ci hm (fun hm=>?_) (fun hm=>?_)
 ·refine sq<|rg<|rr 1 ?_;refine rn<|rt ?_;cases hm;exact⟨_,tR rfl,rfl,hS⟩
 ·refine sp<|sq<|rg<|rr 1 ?_;refine rn<|rt ?_;cases hm;exact⟨_,tR rfl,rfl,hS⟩

theorem ziW:EN 146:=en Tryz.func146
def zc6 (fu:Nat) (t2:Int):Option Int:=some t2
def z7b (fu:Nat) (x0:(List D.Qe)) (s1:Int × Int):Option (Rd (Int × Int) (Int) (Int)):=(if(decide (s1.2<(x0.length:Int)))=true then((idx x0 s1.2).bind fun h=>((z7f fu (h.Qj == 4)).bind fun d=>some (.next (w64 (s1.1+d),w64 (s1.2+1))))) else some (.brk s1.1))
def z7Q (fu:Nat) (x0:(List D.Qe)):Option (Int):=((iter (z7b fu x0) fu (0,0)).bind fun o=>aft o (zc6 fu))

theorem zcV {W w:World}(hE:Ext W w){q:Option Addr}{e0:Nat}{x0:(List D.Qe)}(i0:z7U.ro W [sl q x0 e0] x0){fu:Nat}{r:Int}(hm:z7Q fu x0=some r):
  CL 146 ⟨[sl q x0 e0]⟩ w (RI w r):=by
 refine into Tryz.func146 20 _ ?_;unfold z7Q at hm;have hS:=St.start w;refine sq<|rg<|rr 1 ?_;refine rn<|sq<|rg<|rr 1 ?_;refine rn<|sq<|sq<|rg<|rr 3 ?_;refine rn ?_;obtain⟨o5,k0,hm⟩:=bS hm;refine ct (fun(t2:Int) F w9=>o5=.inl t2∧St w w9 []∧F=[(3,iv t2)]) ?_ ?_
 ·rintro t2 F w4 ⟨Y,j0,rfl⟩;subst Y;rw [z8] at hm;unfold zc6 at hm;refine sq<|rg<|rr 2 ?_;refine rn<|rt ?_;cases hm;exact⟨_,tR rfl,rfl,j0⟩
 ·refine bk<|wk [3,6,7,8] ?_;refine it (fun(s1:Int × Int) F w9=>St w w9 []∧F=[(3,iv s1.1),(6,sl q x0 e0),(7,iv (x0.length:Int)),(8,iv s1.2)]) k0 ⟨hS,rfl⟩ ?_;rintro s1 F E0 _ A0 ⟨h,rfl⟩ d Z;unfold z7b at d;refine sq<|rg<|rr 1 ?_;refine rn<|sq<|ci d (fun d=>?_) (fun d=>?_)
  ·refine sp<|sq<|bk<|sq<|rg ?_;obtain⟨J0,b0,d⟩:=bS d;refine ix (hE.trans h.ext) i0 b0 (fun B0 g0 X a0=>?_);obtain⟨o0,v0,p0,y0,f0,t0,u0⟩:=zC a0;subst f0;refine lN (ax hE h X) ?_;refine nw h (fun r0 F0 q0 M=>?_);have O:=M.bring 0 rfl;refine so (A:=[]) O 0 (fun G0 o=>?_);refine rn<|rg<|rr 2 ?_;refine l1 ((o.bring 0 rfl).box) 0 ?_;refine rr 1 ?_;obtain⟨C0,d0,d⟩:=bS d;refine ca zek (zb0 (hE.trans o.ext)  d0) (fun D0 H0 G=>?_);obtain⟨rfl,H⟩:=G;have S:=o.join H;refine rr 2 ?_;refine rn<|rg<|rr 2 ?_;refine rn ?_;cases d;exact⟨_,_,rfl,⟨(S.taken 0),rfl⟩,rfl⟩
  ·refine xt ?_;cases d;exact⟨_,_,⟨Z,h,rfl⟩,rfl⟩

end Go.E


namespace Go.E
open Go.RowKit Go.Proofs
set_option linter.unusedVariables false
set_option linter.unusedSimpArgs false
set_option maxHeartbeats 2000000
set_option maxRecDepth 100000

theorem zk6:EN 87:=en Tryz.func87
def z7O (fu:Nat) (x0:(List Bool)) (x1:Int):Option (Int):=(if(decide ((w64 (x1 - (x0.length:Int)))<0))=true then some (-1) else some (w64 (x1 - (x0.length:Int))))

theorem laws_szBoolS_ok {W w:World}(hE:Ext W w){d:Option Addr}{h:Nat}{x0:(List Bool)}{x1:Int}(o:ty56.ro W [sl d x0 h] x0){fu:Nat}{r:Int}(hm:z7O fu x0 x1=some r):
  CL 87 ⟨[sl d x0 h,iv x1]⟩ w (RI w r):=by
 refine into Tryz.func87 12 _ ?_;unfold z7O at hm;have hS:=St.start w;refine sq<|rg<|rr 1 ?_;refine rn<|sq<|rg<|rr 5 ?_;refine rn<|sq<|sq<|rg<|rr 2 ?_;refine rn<|ci hm (fun hm=>?_) (fun hm=>?_)
 ·refine sq<|rg<|rr 1 ?_;refine rn<|rt ?_;cases hm;exact⟨_,tR rfl,rfl,hS⟩
 ·refine sp<|sq<|rg<|rr 2 ?_;refine rn<|rt ?_;cases hm;exact⟨_,tR rfl,rfl,hS⟩

theorem zk5:EN 89:=en Tryz.func89
def zc4 (fu:Nat) (d:(List Bool)):Option (List Bool):=some d
def z8B (fu:Nat) (x0:(List Bool)) (d:Int × (List Bool)):Option (Rd (Int × (List Bool)) ((List Bool)) ((List Bool))):=(if(decide (d.1<(x0.length:Int)))=true then((idx x0 d.1).bind fun h=>(if decide (0≤d.1∧d.1.toNat<d.2.length)=true then some (.next (w64 (d.1+1),(d.2.set d.1.toNat h))) else none)) else some (.brk d.2))
def z7N (fu:Nat) (x0:(List Bool)):Option ((List Bool)):=(if decide (0≤(x0.length:Int)∧(x0.length:Int)≤4294967296)=true then((iter (z8B fu x0) fu (0,(List.replicate (x0.length:Int).toNat false))).bind fun o=>aft o (zc4 fu)) else none)

theorem laws_toBoolS_ok {W w:World}(hE:Ext W w){H:Option Addr}{g0:Nat}{x0:(List Bool)}(q0:ty56.ro W [sl H x0 g0] x0){fu:Nat}{r:(List Bool)}(hm:z7N fu x0=some r):
  CL 89 ⟨[sl H x0 g0]⟩ w (Ret fun v w8=>∃ A0 k0,v=sl A0 r k0∧St w w8 [ow ty56 A0 r k0]):=by
 refine into Tryz.func89 22 _ ?_;unfold z7N at hm;have hS:=St.start w;refine sq<|rg<|rr 1 ?_;refine rn<|sq<|rg<|rr 2 ?_;obtain⟨t0,hm⟩:=iS hm;have hz7:=of_decide_eq_true t0;refine mS (U:=tBool) false hS hz7 (fun _=>⟨rfl,rfl⟩) (fun A2 k3 w4 e5 r0=>?_);refine rr 1 ?_;refine rn<|sq<|sq<|rg<|rr 1 ?_;refine rn ?_;obtain⟨u0,a0,hm⟩:=bS hm;refine ct (fun(j0:(List Bool)) F w9=>u0=.inl j0∧St w w9 [Own ty56 [sl A2 (List.replicate (x0.length:Int).toNat false) k3] j0]∧F=[(3,sl A2 (List.replicate (x0.length:Int).toNat false) k3)]) ?_ ?_
 ·rintro j0 F B0 ⟨b0,q,rfl⟩;subst b0;rw [z8] at hm;unfold zc4 at hm;refine sq<|rg<|rr 2 ?_;refine rn<|rt ?_;cases hm;have hn18:=(q.bring 0 rfl).lenEq;have M:=(q.bring 0 rfl).reLen hn18;exact⟨_,tR rfl,A2,k3,(by first | (simp only [sl,hn18];done) | (simp only [sl,hn18];rfl)),M⟩
 ·refine bk<|wk [0,3,4] ?_;refine it (fun(i0:Int × (List Bool)) F w9=>St w w9 [Own ty56 [sl A2 (List.replicate (x0.length:Int).toNat false) k3] i0.2]∧F=[(0,sl H x0 g0),(3,sl A2 (List.replicate (x0.length:Int).toNat false) k3),(4,iv i0.1)]) a0 ⟨r0,rfl⟩ ?_;rintro i0 F C0 _ v0 ⟨h,rfl⟩ d d0;unfold z8B at d;refine sq<|sq<|rg<|rr 4 ?_;refine rn<|ci d (fun d=>?_) (fun d=>?_)
  ·refine sp<|sq<|bk<|rg<|rr 4 ?_;obtain⟨o0,f0,d⟩:=bS d;refine ix (hE.trans h.ext) q0 f0 (fun y0 p0 Y e0=>?_);cases e0;refine l1 (ax hE h Y) 0 ?_;have G:=h.bring 0 rfl;obtain⟨Z,d⟩:=iS d;have o:=of_decide_eq_true Z;refine io G o.1 o.2 (fun q34 hq35=>?_);have O:=G.flat (T:=tBool) (cs:=[.bool o0]) (x:=o0) ⟨rfl,rfl⟩;have S:=O.bring 1 rfl;refine se S o.2 hq35 (fun D0 X=>?_);refine rn<|rg<|rr 3 ?_;refine rn ?_;cases d;exact⟨_,_,rfl,⟨X,rfl⟩,rfl⟩
  ·refine xt ?_;cases d;exact⟨_,_,⟨d0,h,rfl⟩,rfl⟩

theorem zk4:EN 92:=en Tryz.func92
def zc5 (fu:Nat) (t2:Unit):Option Bool:=some true
def z8C (fu:Nat) (x0:(List Bool)) (x1:(List Bool)) (s1:Int):Option (Rd (Int) (Unit) (Bool)):=(if(decide (s1<(x0.length:Int)))=true then((idx x0 s1).bind fun d=>((idx x1 s1).bind fun h=>(if(!(d == h))=true then some (.ret false) else some (.next (w64 (s1+1)))))) else some (.brk ()))
def z7P (fu:Nat) (x0:(List Bool)) (x1:(List Bool)):Option (Bool):=(if((x0.length:Int) != (x1.length:Int))=true then some false else((iter (z8C fu x0 x1) fu 0).bind fun o=>aft o (zc5 fu)))

theorem laws_eqBoolS_ok {W w:World}(hE:Ext W w){H:Option Addr}{f0:Nat}{x0:(List Bool)}{M:Option Addr}{g0:Nat}{x1:(List Bool)}(o0:ty56.ro W [sl H x0 f0] x0) (p0:ty56.ro W [sl M x1 g0] x1){fu:Nat}{r:Bool}(hm:z7P fu x0 x1=some r):
  CL 92 ⟨[sl H x0 f0,sl M x1 g0]⟩ w (RB w r):=by
 refine into Tryz.func92 26 _ ?_;unfold z7P at hm;have hS:=St.start w;refine sq<|rg<|rr 1 ?_;refine rn<|sq<|sq<|rg<|rr 5 ?_;refine rn<|ci hm (fun hm=>?_) (fun hm=>?_)
 ·refine sq<|rg<|rr 1 ?_;refine rn<|rt ?_;cases hm;exact⟨_,tR rfl,rfl,hS⟩
 ·refine sp<|sq<|sq<|rg<|rr 1 ?_;refine rn ?_;obtain⟨q0,Y,hm⟩:=bS hm;refine ct (fun(t2:Unit) F w9=>q0=.inl t2∧Ext w w9∧St w w9 []∧F=[]) ?_ ?_
  ·rintro t2 F w7 ⟨Z,r0,O,rfl⟩;subst Z;rw [z8] at hm;unfold zc5 at hm;refine sq<|rg<|rr 1 ?_;refine rn<|rt ?_;cases hm;exact⟨_,tR rfl,rfl,O⟩
  ·refine bk<|wk [0,1,5] ?_;refine it (fun(s1:Int) F w9=>Ext w w9∧St w w9 []∧F=[(0,sl H x0 f0),(1,sl M x1 g0),(5,iv s1)]) Y ⟨(Ext.refl _),hS,rfl⟩ ?_;rintro s1 F y0 _ t0 ⟨i0,h,rfl⟩ d G;unfold z8C at d;refine sq<|sq<|rg<|rr 4 ?_;refine rn<|ci d (fun d=>?_) (fun d=>?_)
   ·refine sp<|sq<|bk<|sq<|dn 0 mixed 9 [([],511),([],511),([0,1],508),([2],507),([],511),([],511),([4,5],463),([6],447),([3,7],375)] h.ext (fun o=>?_);have q:=h.step (Ext.draw _);refine dr 5 o [0,1,4,5] ?_;obtain⟨A0,d0,d⟩:=bS d;refine dx (hE.trans h.ext) o 2 o0 d0 (fun u0 j0 S a0=>?_);cases a0;refine dl o 3 (ax hE h S) 0 ?_;obtain⟨B0,e0,d⟩:=bS d;refine dx (hE.trans h.ext) o 6 p0 e0 (fun v0 k0 X b0=>?_);cases b0;refine dl o 7 (ax hE h X) 0 ?_;refine dr 0 o [8] ?_;refine dw [0,1,5,25] ?_;refine dd o ?_;refine ci d (fun d=>?_) (fun d=>?_)
    ·refine sq<|rg<|rr 1 ?_;refine rn<|rt ?_;cases d;cases G;have hm:some _=some _:=hm;cases hm;exact⟨_,tR rfl,rfl,q⟩
    ·refine sp<|rg<|rr 3 ?_;refine rn ?_;cases d;exact⟨_,_,rfl,⟨(i0.trans (Ext.draw _)),q,rfl⟩,rfl⟩
   ·refine xt ?_;cases d;exact⟨_,_,⟨G,i0,h,rfl⟩,rfl⟩

end Go.E


namespace Go.E
open Go.RowKit Go.Proofs
set_option linter.unusedVariables false

def zcf (W0:World):Ty D.Qp:=tMap (fun c:D.Qp=>(c.Cells,c.QG,c.Qu,())) (tPair (tBor W0 z6K) (tPair (tBor W0 z3w) (tPair (tBor W0 z3h) tUnit)))
instance {W0:World}:Reads W0 (zcf W0):=inferInstanceAs (Reads W0 (tMap (fun c:D.Qp=>(c.Cells,c.QG,c.Qu,())) (tPair (tBor W0 z6K) (tPair (tBor W0 z3w) (tPair (tBor W0 z3h) tUnit)))))
theorem zkG {W0:World}:(zcf W0).ro=z20.ro:=rfl
theorem zi5 {W0 w:World}{c:D.Qp}{A0:Option Addr}{k0:Nat}{A1:Option Addr}{k1:Nat}{A2:Option Addr}{k2:Nat}{G:List Nat}(h:(All [Own (tBor W0 z6K) [.slice A0 c.Cells.length k0] c.Cells,Own (tBor W0 z3w) [.slice A1 c.QG.length k1] c.QG,Own (tBor W0 z3h) [.slice A2 c.Qu.length k2] c.Qu]).A w G):(zcf W0).own w [.slice A0 c.Cells.length k0,.slice A1 c.QG.length k1,.slice A2 c.Qu.length k2] c G:=by
 obtain⟨G0,R0,rfl,h0,G1,R1,rfl,h1,G2,R2,rfl,h2,hz⟩:=h
 have hz':R2=[]:=hz
 subst hz'
 exact cast (congrArg _ (by simp)) (show(zcf W0).own w [.slice A0 c.Cells.length k0,.slice A1 c.QG.length k1,.slice A2 c.Qu.length k2] c (_) from⟨_,_,_,_,rfl,rfl,h0,⟨_,_,_,_,rfl,rfl,h1,⟨_,_,_,_,rfl,rfl,h2,⟨rfl,rfl⟩⟩⟩⟩)
theorem zhk {W0 W w:World}{B:List Res}{c:D.Qp}{A0:Option Addr}{k0:Nat}{A1:Option Addr}{k1:Nat}{A2:Option Addr}{k2:Nat}(h:St W w ([Own (tBor W0 z6K) [.slice A0 c.Cells.length k0] c.Cells,Own (tBor W0 z3w) [.slice A1 c.QG.length k1] c.QG,Own (tBor W0 z3h) [.slice A2 c.Qu.length k2] c.Qu]++B)):St W w (Own (zcf W0) [.slice A0 c.Cells.length k0,.slice A1 c.QG.length k1,.slice A2 c.Qu.length k2] c::B):=(St.fuseAll h).conv fun _ hG=>zi5 hG

def zq0 (W0:World):Ty (List D.Qp):=tSl 166 (zcf W0)
instance {W0:World}:Reads W0 (zq0 W0):=inferInstanceAs (Reads W0 (tSl 166 (zcf W0)))
theorem zmf {W0:World}:(zq0 W0).ro=ty34.ro:=zq2 zkG

end Go.E


