/- Models of functions and proofs that the code runs as they say (written by program). Conditions: the model gives a value. -/
import Derived.Test.YteommboffflkbaaGreatFGc
namespace Go.E
open Go.RowKit Go.Proofs
set_option linter.unusedVariables false
set_option linter.unusedSimpArgs false
set_option maxHeartbeats 2000000
set_option maxRecDepth 100000

theorem zkS:Enters Tryz.prog 235:=⟨_,_,Tryz.func235,rfl,by kernel_rfl⟩
def zU (fuel:Nat) (t2:Unit):Option Int:=some (-1)
def zd (fuel:Nat) (x0:(List D.Qd)) (x1:D.Qd→Option Bool) (s1:Int):Option (Rd (Int) (Unit) (Int)):=(if(decide (s1<(x0.length:Int)))=true then((idx x0 s1).bind fun h=>((x1 h).bind fun d=>(if d=true then some (.ret s1) else some (.next (w64 (s1+1)))))) else some (.brk ()))
def zx (fuel:Nat) (x0:(List D.Qd)) (x1:D.Qd→Option Bool):Option (Int):=((iter (zd fuel x0 x1) fuel 0).bind fun o=>aft o (zU fuel))

theorem z4X {W w:World}(hE:Ext W w){H:Option Addr}{b0:Nat}{x0:(List D.Qd)}{f1_:Nat}{u1_:List Value}{x1:D.Qd→Option Bool}(i0:z7T.ro W [sl H x0 b0] x0) (d0:Enters Tryz.prog f1_∧∀ {w9:World},Ext W w9→∀ {cz0:List Value}{z0:D.Qd}{y9:Bool},z2C.ro w9 cz0 z0→x1 z0=some y9→Calls Tryz.prog f1_ ⟨[.agg ⟨cz0⟩]++u1_⟩ w9 (Ret fun v w8=>v=.bool y9∧St w9 w8 [])){fuel:Nat}{r:Int}(hm:zx fuel x0 x1=some r):
  Calls Tryz.prog 235 ⟨[sl H x0 b0,.func (.func f1_) #[] ⟨u1_⟩]⟩ w (Ret fun v w8=>v=.int .i64 r∧St w w8 []):=by
 refine into Tryz.func235 19 _ ?_;unfold zx at hm;have hS:=St.start w;refine sq<|rg<|rr 1 ?_;refine rn<|sq<|sq<|rg<|rr 3 ?_;refine rn ?_;obtain⟨j0,X,hm⟩:=bS hm;refine ct (fun(t2:Unit) F w9=>j0=.inl t2∧Ext w w9∧St w w9 []∧F=[]) ?_ ?_
 ·rintro t2 F w7 ⟨Y,r0,O,rfl⟩;subst Y;rw [z8] at hm;unfold zU at hm;refine sq<|rg<|rr 1 ?_;refine rn<|rt ?_;cases hm;exact⟨_,.cons (.tmp rfl) .nil,rfl,O⟩
 ·refine bk<|wk [0,1,7,8] ?_;refine it (fun(s1:Int) F w9=>Ext w w9∧St w w9 []∧F=[(0,sl H x0 b0),(1,.func (.func f1_) #[] ⟨u1_⟩),(7,.int .i64 (x0.length:Int)),(8,.int .i64 s1)]) X ⟨(Ext.refl _),hS,rfl⟩ ?_;rintro s1 F C0 _ v0 ⟨e0,h,rfl⟩ d y;unfold zd at d;refine sq<|rg<|rr 1 ?_;refine rn<|sq<|ci d (fun d=>?_) (fun d=>?_)
  ·refine sp<|sq<|bk<|sq<|rg<|rr 2 ?_;refine rn<|sq<|rg<|rr 3 ?_;obtain⟨E0,Z,d⟩:=bS d;refine ix (hE.trans h.ext) i0 Z (fun y0 g0 S G=>?_);obtain⟨k0,t0,o0,u0,f0,p0,q0⟩:=zt G;subst f0;refine lN (At.ext (hE.trans h.ext) S) ?_;obtain⟨A0,a0,d⟩:=bS d;refine ca d0.1 (d0.2 (hE.trans h.ext) (z2C.ext (hE.trans h.ext) G) a0) (fun B0 D0 M=>?_);obtain⟨rfl,o⟩:=M;have q:=h.join o;refine rn<|ci d (fun d=>?_) (fun d=>?_)
   ·refine sq<|rg<|rr 2 ?_;refine rn<|rt ?_;cases d;cases y;have hm:some _=some _:=hm;cases hm;exact⟨_,.cons (.tmp rfl) .nil,rfl,q⟩
   ·refine sp<|rg<|rr 2 ?_;refine rn ?_;cases d;exact⟨_,_,rfl,⟨(e0.trans o.ext),q,rfl⟩,rfl⟩
  ·refine xt ?_;cases d;exact⟨_,_,⟨y,e0,h,rfl⟩,rfl⟩

theorem zmr:Enters Tryz.prog 187:=⟨_,_,Tryz.func187,rfl,by kernel_rfl⟩
def ze (fuel:Nat) (x0:(List D.Qd)) (x1:D.Qd→Option Bool):Option (Bool):=((zx fuel x0 x1).bind fun r1=>some (decide (r1≥0)))

theorem z4b {W w:World}(hE:Ext W w){d:Option Addr}{h:Nat}{x0:(List D.Qd)}{f1_:Nat}{u1_:List Value}{x1:D.Qd→Option Bool}(o:z7T.ro W [sl d x0 h] x0) (q:Enters Tryz.prog f1_∧∀ {w9:World},Ext W w9→∀ {cz0:List Value}{z0:D.Qd}{y9:Bool},z2C.ro w9 cz0 z0→x1 z0=some y9→Calls Tryz.prog f1_ ⟨[.agg ⟨cz0⟩]++u1_⟩ w9 (Ret fun v w8=>v=.bool y9∧St w9 w8 [])){fuel:Nat}{r:Bool}(hm:ze fuel x0 x1=some r):
  Calls Tryz.prog 187 ⟨[sl d x0 h,.func (.func f1_) #[] ⟨u1_⟩]⟩ w (Ret fun v w8=>v=.bool r∧St w w8 []):=by
 refine into Tryz.func187 9 _ ?_;unfold ze at hm;have hS:=St.start w;refine sq<|rg<|rr 1 ?_;refine rn<|sq<|rg<|rr 2 ?_;obtain⟨r1,M,hm⟩:=bS hm;refine ca zkS (z4X (hE.trans hS.ext) o q M) (fun v3 w4 y=>?_);obtain⟨rfl,G⟩:=y;have H:=hS.join G;refine rr 2 ?_;refine rn<|rt ?_;cases hm;exact⟨_,.cons (.tmp rfl) .nil,rfl,H⟩

theorem zmq:Enters Tryz.prog 188:=⟨_,_,Tryz.func188,rfl,by kernel_rfl⟩
def z5V (fuel:Nat) (x0:D.Qd):Option (Bool):=((z2a fuel x0).bind fun d=>some (!d))

theorem zc1 {W w:World}(hE:Ext W w){G:List Value}{x0:D.Qd}(H:z2C.ro W G x0){fuel:Nat}{r:Bool}(hm:z5V fuel x0=some r):
  Calls Tryz.prog 188 ⟨[.agg ⟨G⟩]⟩ w (Ret fun v w8=>v=.bool r∧St w w8 []):=by
 obtain⟨A1,k2,A4,k5,e7,h3,h6⟩:=zt H;subst e7;refine into Tryz.func188 6 _ ?_;unfold z5V at hm;have hS:=St.start w;refine sq<|rg<|nw hS (fun O Y M d=>?_);refine rr 1 ?_;refine rn<|sq<|rg<|lN ((d.bring 0 rfl).box) ?_;obtain⟨S,y,hm⟩:=bS hm;refine ca zhJ (z9p (hE.trans d.ext) H y) (fun X Z h=>?_);obtain⟨rfl,o⟩:=h;have q:=d.join o;refine rr 2 ?_;refine rn<|rt ?_;cases hm;exact⟨_,.cons (.tmp rfl) .nil,rfl,(q.taken 0)⟩

theorem zkR:Enters Tryz.prog 236:=⟨_,_,Tryz.func236,rfl,by kernel_rfl⟩
def z11 (fuel:Nat) (t2:Unit):Option Int:=some (-1)
def zh (fuel:Nat) (x0:(List D.Qp)) (x1:D.Qp→Option Bool) (s1:Int):Option (Rd (Int) (Unit) (Int)):=(if(decide (s1<(x0.length:Int)))=true then((idx x0 s1).bind fun h=>((x1 h).bind fun d=>(if d=true then some (.ret s1) else some (.next (w64 (s1+1)))))) else some (.brk ()))
def zH (fuel:Nat) (x0:(List D.Qp)) (x1:D.Qp→Option Bool):Option (Int):=((iter (zh fuel x0 x1) fuel 0).bind fun o=>aft o (z11 fuel))

theorem z5E {W w:World}(hE:Ext W w){H:Option Addr}{b0:Nat}{x0:(List D.Qp)}{f1_:Nat}{u1_:List Value}{x1:D.Qp→Option Bool}(i0:z4S.ro W [sl H x0 b0] x0) (d0:Enters Tryz.prog f1_∧∀ {w9:World},Ext W w9→∀ {cz0:List Value}{z0:D.Qp}{y9:Bool},z9R.ro w9 cz0 z0→x1 z0=some y9→Calls Tryz.prog f1_ ⟨[.agg ⟨cz0⟩]++u1_⟩ w9 (Ret fun v w8=>v=.bool y9∧St w9 w8 [])){fuel:Nat}{r:Int}(hm:zH fuel x0 x1=some r):
  Calls Tryz.prog 236 ⟨[sl H x0 b0,.func (.func f1_) #[] ⟨u1_⟩]⟩ w (Ret fun v w8=>v=.int .i64 r∧St w w8 []):=by
 refine into Tryz.func236 19 _ ?_;unfold zH at hm;have hS:=St.start w;refine sq<|rg<|rr 1 ?_;refine rn<|sq<|sq<|rg<|rr 3 ?_;refine rn ?_;obtain⟨j0,X,hm⟩:=bS hm;refine ct (fun(t2:Unit) F w9=>j0=.inl t2∧Ext w w9∧St w w9 []∧F=[]) ?_ ?_
 ·rintro t2 F w7 ⟨Y,k0,O,rfl⟩;subst Y;rw [z8] at hm;unfold z11 at hm;refine sq<|rg<|rr 1 ?_;refine rn<|rt ?_;cases hm;exact⟨_,.cons (.tmp rfl) .nil,rfl,O⟩
 ·refine bk<|wk [0,1,7,8] ?_;refine it (fun(s1:Int) F w9=>Ext w w9∧St w w9 []∧F=[(0,sl H x0 b0),(1,.func (.func f1_) #[] ⟨u1_⟩),(7,.int .i64 (x0.length:Int)),(8,.int .i64 s1)]) X ⟨(Ext.refl _),hS,rfl⟩ ?_;rintro s1 F t0 _ o0 ⟨e0,h,rfl⟩ d y;unfold zh at d;refine sq<|rg<|rr 1 ?_;refine rn<|sq<|ci d (fun d=>?_) (fun d=>?_)
  ·refine sp<|sq<|bk<|sq<|rg<|rr 2 ?_;refine rn<|sq<|rg<|rr 3 ?_;obtain⟨v0,Z,d⟩:=bS d;refine ix (hE.trans h.ext) i0 Z (fun p0 g0 S G=>?_);have f0:=z1v G;subst f0;refine lN (At.ext (hE.trans h.ext) S) ?_;obtain⟨q0,a0,d⟩:=bS d;refine ca d0.1 (d0.2 (hE.trans h.ext) (z9R.ext (hE.trans h.ext) G) a0) (fun r0 u0 M=>?_);obtain⟨rfl,o⟩:=M;have q:=h.join o;refine rn<|ci d (fun d=>?_) (fun d=>?_)
   ·refine sq<|rg<|rr 2 ?_;refine rn<|rt ?_;cases d;cases y;have hm:some _=some _:=hm;cases hm;exact⟨_,.cons (.tmp rfl) .nil,rfl,q⟩
   ·refine sp<|rg<|rr 2 ?_;refine rn ?_;cases d;exact⟨_,_,rfl,⟨(e0.trans o.ext),q,rfl⟩,rfl⟩
  ·refine xt ?_;cases d;exact⟨_,_,⟨y,e0,h,rfl⟩,rfl⟩

theorem zmp:Enters Tryz.prog 189:=⟨_,_,Tryz.func189,rfl,by kernel_rfl⟩
def zi (fuel:Nat) (x0:(List D.Qp)) (x1:D.Qp→Option Bool):Option (Bool):=((zH fuel x0 x1).bind fun r1=>some (decide (r1≥0)))

theorem z4T {W w:World}(hE:Ext W w){d:Option Addr}{h:Nat}{x0:(List D.Qp)}{f1_:Nat}{u1_:List Value}{x1:D.Qp→Option Bool}(o:z4S.ro W [sl d x0 h] x0) (q:Enters Tryz.prog f1_∧∀ {w9:World},Ext W w9→∀ {cz0:List Value}{z0:D.Qp}{y9:Bool},z9R.ro w9 cz0 z0→x1 z0=some y9→Calls Tryz.prog f1_ ⟨[.agg ⟨cz0⟩]++u1_⟩ w9 (Ret fun v w8=>v=.bool y9∧St w9 w8 [])){fuel:Nat}{r:Bool}(hm:zi fuel x0 x1=some r):
  Calls Tryz.prog 189 ⟨[sl d x0 h,.func (.func f1_) #[] ⟨u1_⟩]⟩ w (Ret fun v w8=>v=.bool r∧St w w8 []):=by
 refine into Tryz.func189 9 _ ?_;unfold zi at hm;have hS:=St.start w;refine sq<|rg<|rr 1 ?_;refine rn<|sq<|rg<|rr 2 ?_;obtain⟨r1,M,hm⟩:=bS hm;refine ca zkR (z5E (hE.trans hS.ext) o q M) (fun v3 w4 y=>?_);obtain⟨rfl,G⟩:=y;have H:=hS.join G;refine rr 2 ?_;refine rn<|rt ?_;cases hm;exact⟨_,.cons (.tmp rfl) .nil,rfl,H⟩

theorem zmn:Enters Tryz.prog 191:=⟨_,_,Tryz.func191,rfl,by kernel_rfl⟩
def z5W (fuel:Nat) (x0:D.Qp):Option (Bool):=(if x0.Qa2=true then some true else(if(!x0.Qa3)=true then some (((x0.QX.Qb:Int) == 0) && (((x0.QX.Qj:Int) == 0) && (((x0.QX.Qk:Int) == 0) && true))) else some false))

theorem zc2 {W w:World}(hE:Ext W w){h:List Value}{x0:D.Qp}(o:z9R.ro W h x0){fuel:Nat}{r:Bool}(hm:z5W fuel x0=some r):
  Calls Tryz.prog 191 ⟨[.agg ⟨h⟩]⟩ w (Ret fun v w8=>v=.bool r∧St w w8 []):=by
 have e1:=z1v o;subst e1;refine into Tryz.func191 16 _ ?_;unfold z5W at hm;have hS:=St.start w;refine sq<|rg<|nw hS (fun g2 w3 e4 d=>?_);refine rr 1 ?_;refine rn<|sq<|rg<|rr 1 ?_;refine l1 ((d.bring 0 rfl).box) 0 ?_;refine rr 1 ?_;refine rb 5 hm (fun hm=>?_) (fun hm=>?_)
 ·refine rr 11 ?_;refine rn<|rt ?_;cases hm;exact⟨_,.cons (.tmp rfl) .nil,rfl,(d.taken 0)⟩
 ·refine rr 1 ?_;refine l1 ((d.bring 0 rfl).box) 1 ?_;refine rr 2 ?_;refine rb 9 hm (fun hm=>?_) (fun hm=>?_)
  ·refine rr 1 ?_;refine lN (At.sub ((d.bring 0 rfl).box) 2 3) ?_;refine qt (qb) ?_;refine rr 4 ?_;refine rn<|rt ?_;cases hm;exact⟨_,.cons (.tmp rfl) .nil,rfl,(d.taken 0)⟩
  ·refine rr 7 ?_;refine rn<|rt ?_;cases hm;exact⟨_,.cons (.tmp rfl) .nil,rfl,(d.taken 0)⟩

theorem zmo:Enters Tryz.prog 190:=⟨_,_,Tryz.func190,rfl,by kernel_rfl⟩
def z3Y (fuel:Nat) (x0:D.Qp):Option (Bool):=((z5W fuel x0).bind fun r6=>(if(!r6)=true then some true else(if(!x0.Qa3)=true then some (!(((x0.QX.Qb:Int) == 0) && (((x0.QX.Qj:Int) == 0) && (((x0.QX.Qk:Int) == 0) && true)))) else some false)))

theorem zc0 {W w:World}(hE:Ext W w){y:List Value}{x0:D.Qp}(G:z9R.ro W y x0){fuel:Nat}{r:Bool}(hm:z3Y fuel x0=some r):
  Calls Tryz.prog 190 ⟨[.agg ⟨y⟩]⟩ w (Ret fun v w8=>v=.bool r∧St w w8 []):=by
 have e1:=z1v G;subst e1;refine into Tryz.func190 17 _ ?_;unfold z3Y at hm;have hS:=St.start w;refine sq<|rg<|nw hS (fun g2 w3 e4 q=>?_);refine rr 1 ?_;refine rn<|sq<|rg<|lN ((q.bring 0 rfl).box) ?_;obtain⟨r6,H,hm⟩:=bS hm;refine ca zmn (zc2 (hE.trans q.ext) G H) (fun M O h=>?_);obtain⟨rfl,o⟩:=h;have d:=q.join o;refine rr 2 ?_;refine rb 6 hm (fun hm=>?_) (fun hm=>?_)
 ·refine rr 11 ?_;refine rn<|rt ?_;cases hm;exact⟨_,.cons (.tmp rfl) .nil,rfl,(d.taken 0)⟩
 ·refine rr 1 ?_;refine l1 ((d.bring 0 rfl).box) 1 ?_;refine rr 2 ?_;refine rb 10 hm (fun hm=>?_) (fun hm=>?_)
  ·refine rr 1 ?_;refine lN (At.sub ((d.bring 0 rfl).box) 2 3) ?_;refine qt (qb) ?_;refine rr 4 ?_;refine rn<|rt ?_;cases hm;exact⟨_,.cons (.tmp rfl) .nil,rfl,(d.taken 0)⟩
  ·refine rr 7 ?_;refine rn<|rt ?_;cases hm;exact⟨_,.cons (.tmp rfl) .nil,rfl,(d.taken 0)⟩

theorem zmU:Enters Tryz.prog 136:=⟨_,_,Tryz.func136,rfl,by kernel_rfl⟩
def z2A (fuel:Nat) (x0:D.Qv) (o:Bool):Option Bool:=(if o=true then some false else((ze fuel x0.Cells (fun y0=>z5V fuel y0)).bind fun d=>(if(!d)=true then((zi fuel x0.QM (fun y0=>z3Y fuel y0)).bind fun h=>some (!h)) else some false)))
def z6r (fuel:Nat) (x0:D.Qv):Option (Bool):=(if(decide ((x0.Cells.length:Int)>400))=true then z2A fuel x0 true else(if(decide ((x0.QM.length:Int)>400))=true then z2A fuel x0 true else z2A fuel x0 (decide ((x0.Qu.length:Int)>400))))

theorem zd5 {W w:World}(hE:Ext W w){a0:List Value}{x0:D.Qv}(e0:z84.ro W a0 x0){fuel:Nat}{r:Bool}(hm:z6r fuel x0=some r):
  Calls Tryz.prog 136 ⟨[.agg ⟨a0⟩]⟩ w (Ret fun v w8=>v=.bool r∧St w w8 []):=by
 obtain⟨A1,k2,A4,k5,A7,g0,d0,h3,h6,k0⟩:=zR e0;subst d0;refine into Tryz.func136 29 _ ?_;unfold z6r at hm;have hS:=St.start w;refine sq<|rg<|nw hS (fun b0 i0 j0 d=>?_);refine rr 1 ?_;refine rn<|sq<|sq<|ct (fun(Z:Bool) F w9=>z2A fuel x0 Z=some r∧Ext i0 w9∧St w w9 [Box b0 [sl A1 x0.Cells k2,sl A4 x0.QM k5,sl A7 x0.Qu g0] 166]∧F=[(1,.pointer (some ⟨b0,0,none⟩)),(18,.bool Z)]) ?_ ?_
 ·rintro Z F t0 ⟨hm,f0,h,rfl⟩;unfold z2A at hm;refine ci hm (fun hm=>?_) (fun hm=>?_)
  ·refine sq<|rg<|rr 1 ?_;refine rn<|rt ?_;cases hm;exact⟨_,.cons (.tmp rfl) .nil,rfl,(h.taken 0)⟩
  ·refine sp<|sq<|rg<|rr 1 ?_;refine l1 ((h.bring 0 rfl).box) 0 ?_;obtain⟨o0,S,hm⟩:=bS hm;refine ca zmr (z4b (hE.trans h.ext) h3 ⟨zmq,fun e9=>(fun q Y=>zc1 (Ext.refl _) q Y)⟩ S) (fun q0 u0 y=>?_);obtain⟨rfl,G⟩:=y;have o:=h.join G;refine rr 2 ?_;refine rb 23 hm (fun hm=>?_) (fun hm=>?_)
   ·refine rr 1 ?_;refine l1 ((o.bring 0 rfl).box) 1 ?_;obtain⟨p0,X,hm⟩:=bS hm;refine ca zmp (z4T (hE.trans o.ext) h6 ⟨zmo,fun e9=>(fun q Y=>zc0 (Ext.refl _) q Y)⟩ X) (fun r0 v0 H=>?_);obtain⟨rfl,M⟩:=H;have O:=o.join M;refine rr 3 ?_;refine rn<|rt ?_;cases hm;exact⟨_,.cons (.tmp rfl) .nil,rfl,(O.taken 0)⟩
   ·refine rr 6 ?_;refine rn<|rt ?_;cases hm;exact⟨_,.cons (.tmp rfl) .nil,rfl,(o.taken 0)⟩
 ·refine rg<|rr 1 ?_;refine l1 ((d.bring 0 rfl).box) 0 ?_;refine rr 3 ?_;refine rb 7 hm (fun hm=>?_) (fun hm=>?_)
  ·refine rr 11 ?_;refine rn ?_;exact⟨true,_,⟨hm,(Ext.refl _),d,rfl⟩,rfl⟩
  ·refine rr 1 ?_;refine l1 ((d.bring 0 rfl).box) 1 ?_;refine rr 4 ?_;refine rb 13 hm (fun hm=>?_) (fun hm=>?_)
   ·refine rr 5 ?_;refine rn ?_;exact⟨true,_,⟨hm,(Ext.refl _),d,rfl⟩,rfl⟩
   ·refine rr 1 ?_;refine l1 ((d.bring 0 rfl).box) 2 ?_;refine rr 3 ?_;refine rn ?_;exact⟨decide ((x0.Qu.length:Int)>400),_,⟨hm,(Ext.refl _),d,rfl⟩,rfl⟩

theorem zmV:Enters Tryz.prog 135:=⟨_,_,Tryz.func135,rfl,by kernel_rfl⟩
def z3z (fuel:Nat) (x0:D.Qv):Option (Bool):=((z6r fuel x0).bind fun d=>some (!d))

theorem zb0 {W w:World}(hE:Ext W w){G:List Value}{x0:D.Qv}(H:z84.ro W G x0){fuel:Nat}{r:Bool}(hm:z3z fuel x0=some r):
  Calls Tryz.prog 135 ⟨[.agg ⟨G⟩]⟩ w (Ret fun v w8=>v=.bool r∧St w w8 []):=by
 obtain⟨A1,k2,A4,k5,A7,Y,M,h3,h6,X⟩:=zR H;subst M;refine into Tryz.func135 6 _ ?_;unfold z3z at hm;have hS:=St.start w;refine sq<|rg<|nw hS (fun S b0 O d=>?_);refine rr 1 ?_;refine rn<|sq<|rg<|lN ((d.bring 0 rfl).box) ?_;obtain⟨Z,y,hm⟩:=bS hm;refine ca zmU (zd5 (hE.trans d.ext) H y) (fun a0 d0 h=>?_);obtain⟨rfl,o⟩:=h;have q:=d.join o;refine rr 2 ?_;refine rn<|rt ?_;cases hm;exact⟨_,.cons (.tmp rfl) .nil,rfl,(q.taken 0)⟩

theorem zf6:Enters Tryz.prog 194:=⟨_,_,Tryz.func194,rfl,by kernel_rfl⟩
def z3y (fuel:Nat) (x0:Int) (x1:Int):Option (D.Qc):=some (⟨x0,1,x1⟩:D.Qc)

theorem z8A {W w:World}(hE:Ext W w){x0:Int}{x1:Int}  {fuel:Nat}{r:D.Qc}(hm:z3y fuel x0 x1=some r):
  Calls Tryz.prog 194 ⟨[.int .i64 x0,.int .i64 x1]⟩ w (Ret fun v w8=>v=.agg ⟨[.int .i64 r.Qb,.int .i64 r.Qj,.int .i64 r.Qk]⟩∧St w w8 []):=by
 refine into Tryz.func194 8 _ ?_;unfold z3y at hm;have hS:=St.start w;refine sq<|rg<|nw hS (fun g1 w2 e3 h=>?_);refine rn<|sq<|rg<|rr 2 ?_;refine qt (qb) ?_;have o:=h.bring 0 rfl;refine so (A:=[]) o 0 (fun w6 d=>?_);refine rn<|rt ?_;cases hm;exact⟨_,.cons (ra ((d.bring 0 rfl).box)) .nil,rfl,(d.taken 0)⟩

theorem zf5:Enters Tryz.prog 195:=⟨_,_,Tryz.func195,rfl,by kernel_rfl⟩
def z4f (fuel:Nat) (x0:Int) (x1:Int):Option (D.Qc):=some (⟨x0,2,x1⟩:D.Qc)

theorem z9a {W w:World}(hE:Ext W w){x0:Int}{x1:Int}  {fuel:Nat}{r:D.Qc}(hm:z4f fuel x0 x1=some r):
  Calls Tryz.prog 195 ⟨[.int .i64 x0,.int .i64 x1]⟩ w (Ret fun v w8=>v=.agg ⟨[.int .i64 r.Qb,.int .i64 r.Qj,.int .i64 r.Qk]⟩∧St w w8 []):=by
 refine into Tryz.func195 8 _ ?_;unfold z4f at hm;have hS:=St.start w;refine sq<|rg<|nw hS (fun g1 w2 e3 h=>?_);refine rn<|sq<|rg<|rr 2 ?_;refine qt (qb) ?_;have o:=h.bring 0 rfl;refine so (A:=[]) o 0 (fun w6 d=>?_);refine rn<|rt ?_;cases hm;exact⟨_,.cons (ra ((d.bring 0 rfl).box)) .nil,rfl,(d.taken 0)⟩

theorem zmS:Enters Tryz.prog 138:=⟨_,_,Tryz.func138,rfl,by kernel_rfl⟩
def z8m (fuel:Nat) (d:(List D.Qh)):Option (List D.Qh):=some d
def z8k (fuel:Nat) (d:Int × (List D.Qh)) (h:(List D.Qh)):Option (Rd (Int × (List D.Qh)) ((List D.Qh)) ((List D.Qh))):=some (.next (w64 (d.1+1),h))
def z1O (fuel:Nat) (h:Int × (List D.Qh)) (d:(List D.Qh)):Option (Rd (Int × (List D.Qh)) ((List D.Qh)) (Rd (Int × (List D.Qh)) ((List D.Qh)) ((List D.Qh)))):=some (.next (w64 (h.1+1),d))
def z30 (fuel:Nat) (h:Int × (List D.Qh)) (d:(List D.Qh)):Option (Rd (Int × (List D.Qh)) ((List D.Qh)) (Rd (Int × (List D.Qh)) ((List D.Qh)) ((List D.Qh)))):=z1O fuel h d
def z1P (fuel:Nat) (y:Int × (List D.Qh)) (q:D.Qv) (o:Int × (List D.Qh)):Option (Rd (Int × (List D.Qh)) ((List D.Qh)) (Rd (Int × (List D.Qh)) ((List D.Qh)) ((List D.Qh)))):=(if(decide (o.1<(q.QM.length:Int)))=true then((idx q.QM o.1).bind fun d=>(if d.Qa3=true then((z4f fuel y.1 o.1).bind fun h=>(if decide ((o.2.length:Int)+(([(⟨(⟨(⟨h.Qb,h.Qj,h.Qk⟩:D.Qc),0,false⟩:D.QS),(⟨(⟨d.QX.Qb,d.QX.Qj,d.QX.Qk⟩:D.Qc),0,false⟩:D.QS)⟩:D.Qh)]:(List D.Qh)).length:Int)≤4294967296)=true then z30 fuel o (o.2++([(⟨(⟨(⟨h.Qb,h.Qj,h.Qk⟩:D.Qc),0,false⟩:D.QS),(⟨(⟨d.QX.Qb,d.QX.Qj,d.QX.Qk⟩:D.Qc),0,false⟩:D.QS)⟩:D.Qh)]:(List D.Qh))) else none)) else z1O fuel o o.2)) else some (.brk o.2))
def z5H (fuel:Nat) (d:Int × (List D.Qh)) (q:D.Qv) (h:(List D.Qh)):Option (Rd (Int × (List D.Qh)) ((List D.Qh)) ((List D.Qh))):=((iter (z1P fuel d q) fuel (0,h)).bind fun o=>aft o (z8k fuel d))
def z1Q (fuel:Nat) (o:D.Qv) (h:Int × (List D.Qh)):Option (Rd (Int × (List D.Qh)) ((List D.Qh)) (Rd (Int × (List D.Qh)) ((List D.Qh)) ((List D.Qh)))):=(if(decide (h.1<(o.Qu.length:Int)))=true then((idx o.Qu h.1).bind fun d=>(if decide ((h.2.length:Int)+(([(⟨(⟨(⟨d.A.Qb,d.A.Qj,d.A.Qk⟩:D.Qc),0,false⟩:D.QS),(⟨(⟨d.B.Qb,d.B.Qj,d.B.Qk⟩:D.Qc),0,false⟩:D.QS)⟩:D.Qh)]:(List D.Qh)).length:Int)≤4294967296)=true then some (.next (w64 (h.1+1),(h.2++([(⟨(⟨(⟨d.A.Qb,d.A.Qj,d.A.Qk⟩:D.Qc),0,false⟩:D.QS),(⟨(⟨d.B.Qb,d.B.Qj,d.B.Qk⟩:D.Qc),0,false⟩:D.QS)⟩:D.Qh)]:(List D.Qh))))) else none)) else some (.brk h.2))
def z5J (fuel:Nat) (h:Int × (List D.Qh)) (d:D.Qv) (q:(List D.Qh)):Option (Rd (Int × (List D.Qh)) ((List D.Qh)) ((List D.Qh))):=((iter (z1Q fuel d) fuel (0,q)).bind fun o=>aft o (z5H fuel h d))
def z5G (fuel:Nat) (h:Int × (List D.Qh)) (d:(List D.Qh)):Option (Rd (Int × (List D.Qh)) ((List D.Qh)) (Rd (Int × (List D.Qh)) ((List D.Qh)) ((List D.Qh)))):=some (.next (w64 (h.1+1),d))
def z1R (fuel:Nat) (G:Int × (List D.Qh)) (y:D.Qv) (d:Int × (List D.Qh)):Option (Rd (Int × (List D.Qh)) ((List D.Qh)) (Rd (Int × (List D.Qh)) ((List D.Qh)) ((List D.Qh)))):=(if(decide (d.1<(y.Cells.length:Int)))=true then((idx y.Cells d.1).bind fun q=>((z3y fuel G.1 d.1).bind fun o=>((z1u fuel o q.QY).bind fun h=>(if decide ((d.2.length:Int)+(h.length:Int)≤4294967296)=true then z5G fuel d (d.2++h) else none)))) else some (.brk d.2))
def z19 (fuel:Nat) (x0:D.Qe) (d:Int × (List D.Qh)):Option (Rd (Int × (List D.Qh)) ((List D.Qh)) ((List D.Qh))):=(if(decide (d.1<(x0.Qg.length:Int)))=true then((idx x0.Qg d.1).bind fun h=>((iter (z1R fuel d h) fuel (0,d.2)).bind fun o=>aft o (z5J fuel d h))) else some (.brk d.2))
def z2M (fuel:Nat) (x0:D.Qe):Option ((List D.Qh)):=((z6J fuel (⟨0,0,0⟩:D.Qc) 0).bind fun r7=>((iter (z19 fuel x0) fuel (0,([(⟨(⟨(⟨r7.at_.Qb,r7.at_.Qj,r7.at_.Qk⟩:D.Qc),r7.slot,r7.own⟩:D.QS),(⟨(⟨x0.Qo.Qb,x0.Qo.Qj,x0.Qo.Qk⟩:D.Qc),0,false⟩:D.QS)⟩:D.Qh)]:(List D.Qh)))).bind fun o=>aft o (z8m fuel)))

theorem zbz {W w:World}(hE:Ext W w){V3:Addr}{P3:List Value}{x0:D.Qe}(p4:ty37.ro W P3 x0) (T3:At W V3 P3){fuel:Nat}{r:(List D.Qh)}(hm:z2M fuel x0=some r):
  Calls Tryz.prog 138 ⟨[.pointer (some V3)]⟩ w (Ret fun v w8=>∃ A0 k0,v=sl A0 r k0∧St w w8 [ow z8u A0 r k0]):=by
 obtain⟨A1,k2,e4,h3⟩:=z33 p4;subst e4;refine into Tryz.func138 90 _ ?_;unfold z2M at hm;have hS:=St.start w;refine sq<|rg<|rr 1 ?_;refine rn<|sq<|dn 0 mixed 10 [([],1023),([0],1022),([],1023),([2],1019),([3],1015),([4],1007),([5],991),([1,6],957),([7],895),([8,1,0,1,2,3,4,5,6,7,8],767)] hS.ext (fun t0=>?_);have U3:=hS.step (Ext.draw _);refine dr 7 t0 [2,3,4] ?_;refine dp t0 0 rfl (fun _=>qb) ?_;refine dL t0 5 (At.sub (At.ext (hE.trans hS.ext) T3) 1 3) ?_;refine dp t0 6 rfl (fun _=>qb) ?_;obtain⟨r7,D3,hm⟩:=bS hm;refine o1 t0 1 (mc t0 zaE (z7O (hE.trans U3.ext) (zF (⟨0,0,0⟩:D.Qc)) D3) (fun C5 D5 m3=>?_));obtain⟨rfl,u1⟩:=m3;refine⟨u1.ext,?_⟩;have n3:=U3.join u1;refine dp t0 7 rfl (fun _=>qb) ?_;refine o1 t0 8 (mn (n3.flatEls (U:=zbr) (els:=[.int .i64 r7.at_.Qb,.int .i64 r7.at_.Qj,.int .i64 r7.at_.Qk,.int .i64 r7.slot,.bool r7.own,.int .i64 x0.Qo.Qb,.int .i64 x0.Qo.Qj,.int .i64 x0.Qo.Qk,.int .i64 0,.bool false]) (ys:=[(⟨(⟨(⟨r7.at_.Qb,r7.at_.Qj,r7.at_.Qk⟩:D.Qc),r7.slot,r7.own⟩:D.QS),(⟨(⟨x0.Qo.Qb,x0.Qo.Qj,x0.Qo.Qk⟩:D.Qc),0,false⟩:D.QS)⟩:D.Qh)]) ⟨[.int .i64 r7.at_.Qb,.int .i64 r7.at_.Qj,.int .i64 r7.at_.Qk,.int .i64 r7.slot,.bool r7.own,.int .i64 x0.Qo.Qb,.int .i64 x0.Qo.Qj,.int .i64 x0.Qo.Qk,.int .i64 0,.bool false],_,[],[],rfl,rfl,(z60 (c:=(⟨(⟨(⟨r7.at_.Qb,r7.at_.Qj,r7.at_.Qk⟩:D.Qc),r7.slot,r7.own⟩:D.QS),(⟨(⟨x0.Qo.Qb,x0.Qo.Qj,x0.Qo.Qk⟩:D.Qc),0,false⟩:D.QS)⟩:D.Qh)) rfl),⟨rfl,rfl⟩⟩) t0 (fun W3 y4 E5 x5 Q1=>?_));refine dr 0 t0 [9] ?_;refine dw [0,3] ?_;refine dd t0 ?_;refine sq<|sq<|rg<|rr 3 ?_;refine l1 (At.ext (hE.trans Q1.ext) T3) 0 ?_;refine rr 2 ?_;refine rn ?_;obtain⟨F4,s3,hm⟩:=bS hm;refine ct (fun(U2:(List D.Qh)) F w9=>∃ H2 O2,F4=.inl U2∧St w w9 [ow z8u H2 U2 O2]∧F=[(3,sl H2 U2 O2)]) ?_ ?_
 ·rintro U2 F F5 ⟨H2,O2,v3,o3,rfl⟩;subst v3;rw [z8] at hm;unfold z8m at hm;refine sq<|rg<|rr 2 ?_;refine rn<|rt ?_;cases hm;exact⟨_,.cons (.tmp rfl) .nil,H2,O2,rfl,o3⟩
 ·refine bk<|wk [3,24,25,26] ?_;refine it (fun(X:Int × (List D.Qh)) F w9=>∃ n1 C2,St w w9 [ow z8u n1 X.2 C2]∧F=[(3,sl n1 X.2 C2),(24,sl A1 x0.Qg k2),(25,.int .i64 (x0.Qg.length:Int)),(26,.int .i64 X.1)]) s3 ⟨W3,y4,Q1,rfl⟩ ?_;rintro X F G5 _ A5 ⟨n1,C2,F0,rfl⟩ M y3;unfold z19 at M;refine sq<|rg<|rr 1 ?_;refine rn<|sq<|ci M (fun M=>?_) (fun M=>?_)
  ·refine sp<|sq<|bk<|sq<|rg<|rr 1 ?_;obtain⟨O,E3,M⟩:=bS M;refine ix (hE.trans F0.ext) h3 E3 (fun B5 n4 r3 C3=>?_);obtain⟨j0,q0,g0,i0,y0,B0,m4,r4,s4,t4⟩:=zR C3;subst m4;refine lN (At.ext (hE.trans F0.ext) r3) ?_;refine nw F0 (fun a0 H5 y5 p3=>?_);refine rr 1 ?_;have q3:=p3.bring 0 rfl;refine so (A:=[]) q3 0 (fun J5 e2=>?_);refine rn<|sq<|sq<|rg<|rr 1 ?_;refine l1 ((e2.bring 0 rfl).box) 0 ?_;refine rr 2 ?_;refine rn ?_;obtain⟨G4,t3,M⟩:=bS M;refine ct (fun(V2:(List D.Qh)) F w9=>∃ K2 Q2,G4=.inl V2∧St w w9 [Box a0 [sl j0 O.Cells q0,sl g0 O.QM i0,sl y0 O.Qu B0] 166,ow z8u K2 V2 Q2]∧F=[(3,sl K2 V2 Q2),(4,.int .i64 X.1),(5,.pointer (some ⟨a0,0,none⟩)),(24,sl A1 x0.Qg k2),(25,.int .i64 (x0.Qg.length:Int)),(26,.int .i64 X.1)]) ?_ ?_
   ·rintro V2 F K5 ⟨K2,Q2,A3,f2,rfl⟩;subst A3;rw [z8] at M;unfold z5J at M;refine sq<|sq<|rg<|rr 1 ?_;refine l1 ((f2.bring 0 rfl).box) 2 ?_;refine rr 2 ?_;refine rn ?_;obtain⟨H4,u3,M⟩:=bS M;refine ct (fun(W2:(List D.Qh)) F w9=>∃ M2 S2,H4=.inl W2∧St w w9 [Box a0 [sl j0 O.Cells q0,sl g0 O.QM i0,sl y0 O.Qu B0] 166,ow z8u M2 W2 S2]∧F=[(3,sl M2 W2 S2),(4,.int .i64 X.1),(5,.pointer (some ⟨a0,0,none⟩)),(24,sl A1 x0.Qg k2),(25,.int .i64 (x0.Qg.length:Int)),(26,.int .i64 X.1)]) ?_ ?_
    ·rintro W2 F L5 ⟨M2,S2,B3,g2,rfl⟩;subst B3;rw [z8] at M;unfold z5H at M;refine sq<|rg<|rr 1 ?_;refine l1 ((g2.bring 0 rfl).box) 1 ?_;refine rr 2 ?_;refine rn ?_;obtain⟨N3,o2,M⟩:=bS M;refine ct (fun(X2:(List D.Qh)) F w9=>∃ N2 G0,N3=.inl X2∧St w w9 [Box a0 [sl j0 O.Cells q0,sl g0 O.QM i0,sl y0 O.Qu B0] 166,ow z8u N2 X2 G0]∧F=[(3,sl N2 X2 G0),(24,sl A1 x0.Qg k2),(25,.int .i64 (x0.Qg.length:Int)),(26,.int .i64 X.1)]) ?_ ?_
     ·rintro X2 F S4 ⟨N2,G0,p2,F1,rfl⟩;subst p2;rw [z8] at M;unfold z8k at M;refine rg<|rr 2 ?_;refine rn ?_;cases M;exact⟨_,_,rfl,⟨N2,G0,((F1.bring 1 rfl).taken 1),rfl⟩,rfl⟩
     ·refine bk<|wk [3,4,24,25,26,67,68,69] ?_;refine it (fun(r0:Int × (List D.Qh)) F w9=>∃ p1 D2,St w w9 [Box a0 [sl j0 O.Cells q0,sl g0 O.QM i0,sl y0 O.Qu B0] 166,ow z8u p1 r0.2 D2]∧F=[(3,sl p1 r0.2 D2),(4,.int .i64 X.1),(24,sl A1 x0.Qg k2),(25,.int .i64 (x0.Qg.length:Int)),(26,.int .i64 X.1),(67,sl g0 O.QM i0),(68,.int .i64 (O.QM.length:Int)),(69,.int .i64 r0.1)]) o2 ⟨M2,S2,g2,rfl⟩ ?_;rintro r0 F T4 _ E2 ⟨p1,D2,b0,rfl⟩ o q2;unfold z1P at o;refine sq<|rg<|rr 1 ?_;refine rn<|sq<|ci o (fun o=>?_) (fun o=>?_)
      ·refine sp<|sq<|bk<|sq<|rg<|rr 1 ?_;obtain⟨d,y2,o⟩:=bS o;refine ix (hE.trans b0.ext) s4 y2 (fun J4 Q3 i2 t2=>?_);have g3:=z1v t2;subst g3;refine lN (At.ext (hE.trans b0.ext) i2) ?_;refine nw b0 (fun s1 U4 d4 G1=>?_);refine rr 1 ?_;have H1:=G1.bring 0 rfl;refine so (A:=[]) H1 0 (fun V4 d0=>?_);refine rn<|sq<|rg<|rr 1 ?_;refine l1 ((d0.bring 0 rfl).box) 1 ?_;refine rn<|ct (fun(L0:(List D.Qh)) F w9=>∃ C0 H0,z1O fuel r0 L0=some E2∧St w w9 [Box s1 [.bool d.Qa2,.bool d.Qa3,.int .i64 d.QX.Qb,.int .i64 d.QX.Qj,.int .i64 d.QX.Qk] 223,Box a0 [sl j0 O.Cells q0,sl g0 O.QM i0,sl y0 O.Qu B0] 166,ow z8u C0 L0 H0]∧F=[(3,sl C0 L0 H0),(4,.int .i64 X.1),(24,sl A1 x0.Qg k2),(25,.int .i64 (x0.Qg.length:Int)),(26,.int .i64 X.1),(67,sl g0 O.QM i0),(68,.int .i64 (O.QM.length:Int)),(69,.int .i64 r0.1)]) ?_ ?_
       ·rintro L0 F W4 ⟨C0,H0,o,J1,rfl⟩;unfold z1O at o;refine rg<|rr 2 ?_;refine rn ?_;cases o;exact⟨_,_,rfl,⟨C0,H0,(J1.bring 0 rfl).drop,rfl⟩,rfl⟩
       ·refine ci o (fun o=>?_) (fun o=>?_)
        ·refine ct (fun(u0:(List D.Qh)) F w9=>∃ D0 J0,z30 fuel r0 u0=some E2∧St w w9 [Box s1 [.bool d.Qa2,.bool d.Qa3,.int .i64 d.QX.Qb,.int .i64 d.QX.Qj,.int .i64 d.QX.Qk] 223,Box a0 [sl j0 O.Cells q0,sl g0 O.QM i0,sl y0 O.Qu B0] 166,ow z8u D0 u0 J0]∧F=[(3,sl D0 u0 J0),(4,.int .i64 X.1),(24,sl A1 x0.Qg k2),(25,.int .i64 (x0.Qg.length:Int)),(26,.int .i64 X.1),(67,sl g0 O.QM i0),(68,.int .i64 (O.QM.length:Int)),(69,.int .i64 r0.1)]) ?_ ?_
         ·rintro u0 F X4 ⟨D0,J0,o,K1,rfl⟩;unfold z30 at o;exact⟨u0,_,⟨D0,J0,o,K1,rfl⟩,rfl⟩
         ·refine dn 1024 mixed 12 [([],4095),([],4095),([],4095),([1,2],4089),([3],4087),([],4095),([5],4063),([6],4031),([4,7],3951),([8],3839),([0,9,3],3582),([10,10,0,1,2,3,4,5,6,7,8,9,10],3070)] d0.ext (fun h=>?_);have Y:=d0.step (Ext.draw _);refine dr 8 h [0,1,2,5] ?_;refine dw [3,4,24,25,26,67,68,69,76,77,78,81] ?_;obtain⟨y,g1,o⟩:=bS o;obtain⟨e1,o⟩:=iS o;refine da h [3,6] (by simp) ?_;intro u4 hi158;simp only [List.mem_cons,List.not_mem_nil,or_false] at hi158
          rcases hi158 with rfl | rfl
          ·refine mc h zf5 (z9a (hE.trans Y.ext)  g1) (fun M4 Y4 v1=>?_);obtain⟨rfl,N0⟩:=v1;refine⟨N0.ext,?_⟩;have T0:=Y.join N0;refine dp h 4 rfl (fun _=>qb) ?_;refine o1 h 6 (mq h rfl (qN (At.sub ((T0.bring 0 rfl).box) 2 3)) ?_);refine dp h 7 rfl (fun _=>qb) ?_;refine dp h 8 rfl (fun _=>qb) ?_;refine o1 h 9 (mn (T0.flatEls (U:=zbr) (els:=[.int .i64 y.Qb,.int .i64 y.Qj,.int .i64 y.Qk,.int .i64 0,.bool false,.int .i64 d.QX.Qb,.int .i64 d.QX.Qj,.int .i64 d.QX.Qk,.int .i64 0,.bool false]) (ys:=[(⟨(⟨(⟨y.Qb,y.Qj,y.Qk⟩:D.Qc),0,false⟩:D.QS),(⟨(⟨d.QX.Qb,d.QX.Qj,d.QX.Qk⟩:D.Qc),0,false⟩:D.QS)⟩:D.Qh)]) ⟨[.int .i64 y.Qb,.int .i64 y.Qj,.int .i64 y.Qk,.int .i64 0,.bool false,.int .i64 d.QX.Qb,.int .i64 d.QX.Qj,.int .i64 d.QX.Qk,.int .i64 0,.bool false],_,[],[],rfl,rfl,(z60 (c:=(⟨(⟨(⟨y.Qb,y.Qj,y.Qk⟩:D.Qc),0,false⟩:D.QS),(⟨(⟨d.QX.Qb,d.QX.Qj,d.QX.Qk⟩:D.Qc),0,false⟩:D.QS)⟩:D.Qh)) rfl),⟨rfl,rfl⟩⟩) h (fun X3 x4 a5 f4 L1=>?_));have U0:=L1.bring 3 rfl;refine o1 h 10 (mp (Flat.map (Flat.pair (Flat.map (Flat.pair (Flat.map (Flat.pair Flat.int (Flat.pair Flat.int (Flat.pair Flat.int Flat.unit)))) (Flat.pair Flat.int (Flat.pair Flat.bool Flat.unit)))) (Flat.pair (Flat.map (Flat.pair (Flat.map (Flat.pair Flat.int (Flat.pair Flat.int (Flat.pair Flat.int Flat.unit)))) (Flat.pair Flat.int (Flat.pair Flat.bool Flat.unit)))) Flat.unit))) U0 h ((U0.bring 1 rfl).own) e1 (fun Y2 F3 b5 M1=>?_));refine dr 0 h [11] ?_;refine dw [3,4,24,25,26,67,68,69] ?_;refine dd h ?_;exact⟨(r0.2++([(⟨(⟨(⟨y.Qb,y.Qj,y.Qk⟩:D.Qc),0,false⟩:D.QS),(⟨(⟨d.QX.Qb,d.QX.Qj,d.QX.Qk⟩:D.Qc),0,false⟩:D.QS)⟩:D.Qh)]:(List D.Qh))),_,⟨Y2,F3,o,((((M1.bring 0 rfl).bring 3 rfl).bring 3 rfl).taken 3),rfl⟩,rfl⟩
          ·refine mq h rfl (qN (At.sub ((Y.bring 0 rfl).box) 2 3)) ?_;refine dp h 7 rfl (fun _=>qb) ?_;refine o1 h 3 (mc h zf5 (z9a (hE.trans Y.ext)  g1) (fun N4 c5 y1=>?_));obtain⟨rfl,O0⟩:=y1;refine⟨O0.ext,?_⟩;have N1:=Y.join O0;refine dp h 4 rfl (fun _=>qb) ?_;refine dp h 8 rfl (fun _=>qb) ?_;refine o1 h 9 (mn (N1.flatEls (U:=zbr) (els:=[.int .i64 y.Qb,.int .i64 y.Qj,.int .i64 y.Qk,.int .i64 0,.bool false,.int .i64 d.QX.Qb,.int .i64 d.QX.Qj,.int .i64 d.QX.Qk,.int .i64 0,.bool false]) (ys:=[(⟨(⟨(⟨y.Qb,y.Qj,y.Qk⟩:D.Qc),0,false⟩:D.QS),(⟨(⟨d.QX.Qb,d.QX.Qj,d.QX.Qk⟩:D.Qc),0,false⟩:D.QS)⟩:D.Qh)]) ⟨[.int .i64 y.Qb,.int .i64 y.Qj,.int .i64 y.Qk,.int .i64 0,.bool false,.int .i64 d.QX.Qb,.int .i64 d.QX.Qj,.int .i64 d.QX.Qk,.int .i64 0,.bool false],_,[],[],rfl,rfl,(z60 (c:=(⟨(⟨(⟨y.Qb,y.Qj,y.Qk⟩:D.Qc),0,false⟩:D.QS),(⟨(⟨d.QX.Qb,d.QX.Qj,d.QX.Qk⟩:D.Qc),0,false⟩:D.QS)⟩:D.Qh)) rfl),⟨rfl,rfl⟩⟩) h (fun Y3 A4 d5 g4 O1=>?_));have V0:=O1.bring 3 rfl;refine o1 h 10 (mp (Flat.map (Flat.pair (Flat.map (Flat.pair (Flat.map (Flat.pair Flat.int (Flat.pair Flat.int (Flat.pair Flat.int Flat.unit)))) (Flat.pair Flat.int (Flat.pair Flat.bool Flat.unit)))) (Flat.pair (Flat.map (Flat.pair (Flat.map (Flat.pair Flat.int (Flat.pair Flat.int (Flat.pair Flat.int Flat.unit)))) (Flat.pair Flat.int (Flat.pair Flat.bool Flat.unit)))) Flat.unit))) V0 h ((V0.bring 1 rfl).own) e1 (fun a3 G3 e5 P1=>?_));refine dr 0 h [11] ?_;refine dw [3,4,24,25,26,67,68,69] ?_;refine dd h ?_;exact⟨(r0.2++([(⟨(⟨(⟨y.Qb,y.Qj,y.Qk⟩:D.Qc),0,false⟩:D.QS),(⟨(⟨d.QX.Qb,d.QX.Qj,d.QX.Qk⟩:D.Qc),0,false⟩:D.QS)⟩:D.Qh)]:(List D.Qh))),_,⟨a3,G3,o,((((P1.bring 0 rfl).bring 3 rfl).bring 3 rfl).taken 3),rfl⟩,rfl⟩
        ·refine sp ?_;exact⟨r0.2,_,⟨p1,D2,o,d0,rfl⟩,rfl⟩
      ·refine xt ?_;cases o;exact⟨_,_,⟨p1,D2,q2,b0,rfl⟩,rfl⟩
    ·refine bk<|wk [3,4,5,24,25,26,49,50,51] ?_;refine it (fun(T2:Int × (List D.Qh)) F w9=>∃ L2 R2,St w w9 [Box a0 [sl j0 O.Cells q0,sl g0 O.QM i0,sl y0 O.Qu B0] 166,ow z8u L2 T2.2 R2]∧F=[(3,sl L2 T2.2 R2),(4,.int .i64 X.1),(5,.pointer (some ⟨a0,0,none⟩)),(24,sl A1 x0.Qg k2),(25,.int .i64 (x0.Qg.length:Int)),(26,.int .i64 X.1),(49,sl y0 O.Qu B0),(50,.int .i64 (O.Qu.length:Int)),(51,.int .i64 T2.1)]) u3 ⟨K2,Q2,f2,rfl⟩ ?_;rintro T2 F f5 _ E4 ⟨L2,R2,e0,rfl⟩ S r2;unfold z1Q at S;refine sq<|rg<|rr 1 ?_;refine rn<|sq<|ci S (fun S=>?_) (fun S=>?_)
     ·refine sp<|sq<|bk<|sq<|rg ?_;obtain⟨H,A2,S⟩:=bS S;refine ix (hE.trans e0.ext) t4 A2 (fun K4 R3 j2 u2=>?_);have i3:=z49 u2;subst i3;refine lN (At.ext (hE.trans e0.ext) j2) ?_;refine nw e0 (fun o4 g5 i4 R1=>?_);have S1:=R1.bring 0 rfl;refine so (A:=[]) S1 0 (fun i5 o0=>?_);refine rn<|rg<|rr 2 ?_;refine lN (At.sub ((o0.bring 0 rfl).box) 0 3) ?_;refine qt (qb) ?_;refine rr 1 ?_;refine lN (At.sub ((o0.bring 0 rfl).box) 3 3) ?_;refine qt (qb) ?_;refine qt (qb) ?_;refine ns (o0.flatEls (U:=zbr) (els:=[.int .i64 H.A.Qb,.int .i64 H.A.Qj,.int .i64 H.A.Qk,.int .i64 0,.bool false,.int .i64 H.B.Qb,.int .i64 H.B.Qj,.int .i64 H.B.Qk,.int .i64 0,.bool false]) (ys:=[(⟨(⟨(⟨H.A.Qb,H.A.Qj,H.A.Qk⟩:D.Qc),0,false⟩:D.QS),(⟨(⟨H.B.Qb,H.B.Qj,H.B.Qk⟩:D.Qc),0,false⟩:D.QS)⟩:D.Qh)]) ⟨[.int .i64 H.A.Qb,.int .i64 H.A.Qj,.int .i64 H.A.Qk,.int .i64 0,.bool false,.int .i64 H.B.Qb,.int .i64 H.B.Qj,.int .i64 H.B.Qk,.int .i64 0,.bool false],_,[],[],rfl,rfl,(z60 (c:=(⟨(⟨(⟨H.A.Qb,H.A.Qj,H.A.Qk⟩:D.Qc),0,false⟩:D.QS),(⟨(⟨H.B.Qb,H.B.Qj,H.B.Qk⟩:D.Qc),0,false⟩:D.QS)⟩:D.Qh)) rfl),⟨rfl,rfl⟩⟩) (fun a4 B4 j5 j4 T1=>?_);have X0:=T1.bring 3 rfl;obtain⟨n2,S⟩:=iS S;refine ap (Flat.map (Flat.pair (Flat.map (Flat.pair (Flat.map (Flat.pair Flat.int (Flat.pair Flat.int (Flat.pair Flat.int Flat.unit)))) (Flat.pair Flat.int (Flat.pair Flat.bool Flat.unit)))) (Flat.pair (Flat.map (Flat.pair (Flat.map (Flat.pair Flat.int (Flat.pair Flat.int (Flat.pair Flat.int Flat.unit)))) (Flat.pair Flat.int (Flat.pair Flat.bool Flat.unit)))) Flat.unit))) X0 ((X0.bring 1 rfl).own) n2 (fun b3 H3 k5 U1=>?_);refine rr 1 ?_;refine rn<|rg<|rr 2 ?_;refine rn ?_;cases S;exact⟨_,_,rfl,⟨b3,H3,(((U1.bring 0 rfl).bring 3 rfl).taken 2),rfl⟩,rfl⟩
     ·refine xt ?_;cases S;exact⟨_,_,⟨L2,R2,r2,e0,rfl⟩,rfl⟩
   ·refine bk<|wk [3,4,5,24,25,26,32,33,34] ?_;refine it (fun(m1:Int × (List D.Qh)) F w9=>∃ J2 P2,St w w9 [Box a0 [sl j0 O.Cells q0,sl g0 O.QM i0,sl y0 O.Qu B0] 166,ow z8u J2 m1.2 P2]∧F=[(3,sl J2 m1.2 P2),(4,.int .i64 X.1),(5,.pointer (some ⟨a0,0,none⟩)),(24,sl A1 x0.Qg k2),(25,.int .i64 (x0.Qg.length:Int)),(26,.int .i64 X.1),(32,sl j0 O.Cells q0),(33,.int .i64 (O.Cells.length:Int)),(34,.int .i64 m1.1)]) t3 ⟨n1,C2,e2,rfl⟩ ?_;rintro m1 F m5 _ O3 ⟨J2,P2,f0,rfl⟩ G s2;unfold z1R at G;refine sq<|rg<|rr 1 ?_;refine rn<|sq<|ci G (fun G=>?_) (fun G=>?_)
    ·refine sp<|sq<|bk<|sq<|rg<|rr 1 ?_;obtain⟨v0,B2,G⟩:=bS G;refine ix (hE.trans f0.ext) r4 B2 (fun L4 S3 m2 v2=>?_);obtain⟨c3,J3,d3,K3,j3,q4,t1⟩:=zt v2;subst j3;refine lN (At.ext (hE.trans f0.ext) m2) ?_;refine nw f0 (fun k3 n5 k4 V1=>?_);refine rr 1 ?_;have W1:=V1.bring 0 rfl;refine so (A:=[]) W1 0 (fun o5 Y0=>?_);refine rn<|ct (fun(M0:(List D.Qh)) F w9=>∃ E0 K0,z5G fuel m1 M0=some O3∧St w w9 [Box k3 [.int .i64 v0.Qj,.int .i64 v0.QO,.int .i64 v0.Value,sl c3 v0.Data J3,sl d3 v0.QY K3] 154,Box a0 [sl j0 O.Cells q0,sl g0 O.QM i0,sl y0 O.Qu B0] 166,ow z8u E0 M0 K0]∧F=[(3,sl E0 M0 K0),(4,.int .i64 X.1),(5,.pointer (some ⟨a0,0,none⟩)),(24,sl A1 x0.Qg k2),(25,.int .i64 (x0.Qg.length:Int)),(26,.int .i64 X.1),(32,sl j0 O.Cells q0),(33,.int .i64 (O.Cells.length:Int)),(34,.int .i64 m1.1)]) ?_ ?_
     ·rintro M0 F p5 ⟨E0,K0,G,X1,rfl⟩;unfold z5G at G;refine rg<|rr 2 ?_;refine rn ?_;cases G;exact⟨_,_,rfl,⟨E0,K0,(X1.bring 0 rfl).drop,rfl⟩,rfl⟩
     ·refine dn 128 mixed 9 [([],511),([],511),([],511),([1,2],505),([],511),([4],495),([3,5,3],471),([0,6,6],446),([7,7,0,1,2,3,4,5,6,7],382)] Y0.ext (fun q=>?_);have Z:=Y0.step (Ext.draw _);refine dr 5 q [0,1,2,4] ?_;refine dw [3,4,5,24,25,26,32,33,34,39,40,41,43] ?_;obtain⟨F2,i1,G⟩:=bS G;obtain⟨G2,j1,G⟩:=bS G;obtain⟨f1,G⟩:=iS G;refine da q [3,5] (by simp) ?_;intro v4 hi275;simp only [List.mem_cons,List.not_mem_nil,or_false] at hi275
      rcases hi275 with rfl | rfl
      ·refine mc q zf6 (z8A (hE.trans Z.ext)  i1) (fun O4 q5 B1=>?_);obtain⟨rfl,P0⟩:=B1;refine⟨P0.ext,?_⟩;have p0:=Z.join P0;refine o1 q 5 (mq q rfl (q1 ((p0.bring 0 rfl).box) 4) ?_);refine o1 q 6 (mc q zfa (z7P (hE.trans p0.ext) (zF F2) t1 j1) (fun P4 r5 C1=>?_));obtain⟨b4,C4,rfl,Q0⟩:=C1;refine⟨Q0.ext,?_⟩;have Y1:=p0.join Q0;have a1:=Y1.bring 3 rfl;refine o1 q 7 (mp (Flat.map (Flat.pair (Flat.map (Flat.pair (Flat.map (Flat.pair Flat.int (Flat.pair Flat.int (Flat.pair Flat.int Flat.unit)))) (Flat.pair Flat.int (Flat.pair Flat.bool Flat.unit)))) (Flat.pair (Flat.map (Flat.pair (Flat.map (Flat.pair Flat.int (Flat.pair Flat.int (Flat.pair Flat.int Flat.unit)))) (Flat.pair Flat.int (Flat.pair Flat.bool Flat.unit)))) Flat.unit))) a1 q ((a1.bring 1 rfl).own) f1 (fun e3 L3 s5 a2=>?_));refine dr 0 q [8] ?_;refine dw [3,4,5,24,25,26,32,33,34] ?_;refine dd q ?_;exact⟨(m1.2++G2),_,⟨e3,L3,G,((((a2.bring 0 rfl).bring 3 rfl).bring 3 rfl).taken 3),rfl⟩,rfl⟩
      ·refine mq q rfl (q1 ((Z.bring 0 rfl).box) 4) ?_;refine o1 q 3 (mc q zf6 (z8A (hE.trans Z.ext)  i1) (fun Q4 t5 D1=>?_));obtain⟨rfl,R0⟩:=D1;refine⟨R0.ext,?_⟩;have b1:=Z.join R0;refine o1 q 6 (mc q zfa (z7P (hE.trans b1.ext) (zF F2) t1 j1) (fun R4 u5 E1=>?_));obtain⟨c4,D4,rfl,S0⟩:=E1;refine⟨S0.ext,?_⟩;have b2:=b1.join S0;have d1:=b2.bring 3 rfl;refine o1 q 7 (mp (Flat.map (Flat.pair (Flat.map (Flat.pair (Flat.map (Flat.pair Flat.int (Flat.pair Flat.int (Flat.pair Flat.int Flat.unit)))) (Flat.pair Flat.int (Flat.pair Flat.bool Flat.unit)))) (Flat.pair (Flat.map (Flat.pair (Flat.map (Flat.pair Flat.int (Flat.pair Flat.int (Flat.pair Flat.int Flat.unit)))) (Flat.pair Flat.int (Flat.pair Flat.bool Flat.unit)))) Flat.unit))) d1 q ((d1.bring 1 rfl).own) f1 (fun f3 M3 v5 d2=>?_));refine dr 0 q [8] ?_;refine dw [3,4,5,24,25,26,32,33,34] ?_;refine dd q ?_;exact⟨(m1.2++G2),_,⟨f3,M3,G,((((d2.bring 0 rfl).bring 3 rfl).bring 3 rfl).taken 3),rfl⟩,rfl⟩
    ·refine xt ?_;cases G;exact⟨_,_,⟨J2,P2,s2,f0,rfl⟩,rfl⟩
  ·refine xt ?_;cases M;exact⟨_,_,⟨n1,C2,y3,F0,rfl⟩,rfl⟩

theorem zf7:Enters Tryz.prog 192:=⟨_,_,Tryz.func192,rfl,by kernel_rfl⟩
def z2B (fuel:Nat) (x0:D.Qe) (x1:D.Qc) (h:Bool):Option Bool:=(if h=true then some false else((idx x0.Qg x1.Qb).bind fun d=>(if(x1.Qj == 1)=true then(if(decide (x1.Qk<(d.Cells.length:Int)))=true then((idx d.Cells x1.Qk).bind fun o=>some (o.Qj != 0)) else some false) else(if(x1.Qj == 2)=true then(if(decide (x1.Qk<(d.QM.length:Int)))=true then((idx d.QM x1.Qk).bind fun q=>some q.Qa2) else some false) else some false))))
def z2X (fuel:Nat) (x0:D.Qe) (x1:D.Qc):Option (Bool):=(if(decide (x1.Qb<0))=true then z2B fuel x0 x1 true else(if(decide (x1.Qb≥(x0.Qg.length:Int)))=true then z2B fuel x0 x1 true else z2B fuel x0 x1 (decide (x1.Qk<0))))

theorem z9b {W w:World}(hE:Ext W w){g0:Addr}{j0:List Value}{x0:D.Qe}{k0:List Value}{x1:D.Qc}(y0:ty37.ro W j0 x0) (o0:At W g0 j0) (A0:ty35.ro W k0 x1){fuel:Nat}{r:Bool}(hm:z2X fuel x0 x1=some r):
  Calls Tryz.prog 192 ⟨[.pointer (some g0),.agg ⟨k0⟩]⟩ w (Ret fun v w8=>v=.bool r∧St w w8 []):=by
 obtain⟨A1,k2,e4,h3⟩:=z33 y0;subst e4;have e5:=z1a A0;subst e5;refine into Tryz.func192 69 _ ?_;unfold z2X at hm;have hS:=St.start w;refine sq<|rg<|nw hS (fun g6 w7 K0 y=>?_);refine rr 1 ?_;refine rn<|sq<|sq<|ct (fun(i0:Bool) F w9=>z2B fuel x0 x1 i0=some r∧Ext w7 w9∧St w w9 [Box g6 [.int .i64 x1.Qb,.int .i64 x1.Qj,.int .i64 x1.Qk] 35]∧F=[(0,.pointer (some g0)),(3,.pointer (some ⟨g6,0,none⟩)),(23,.bool i0)]) ?_ ?_
 ·rintro i0 F a1 ⟨hm,D0,q,rfl⟩;unfold z2B at hm;refine ci hm (fun hm=>?_) (fun hm=>?_)
  ·refine sq<|rg<|rr 1 ?_;refine rn<|rt ?_;cases hm;exact⟨_,.cons (.tmp rfl) .nil,rfl,(q.taken 0)⟩
  ·refine sp<|sq<|dn 512 mixed 10 [([],1023),([0],1022),([1],1021),([2],1019),([],1023),([4],1007),([3,5],983),([6],959),([],1023),([8,7,0,1,2,3,4,5,6,7,8],639)] q.ext (fun o=>?_);have H:=q.step (Ext.draw _);refine dr 6 o [0,1,2,4] ?_;refine dl o 3 (At.ext (hE.trans q.ext) o0) 0 ?_;refine dl o 5 ((q.bring 0 rfl).box) 0 ?_;obtain⟨e1,d0,hm⟩:=bS hm;refine dx (hE.trans q.ext) o 6 h3 d0 (fun V0 t0 S Z=>?_);obtain⟨E0,Q0,F0,R0,G0,S0,p0,B0,C0,N0⟩:=zR Z;subst p0;refine dL o 7 (At.ext (hE.trans q.ext) S) ?_;refine o1 o 8 (mw o H (fun M0 b1 L0 M=>?_));have O:=M.bring 0 rfl;refine o1 o 9 (ms (A:=[]) O o 0 (fun d1 d=>?_));refine dd o ?_;refine sq<|sq<|rg<|rr 1 ?_;refine l1 ((d.bring 1 rfl).box) 1 ?_;refine rn<|bk<|sq<|rg<|rr 2 ?_;refine rn<|ci hm (fun hm=>?_) (fun hm=>?_)
   ·refine sq<|rg<|rr 1 ?_;refine l1 ((d.bring 1 rfl).box) 2 ?_;refine rr 1 ?_;refine l1 ((d.bring 0 rfl).box) 0 ?_;refine rr 3 ?_;refine rb 42 hm (fun hm=>?_) (fun hm=>?_)
    ·refine rr 1 ?_;refine l1 ((d.bring 0 rfl).box) 0 ?_;refine rr 1 ?_;refine l1 ((d.bring 1 rfl).box) 2 ?_;obtain⟨f1,e0,hm⟩:=bS hm;refine ix (hE.trans d.ext) B0 e0 (fun X0 u0 X a0=>?_);obtain⟨H0,T0,J0,U0,q0,O0,P0⟩:=zt a0;subst q0;refine rr 1 ?_;refine l1 (At.ext (hE.trans d.ext) X) 0 ?_;refine rr 3 ?_;refine rn<|rt ?_;cases hm;exact⟨_,.cons (.tmp rfl) .nil,rfl,(d.taken 0)⟩
    ·refine rr 10 ?_;refine rn<|rt ?_;cases hm;exact⟨_,.cons (.tmp rfl) .nil,rfl,(d.taken 0)⟩
   ·refine sq<|rg<|rr 2 ?_;refine rn<|ci hm (fun hm=>?_) (fun hm=>?_)
    ·refine sq<|rg<|rr 1 ?_;refine l1 ((d.bring 1 rfl).box) 2 ?_;refine rr 1 ?_;refine l1 ((d.bring 0 rfl).box) 1 ?_;refine rr 3 ?_;refine rb 60 hm (fun hm=>?_) (fun hm=>?_)
     ·refine rr 1 ?_;refine l1 ((d.bring 0 rfl).box) 1 ?_;refine rr 1 ?_;refine l1 ((d.bring 1 rfl).box) 2 ?_;obtain⟨g1,f0,hm⟩:=bS hm;refine ix (hE.trans d.ext) C0 f0 (fun Y0 v0 Y b0=>?_);have r0:=z1v b0;subst r0;refine rr 1 ?_;refine l1 (At.ext (hE.trans d.ext) Y) 0 ?_;refine rr 2 ?_;refine rn<|rt ?_;cases hm;exact⟨_,.cons (.tmp rfl) .nil,rfl,(d.taken 0)⟩
     ·refine rr 9 ?_;refine rn<|rt ?_;cases hm;exact⟨_,.cons (.tmp rfl) .nil,rfl,(d.taken 0)⟩
    ·refine sp<|sq<|rg<|rr 1 ?_;refine rn<|rt ?_;cases hm;exact⟨_,.cons (.tmp rfl) .nil,rfl,(d.taken 0)⟩
 ·refine dn 0 mixed 18 [([],262143),([0],262142),([1],262141),([2],262139),([3],262135),([4,3],262119),([3],262135),([6,3],262071),([7,3],262007),([8,3],261879),([9,3],261623),([5,10,3],261079),([3,11],260087),([12,3],258047),([13],253951),([14,13],237567),([15,13],221183),([13,16],188415)] y.ext (fun h=>?_);have G:=y.step (Ext.draw _);refine dr 17 h [0] ?_;refine dl h 1 ((y.bring 0 rfl).box) 0 ?_;refine dr 14 h [2,3] ?_;refine db 9 hm (fun hm=>?_) (fun hm=>?_)
  ·refine dr 0 h [4,5,6,7,8,9,10,11,12,13,14,15,16,17] ?_;refine dw [0,3,23] ?_;refine dd h ?_;exact⟨true,_,⟨hm,(Ext.draw _),G,rfl⟩,rfl⟩
  ·refine dr 10 h [4,6,7,8] ?_;refine dw [0,3,9,10,14] ?_;refine dl h 5 ((y.bring 0 rfl).box) 0 ?_;refine dl h 9 (At.ext (hE.trans y.ext) o0) 0 ?_;refine dr 4 h [10,11,12,13] ?_;refine dw [0,3,19] ?_;refine db 19 hm (fun hm=>?_) (fun hm=>?_)
   ·refine dr 0 h [14,15,16,17] ?_;refine dd h ?_;exact⟨true,_,⟨hm,(Ext.draw _),G,rfl⟩,rfl⟩
   ·refine dr 3 h [14] ?_;refine dl h 15 ((y.bring 0 rfl).box) 2 ?_;refine dr 0 h [16,17] ?_;refine dd h ?_;exact⟨decide (x1.Qk<0),_,⟨hm,(Ext.draw _),G,rfl⟩,rfl⟩

theorem zmm:Enters Tryz.prog 193:=⟨_,_,Tryz.func193,rfl,by kernel_rfl⟩
def zbY (fuel:Nat) (t6:(List (D.Qc × Int))):Option (List (D.Qc × Int)):=some t6
def zbX (fuel:Nat) (s5:Int × (List (D.Qc × Int))) (d:(List (D.Qc × Int))):Option (Rd (Int × (List (D.Qc × Int))) ((List (D.Qc × Int))) ((List (D.Qc × Int)))):=some (.next (w64 (s5.1+1),d))
def z7G (fuel:Nat) (d:Int × (List (D.Qc × Int))) (h:(List (D.Qc × Int))):Option (Rd (Int × (List (D.Qc × Int))) ((List (D.Qc × Int))) (Rd (Int × (List (D.Qc × Int))) ((List (D.Qc × Int))) ((List (D.Qc × Int))))):=some (.next (w64 (d.1+1),h))
def z98 (fuel:Nat) (d:Int × (List (D.Qc × Int))) (h:(List (D.Qc × Int))):Option (Rd (Int × (List (D.Qc × Int))) ((List (D.Qc × Int))) (Rd (Int × (List (D.Qc × Int))) ((List (D.Qc × Int))) ((List (D.Qc × Int))))):=z7G fuel d h
def z1N (fuel:Nat) (h:D.Qh) (d:Int × (List (D.Qc × Int))):Option (Rd (Int × (List (D.Qc × Int))) ((List (D.Qc × Int))) (Rd (Int × (List (D.Qc × Int))) ((List (D.Qc × Int))) ((List (D.Qc × Int))))):=(if(decide (d.1<(([h.a,h.b]:(List D.QS)).length:Int)))=true then((idx ([h.a,h.b]:(List D.QS)) d.1).bind fun o=>(if(!o.own)=true then z98 fuel d (mput d.2 o.at_ (w64 (((mget d.2 o.at_).getD (0:Int))+1))) else z7G fuel d d.2)) else some (.brk d.2))
def z7H (fuel:Nat) (x0:(List D.Qh)) (s5:Int × (List (D.Qc × Int))):Option (Rd (Int × (List (D.Qc × Int))) ((List (D.Qc × Int))) ((List (D.Qc × Int)))):=(if(decide (s5.1<(x0.length:Int)))=true then((idx x0 s5.1).bind fun d=>((iter (z1N fuel d) fuel (0,s5.2)).bind fun o=>aft o (zbX fuel s5))) else some (.brk s5.2))
def z9O (fuel:Nat) (x0:(List D.Qh)):Option ((List (D.Qc × Int))):=((iter (z7H fuel x0) fuel (0,([]:(List (D.Qc × Int))))).bind fun o=>aft o (zbY fuel))

theorem zgA {W w:World}(hE:Ext W w){O:Option Addr}{a0:Nat}{x0:(List D.Qh)}(d1:z8u.ro W [sl O x0 a0] x0){fuel:Nat}{r:(List (D.Qc × Int))}(hm:z9O fuel x0=some r):
  Calls Tryz.prog 193 ⟨[sl O x0 a0]⟩ w (Ret fun v w8=>∃ A0,v=.map (some A0)∧St w w8 [Own zcs [.map (some A0)] r]):=by
 refine into Tryz.func193 38 _ ?_;unfold z9O at hm;have hS:=St.start w;refine sq<|rg<|rr 1 ?_;refine rn<|sq<|rg<|rMakeMap znj (Value.int .i64) hS (fun g1 w2 e3 e1=>?_);refine rr 1 ?_;refine rn<|sq<|sq<|rg<|rr 3 ?_;refine rn ?_;obtain⟨f1,H0,hm⟩:=bS hm;refine ct (fun(t6:(List (D.Qc × Int))) F w9=>f1=.inl t6∧St w w9 [Own zcs [.map (some g1)] t6]∧F=[(3,.map (some g1))]) ?_ ?_
 ·rintro t6 F A1 ⟨K0,g0,rfl⟩;subst K0;rw [z8] at hm;unfold zbY at hm;refine sq<|rg<|rr 2 ?_;refine rn<|rt ?_;cases hm;exact⟨_,.cons (.tmp rfl) .nil,g1,rfl,g0⟩
 ·refine bk<|wk [3,9,10,11] ?_;refine it (fun(s5:Int × (List (D.Qc × Int))) F w9=>St w w9 [Own zcs [.map (some g1)] s5.2]∧F=[(3,.map (some g1)),(9,sl O x0 a0),(10,.int .i64 (x0.length:Int)),(11,.int .i64 s5.1)]) H0 ⟨e1,rfl⟩ ?_;rintro s5 F B1 _ u1 ⟨M,rfl⟩ q L0;unfold z7H at q;refine sq<|rg<|rr 1 ?_;refine rn<|sq<|ci q (fun q=>?_) (fun q=>?_)
  ·refine sp<|sq<|bk<|sq<|rg ?_;obtain⟨d,Q0,q⟩:=bS q;refine ix (hE.trans M.ext) d1 Q0 (fun v1 a1 F0 O0=>?_);have X0:=zfU O0;subst X0;refine lN (At.ext (hE.trans M.ext) F0) ?_;refine nw M (fun e0 C1 n1 i0=>?_);have j0:=i0.bring 0 rfl;refine so (A:=[]) j0 0 (fun D1 X=>?_);refine rn<|sq<|rg<|rr 1 ?_;refine lN (At.sub ((X.bring 0 rfl).box) 0 5) ?_;refine rr 1 ?_;refine lN (At.sub ((X.bring 0 rfl).box) 5 5) ?_;refine ns (X.flatEls (U:=zep) (els:=[.int .i64 d.a.at_.Qb,.int .i64 d.a.at_.Qj,.int .i64 d.a.at_.Qk,.int .i64 d.a.slot,.bool d.a.own,.int .i64 d.b.at_.Qb,.int .i64 d.b.at_.Qj,.int .i64 d.b.at_.Qk,.int .i64 d.b.slot,.bool d.b.own]) (ys:=[d.a,d.b]) ⟨[.int .i64 d.a.at_.Qb,.int .i64 d.a.at_.Qj,.int .i64 d.a.at_.Qk,.int .i64 d.a.slot,.bool d.a.own],_,[],[],rfl,rfl,(zch (c:=d.a) rfl),⟨[.int .i64 d.b.at_.Qb,.int .i64 d.b.at_.Qj,.int .i64 d.b.at_.Qk,.int .i64 d.b.slot,.bool d.b.own],_,[],[],rfl,rfl,(zch (c:=d.b) rfl),⟨rfl,rfl⟩⟩⟩) (fun S b0 E1 p1 k0=>?_);refine rr 2 ?_;refine rn ?_;obtain⟨i1,J0,q⟩:=bS q;refine ct (fun(S0:(List (D.Qc × Int))) F w9=>i1=.inl S0∧St w w9 [ow zjV S ([d.a,d.b]:(List D.QS)) b0,Box e0 [.int .i64 d.a.at_.Qb,.int .i64 d.a.at_.Qj,.int .i64 d.a.at_.Qk,.int .i64 d.a.slot,.bool d.a.own,.int .i64 d.b.at_.Qb,.int .i64 d.b.at_.Qj,.int .i64 d.b.at_.Qk,.int .i64 d.b.slot,.bool d.b.own] 171,Own zcs [.map (some g1)] S0]∧F=[(3,.map (some g1)),(9,sl O x0 a0),(10,.int .i64 (x0.length:Int)),(11,.int .i64 s5.1)]) ?_ ?_
   ·rintro S0 F F1 ⟨M0,o0,rfl⟩;subst M0;rw [z8] at q;unfold zbX at q;refine rg<|rr 2 ?_;refine rn ?_;cases q;exact⟨_,_,rfl,⟨((o0.bring 2 rfl).taken 1),rfl⟩,rfl⟩
   ·refine bk<|wk [3,9,10,11,19,20,21] ?_;refine it (fun(G:Int × (List (D.Qc × Int))) F w9=>St w w9 [ow zjV S ([d.a,d.b]:(List D.QS)) b0,Box e0 [.int .i64 d.a.at_.Qb,.int .i64 d.a.at_.Qj,.int .i64 d.a.at_.Qk,.int .i64 d.a.slot,.bool d.a.own,.int .i64 d.b.at_.Qb,.int .i64 d.b.at_.Qj,.int .i64 d.b.at_.Qk,.int .i64 d.b.slot,.bool d.b.own] 171,Own zcs [.map (some g1)] G.2]∧F=[(3,.map (some g1)),(9,sl O x0 a0),(10,.int .i64 (x0.length:Int)),(11,.int .i64 s5.1),(19,sl S ([d.a,d.b]:(List D.QS)) b0),(20,.int .i64 (([d.a,d.b]:(List D.QS)).length:Int)),(21,.int .i64 G.1)]) J0 ⟨k0,rfl⟩ ?_;rintro G F G1 _ V0 ⟨Y,rfl⟩ h N0;unfold z1N at h;refine sq<|rg<|rr 1 ?_;refine rn<|sq<|ci h (fun h=>?_) (fun h=>?_)
    ·refine sp<|sq<|bk<|sq<|rg ?_;obtain⟨y,R0,h⟩:=bS h;refine ix (Ext.refl _) ((Y.bring 0 rfl).own) R0 (fun y1 b1 G0 P0=>?_);have Y0:=zdi P0;subst Y0;refine lN G0 ?_;refine nw Y (fun U0 H1 s1 p0=>?_);have q0:=p0.bring 0 rfl;refine so (A:=[]) q0 0 (fun J1 H=>?_);refine rn<|sq<|rg<|rr 1 ?_;refine l1 ((H.bring 0 rfl).box) 4 ?_;refine rr 1 ?_;refine rn<|ct (fun(T0:(List (D.Qc × Int))) F w9=>z7G fuel G T0=some V0∧St w w9 [Box U0 [.int .i64 y.at_.Qb,.int .i64 y.at_.Qj,.int .i64 y.at_.Qk,.int .i64 y.slot,.bool y.own] 169,ow zjV S ([d.a,d.b]:(List D.QS)) b0,Box e0 [.int .i64 d.a.at_.Qb,.int .i64 d.a.at_.Qj,.int .i64 d.a.at_.Qk,.int .i64 d.a.slot,.bool d.a.own,.int .i64 d.b.at_.Qb,.int .i64 d.b.at_.Qj,.int .i64 d.b.at_.Qk,.int .i64 d.b.slot,.bool d.b.own] 171,Own zcs [.map (some g1)] T0]∧F=[(3,.map (some g1)),(9,sl O x0 a0),(10,.int .i64 (x0.length:Int)),(11,.int .i64 s5.1),(19,sl S ([d.a,d.b]:(List D.QS)) b0),(20,.int .i64 (([d.a,d.b]:(List D.QS)).length:Int)),(21,.int .i64 G.1)]) ?_ ?_
     ·rintro T0 F K1 ⟨h,r0,rfl⟩;unfold z7G at h;refine rg<|rr 2 ?_;refine rn ?_;cases h;exact⟨_,_,rfl,⟨(r0.bring 0 rfl).drop,rfl⟩,rfl⟩
     ·refine ci h (fun h=>?_) (fun h=>?_)
      ·refine ct (fun(f0:(List (D.Qc × Int))) F w9=>z98 fuel G f0=some V0∧St w w9 [Box U0 [.int .i64 y.at_.Qb,.int .i64 y.at_.Qj,.int .i64 y.at_.Qk,.int .i64 y.slot,.bool y.own] 169,ow zjV S ([d.a,d.b]:(List D.QS)) b0,Box e0 [.int .i64 d.a.at_.Qb,.int .i64 d.a.at_.Qj,.int .i64 d.a.at_.Qk,.int .i64 d.a.slot,.bool d.a.own,.int .i64 d.b.at_.Qb,.int .i64 d.b.at_.Qj,.int .i64 d.b.at_.Qk,.int .i64 d.b.slot,.bool d.b.own] 171,Own zcs [.map (some g1)] f0]∧F=[(3,.map (some g1)),(9,sl O x0 a0),(10,.int .i64 (x0.length:Int)),(11,.int .i64 s5.1),(19,sl S ([d.a,d.b]:(List D.QS)) b0),(20,.int .i64 (([d.a,d.b]:(List D.QS)).length:Int)),(21,.int .i64 G.1)]) ?_ ?_
       ·rintro f0 F L1 ⟨h,t0,rfl⟩;unfold z98 at h;exact⟨f0,_,⟨h,t0,rfl⟩,rfl⟩
       ·refine dn 160 mixed 8 [([],255),([],255),([1],253),([0,2],250),([3],247),([0,2,0,1,2],250),([5],223),([0,6,4,5,0,1,2,3,4,5,6],174)] H.ext (fun o=>?_);have Z:=H.step (Ext.draw _);refine dr 6 o [0,1] ?_;refine dw [3,9,10,11,19,20,21,28,29] ?_;refine dL o 2 (At.sub ((H.bring 0 rfl).box) 0 3) ?_;refine da o [3,5] (by simp) ?_;intro t1 hi85;simp only [List.mem_cons,List.not_mem_nil,or_false] at hi85
        rcases hi85 with rfl | rfl
        ·refine mq o rfl ((Quiet.lookup zcm (kk:=y.at_) ((Z.bring 3 rfl).own) rfl rfl rfl).later (Ext.refl _)) ?_;refine dr 3 o [4] ?_;have v0:=Z.bring 3 rfl;refine o1 o 5 (lMapEntry (kk:=y.at_) zcm v0 o (fun j1 M1 u0=>?_));refine dr 1 o [6] ?_;have B0:=u0.bring 0 rfl;refine o1 o 7 (lEntryStore (v:=(w64 (((mget G.2 y.at_).getD (0:Int))+1))) B0 o (fun N1 y0=>?_));refine dd o ?_;exact⟨(mput G.2 y.at_ (w64 (((mget G.2 y.at_).getD (0:Int))+1))),_,⟨h,((((y0.bring 0 rfl).bring 3 rfl).bring 3 rfl).bring 3 rfl),rfl⟩,rfl⟩
        ·have C0:=Z.bring 3 rfl;refine lMapEntry (kk:=y.at_) zcm C0 o (fun m1 O1 d0=>?_);refine dr 3 o [6] ?_;refine o1 o 3 (mq o rfl (Quiet.lookupO zcm (d0.bring 0 rfl) rfl rfl rfl) ?_);refine dr 1 o [4] ?_;have E0:=d0.bring 0 rfl;refine o1 o 7 (lEntryStore (v:=(w64 (((mget G.2 y.at_).getD (0:Int))+1))) E0 o (fun P1 D0=>?_));refine dd o ?_;exact⟨(mput G.2 y.at_ (w64 (((mget G.2 y.at_).getD (0:Int))+1))),_,⟨h,((((D0.bring 0 rfl).bring 3 rfl).bring 3 rfl).bring 3 rfl),rfl⟩,rfl⟩
      ·refine sp ?_;exact⟨G.2,_,⟨h,H,rfl⟩,rfl⟩
    ·refine xt ?_;cases h;exact⟨_,_,⟨N0,Y,rfl⟩,rfl⟩
  ·refine xt ?_;cases q;exact⟨_,_,⟨L0,M,rfl⟩,rfl⟩

theorem zmT:Enters Tryz.prog 137:=⟨_,_,Tryz.func137,rfl,by kernel_rfl⟩
def z8o (fuel:Nat) (d:Unit):Option Bool:=some true
def z8n (fuel:Nat) (d:Int) (h:Unit):Option (Rd (Int) (Unit) (Bool)):=some (.next (w64 (d+1)))
def z1T (fuel:Nat) (d:Int) (h:Bool):Option (Rd (Int) (Unit) (Rd (Int) (Unit) (Bool))):=(if h=true then some (.ret (.ret false)) else some (.next (w64 (d+1))))
def z1U (fuel:Nat) (q:(List (D.Qc × Int))) (y:Int) (o:D.Qv) (d:Int):Option (Rd (Int) (Unit) (Rd (Int) (Unit) (Bool))):=(if(decide (d<(o.QM.length:Int)))=true then((idx o.QM d).bind fun G=>(if G.Qa2=true then((z4f fuel y d).bind fun h=>z1T fuel d (((mget q h).getD (0:Int)) != 2)) else z1T fuel d false)) else some (.brk ()))
def z5K (fuel:Nat) (h:(List (D.Qc × Int))) (d:Int) (q:D.Qv) (y:Unit):Option (Rd (Int) (Unit) (Bool)):=((iter (z1U fuel h d q) fuel 0).bind fun o=>aft o (z8n fuel d))
def z1S (fuel:Nat) (h:Int) (d:Bool):Option (Rd (Int) (Unit) (Rd (Int) (Unit) (Bool))):=(if d=true then some (.ret (.ret false)) else some (.next (w64 (h+1))))
def z1V (fuel:Nat) (y:(List (D.Qc × Int))) (G:Int) (q:D.Qv) (d:Int):Option (Rd (Int) (Unit) (Rd (Int) (Unit) (Bool))):=(if(decide (d<(q.Cells.length:Int)))=true then((idx q.Cells d).bind fun o=>(if(o.Qj != 0)=true then((z3y fuel G d).bind fun h=>z1S fuel d (((mget y h).getD (0:Int)) != 1)) else z1S fuel d false)) else some (.brk ()))
def z1W (fuel:Nat) (x0:D.Qe) (h:(List (D.Qc × Int))) (d:Int):Option (Rd (Int) (Unit) (Bool)):=(if(decide (d<(x0.Qg.length:Int)))=true then((idx x0.Qg d).bind fun q=>((iter (z1V fuel h d q) fuel 0).bind fun o=>aft o (z5K fuel h d q))) else some (.brk ()))
def z5L (fuel:Nat) (x0:D.Qe) (x1:(List D.Qh)) (t6:Unit):Option Bool:=((z9O fuel x1).bind fun d=>((iter (z1W fuel x0 d) fuel 0).bind fun o=>aft o (z8o fuel)))
def zB (fuel:Nat) (s5:Int) (d:Bool):Option (Rd (Int) (Unit) (Bool)):=(if d=true then some (.ret false) else some (.next (w64 (s5+1))))
def z1X (fuel:Nat) (x0:D.Qe) (x1:(List D.Qh)) (s5:Int):Option (Rd (Int) (Unit) (Bool)):=(if(decide (s5<(x1.length:Int)))=true then((idx x1 s5).bind fun d=>(if(!d.a.own)=true then((z2X fuel x0 d.a.at_).bind fun h=>(if(!h)=true then zB fuel s5 true else(if(!d.b.own)=true then((z2X fuel x0 d.b.at_).bind fun o=>zB fuel s5 (!o)) else zB fuel s5 false))) else(if(!d.b.own)=true then((z2X fuel x0 d.b.at_).bind fun q=>zB fuel s5 (!q)) else zB fuel s5 false))) else some (.brk ()))
def z2N (fuel:Nat) (x0:D.Qe) (x1:(List D.Qh)):Option (Bool):=((iter (z1X fuel x0 x1) fuel 0).bind fun o=>aft o (z5L fuel x0 x1))

theorem zbA {W w:World}(hE:Ext W w){B1:Addr}{E2:List Value}{x0:D.Qe}{E0:Option Addr}{G0:Nat}{x1:(List D.Qh)}(G1:ty37.ro W E2 x0) (F1:At W B1 E2) (H2:z8u.ro W [sl E0 x1 G0] x1){fuel:Nat}{r:Bool}(hm:z2N fuel x0 x1=some r):
  Calls Tryz.prog 137 ⟨[.pointer (some B1),sl E0 x1 G0]⟩ w (Ret fun v w8=>v=.bool r∧St w w8 []):=by
 obtain⟨A1,k2,e4,h3⟩:=z33 G1;subst e4;refine into Tryz.func137 99 _ ?_;unfold z2N at hm;have hS:=St.start w;refine sq<|rg<|rr 1 ?_;refine rn<|sq<|sq<|rg<|rr 3 ?_;refine rn ?_;obtain⟨b3,b2,hm⟩:=bS hm;refine ct (fun(t6:Unit) F w9=>b3=.inl t6∧St w w9 []∧F=[(0,.pointer (some B1)),(1,sl E0 x1 G0)]) ?_ ?_
 ·rintro t6 F N3 ⟨g2,S0,rfl⟩;subst g2;rw [z8] at hm;unfold z5L at hm;refine sq<|rg<|rr 1 ?_;obtain⟨d0,p2,hm⟩:=bS hm;refine ca zmm (zgA (hE.trans S0.ext) H2 p2) (fun M3 O3 Q1=>?_);obtain⟨O,rfl,R1⟩:=Q1;have a1:=S0.join R1;refine rr 1 ?_;refine rn<|sq<|sq<|rg<|rr 3 ?_;refine l1 (At.ext (hE.trans a1.ext) F1) 0 ?_;refine rr 2 ?_;refine rn ?_;obtain⟨c3,d2,hm⟩:=bS hm;refine ct (fun(L2:Unit) F w9=>c3=.inl L2∧St w w9 [Own zcs [.map (some O)] d0]∧F=[]) ?_ ?_
  ·rintro L2 F P3 ⟨i2,S1,rfl⟩;subst i2;rw [z8] at hm;unfold z8o at hm;refine sq<|rg<|rr 1 ?_;refine rn<|rt ?_;cases hm;exact⟨_,.cons (.tmp rfl) .nil,rfl,(S1.taken 0)⟩
  ·refine bk<|wk [7,52,53,54] ?_;refine it (fun(a0:Int) F w9=>St w w9 [Own zcs [.map (some O)] d0]∧F=[(7,.map (some O)),(52,sl A1 x0.Qg k2),(53,.int .i64 (x0.Qg.length:Int)),(54,.int .i64 a0)]) d2 ⟨a1,rfl⟩ ?_;rintro a0 F Q3 _ J3 ⟨f0,rfl⟩ o F0;unfold z1W at o;refine sq<|rg<|rr 1 ?_;refine rn<|sq<|ci o (fun o=>?_) (fun o=>?_)
   ·refine sp<|sq<|bk<|sq<|rg<|rr 1 ?_;obtain⟨H,q2,o⟩:=bS o;refine ix (hE.trans f0.ext) h3 q2 (fun K3 S2 Y1 n2=>?_);obtain⟨j0,C0,k0,D0,K0,L0,Q2,X2,Y2,H3⟩:=zR n2;subst Q2;refine lN (At.ext (hE.trans f0.ext) Y1) ?_;refine nw f0 (fun e0 R3 F3 T1=>?_);refine rr 1 ?_;have U1:=T1.bring 0 rfl;refine so (A:=[]) U1 0 (fun S3 b1=>?_);refine rn<|sq<|sq<|rg<|rr 1 ?_;refine l1 ((b1.bring 0 rfl).box) 0 ?_;refine rr 2 ?_;refine rn ?_;obtain⟨d3,e2,o⟩:=bS o;refine ct (fun(M2:Unit) F w9=>d3=.inl M2∧St w w9 [Box e0 [sl j0 H.Cells C0,sl k0 H.QM D0,sl K0 H.Qu L0] 166,Own zcs [.map (some O)] d0]∧F=[(7,.map (some O)),(8,.int .i64 a0),(9,.pointer (some ⟨e0,0,none⟩)),(52,sl A1 x0.Qg k2),(53,.int .i64 (x0.Qg.length:Int)),(54,.int .i64 a0)]) ?_ ?_
    ·rintro M2 F T3 ⟨j2,d1,rfl⟩;subst j2;rw [z8] at o;unfold z5K at o;refine sq<|rg<|rr 1 ?_;refine l1 ((d1.bring 0 rfl).box) 1 ?_;refine rr 2 ?_;refine rn ?_;obtain⟨e3,f2,o⟩:=bS o;refine ct (fun(N2:Unit) F w9=>e3=.inl N2∧St w w9 [Box e0 [sl j0 H.Cells C0,sl k0 H.QM D0,sl K0 H.Qu L0] 166,Own zcs [.map (some O)] d0]∧F=[(7,.map (some O)),(52,sl A1 x0.Qg k2),(53,.int .i64 (x0.Qg.length:Int)),(54,.int .i64 a0)]) ?_ ?_
     ·rintro N2 F U3 ⟨m2,V1,rfl⟩;subst m2;rw [z8] at o;unfold z8n at o;refine rg<|rr 2 ?_;refine rn ?_;cases o;exact⟨_,_,rfl,⟨((V1.bring 1 rfl).taken 1),rfl⟩,rfl⟩
     ·refine bk<|wk [7,8,52,53,54,80,81,82] ?_;refine it (fun(J1:Int) F w9=>St w w9 [Box e0 [sl j0 H.Cells C0,sl k0 H.QM D0,sl K0 H.Qu L0] 166,Own zcs [.map (some O)] d0]∧F=[(7,.map (some O)),(8,.int .i64 a0),(52,sl A1 x0.Qg k2),(53,.int .i64 (x0.Qg.length:Int)),(54,.int .i64 a0),(80,sl k0 H.QM D0),(81,.int .i64 (H.QM.length:Int)),(82,.int .i64 J1)]) f2 ⟨d1,rfl⟩ ?_;rintro J1 F V3 _ f3 ⟨g0,rfl⟩ q i1;unfold z1U at q;refine sq<|rg<|rr 1 ?_;refine rn<|sq<|ci q (fun q=>?_) (fun q=>?_)
      ·refine sp<|sq<|bk<|sq<|rg<|rr 1 ?_;obtain⟨E1,r2,q⟩:=bS q;refine ix (hE.trans g0.ext) Y2 r2 (fun L3 T2 a2 o2=>?_);have R2:=z1v o2;subst R2;refine lN (At.ext (hE.trans g0.ext) a2) ?_;refine nw g0 (fun U2 W3 G3 W1=>?_);refine rr 1 ?_;have X1:=W1.bring 0 rfl;refine so (A:=[]) X1 0 (fun E3 i0=>?_);refine rn<|sq<|ct (fun(B2:Bool) F w9=>z1T fuel J1 B2=some f3∧Ext E3 w9∧St w w9 [Box U2 [.bool E1.Qa2,.bool E1.Qa3,.int .i64 E1.QX.Qb,.int .i64 E1.QX.Qj,.int .i64 E1.QX.Qk] 223,Box e0 [sl j0 H.Cells C0,sl k0 H.QM D0,sl K0 H.Qu L0] 166,Own zcs [.map (some O)] d0]∧F=[(7,.map (some O)),(8,.int .i64 a0),(52,sl A1 x0.Qg k2),(53,.int .i64 (x0.Qg.length:Int)),(54,.int .i64 a0),(80,sl k0 H.QM D0),(81,.int .i64 (H.QM.length:Int)),(82,.int .i64 J1),(96,.bool B2)]) ?_ ?_
       ·rintro B2 F X3 ⟨q,a3,e1,rfl⟩;unfold z1T at q;refine ci q (fun q=>?_) (fun q=>?_)
        ·refine sq<|rg<|rr 1 ?_;refine rn<|rt ?_;cases q;cases i1;have o:some _=some _:=o;cases o;cases F0;have hm:some _=some _:=hm;cases hm;exact⟨_,.cons (.tmp rfl) .nil,rfl,(e1.taken 0)⟩
        ·refine sp<|rg<|rr 2 ?_;refine rn ?_;cases q;exact⟨_,_,rfl,⟨(e1.bring 0 rfl).drop,rfl⟩,rfl⟩
       ·refine rg<|rr 1 ?_;refine l1 ((i0.bring 0 rfl).box) 0 ?_;refine rr 1 ?_;refine rb 89 q (fun q=>?_) (fun q=>?_)
        ·refine rr 3 ?_;obtain⟨C1,n1,q⟩:=bS q;refine ca zf5 (z9a (hE.trans i0.ext)  n1) (fun k3 q3 M0=>?_);obtain⟨rfl,o0⟩:=M0;have t0:=i0.join o0;refine qt ((Quiet.lookup zcm (kk:=C1) ((t0.bring 2 rfl).own) rfl rfl rfl).later (Ext.refl _)) ?_;refine rr 2 ?_;refine rn ?_;exact⟨(((mget d0 C1).getD (0:Int)) != 2),_,⟨q,o0.ext,t0,rfl⟩,rfl⟩
        ·refine rr 7 ?_;refine rn ?_;exact⟨false,_,⟨q,(Ext.refl _),i0,rfl⟩,rfl⟩
      ·refine xt ?_;cases q;exact⟨_,_,⟨i1,g0,rfl⟩,rfl⟩
    ·refine bk<|wk [7,8,9,52,53,54,60,61,62] ?_;refine it (fun(H1:Int) F w9=>St w w9 [Box e0 [sl j0 H.Cells C0,sl k0 H.QM D0,sl K0 H.Qu L0] 166,Own zcs [.map (some O)] d0]∧F=[(7,.map (some O)),(8,.int .i64 a0),(9,.pointer (some ⟨e0,0,none⟩)),(52,sl A1 x0.Qg k2),(53,.int .i64 (x0.Qg.length:Int)),(54,.int .i64 a0),(60,sl j0 H.Cells C0),(61,.int .i64 (H.Cells.length:Int)),(62,.int .i64 H1)]) e2 ⟨b1,rfl⟩ ?_;rintro H1 F r3 _ u2 ⟨X,rfl⟩ h A0;unfold z1V at h;refine sq<|rg<|rr 1 ?_;refine rn<|sq<|ci h (fun h=>?_) (fun h=>?_)
     ·refine sp<|sq<|bk<|sq<|rg<|rr 1 ?_;obtain⟨b0,p1,h⟩:=bS h;refine ix (hE.trans X.ext) X2 p1 (fun g3 F2 f1 j1=>?_);obtain⟨K1,s2,L1,t2,M1,V2,W2⟩:=zt j1;subst M1;refine lN (At.ext (hE.trans X.ext) f1) ?_;refine nw X (fun O1 s3 O2 R0=>?_);refine rr 1 ?_;have T0:=R0.bring 0 rfl;refine so (A:=[]) T0 0 (fun C2 Y=>?_);refine rn<|sq<|ct (fun(H0:Bool) F w9=>z1S fuel H1 H0=some u2∧Ext C2 w9∧St w w9 [Box O1 [.int .i64 b0.Qj,.int .i64 b0.QO,.int .i64 b0.Value,sl K1 b0.Data s2,sl L1 b0.QY t2] 154,Box e0 [sl j0 H.Cells C0,sl k0 H.QM D0,sl K0 H.Qu L0] 166,Own zcs [.map (some O)] d0]∧F=[(7,.map (some O)),(8,.int .i64 a0),(9,.pointer (some ⟨e0,0,none⟩)),(52,sl A1 x0.Qg k2),(53,.int .i64 (x0.Qg.length:Int)),(54,.int .i64 a0),(60,sl j0 H.Cells C0),(61,.int .i64 (H.Cells.length:Int)),(62,.int .i64 H1),(77,.bool H0)]) ?_ ?_
      ·rintro H0 F t3 ⟨h,J2,u0,rfl⟩;unfold z1S at h;refine ci h (fun h=>?_) (fun h=>?_)
       ·refine sq<|rg<|rr 1 ?_;refine rn<|rt ?_;cases h;cases A0;have o:some _=some _:=o;cases o;cases F0;have hm:some _=some _:=hm;cases hm;exact⟨_,.cons (.tmp rfl) .nil,rfl,(u0.taken 0)⟩
       ·refine sp<|rg<|rr 2 ?_;refine rn ?_;cases h;exact⟨_,_,rfl,⟨(u0.bring 0 rfl).drop,rfl⟩,rfl⟩
      ·refine rg<|rr 1 ?_;refine l1 ((Y.bring 0 rfl).box) 0 ?_;refine rr 2 ?_;refine rb 70 h (fun h=>?_) (fun h=>?_)
       ·refine rr 3 ?_;obtain⟨D1,s1,h⟩:=bS h;refine ca zf6 (z8A (hE.trans Y.ext)  s1) (fun m3 u3 N0=>?_);obtain⟨rfl,p0⟩:=N0;have v0:=Y.join p0;refine qt ((Quiet.lookup zcm (kk:=D1) ((v0.bring 2 rfl).own) rfl rfl rfl).later (Ext.refl _)) ?_;refine rr 2 ?_;refine rn ?_;exact⟨(((mget d0 D1).getD (0:Int)) != 1),_,⟨h,p0.ext,v0,rfl⟩,rfl⟩
       ·refine rr 7 ?_;refine rn ?_;exact⟨false,_,⟨h,(Ext.refl _),Y,rfl⟩,rfl⟩
     ·refine xt ?_;cases h;exact⟨_,_,⟨A0,X,rfl⟩,rfl⟩
   ·refine xt ?_;cases o;exact⟨_,_,⟨F0,f0,rfl⟩,rfl⟩
 ·refine bk<|wk [0,1,14,15,16] ?_;refine it (fun(s5:Int) F w9=>St w w9 []∧F=[(0,.pointer (some B1)),(1,sl E0 x1 G0),(14,sl E0 x1 G0),(15,.int .i64 (x1.length:Int)),(16,.int .i64 s5)]) b2 ⟨hS,rfl⟩ ?_;rintro s5 F v3 _ v2 ⟨Z,rfl⟩ d B0;unfold z1X at d;refine sq<|rg<|rr 1 ?_;refine rn<|sq<|ci d (fun d=>?_) (fun d=>?_)
  ·refine sp<|sq<|bk<|sq<|rg ?_;obtain⟨G,t1,d⟩:=bS d;refine ix (hE.trans Z.ext) H2 t1 (fun i3 G2 g1 m1=>?_);have N1:=zfU m1;subst N1;refine lN (At.ext (hE.trans Z.ext) g1) ?_;refine nw Z (fun P1 y3 P2 U0=>?_);have V0:=U0.bring 0 rfl;refine so (A:=[]) V0 0 (fun D2 y=>?_);refine rn<|sq<|ct (fun(J0:Bool) F w9=>zB fuel s5 J0=some v2∧Ext D2 w9∧St w w9 [Box P1 [.int .i64 G.a.at_.Qb,.int .i64 G.a.at_.Qj,.int .i64 G.a.at_.Qk,.int .i64 G.a.slot,.bool G.a.own,.int .i64 G.b.at_.Qb,.int .i64 G.b.at_.Qj,.int .i64 G.b.at_.Qk,.int .i64 G.b.slot,.bool G.b.own] 171]∧F=[(0,.pointer (some B1)),(1,sl E0 x1 G0),(14,sl E0 x1 G0),(15,.int .i64 (x1.length:Int)),(16,.int .i64 s5),(45,.bool J0)]) ?_ ?_
   ·rintro J0 F A3 ⟨d,K2,y0,rfl⟩;unfold zB at d;refine ci d (fun d=>?_) (fun d=>?_)
    ·refine sq<|rg<|rr 1 ?_;refine rn<|rt ?_;cases d;cases B0;have hm:some _=some _:=hm;cases hm;exact⟨_,.cons (.tmp rfl) .nil,rfl,(y0.taken 0)⟩
    ·refine sp<|rg<|rr 2 ?_;refine rn ?_;cases d;exact⟨_,_,rfl,⟨(y0.taken 0),rfl⟩,rfl⟩
   ·refine rg<|rr 2 ?_;refine l1 ((y.bring 0 rfl).box) 4 ?_;refine rr 2 ?_;refine rb 24 d (fun d=>?_) (fun d=>?_)
    ·refine rr 3 ?_;refine lN (At.sub ((y.bring 0 rfl).box) 0 3) ?_;obtain⟨j3,u1,d⟩:=bS d;refine ca zf7 (z9b (hE.trans y.ext) G1 F1 (zF G.a.at_) u1) (fun n3 B3 O0=>?_);obtain⟨rfl,S⟩:=O0;have M:=y.join S;refine rr 3 ?_;refine rb 32 d (fun d=>?_) (fun d=>?_)
     ·refine rr 13 ?_;refine rn ?_;exact⟨true,_,⟨d,S.ext,M,rfl⟩,rfl⟩
     ·refine rr 2 ?_;refine l1 ((M.bring 0 rfl).box) 9 ?_;refine rr 2 ?_;refine rb 37 d (fun d=>?_) (fun d=>?_)
      ·refine rr 3 ?_;refine lN (At.sub ((M.bring 0 rfl).box) 5 3) ?_;obtain⟨y2,v1,d⟩:=bS d;refine ca zf7 (z9b (hE.trans M.ext) G1 F1 (zF G.b.at_) v1) (fun o3 C3 P0=>?_);obtain⟨rfl,q0⟩:=P0;have X0:=M.join q0;refine rr 3 ?_;refine rn ?_;exact⟨!y2,_,⟨d,(S.ext.trans q0.ext),X0,rfl⟩,rfl⟩
      ·refine rr 8 ?_;refine rn ?_;exact⟨false,_,⟨d,S.ext,M,rfl⟩,rfl⟩
    ·refine rr 10 ?_;refine l1 ((y.bring 0 rfl).box) 9 ?_;refine rr 2 ?_;refine rb 37 d (fun d=>?_) (fun d=>?_)
     ·refine rr 3 ?_;refine lN (At.sub ((y.bring 0 rfl).box) 5 3) ?_;obtain⟨A2,y1,d⟩:=bS d;refine ca zf7 (z9b (hE.trans y.ext) G1 F1 (zF G.b.at_) y1) (fun p3 D3 Q0=>?_);obtain⟨rfl,r0⟩:=Q0;have Y0:=y.join r0;refine rr 3 ?_;refine rn ?_;exact⟨!A2,_,⟨d,r0.ext,Y0,rfl⟩,rfl⟩
     ·refine rr 8 ?_;refine rn ?_;exact⟨false,_,⟨d,(Ext.refl _),y,rfl⟩,rfl⟩
  ·refine xt ?_;cases d;exact⟨_,_,⟨B0,Z,rfl⟩,rfl⟩

theorem zox:Enters Tryz.prog 74:=⟨_,_,Tryz.func74,rfl,by kernel_rfl⟩
def z1f (fuel:Nat) (x0:D.Qe) (x1:(List D.Qh)) (t5:Bool):Option Bool:=(if t5=true then some false else((z2M fuel x0).bind fun d=>(if decide ((d.length:Int)+(x1.length:Int)≤4294967296)=true then((z2N fuel x0 (d++x1)).bind fun h=>some h) else none)))
def z2c (fuel:Nat) (x0:D.Qe) (x1:(List D.Qh)):Option (Bool):=(if(decide ((x0.Qg.length:Int)<1))=true then z1f fuel x0 x1 true else(if(decide ((x0.Qg.length:Int)>4))=true then z1f fuel x0 x1 true else((zr fuel x0.Qg (fun y0=>z3z fuel y0)).bind fun d=>z1f fuel x0 x1 d)))

theorem zbK {W w:World}(hE:Ext W w){k0:Addr}{o0:List Value}{x0:D.Qe}{y:Option Addr}{j0:Nat}{x1:(List D.Qh)}(H:ty37.ro W o0 x0) (h:At W k0 o0) (p0:z8u.ro W [sl y x1 j0] x1){fuel:Nat}{r:Bool}(hm:z2c fuel x0 x1=some r):
  Calls Tryz.prog 74 ⟨[.pointer (some k0),sl y x1 j0]⟩ w (Ret fun v w8=>v=.bool r∧St w w8 []):=by
 obtain⟨A1,k2,e4,h3⟩:=z33 H;subst e4;refine into Tryz.func74 32 _ ?_;unfold z2c at hm;have hS:=St.start w;refine sq<|rg<|rr 1 ?_;refine rn<|sq<|sq<|ct (fun(t5:Bool) F w9=>z1f fuel x0 x1 t5=some r∧Ext w w9∧St w w9 []∧F=[(0,.pointer (some k0)),(1,sl y x1 j0),(25,.bool t5)]) ?_ ?_
 ·rintro t5 F G0 ⟨hm,v0,d0,rfl⟩;unfold z1f at hm;refine ci hm (fun hm=>?_) (fun hm=>?_)
  ·refine sq<|rg<|rr 1 ?_;refine rn<|rt ?_;cases hm;exact⟨_,.cons (.tmp rfl) .nil,rfl,d0⟩
  ·refine sp<|sq<|rg<|rr 2 ?_;obtain⟨B0,f0,hm⟩:=bS hm;refine ca zmS (zbz (hE.trans d0.ext) H h f0) (fun D0 H0 M=>?_);obtain⟨t0,y0,rfl,O⟩:=M;have Z:=d0.join O;refine rr 1 ?_;have q:=Z.bring 0 rfl;obtain⟨e0,hm⟩:=iS hm;refine ap (Flat.map (Flat.pair (Flat.map (Flat.pair (Flat.map (Flat.pair Flat.int (Flat.pair Flat.int (Flat.pair Flat.int Flat.unit)))) (Flat.pair Flat.int (Flat.pair Flat.bool Flat.unit)))) (Flat.pair (Flat.map (Flat.pair (Flat.map (Flat.pair Flat.int (Flat.pair Flat.int (Flat.pair Flat.int Flat.unit)))) (Flat.pair Flat.int (Flat.pair Flat.bool Flat.unit)))) Flat.unit))) q (z8u.ext (hE.trans q.ext) p0) e0 (fun u0 A0 J0 d=>?_);obtain⟨C0,g0,hm⟩:=bS hm;refine ca zmT (zbA (Ext.refl _) (ty37.ext (hE.trans d.ext) H) (At.ext (hE.trans d.ext) h) ((d.bring 0 rfl).own) g0) (fun E0 K0 S=>?_);obtain⟨rfl,X⟩:=S;have a0:=d.join X;refine rr 1 ?_;refine rn<|rt ?_;cases hm;exact⟨_,.cons (.tmp rfl) .nil,rfl,(a0.taken 0)⟩
 ·refine rg<|rr 3 ?_;refine l1 (At.ext (hE.trans hS.ext) h) 0 ?_;refine rr 3 ?_;refine rb 11 hm (fun hm=>?_) (fun hm=>?_)
  ·refine rr 14 ?_;refine rn ?_;exact⟨true,_,⟨hm,(Ext.refl _),hS,rfl⟩,rfl⟩
  ·refine rr 3 ?_;refine l1 (At.ext (hE.trans hS.ext) h) 0 ?_;refine rr 4 ?_;refine rb 19 hm (fun hm=>?_) (fun hm=>?_)
   ·refine rr 6 ?_;refine rn ?_;exact⟨true,_,⟨hm,(Ext.refl _),hS,rfl⟩,rfl⟩
   ·refine rr 3 ?_;refine l1 (At.ext (hE.trans hS.ext) h) 0 ?_;obtain⟨r0,i0,hm⟩:=bS hm;refine ca zmW (z6x (hE.trans hS.ext) h3 ⟨zmV,fun e9=>(fun G q0=>zb0 (Ext.refl _) G q0)⟩ i0) (fun F0 L0 Y=>?_);obtain⟨rfl,o⟩:=Y;have b0:=hS.join o;refine rr 1 ?_;refine rn ?_;exact⟨r0,_,⟨hm,o.ext,b0,rfl⟩,rfl⟩

theorem zoQ:Enters Tryz.prog 18:=⟨_,_,Tryz.func18,rfl,by kernel_rfl⟩
def zo (fuel:Nat) (x0:D.Qa) (q:Bool):Option Bool:=(if q=true then some false else((zN fuel x0.Qt (fun y0=>z4R fuel y0)).bind fun d=>(if d=true then some false else((zS fuel x0).bind fun h=>((z2c fuel (⟨x0.Qe.Qg,(⟨x0.Qe.Qo.Qb,x0.Qe.Qo.Qj,x0.Qe.Qo.Qk⟩:D.Qc)⟩:D.Qe) h).bind fun o=>some o)))))
def z1c (fuel:Nat) (x0:D.Qa) (d:Int) (q:Bool):Option Bool:=(if q=true then some false else(if((x0.Qt.length:Int) != d)=true then zo fuel x0 true else(if((x0.QK.length:Int) != d)=true then zo fuel x0 true else(if((x0.QZ.length:Int) != d)=true then zo fuel x0 true else((z48 fuel 1000000000 x0.QK).bind fun h=>(if(!h)=true then zo fuel x0 true else((z48 fuel 1000000000 x0.QZ).bind fun o=>zo fuel x0 (!o))))))))
def z4K (fuel:Nat) (x0:D.Qa):Option (Bool):=((z16 fuel x0).bind fun d=>(if(decide (d<1))=true then z1c fuel x0 d true else(if(decide (d>4))=true then z1c fuel x0 d true else((z3Z fuel x0.Qf d).bind fun h=>z1c fuel x0 d (!h)))))

theorem zcw {W w:World}(hE:Ext W w){J0:List Value}{x0:D.Qa}(Z:ty40.ro W J0 x0){fuel:Nat}{r:Bool}(hm:z4K fuel x0=some r):
  Calls Tryz.prog 18 ⟨[.agg ⟨J0⟩]⟩ w (Ret fun v w8=>v=.bool r∧St w w8 []):=by
 obtain⟨A1,k2,A4,k5,A7,K0,G0,L0,H0,M0,O0,h3,h6,P0,Q0,R0⟩:=z2E Z;subst O0;refine into Tryz.func18 55 _ ?_;unfold z4K at hm;have hS:=St.start w;refine sq<|rg<|nw hS (fun X y1 d1 M=>?_);refine rr 1 ?_;refine rn<|sq<|rg ?_;obtain⟨N0,u0,hm⟩:=bS hm;refine ca zgG (z6v (Ext.refl _) (ty40.ext (hE.trans M.ext) Z) ((M.bring 0 rfl).box) u0) (fun m1 Y0 a0=>?_);obtain⟨rfl,b0⟩:=a0;have h:=M.join b0;refine rr 1 ?_;refine rn<|sq<|sq<|ct (fun(E0:Bool) F w9=>z1c fuel x0 N0 E0=some r∧Ext Y0 w9∧St w w9 [Box X [sl A1 x0.Qe.Qg k2,.int .i64 x0.Qe.Qo.Qb,.int .i64 x0.Qe.Qo.Qj,.int .i64 x0.Qe.Qo.Qk,sl A4 x0.Qf k5,sl A7 x0.Qt K0,sl G0 x0.QK L0,sl H0 x0.QZ M0] 40]∧F=[(1,.pointer (some ⟨X,0,none⟩)),(3,.int .i64 N0),(17,.bool E0)]) ?_ ?_
 ·rintro E0 F a1 ⟨hm,S0,d,rfl⟩;unfold z1c at hm;refine ci hm (fun hm=>?_) (fun hm=>?_)
  ·refine sq<|rg<|rr 1 ?_;refine rn<|rt ?_;cases hm;exact⟨_,.cons (.tmp rfl) .nil,rfl,(d.taken 0)⟩
  ·refine sp<|sq<|sq<|ct (fun(F0:Bool) F w9=>zo fuel x0 F0=some r∧Ext a1 w9∧St w w9 [Box X [sl A1 x0.Qe.Qg k2,.int .i64 x0.Qe.Qo.Qb,.int .i64 x0.Qe.Qo.Qj,.int .i64 x0.Qe.Qo.Qk,sl A4 x0.Qf k5,sl A7 x0.Qt K0,sl G0 x0.QK L0,sl H0 x0.QZ M0] 40]∧F=[(1,.pointer (some ⟨X,0,none⟩)),(48,.bool F0)]) ?_ ?_
   ·rintro F0 F B1 ⟨hm,T0,o,rfl⟩;unfold zo at hm;refine ci hm (fun hm=>?_) (fun hm=>?_)
    ·refine sq<|rg<|rr 1 ?_;refine rn<|rt ?_;cases hm;exact⟨_,.cons (.tmp rfl) .nil,rfl,(o.taken 0)⟩
    ·refine sp<|sq<|sq<|rg<|rr 1 ?_;refine l1 ((o.bring 0 rfl).box) 5 ?_;obtain⟨f1,v0,hm⟩:=bS hm;refine ca zoA (z7U (hE.trans o.ext) P0 ⟨zoz,fun e9=>(fun Y U0=>zby (Ext.refl _) Y U0)⟩ v0) (fun n1 C1 d0=>?_);obtain⟨rfl,e0⟩:=d0;have q:=o.join e0;refine rn<|ci hm (fun hm=>?_) (fun hm=>?_)
     ·refine sq<|rg<|rr 1 ?_;refine rn<|rt ?_;cases hm;exact⟨_,.cons (.tmp rfl) .nil,rfl,(q.taken 0)⟩
     ·refine sp<|sq<|rg<|rr 1 ?_;obtain⟨g1,y0,hm⟩:=bS hm;refine ca zow (z9e (Ext.refl _) (ty40.ext (hE.trans q.ext) Z) ((q.bring 0 rfl).box) y0) (fun p1 D1 f0=>?_);obtain⟨b1,e1,rfl,g0⟩:=f0;have y:=q.join g0;obtain⟨i1,A0,hm⟩:=bS hm;refine ca zox (zbK (Ext.refl _) (z54 (⟨x0.Qe.Qg,(⟨x0.Qe.Qo.Qb,x0.Qe.Qo.Qj,x0.Qe.Qo.Qk⟩:D.Qc)⟩:D.Qe) (ty34.ext (hE.trans y.ext) h3)) (At.sub ((y.bring 1 rfl).box) 0 4) ((y.bring 0 rfl).own) A0) (fun s1 E1 i0=>?_);obtain⟨rfl,j0⟩:=i0;have q0:=y.join j0;refine rr 1 ?_;refine rn<|rt ?_;cases hm;exact⟨_,.cons (.tmp rfl) .nil,rfl,(q0.taken 0)⟩
   ·refine rg<|rr 1 ?_;refine l1 ((d.bring 0 rfl).box) 5 ?_;refine rr 4 ?_;refine rb 23 hm (fun hm=>?_) (fun hm=>?_)
    ·refine rr 25 ?_;refine rn ?_;exact⟨true,_,⟨hm,(Ext.refl _),d,rfl⟩,rfl⟩
    ·refine rr 1 ?_;refine l1 ((d.bring 0 rfl).box) 6 ?_;refine rr 5 ?_;refine rb 30 hm (fun hm=>?_) (fun hm=>?_)
     ·refine rr 18 ?_;refine rn ?_;exact⟨true,_,⟨hm,(Ext.refl _),d,rfl⟩,rfl⟩
     ·refine rr 1 ?_;refine l1 ((d.bring 0 rfl).box) 7 ?_;refine rr 5 ?_;refine rb 37 hm (fun hm=>?_) (fun hm=>?_)
      ·refine rr 11 ?_;refine rn ?_;exact⟨true,_,⟨hm,(Ext.refl _),d,rfl⟩,rfl⟩
      ·refine rr 1 ?_;refine l1 ((d.bring 0 rfl).box) 6 ?_;obtain⟨j1,B0,hm⟩:=bS hm;refine ca zdb (z8p (hE.trans d.ext) Q0 B0) (fun t1 F1 k0=>?_);obtain⟨rfl,H⟩:=k0;have G:=d.join H;refine rr 3 ?_;refine rb 43 hm (fun hm=>?_) (fun hm=>?_)
       ·refine rr 5 ?_;refine rn ?_;exact⟨true,_,⟨hm,H.ext,G,rfl⟩,rfl⟩
       ·refine rr 1 ?_;refine l1 ((G.bring 0 rfl).box) 7 ?_;obtain⟨V0,C0,hm⟩:=bS hm;refine ca zdb (z8p (hE.trans G.ext) R0 C0) (fun u1 G1 o0=>?_);obtain⟨rfl,O⟩:=o0;have r0:=G.join O;refine rr 2 ?_;refine rn ?_;exact⟨!V0,_,⟨hm,(H.ext.trans O.ext),r0,rfl⟩,rfl⟩
 ·refine rg<|rr 3 ?_;refine rb 7 hm (fun hm=>?_) (fun hm=>?_)
  ·refine rr 10 ?_;refine rn ?_;exact⟨true,_,⟨hm,(Ext.refl _),h,rfl⟩,rfl⟩
  ·refine rr 4 ?_;refine rb 11 hm (fun hm=>?_) (fun hm=>?_)
   ·refine rr 6 ?_;refine rn ?_;exact⟨true,_,⟨hm,(Ext.refl _),h,rfl⟩,rfl⟩
   ·refine rr 1 ?_;refine l1 ((h.bring 0 rfl).box) 4 ?_;refine rr 1 ?_;obtain⟨X0,D0,hm⟩:=bS hm;refine ca zoB (zc3 (hE.trans h.ext) h6 D0) (fun v1 H1 p0=>?_);obtain⟨rfl,S⟩:=p0;have t0:=h.join S;refine rr 2 ?_;refine rn ?_;exact⟨!X0,_,⟨hm,S.ext,t0,rfl⟩,rfl⟩

theorem zee:Enters Tryz.prog 26:=⟨_,_,Tryz.func26,rfl,by kernel_rfl⟩
def zaU (fuel:Nat) (t2:Unit):Option Bool:=some true
def z7r (fuel:Nat) (x0:(List Int)) (x1:(List Int)) (s1:Int):Option (Rd (Int) (Unit) (Bool)):=(if(decide (s1<(x0.length:Int)))=true then((idx x0 s1).bind fun d=>((idx x1 s1).bind fun h=>(if(d != h)=true then some (.ret false) else some (.next (w64 (s1+1)))))) else some (.brk ()))
def z3d (fuel:Nat) (x0:(List Int)) (x1:(List Int)):Option (Bool):=(if((x0.length:Int) != (x1.length:Int))=true then some false else((iter (z7r fuel x0 x1) fuel 0).bind fun o=>aft o (zaU fuel)))

theorem laws_eqInt64S_ok {W w:World}(hE:Ext W w){G:Option Addr}{e0:Nat}{x0:(List Int)}{H:Option Addr}{f0:Nat}{x1:(List Int)}(k0:ty29.ro W [sl G x0 e0] x0) (o0:ty29.ro W [sl H x1 f0] x1){fuel:Nat}{r:Bool}(hm:z3d fuel x0 x1=some r):
  Calls Tryz.prog 26 ⟨[sl G x0 e0,sl H x1 f0]⟩ w (Ret fun v w8=>v=.bool r∧St w w8 []):=by
 refine into Tryz.func26 26 _ ?_;unfold z3d at hm;have hS:=St.start w;refine sq<|rg<|rr 1 ?_;refine rn<|sq<|sq<|rg<|rr 5 ?_;refine rn<|ci hm (fun hm=>?_) (fun hm=>?_)
 ·refine sq<|rg<|rr 1 ?_;refine rn<|rt ?_;cases hm;exact⟨_,.cons (.tmp rfl) .nil,rfl,hS⟩
 ·refine sp<|sq<|sq<|rg<|rr 1 ?_;refine rn ?_;obtain⟨p0,X,hm⟩:=bS hm;refine ct (fun(t2:Unit) F w9=>p0=.inl t2∧Ext w w9∧St w w9 []∧F=[]) ?_ ?_
  ·rintro t2 F w7 ⟨Y,q0,M,rfl⟩;subst Y;rw [z8] at hm;unfold zaU at hm;refine sq<|rg<|rr 1 ?_;refine rn<|rt ?_;cases hm;exact⟨_,.cons (.tmp rfl) .nil,rfl,M⟩
  ·refine bk<|wk [0,1,5] ?_;refine it (fun(s1:Int) F w9=>Ext w w9∧St w w9 []∧F=[(0,sl G x0 e0),(1,sl H x1 f0),(5,.int .i64 s1)]) X ⟨(Ext.refl _),hS,rfl⟩ ?_;rintro s1 F v0 _ r0 ⟨g0,h,rfl⟩ d y;unfold z7r at d;refine sq<|sq<|rg<|rr 4 ?_;refine rn<|ci d (fun d=>?_) (fun d=>?_)
   ·refine sp<|sq<|bk<|sq<|dn 0 mixed 9 [([],511),([],511),([0,1],508),([2],507),([],511),([],511),([4,5],463),([6],447),([3,7],375)] h.ext (fun o=>?_);have q:=h.step (Ext.draw _);refine dr 5 o [0,1,4,5] ?_;obtain⟨y0,b0,d⟩:=bS d;refine dx (hE.trans h.ext) o 2 k0 b0 (fun t0 i0 O Z=>?_);cases Z;refine dl o 3 (At.ext (hE.trans h.ext) O) 0 ?_;obtain⟨A0,d0,d⟩:=bS d;refine dx (hE.trans h.ext) o 6 o0 d0 (fun u0 j0 S a0=>?_);cases a0;refine dl o 7 (At.ext (hE.trans h.ext) S) 0 ?_;refine dr 0 o [8] ?_;refine dw [0,1,5,25] ?_;refine dd o ?_;refine ci d (fun d=>?_) (fun d=>?_)
    ·refine sq<|rg<|rr 1 ?_;refine rn<|rt ?_;cases d;cases y;have hm:some _=some _:=hm;cases hm;exact⟨_,.cons (.tmp rfl) .nil,rfl,q⟩
    ·refine sp<|rg<|rr 3 ?_;refine rn ?_;cases d;exact⟨_,_,rfl,⟨(g0.trans (Ext.draw _)),q,rfl⟩,rfl⟩
   ·refine xt ?_;cases d;exact⟨_,_,⟨y,g0,h,rfl⟩,rfl⟩

theorem zaD:Enters Tryz.prog 143:=⟨_,_,Tryz.func143,rfl,by kernel_rfl⟩
def z1r (fuel:Nat) (x0:D.Qc) (x1:D.Qc):Option (Bool):=(if(x0.Qb != x1.Qb)=true then some false else(if(x0.Qj != x1.Qj)=true then some false else(if(x0.Qk != x1.Qk)=true then some false else some true)))

theorem laws_eqAddress_ok {W w:World}(hE:Ext W w){h:List Value}{x0:D.Qc}{o:List Value}{x1:D.Qc}(q:ty35.ro W h x0) (y:ty35.ro W o x1){fuel:Nat}{r:Bool}(hm:z1r fuel x0 x1=some r):
  Calls Tryz.prog 143 ⟨[.agg ⟨h⟩,.agg ⟨o⟩]⟩ w (Ret fun v w8=>v=.bool r∧St w w8 []):=by
 have e1:=z1a q;subst e1;have e2:=z1a y;subst e2;refine into Tryz.func143 20 _ ?_;unfold z1r at hm;have hS:=St.start w;refine sq<|rg<|nw hS (fun g3 w4 e5 G=>?_);refine nw G (fun g7 M H d=>?_);refine rr 1 ?_;refine rn<|sq<|sq<|rg<|rr 1 ?_;refine l1 ((d.bring 1 rfl).box) 0 ?_;refine rr 1 ?_;refine l1 ((d.bring 0 rfl).box) 0 ?_;refine rr 1 ?_;refine rn<|ci hm (fun hm=>?_) (fun hm=>?_)
 ·refine sq<|rg<|rr 1 ?_;refine rn<|rt ?_;cases hm;exact⟨_,.cons (.tmp rfl) .nil,rfl,(d.taken 0)⟩
 ·refine sp<|sq<|sq<|rg<|rr 1 ?_;refine l1 ((d.bring 1 rfl).box) 1 ?_;refine rr 1 ?_;refine l1 ((d.bring 0 rfl).box) 1 ?_;refine rr 1 ?_;refine rn<|ci hm (fun hm=>?_) (fun hm=>?_)
  ·refine sq<|rg<|rr 1 ?_;refine rn<|rt ?_;cases hm;exact⟨_,.cons (.tmp rfl) .nil,rfl,(d.taken 0)⟩
  ·refine sp<|sq<|sq<|rg<|rr 1 ?_;refine l1 ((d.bring 1 rfl).box) 2 ?_;refine rr 1 ?_;refine l1 ((d.bring 0 rfl).box) 2 ?_;refine rr 1 ?_;refine rn<|ci hm (fun hm=>?_) (fun hm=>?_)
   ·refine sq<|rg<|rr 1 ?_;refine rn<|rt ?_;cases hm;exact⟨_,.cons (.tmp rfl) .nil,rfl,(d.taken 0)⟩
   ·refine sp<|sq<|rg<|rr 1 ?_;refine rn<|rt ?_;cases hm;exact⟨_,.cons (.tmp rfl) .nil,rfl,(d.taken 0)⟩

theorem zkx:Enters Tryz.prog 264:=⟨_,_,Tryz.func264,rfl,by kernel_rfl⟩
def za9 (fuel:Nat) (t2:Unit):Option Bool:=some true
def z5T (fuel:Nat) (x0:(List D.Qc)) (x1:(List D.Qc)) (s1:Int):Option (Rd (Int) (Unit) (Bool)):=(if(decide (s1<(x0.length:Int)))=true then((idx x0 s1).bind fun h=>((idx x1 s1).bind fun o=>((z1r fuel h o).bind fun d=>(if(!d)=true then some (.ret false) else some (.next (w64 (s1+1))))))) else some (.brk ()))
def z6q (fuel:Nat) (x0:(List D.Qc)) (x1:(List D.Qc)):Option (Bool):=(if((x0.length:Int) != (x1.length:Int))=true then some false else((iter (z5T fuel x0 x1) fuel 0).bind fun o=>aft o (za9 fuel)))

theorem laws_eqAddressS_ok {W w:World}(hE:Ext W w){S:Option Addr}{j0:Nat}{x0:(List D.Qc)}{X:Option Addr}{k0:Nat}{x1:(List D.Qc)}(u0:z3h.ro W [sl S x0 j0] x0) (v0:z3h.ro W [sl X x1 k0] x1){fuel:Nat}{r:Bool}(hm:z6q fuel x0 x1=some r):
  Calls Tryz.prog 264 ⟨[sl S x0 j0,sl X x1 k0]⟩ w (Ret fun v w8=>v=.bool r∧St w w8 []):=by
 refine into Tryz.func264 27 _ ?_;unfold z6q at hm;have hS:=St.start w;refine sq<|rg<|rr 1 ?_;refine rn<|sq<|sq<|rg<|rr 5 ?_;refine rn<|ci hm (fun hm=>?_) (fun hm=>?_)
 ·refine sq<|rg<|rr 1 ?_;refine rn<|rt ?_;cases hm;exact⟨_,.cons (.tmp rfl) .nil,rfl,hS⟩
 ·refine sp<|sq<|sq<|rg<|rr 1 ?_;refine rn ?_;obtain⟨y0,d0,hm⟩:=bS hm;refine ct (fun(t2:Unit) F w9=>y0=.inl t2∧Ext w w9∧St w w9 []∧F=[]) ?_ ?_
  ·rintro t2 F w7 ⟨e0,A0,Z,rfl⟩;subst e0;rw [z8] at hm;unfold za9 at hm;refine sq<|rg<|rr 1 ?_;refine rn<|rt ?_;cases hm;exact⟨_,.cons (.tmp rfl) .nil,rfl,Z⟩
  ·refine bk<|wk [0,1,5] ?_;refine it (fun(s1:Int) F w9=>Ext w w9∧St w w9 []∧F=[(0,sl S x0 j0),(1,sl X x1 k0),(5,.int .i64 s1)]) d0 ⟨(Ext.refl _),hS,rfl⟩ ?_;rintro s1 F G0 _ B0 ⟨o0,o,rfl⟩ d H;unfold z5T at d;refine sq<|sq<|rg<|rr 4 ?_;refine rn<|ci d (fun d=>?_) (fun d=>?_)
   ·refine sp<|sq<|bk<|sq<|dn 0 mixed 10 [([],1023),([],1023),([0,1],1020),([2],1019),([],1023),([],1023),([4,5],975),([6],959),([3,7],887),([8],767)] o.ext (fun h=>?_);have y:=o.step (Ext.draw _);refine dr 6 h [0,1,4,5] ?_;obtain⟨J0,f0,d⟩:=bS d;refine dx (hE.trans o.ext) h 2 u0 f0 (fun C0 r0 a0 M=>?_);have p0:=z1a M;subst p0;refine dL h 3 (At.ext (hE.trans o.ext) a0) ?_;obtain⟨K0,g0,d⟩:=bS d;refine dx (hE.trans o.ext) h 6 v0 g0 (fun D0 t0 b0 O=>?_);have q0:=z1a O;subst q0;refine dL h 7 (At.ext (hE.trans o.ext) b0) ?_;obtain⟨E0,i0,d⟩:=bS d;refine o1 h 8 (mc h zaD (laws_eqAddress_ok (hE.trans y.ext) M O i0) (fun F0 H0 Y=>?_));obtain⟨rfl,q⟩:=Y;refine⟨q.ext,?_⟩;have G:=y.join q;refine dr 0 h [9] ?_;refine dw [0,1,5,26] ?_;refine dd h ?_;refine ci d (fun d=>?_) (fun d=>?_)
    ·refine sq<|rg<|rr 1 ?_;refine rn<|rt ?_;cases d;cases H;have hm:some _=some _:=hm;cases hm;exact⟨_,.cons (.tmp rfl) .nil,rfl,G⟩
    ·refine sp<|rg<|rr 3 ?_;refine rn ?_;cases d;exact⟨_,_,rfl,⟨((o0.trans (Ext.draw _)).trans q.ext),G,rfl⟩,rfl⟩
   ·refine xt ?_;cases d;exact⟨_,_,⟨H,o0,o,rfl⟩,rfl⟩

theorem zhB:Enters Tryz.prog 240:=⟨_,_,Tryz.func240,rfl,by kernel_rfl⟩
def z3x (fuel:Nat) (x0:D.Qd) (x1:D.Qd):Option (Bool):=(if(x0.Qj != x1.Qj)=true then some false else(if(x0.QO != x1.QO)=true then some false else(if(x0.Value != x1.Value)=true then some false else((z3d fuel x0.Data x1.Data).bind fun d=>(if(!d)=true then some false else((z6q fuel x0.QY x1.QY).bind fun h=>(if(!h)=true then some false else some true)))))))

theorem laws_eqShardCell_ok {W w:World}(hE:Ext W w){X:List Value}{x0:D.Qd}{Y:List Value}{x1:D.Qd}(a0:z2C.ro W X x0) (e0:z2C.ro W Y x1){fuel:Nat}{r:Bool}(hm:z3x fuel x0 x1=some r):
  Calls Tryz.prog 240 ⟨[.agg ⟨X⟩,.agg ⟨Y⟩]⟩ w (Ret fun v w8=>v=.bool r∧St w w8 []):=by
 obtain⟨A1,k2,A4,k5,e7,h3,h6⟩:=zt a0;subst e7;obtain⟨f0,p0,g0,q0,Z,b0,d0⟩:=zt e0;subst Z;refine into Tryz.func240 32 _ ?_;unfold z3x at hm;have hS:=St.start w;refine sq<|rg<|nw hS (fun k0 y0 i0 M=>?_);refine nw M (fun o0 A0 j0 d=>?_);refine rr 1 ?_;refine rn<|sq<|sq<|rg<|rr 1 ?_;refine l1 ((d.bring 1 rfl).box) 0 ?_;refine rr 1 ?_;refine l1 ((d.bring 0 rfl).box) 0 ?_;refine rr 1 ?_;refine rn<|ci hm (fun hm=>?_) (fun hm=>?_)
 ·refine sq<|rg<|rr 1 ?_;refine rn<|rt ?_;cases hm;exact⟨_,.cons (.tmp rfl) .nil,rfl,(d.taken 0)⟩
 ·refine sp<|sq<|sq<|rg<|rr 1 ?_;refine l1 ((d.bring 1 rfl).box) 1 ?_;refine rr 1 ?_;refine l1 ((d.bring 0 rfl).box) 1 ?_;refine rr 1 ?_;refine rn<|ci hm (fun hm=>?_) (fun hm=>?_)
  ·refine sq<|rg<|rr 1 ?_;refine rn<|rt ?_;cases hm;exact⟨_,.cons (.tmp rfl) .nil,rfl,(d.taken 0)⟩
  ·refine sp<|sq<|sq<|rg<|rr 1 ?_;refine l1 ((d.bring 1 rfl).box) 2 ?_;refine rr 1 ?_;refine l1 ((d.bring 0 rfl).box) 2 ?_;refine rr 1 ?_;refine rn<|ci hm (fun hm=>?_) (fun hm=>?_)
   ·refine sq<|rg<|rr 1 ?_;refine rn<|rt ?_;cases hm;exact⟨_,.cons (.tmp rfl) .nil,rfl,(d.taken 0)⟩
   ·refine sp<|sq<|sq<|rg<|rr 1 ?_;refine l1 ((d.bring 1 rfl).box) 3 ?_;refine rr 1 ?_;refine l1 ((d.bring 0 rfl).box) 3 ?_;obtain⟨r0,O,hm⟩:=bS hm;refine ca zee (laws_eqInt64S_ok (hE.trans d.ext) h3 b0 O) (fun u0 B0 q=>?_);obtain⟨rfl,y⟩:=q;have h:=d.join y;refine rr 1 ?_;refine rn<|ci hm (fun hm=>?_) (fun hm=>?_)
    ·refine sq<|rg<|rr 1 ?_;refine rn<|rt ?_;cases hm;exact⟨_,.cons (.tmp rfl) .nil,rfl,(h.taken 0)⟩
    ·refine sp<|sq<|sq<|rg<|rr 1 ?_;refine l1 ((h.bring 1 rfl).box) 4 ?_;refine rr 1 ?_;refine l1 ((h.bring 0 rfl).box) 4 ?_;obtain⟨t0,S,hm⟩:=bS hm;refine ca zkx (laws_eqAddressS_ok (hE.trans h.ext) h6 d0 S) (fun v0 C0 G=>?_);obtain⟨rfl,H⟩:=G;have o:=h.join H;refine rr 1 ?_;refine rn<|ci hm (fun hm=>?_) (fun hm=>?_)
     ·refine sq<|rg<|rr 1 ?_;refine rn<|rt ?_;cases hm;exact⟨_,.cons (.tmp rfl) .nil,rfl,(o.taken 0)⟩
     ·refine sp<|sq<|rg<|rr 1 ?_;refine rn<|rt ?_;cases hm;exact⟨_,.cons (.tmp rfl) .nil,rfl,(o.taken 0)⟩

theorem zkQ:Enters Tryz.prog 237:=⟨_,_,Tryz.func237,rfl,by kernel_rfl⟩
def z9n (fuel:Nat) (t2:Unit):Option Bool:=some true
def z4P (fuel:Nat) (x0:(List D.Qd)) (x1:(List D.Qd)) (s1:Int):Option (Rd (Int) (Unit) (Bool)):=(if(decide (s1<(x0.length:Int)))=true then((idx x0 s1).bind fun h=>((idx x1 s1).bind fun o=>((z3x fuel h o).bind fun d=>(if(!d)=true then some (.ret false) else some (.next (w64 (s1+1))))))) else some (.brk ()))
def z4F (fuel:Nat) (x0:(List D.Qd)) (x1:(List D.Qd)):Option (Bool):=(if((x0.length:Int) != (x1.length:Int))=true then some false else((iter (z4P fuel x0 x1) fuel 0).bind fun o=>aft o (z9n fuel)))

theorem laws_eqShardCellS_ok {W w:World}(hE:Ext W w){S:Option Addr}{j0:Nat}{x0:(List D.Qd)}{X:Option Addr}{k0:Nat}{x1:(List D.Qd)}(u0:z7T.ro W [sl S x0 j0] x0) (v0:z7T.ro W [sl X x1 k0] x1){fuel:Nat}{r:Bool}(hm:z4F fuel x0 x1=some r):
  Calls Tryz.prog 237 ⟨[sl S x0 j0,sl X x1 k0]⟩ w (Ret fun v w8=>v=.bool r∧St w w8 []):=by
 refine into Tryz.func237 27 _ ?_;unfold z4F at hm;have hS:=St.start w;refine sq<|rg<|rr 1 ?_;refine rn<|sq<|sq<|rg<|rr 5 ?_;refine rn<|ci hm (fun hm=>?_) (fun hm=>?_)
 ·refine sq<|rg<|rr 1 ?_;refine rn<|rt ?_;cases hm;exact⟨_,.cons (.tmp rfl) .nil,rfl,hS⟩
 ·refine sp<|sq<|sq<|rg<|rr 1 ?_;refine rn ?_;obtain⟨y0,d0,hm⟩:=bS hm;refine ct (fun(t2:Unit) F w9=>y0=.inl t2∧Ext w w9∧St w w9 []∧F=[]) ?_ ?_
  ·rintro t2 F w7 ⟨e0,J0,Z,rfl⟩;subst e0;rw [z8] at hm;unfold z9n at hm;refine sq<|rg<|rr 1 ?_;refine rn<|rt ?_;cases hm;exact⟨_,.cons (.tmp rfl) .nil,rfl,Z⟩
  ·refine bk<|wk [0,1,5] ?_;refine it (fun(s1:Int) F w9=>Ext w w9∧St w w9 []∧F=[(0,sl S x0 j0),(1,sl X x1 k0),(5,.int .i64 s1)]) d0 ⟨(Ext.refl _),hS,rfl⟩ ?_;rintro s1 F T0 _ O0 ⟨o0,o,rfl⟩ d H;unfold z4P at d;refine sq<|sq<|rg<|rr 4 ?_;refine rn<|ci d (fun d=>?_) (fun d=>?_)
   ·refine sp<|sq<|bk<|sq<|dn 0 mixed 10 [([],1023),([],1023),([0,1],1020),([2],1019),([],1023),([],1023),([4,5],975),([6],959),([3,7],887),([8],767)] o.ext (fun h=>?_);have y:=o.step (Ext.draw _);refine dr 6 h [0,1,4,5] ?_;obtain⟨V0,f0,d⟩:=bS d;refine dx (hE.trans o.ext) h 2 u0 f0 (fun P0 r0 a0 M=>?_);obtain⟨A0,K0,B0,L0,p0,E0,F0⟩:=zt M;subst p0;refine dL h 3 (At.ext (hE.trans o.ext) a0) ?_;obtain⟨X0,g0,d⟩:=bS d;refine dx (hE.trans o.ext) h 6 v0 g0 (fun Q0 t0 b0 O=>?_);obtain⟨C0,M0,D0,N0,q0,G0,H0⟩:=zt O;subst q0;refine dL h 7 (At.ext (hE.trans o.ext) b0) ?_;obtain⟨R0,i0,d⟩:=bS d;refine o1 h 8 (mc h zhB (laws_eqShardCell_ok (hE.trans y.ext) M O i0) (fun S0 U0 Y=>?_));obtain⟨rfl,q⟩:=Y;refine⟨q.ext,?_⟩;have G:=y.join q;refine dr 0 h [9] ?_;refine dw [0,1,5,26] ?_;refine dd h ?_;refine ci d (fun d=>?_) (fun d=>?_)
    ·refine sq<|rg<|rr 1 ?_;refine rn<|rt ?_;cases d;cases H;have hm:some _=some _:=hm;cases hm;exact⟨_,.cons (.tmp rfl) .nil,rfl,G⟩
    ·refine sp<|rg<|rr 3 ?_;refine rn ?_;cases d;exact⟨_,_,rfl,⟨((o0.trans (Ext.draw _)).trans q.ext),G,rfl⟩,rfl⟩
   ·refine xt ?_;cases d;exact⟨_,_,⟨H,o0,o,rfl⟩,rfl⟩

theorem zkz:Enters Tryz.prog 262:=⟨_,_,Tryz.func262,rfl,by kernel_rfl⟩
def z6o (fuel:Nat) (x0:D.Qp) (x1:D.Qp):Option (Bool):=(if(!(x0.Qa2 == x1.Qa2))=true then some false else(if(!(x0.Qa3 == x1.Qa3))=true then some false else((z1r fuel x0.QX x1.QX).bind fun d=>(if(!d)=true then some false else some true))))

theorem laws_eqShardVar_ok {W w:World}(hE:Ext W w){G:List Value}{x0:D.Qp}{H:List Value}{x1:D.Qp}(M:z9R.ro W G x0) (O:z9R.ro W H x1){fuel:Nat}{r:Bool}(hm:z6o fuel x0 x1=some r):
  Calls Tryz.prog 262 ⟨[.agg ⟨G⟩,.agg ⟨H⟩]⟩ w (Ret fun v w8=>v=.bool r∧St w w8 []):=by
 have e1:=z1v M;subst e1;have e2:=z1v O;subst e2;refine into Tryz.func262 21 _ ?_;unfold z6o at hm;have hS:=St.start w;refine sq<|rg<|nw hS (fun g3 w4 e5 S=>?_);refine nw S (fun g7 a0 X d=>?_);refine rr 1 ?_;refine rn<|sq<|sq<|rg<|rr 1 ?_;refine l1 ((d.bring 1 rfl).box) 0 ?_;refine rr 1 ?_;refine l1 ((d.bring 0 rfl).box) 0 ?_;refine rr 1 ?_;refine rn<|ci hm (fun hm=>?_) (fun hm=>?_)
 ·refine sq<|rg<|rr 1 ?_;refine rn<|rt ?_;cases hm;exact⟨_,.cons (.tmp rfl) .nil,rfl,(d.taken 0)⟩
 ·refine sp<|sq<|sq<|rg<|rr 1 ?_;refine l1 ((d.bring 1 rfl).box) 1 ?_;refine rr 1 ?_;refine l1 ((d.bring 0 rfl).box) 1 ?_;refine rr 1 ?_;refine rn<|ci hm (fun hm=>?_) (fun hm=>?_)
  ·refine sq<|rg<|rr 1 ?_;refine rn<|rt ?_;cases hm;exact⟨_,.cons (.tmp rfl) .nil,rfl,(d.taken 0)⟩
  ·refine sp<|sq<|sq<|rg<|rr 1 ?_;refine lN (At.sub ((d.bring 1 rfl).box) 2 3) ?_;refine rr 1 ?_;refine lN (At.sub ((d.bring 0 rfl).box) 2 3) ?_;obtain⟨Y,y,hm⟩:=bS hm;refine ca zaD (laws_eqAddress_ok (hE.trans d.ext) (zF x0.QX) (zF x1.QX) y) (fun Z b0 o=>?_);obtain⟨rfl,q⟩:=o;have h:=d.join q;refine rr 1 ?_;refine rn<|ci hm (fun hm=>?_) (fun hm=>?_)
   ·refine sq<|rg<|rr 1 ?_;refine rn<|rt ?_;cases hm;exact⟨_,.cons (.tmp rfl) .nil,rfl,(h.taken 0)⟩
   ·refine sp<|sq<|rg<|rr 1 ?_;refine rn<|rt ?_;cases hm;exact⟨_,.cons (.tmp rfl) .nil,rfl,(h.taken 0)⟩

theorem zkP:Enters Tryz.prog 238:=⟨_,_,Tryz.func238,rfl,by kernel_rfl⟩
def z9M (fuel:Nat) (t2:Unit):Option Bool:=some true
def z5v (fuel:Nat) (x0:(List D.Qp)) (x1:(List D.Qp)) (s1:Int):Option (Rd (Int) (Unit) (Bool)):=(if(decide (s1<(x0.length:Int)))=true then((idx x0 s1).bind fun h=>((idx x1 s1).bind fun o=>((z6o fuel h o).bind fun d=>(if(!d)=true then some (.ret false) else some (.next (w64 (s1+1))))))) else some (.brk ()))
def z5w (fuel:Nat) (x0:(List D.Qp)) (x1:(List D.Qp)):Option (Bool):=(if((x0.length:Int) != (x1.length:Int))=true then some false else((iter (z5v fuel x0 x1) fuel 0).bind fun o=>aft o (z9M fuel)))

theorem laws_eqShardVarS_ok {W w:World}(hE:Ext W w){S:Option Addr}{j0:Nat}{x0:(List D.Qp)}{X:Option Addr}{k0:Nat}{x1:(List D.Qp)}(u0:z4S.ro W [sl S x0 j0] x0) (v0:z4S.ro W [sl X x1 k0] x1){fuel:Nat}{r:Bool}(hm:z5w fuel x0 x1=some r):
  Calls Tryz.prog 238 ⟨[sl S x0 j0,sl X x1 k0]⟩ w (Ret fun v w8=>v=.bool r∧St w w8 []):=by
 refine into Tryz.func238 27 _ ?_;unfold z5w at hm;have hS:=St.start w;refine sq<|rg<|rr 1 ?_;refine rn<|sq<|sq<|rg<|rr 5 ?_;refine rn<|ci hm (fun hm=>?_) (fun hm=>?_)
 ·refine sq<|rg<|rr 1 ?_;refine rn<|rt ?_;cases hm;exact⟨_,.cons (.tmp rfl) .nil,rfl,hS⟩
 ·refine sp<|sq<|sq<|rg<|rr 1 ?_;refine rn ?_;obtain⟨y0,d0,hm⟩:=bS hm;refine ct (fun(t2:Unit) F w9=>y0=.inl t2∧Ext w w9∧St w w9 []∧F=[]) ?_ ?_
  ·rintro t2 F w7 ⟨e0,A0,Z,rfl⟩;subst e0;rw [z8] at hm;unfold z9M at hm;refine sq<|rg<|rr 1 ?_;refine rn<|rt ?_;cases hm;exact⟨_,.cons (.tmp rfl) .nil,rfl,Z⟩
  ·refine bk<|wk [0,1,5] ?_;refine it (fun(s1:Int) F w9=>Ext w w9∧St w w9 []∧F=[(0,sl S x0 j0),(1,sl X x1 k0),(5,.int .i64 s1)]) d0 ⟨(Ext.refl _),hS,rfl⟩ ?_;rintro s1 F G0 _ B0 ⟨o0,o,rfl⟩ d H;unfold z5v at d;refine sq<|sq<|rg<|rr 4 ?_;refine rn<|ci d (fun d=>?_) (fun d=>?_)
   ·refine sp<|sq<|bk<|sq<|dn 0 mixed 10 [([],1023),([],1023),([0,1],1020),([2],1019),([],1023),([],1023),([4,5],975),([6],959),([3,7],887),([8],767)] o.ext (fun h=>?_);have y:=o.step (Ext.draw _);refine dr 6 h [0,1,4,5] ?_;obtain⟨J0,f0,d⟩:=bS d;refine dx (hE.trans o.ext) h 2 u0 f0 (fun C0 r0 a0 M=>?_);have p0:=z1v M;subst p0;refine dL h 3 (At.ext (hE.trans o.ext) a0) ?_;obtain⟨K0,g0,d⟩:=bS d;refine dx (hE.trans o.ext) h 6 v0 g0 (fun D0 t0 b0 O=>?_);have q0:=z1v O;subst q0;refine dL h 7 (At.ext (hE.trans o.ext) b0) ?_;obtain⟨E0,i0,d⟩:=bS d;refine o1 h 8 (mc h zkz (laws_eqShardVar_ok (hE.trans y.ext) M O i0) (fun F0 H0 Y=>?_));obtain⟨rfl,q⟩:=Y;refine⟨q.ext,?_⟩;have G:=y.join q;refine dr 0 h [9] ?_;refine dw [0,1,5,26] ?_;refine dd h ?_;refine ci d (fun d=>?_) (fun d=>?_)
    ·refine sq<|rg<|rr 1 ?_;refine rn<|rt ?_;cases d;cases H;have hm:some _=some _:=hm;cases hm;exact⟨_,.cons (.tmp rfl) .nil,rfl,G⟩
    ·refine sp<|rg<|rr 3 ?_;refine rn ?_;cases d;exact⟨_,_,rfl,⟨((o0.trans (Ext.draw _)).trans q.ext),G,rfl⟩,rfl⟩
   ·refine xt ?_;cases d;exact⟨_,_,⟨H,o0,o,rfl⟩,rfl⟩

theorem zky:Enters Tryz.prog 263:=⟨_,_,Tryz.func263,rfl,by kernel_rfl⟩
def z4E (fuel:Nat) (x0:D.Qn) (x1:D.Qn):Option (Bool):=((z1r fuel x0.A x1.A).bind fun d=>(if(!d)=true then some false else((z1r fuel x0.B x1.B).bind fun h=>(if(!h)=true then some false else some true))))

theorem laws_eqShardRedex_ok {W w:World}(hE:Ext W w){S:List Value}{x0:D.Qn}{X:List Value}{x1:D.Qn}(Y:zad.ro W S x0) (Z:zad.ro W X x1){fuel:Nat}{r:Bool}(hm:z4E fuel x0 x1=some r):
  Calls Tryz.prog 263 ⟨[.agg ⟨S⟩,.agg ⟨X⟩]⟩ w (Ret fun v w8=>v=.bool r∧St w w8 []):=by
 have e1:=z49 Y;subst e1;have e2:=z49 Z;subst e2;refine into Tryz.func263 17 _ ?_;unfold z4E at hm;have hS:=St.start w;refine sq<|rg<|nw hS (fun g3 w4 e5 a0=>?_);refine nw a0 (fun g7 i0 b0 h=>?_);refine rr 1 ?_;refine rn<|sq<|sq<|rg<|rr 1 ?_;refine lN (At.sub ((h.bring 1 rfl).box) 0 3) ?_;refine rr 1 ?_;refine lN (At.sub ((h.bring 0 rfl).box) 0 3) ?_;obtain⟨d0,M,hm⟩:=bS hm;refine ca zaD (laws_eqAddress_ok (hE.trans h.ext) (zF x0.A) (zF x1.A) M) (fun f0 j0 q=>?_);obtain⟨rfl,y⟩:=q;have d:=h.join y;refine rr 1 ?_;refine rn<|ci hm (fun hm=>?_) (fun hm=>?_)
 ·refine sq<|rg<|rr 1 ?_;refine rn<|rt ?_;cases hm;exact⟨_,.cons (.tmp rfl) .nil,rfl,(d.taken 0)⟩
 ·refine sp<|sq<|sq<|rg<|rr 1 ?_;refine lN (At.sub ((d.bring 1 rfl).box) 3 3) ?_;refine rr 1 ?_;refine lN (At.sub ((d.bring 0 rfl).box) 3 3) ?_;obtain⟨e0,O,hm⟩:=bS hm;refine ca zaD (laws_eqAddress_ok (hE.trans d.ext) (zF x0.B) (zF x1.B) O) (fun g0 k0 G=>?_);obtain⟨rfl,H⟩:=G;have o:=d.join H;refine rr 1 ?_;refine rn<|ci hm (fun hm=>?_) (fun hm=>?_)
  ·refine sq<|rg<|rr 1 ?_;refine rn<|rt ?_;cases hm;exact⟨_,.cons (.tmp rfl) .nil,rfl,(o.taken 0)⟩
  ·refine sp<|sq<|rg<|rr 1 ?_;refine rn<|rt ?_;cases hm;exact⟨_,.cons (.tmp rfl) .nil,rfl,(o.taken 0)⟩

theorem zkO:Enters Tryz.prog 239:=⟨_,_,Tryz.func239,rfl,by kernel_rfl⟩
def z95 (fuel:Nat) (t2:Unit):Option Bool:=some true
def z46 (fuel:Nat) (x0:(List D.Qn)) (x1:(List D.Qn)) (s1:Int):Option (Rd (Int) (Unit) (Bool)):=(if(decide (s1<(x0.length:Int)))=true then((idx x0 s1).bind fun h=>((idx x1 s1).bind fun o=>((z4E fuel h o).bind fun d=>(if(!d)=true then some (.ret false) else some (.next (w64 (s1+1))))))) else some (.brk ()))
def z3Q (fuel:Nat) (x0:(List D.Qn)) (x1:(List D.Qn)):Option (Bool):=(if((x0.length:Int) != (x1.length:Int))=true then some false else((iter (z46 fuel x0 x1) fuel 0).bind fun o=>aft o (z95 fuel)))

theorem laws_eqShardRedexS_ok {W w:World}(hE:Ext W w){S:Option Addr}{j0:Nat}{x0:(List D.Qn)}{X:Option Addr}{k0:Nat}{x1:(List D.Qn)}(u0:z4a.ro W [sl S x0 j0] x0) (v0:z4a.ro W [sl X x1 k0] x1){fuel:Nat}{r:Bool}(hm:z3Q fuel x0 x1=some r):
  Calls Tryz.prog 239 ⟨[sl S x0 j0,sl X x1 k0]⟩ w (Ret fun v w8=>v=.bool r∧St w w8 []):=by
 refine into Tryz.func239 27 _ ?_;unfold z3Q at hm;have hS:=St.start w;refine sq<|rg<|rr 1 ?_;refine rn<|sq<|sq<|rg<|rr 5 ?_;refine rn<|ci hm (fun hm=>?_) (fun hm=>?_)
 ·refine sq<|rg<|rr 1 ?_;refine rn<|rt ?_;cases hm;exact⟨_,.cons (.tmp rfl) .nil,rfl,hS⟩
 ·refine sp<|sq<|sq<|rg<|rr 1 ?_;refine rn ?_;obtain⟨y0,d0,hm⟩:=bS hm;refine ct (fun(t2:Unit) F w9=>y0=.inl t2∧Ext w w9∧St w w9 []∧F=[]) ?_ ?_
  ·rintro t2 F w7 ⟨e0,A0,Z,rfl⟩;subst e0;rw [z8] at hm;unfold z95 at hm;refine sq<|rg<|rr 1 ?_;refine rn<|rt ?_;cases hm;exact⟨_,.cons (.tmp rfl) .nil,rfl,Z⟩
  ·refine bk<|wk [0,1,5] ?_;refine it (fun(s1:Int) F w9=>Ext w w9∧St w w9 []∧F=[(0,sl S x0 j0),(1,sl X x1 k0),(5,.int .i64 s1)]) d0 ⟨(Ext.refl _),hS,rfl⟩ ?_;rintro s1 F G0 _ B0 ⟨o0,o,rfl⟩ d H;unfold z46 at d;refine sq<|sq<|rg<|rr 4 ?_;refine rn<|ci d (fun d=>?_) (fun d=>?_)
   ·refine sp<|sq<|bk<|sq<|dn 0 mixed 10 [([],1023),([],1023),([0,1],1020),([2],1019),([],1023),([],1023),([4,5],975),([6],959),([3,7],887),([8],767)] o.ext (fun h=>?_);have y:=o.step (Ext.draw _);refine dr 6 h [0,1,4,5] ?_;obtain⟨J0,f0,d⟩:=bS d;refine dx (hE.trans o.ext) h 2 u0 f0 (fun C0 r0 a0 M=>?_);have p0:=z49 M;subst p0;refine dL h 3 (At.ext (hE.trans o.ext) a0) ?_;obtain⟨K0,g0,d⟩:=bS d;refine dx (hE.trans o.ext) h 6 v0 g0 (fun D0 t0 b0 O=>?_);have q0:=z49 O;subst q0;refine dL h 7 (At.ext (hE.trans o.ext) b0) ?_;obtain⟨E0,i0,d⟩:=bS d;refine o1 h 8 (mc h zky (laws_eqShardRedex_ok (hE.trans y.ext) M O i0) (fun F0 H0 Y=>?_));obtain⟨rfl,q⟩:=Y;refine⟨q.ext,?_⟩;have G:=y.join q;refine dr 0 h [9] ?_;refine dw [0,1,5,26] ?_;refine dd h ?_;refine ci d (fun d=>?_) (fun d=>?_)
    ·refine sq<|rg<|rr 1 ?_;refine rn<|rt ?_;cases d;cases H;have hm:some _=some _:=hm;cases hm;exact⟨_,.cons (.tmp rfl) .nil,rfl,G⟩
    ·refine sp<|rg<|rr 3 ?_;refine rn ?_;cases d;exact⟨_,_,rfl,⟨((o0.trans (Ext.draw _)).trans q.ext),G,rfl⟩,rfl⟩
   ·refine xt ?_;cases d;exact⟨_,_,⟨H,o0,o,rfl⟩,rfl⟩

theorem zmk:Enters Tryz.prog 196:=⟨_,_,Tryz.func196,rfl,by kernel_rfl⟩
def z8h (fuel:Nat) (x0:D.Qv) (x1:D.Qv):Option (Bool):=((z4F fuel x0.Cells x1.Cells).bind fun d=>(if(!d)=true then some false else((z5w fuel x0.QM x1.QM).bind fun h=>(if(!h)=true then some false else((z3Q fuel x0.Qu x1.Qu).bind fun o=>(if(!o)=true then some false else some true))))))

theorem laws_eqShard_ok {W w:World}(hE:Ext W w){b0:List Value}{x0:D.Qv}{d0:List Value}{x1:D.Qv}(g0:z84.ro W b0 x0) (o0:z84.ro W d0 x1){fuel:Nat}{r:Bool}(hm:z8h fuel x0 x1=some r):
  Calls Tryz.prog 196 ⟨[.agg ⟨b0⟩,.agg ⟨d0⟩]⟩ w (Ret fun v w8=>v=.bool r∧St w w8 []):=by
 obtain⟨A1,k2,A4,k5,A7,B0,e0,h3,h6,i0⟩:=zR g0;subst e0;obtain⟨q0,C0,r0,D0,t0,E0,f0,j0,k0,p0⟩:=zR o0;subst f0;refine into Tryz.func196 23 _ ?_;unfold z8h at hm;have hS:=St.start w;refine sq<|rg<|nw hS (fun y0 M0 u0 X=>?_);refine nw X (fun A0 N0 v0 o=>?_);refine rr 1 ?_;refine rn<|sq<|sq<|rg<|rr 1 ?_;refine l1 ((o.bring 1 rfl).box) 0 ?_;refine rr 1 ?_;refine l1 ((o.bring 0 rfl).box) 0 ?_;obtain⟨F0,Y,hm⟩:=bS hm;refine ca zkQ (laws_eqShardCellS_ok (hE.trans o.ext) h3 j0 Y) (fun J0 O0 y=>?_);obtain⟨rfl,G⟩:=y;have d:=o.join G;refine rr 1 ?_;refine rn<|ci hm (fun hm=>?_) (fun hm=>?_)
 ·refine sq<|rg<|rr 1 ?_;refine rn<|rt ?_;cases hm;exact⟨_,.cons (.tmp rfl) .nil,rfl,(d.taken 0)⟩
 ·refine sp<|sq<|sq<|rg<|rr 1 ?_;refine l1 ((d.bring 1 rfl).box) 1 ?_;refine rr 1 ?_;refine l1 ((d.bring 0 rfl).box) 1 ?_;obtain⟨G0,Z,hm⟩:=bS hm;refine ca zkP (laws_eqShardVarS_ok (hE.trans d.ext) h6 k0 Z) (fun K0 P0 H=>?_);obtain⟨rfl,M⟩:=H;have h:=d.join M;refine rr 1 ?_;refine rn<|ci hm (fun hm=>?_) (fun hm=>?_)
  ·refine sq<|rg<|rr 1 ?_;refine rn<|rt ?_;cases hm;exact⟨_,.cons (.tmp rfl) .nil,rfl,(h.taken 0)⟩
  ·refine sp<|sq<|sq<|rg<|rr 1 ?_;refine l1 ((h.bring 1 rfl).box) 2 ?_;refine rr 1 ?_;refine l1 ((h.bring 0 rfl).box) 2 ?_;obtain⟨H0,a0,hm⟩:=bS hm;refine ca zkO (laws_eqShardRedexS_ok (hE.trans h.ext) i0 p0 a0) (fun L0 Q0 O=>?_);obtain⟨rfl,S⟩:=O;have q:=h.join S;refine rr 1 ?_;refine rn<|ci hm (fun hm=>?_) (fun hm=>?_)
   ·refine sq<|rg<|rr 1 ?_;refine rn<|rt ?_;cases hm;exact⟨_,.cons (.tmp rfl) .nil,rfl,(q.taken 0)⟩
   ·refine sp<|sq<|rg<|rr 1 ?_;refine rn<|rt ?_;cases hm;exact⟨_,.cons (.tmp rfl) .nil,rfl,(q.taken 0)⟩

theorem zmQ:Enters Tryz.prog 142:=⟨_,_,Tryz.func142,rfl,by kernel_rfl⟩
def zaT (fuel:Nat) (t2:Unit):Option Bool:=some true
def z7q (fuel:Nat) (x0:(List D.Qv)) (x1:(List D.Qv)) (s1:Int):Option (Rd (Int) (Unit) (Bool)):=(if(decide (s1<(x0.length:Int)))=true then((idx x0 s1).bind fun h=>((idx x1 s1).bind fun o=>((z8h fuel h o).bind fun d=>(if(!d)=true then some (.ret false) else some (.next (w64 (s1+1))))))) else some (.brk ()))
def z7E (fuel:Nat) (x0:(List D.Qv)) (x1:(List D.Qv)):Option (Bool):=(if((x0.length:Int) != (x1.length:Int))=true then some false else((iter (z7q fuel x0 x1) fuel 0).bind fun o=>aft o (zaT fuel)))

theorem laws_eqShardS_ok {W w:World}(hE:Ext W w){S:Option Addr}{j0:Nat}{x0:(List D.Qv)}{X:Option Addr}{k0:Nat}{x1:(List D.Qv)}(u0:ty34.ro W [sl S x0 j0] x0) (v0:ty34.ro W [sl X x1 k0] x1){fuel:Nat}{r:Bool}(hm:z7E fuel x0 x1=some r):
  Calls Tryz.prog 142 ⟨[sl S x0 j0,sl X x1 k0]⟩ w (Ret fun v w8=>v=.bool r∧St w w8 []):=by
 refine into Tryz.func142 27 _ ?_;unfold z7E at hm;have hS:=St.start w;refine sq<|rg<|rr 1 ?_;refine rn<|sq<|sq<|rg<|rr 5 ?_;refine rn<|ci hm (fun hm=>?_) (fun hm=>?_)
 ·refine sq<|rg<|rr 1 ?_;refine rn<|rt ?_;cases hm;exact⟨_,.cons (.tmp rfl) .nil,rfl,hS⟩
 ·refine sp<|sq<|sq<|rg<|rr 1 ?_;refine rn ?_;obtain⟨y0,d0,hm⟩:=bS hm;refine ct (fun(t2:Unit) F w9=>y0=.inl t2∧Ext w w9∧St w w9 []∧F=[]) ?_ ?_
  ·rintro t2 F w7 ⟨e0,N0,Z,rfl⟩;subst e0;rw [z8] at hm;unfold zaT at hm;refine sq<|rg<|rr 1 ?_;refine rn<|rt ?_;cases hm;exact⟨_,.cons (.tmp rfl) .nil,rfl,Z⟩
  ·refine bk<|wk [0,1,5] ?_;refine it (fun(s1:Int) F w9=>Ext w w9∧St w w9 []∧F=[(0,sl S x0 j0),(1,sl X x1 k0),(5,.int .i64 s1)]) d0 ⟨(Ext.refl _),hS,rfl⟩ ?_;rintro s1 F b1 _ U0 ⟨o0,o,rfl⟩ d H;unfold z7q at d;refine sq<|sq<|rg<|rr 4 ?_;refine rn<|ci d (fun d=>?_) (fun d=>?_)
   ·refine sp<|sq<|bk<|sq<|dn 0 mixed 10 [([],1023),([],1023),([0,1],1020),([2],1019),([],1023),([],1023),([4,5],975),([6],959),([3,7],887),([8],767)] o.ext (fun h=>?_);have y:=o.step (Ext.draw _);refine dr 6 h [0,1,4,5] ?_;obtain⟨e1,f0,d⟩:=bS d;refine dx (hE.trans o.ext) h 2 u0 f0 (fun V0 r0 a0 M=>?_);obtain⟨A0,O0,B0,P0,C0,Q0,p0,G0,H0,J0⟩:=zR M;subst p0;refine dL h 3 (At.ext (hE.trans o.ext) a0) ?_;obtain⟨f1,g0,d⟩:=bS d;refine dx (hE.trans o.ext) h 6 v0 g0 (fun X0 t0 b0 O=>?_);obtain⟨D0,R0,E0,S0,F0,T0,q0,K0,L0,M0⟩:=zR O;subst q0;refine dL h 7 (At.ext (hE.trans o.ext) b0) ?_;obtain⟨Y0,i0,d⟩:=bS d;refine o1 h 8 (mc h zmk (laws_eqShard_ok (hE.trans y.ext) M O i0) (fun a1 d1 Y=>?_));obtain⟨rfl,q⟩:=Y;refine⟨q.ext,?_⟩;have G:=y.join q;refine dr 0 h [9] ?_;refine dw [0,1,5,26] ?_;refine dd h ?_;refine ci d (fun d=>?_) (fun d=>?_)
    ·refine sq<|rg<|rr 1 ?_;refine rn<|rt ?_;cases d;cases H;have hm:some _=some _:=hm;cases hm;exact⟨_,.cons (.tmp rfl) .nil,rfl,G⟩
    ·refine sp<|rg<|rr 3 ?_;refine rn ?_;cases d;exact⟨_,_,rfl,⟨((o0.trans (Ext.draw _)).trans q.ext),G,rfl⟩,rfl⟩
   ·refine xt ?_;cases d;exact⟨_,_,⟨H,o0,o,rfl⟩,rfl⟩

theorem zov:Enters Tryz.prog 76:=⟨_,_,Tryz.func76,rfl,by kernel_rfl⟩
def z96 (fuel:Nat) (x0:D.Qe) (x1:D.Qe):Option (Bool):=((z7E fuel x0.Qg x1.Qg).bind fun d=>(if(!d)=true then some false else((z1r fuel x0.Qo x1.Qo).bind fun h=>(if(!h)=true then some false else some true))))

theorem laws_eqGrid_ok {W w:World}(hE:Ext W w){X:List Value}{x0:D.Qe}{Y:List Value}{x1:D.Qe}(a0:ty37.ro W X x0) (b0:ty37.ro W Y x1){fuel:Nat}{r:Bool}(hm:z96 fuel x0 x1=some r):
  Calls Tryz.prog 76 ⟨[.agg ⟨X⟩,.agg ⟨Y⟩]⟩ w (Ret fun v w8=>v=.bool r∧St w w8 []):=by
 obtain⟨A1,k2,e4,h3⟩:=z33 a0;subst e4;obtain⟨A5,k6,Z,h7⟩:=z33 b0;subst Z;refine into Tryz.func76 17 _ ?_;unfold z96 at hm;have hS:=St.start w;refine sq<|rg<|nw hS (fun f0 p0 d0 M=>?_);refine nw M (fun g0 q0 e0 h=>?_);refine rr 1 ?_;refine rn<|sq<|sq<|rg<|rr 1 ?_;refine l1 ((h.bring 1 rfl).box) 0 ?_;refine rr 1 ?_;refine l1 ((h.bring 0 rfl).box) 0 ?_;obtain⟨i0,O,hm⟩:=bS hm;refine ca zmQ (laws_eqShardS_ok (hE.trans h.ext) h3 h7 O) (fun k0 r0 q=>?_);obtain⟨rfl,y⟩:=q;have d:=h.join y;refine rr 1 ?_;refine rn<|ci hm (fun hm=>?_) (fun hm=>?_)
 ·refine sq<|rg<|rr 1 ?_;refine rn<|rt ?_;cases hm;exact⟨_,.cons (.tmp rfl) .nil,rfl,(d.taken 0)⟩
 ·refine sp<|sq<|sq<|rg<|rr 1 ?_;refine lN (At.sub ((d.bring 1 rfl).box) 1 3) ?_;refine rr 1 ?_;refine lN (At.sub ((d.bring 0 rfl).box) 1 3) ?_;obtain⟨j0,S,hm⟩:=bS hm;refine ca zaD (laws_eqAddress_ok (hE.trans d.ext) (zF x0.Qo) (zF x1.Qo) S) (fun o0 t0 G=>?_);obtain⟨rfl,H⟩:=G;have o:=d.join H;refine rr 1 ?_;refine rn<|ci hm (fun hm=>?_) (fun hm=>?_)
  ·refine sq<|rg<|rr 1 ?_;refine rn<|rt ?_;cases hm;exact⟨_,.cons (.tmp rfl) .nil,rfl,(o.taken 0)⟩
  ·refine sp<|sq<|rg<|rr 1 ?_;refine rn<|rt ?_;cases hm;exact⟨_,.cons (.tmp rfl) .nil,rfl,(o.taken 0)⟩

theorem zmj:Enters Tryz.prog 197:=⟨_,_,Tryz.func197,rfl,by kernel_rfl⟩
def z7F (fuel:Nat) (x0:D.Qi) (x1:D.Qi):Option (Bool):=(if(x0.Qj != x1.Qj)=true then some false else((z3x fuel x0.Qz x1.Qz).bind fun d=>(if(!d)=true then some false else((z1r fuel x0.A x1.A).bind fun h=>(if(!h)=true then some false else((z1r fuel x0.B x1.B).bind fun o=>(if(!o)=true then some false else some true)))))))

theorem laws_eqParcel_ok {W w:World}(hE:Ext W w){b0:List Value}{x0:D.Qi}{d0:List Value}{x1:D.Qi}(f0:z85.ro W b0 x0) (j0:z85.ro W d0 x1){fuel:Nat}{r:Bool}(hm:z7F fuel x0 x1=some r):
  Calls Tryz.prog 197 ⟨[.agg ⟨b0⟩,.agg ⟨d0⟩]⟩ w (Ret fun v w8=>v=.bool r∧St w w8 []):=by
 obtain⟨A1,k2,A4,k5,e7,h3,h6⟩:=zv f0;subst e7;obtain⟨k0,u0,o0,v0,e0,g0,i0⟩:=zv j0;subst e0;refine into Tryz.func197 28 _ ?_;unfold z7F at hm;have hS:=St.start w;refine sq<|rg<|nw hS (fun r0 F0 p0 X=>?_);refine nw X (fun t0 G0 q0 d=>?_);refine rr 1 ?_;refine rn<|sq<|sq<|rg<|rr 1 ?_;refine l1 ((d.bring 1 rfl).box) 0 ?_;refine rr 1 ?_;refine l1 ((d.bring 0 rfl).box) 0 ?_;refine rr 1 ?_;refine rn<|ci hm (fun hm=>?_) (fun hm=>?_)
 ·refine sq<|rg<|rr 1 ?_;refine rn<|rt ?_;cases hm;exact⟨_,.cons (.tmp rfl) .nil,rfl,(d.taken 0)⟩
 ·refine sp<|sq<|sq<|rg<|rr 1 ?_;refine lN (At.sub ((d.bring 1 rfl).box) 1 5) ?_;refine rr 1 ?_;refine lN (At.sub ((d.bring 0 rfl).box) 1 5) ?_;obtain⟨y0,Y,hm⟩:=bS hm;refine ca zhB (laws_eqShardCell_ok (hE.trans d.ext) (z61 x0.Qz h3 h6) (z61 x1.Qz g0 i0) Y) (fun C0 H0 y=>?_);obtain⟨rfl,G⟩:=y;have h:=d.join G;refine rr 1 ?_;refine rn<|ci hm (fun hm=>?_) (fun hm=>?_)
  ·refine sq<|rg<|rr 1 ?_;refine rn<|rt ?_;cases hm;exact⟨_,.cons (.tmp rfl) .nil,rfl,(h.taken 0)⟩
  ·refine sp<|sq<|sq<|rg<|rr 1 ?_;refine lN (At.sub ((h.bring 1 rfl).box) 6 3) ?_;refine rr 1 ?_;refine lN (At.sub ((h.bring 0 rfl).box) 6 3) ?_;obtain⟨A0,Z,hm⟩:=bS hm;refine ca zaD (laws_eqAddress_ok (hE.trans h.ext) (zF x0.A) (zF x1.A) Z) (fun D0 J0 H=>?_);obtain⟨rfl,M⟩:=H;have o:=h.join M;refine rr 1 ?_;refine rn<|ci hm (fun hm=>?_) (fun hm=>?_)
   ·refine sq<|rg<|rr 1 ?_;refine rn<|rt ?_;cases hm;exact⟨_,.cons (.tmp rfl) .nil,rfl,(o.taken 0)⟩
   ·refine sp<|sq<|sq<|rg<|rr 1 ?_;refine lN (At.sub ((o.bring 1 rfl).box) 9 3) ?_;refine rr 1 ?_;refine lN (At.sub ((o.bring 0 rfl).box) 9 3) ?_;obtain⟨B0,a0,hm⟩:=bS hm;refine ca zaD (laws_eqAddress_ok (hE.trans o.ext) (zF x0.B) (zF x1.B) a0) (fun E0 K0 O=>?_);obtain⟨rfl,S⟩:=O;have q:=o.join S;refine rr 1 ?_;refine rn<|ci hm (fun hm=>?_) (fun hm=>?_)
    ·refine sq<|rg<|rr 1 ?_;refine rn<|rt ?_;cases hm;exact⟨_,.cons (.tmp rfl) .nil,rfl,(q.taken 0)⟩
    ·refine sp<|sq<|rg<|rr 1 ?_;refine rn<|rt ?_;cases hm;exact⟨_,.cons (.tmp rfl) .nil,rfl,(q.taken 0)⟩

end Go.E


