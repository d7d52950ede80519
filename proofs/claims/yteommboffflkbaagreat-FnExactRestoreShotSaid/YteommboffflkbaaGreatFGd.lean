/- Models of functions and proofs that the code runs as they say (written by program). Conditions: the model gives a value. -/
import Derived.Test.YteommboffflkbaaGreatFGc
namespace Go.E
open Go.RowKit Go.Proofs
set_option linter.unusedVariables false
set_option linter.unusedSimpArgs false
set_option maxHeartbeats 2000000
set_option maxRecDepth 100000

theorem znn:EN 235:=en Tryz.func235
def z16 (fu:Nat) (t2:Unit):Option Int:=some (-1)
def zk (fu:Nat) (x0:(List D.Qb)) (x1:D.Qb→Option Bool) (s1:Int):Option (Rd (Int) (Unit) (Int)):=(if(decide (s1<(x0.length:Int)))=true then((idx x0 s1).bind fun h=>((x1 h).bind fun d=>(if d=true then some (.ret s1) else some (.next (w64 (s1+1)))))) else some (.brk ()))
def zH (fu:Nat) (x0:(List D.Qb)) (x1:D.Qb→Option Bool):Option (Int):=((iter (zk fu x0 x1) fu 0).bind fun o=>aft o (z16 fu))

theorem z5x {W w:World}(hE:Ext W w){M:Option Addr}{d0:Nat}{x0:(List D.Qb)}{f1_:Nat}{u1_:List Value}{x1:D.Qb→Option Bool}(j0:z6K.ro W [sl M x0 d0] x0) (e0:Enters Tryz.prog f1_∧∀ {w9:World},Ext W w9→∀ {cz0:List Value}{z0:D.Qb}{y9:Bool},z2B.ro w9 cz0 z0→x1 z0=some y9→CL f1_ ⟨[.agg ⟨cz0⟩]++u1_⟩ w9 (Ret fun v w8=>v=.bool y9∧St w9 w8 [])){fu:Nat}{r:Int}(hm:zH fu x0 x1=some r):
  CL 235 ⟨[sl M x0 d0,.func (.func f1_) #[] ⟨u1_⟩]⟩ w (RI w r):=by
 refine into Tryz.func235 19 _ ?_;unfold zH at hm;have hS:=St.start w;refine sq<|rg<|rr 1 ?_;refine rn<|sq<|sq<|rg<|rr 3 ?_;refine rn ?_;obtain⟨k0,Y,hm⟩:=bS hm;refine ct (fun(t2:Unit) F w9=>k0=.inl t2∧Ext w w9∧St w w9 []∧F=[]) ?_ ?_
 ·rintro t2 F w7 ⟨Z,t0,S,rfl⟩;subst Z;rw [z8] at hm;unfold z16 at hm;refine sq<|rg<|rr 1 ?_;refine rn<|rt ?_;cases hm;exact⟨_,tR rfl,rfl,S⟩
 ·refine bk<|wk [0,1,7,8] ?_;refine it (fun(s1:Int) F w9=>Ext w w9∧St w w9 []∧F=[(0,sl M x0 d0),(1,.func (.func f1_) #[] ⟨u1_⟩),(7,iv (x0.length:Int)),(8,iv s1)]) Y ⟨(Ext.refl _),hS,rfl⟩ ?_;rintro s1 F D0 _ y0 ⟨f0,h,rfl⟩ d G;unfold zk at d;refine sq<|rg<|rr 1 ?_;refine rn<|sq<|ci d (fun d=>?_) (fun d=>?_)
  ·refine sp<|sq<|bk<|sq<|rg<|rr 2 ?_;refine rn<|sq<|rg<|rr 3 ?_;obtain⟨F0,a0,d⟩:=bS d;refine ix (hE.trans h.ext) j0 a0 (fun A0 i0 X H=>?_);obtain⟨o0,u0,p0,v0,g0,q0,r0⟩:=zq H;subst g0;refine lN (ax hE h X) ?_;obtain⟨B0,b0,d⟩:=bS d;refine ca e0.1 (e0.2 (hE.trans h.ext) (z2B.ext (hE.trans h.ext) H) b0) (fun C0 E0 O=>?_);obtain⟨rfl,o⟩:=O;have q:=h.join o;refine rn<|ci d (fun d=>?_) (fun d=>?_)
   ·refine sq<|rg<|rr 2 ?_;refine rn<|rt ?_;cases d;cases G;have hm:some _=some _:=hm;cases hm;exact⟨_,tR rfl,rfl,q⟩
   ·refine sp<|rg<|rr 2 ?_;refine rn ?_;cases d;exact⟨_,_,rfl,⟨(f0.trans o.ext),q,rfl⟩,rfl⟩
  ·refine xt ?_;cases d;exact⟨_,_,⟨G,f0,h,rfl⟩,rfl⟩

theorem znS:EN 187:=en Tryz.func187
def zm (fu:Nat) (x0:(List D.Qb)) (x1:D.Qb→Option Bool):Option (Bool):=((zH fu x0 x1).bind fun r1=>some (decide (r1≥0)))

theorem z4J {W w:World}(hE:Ext W w){d:Option Addr}{h:Nat}{x0:(List D.Qb)}{f1_:Nat}{u1_:List Value}{x1:D.Qb→Option Bool}(o:z6K.ro W [sl d x0 h] x0) (q:Enters Tryz.prog f1_∧∀ {w9:World},Ext W w9→∀ {cz0:List Value}{z0:D.Qb}{y9:Bool},z2B.ro w9 cz0 z0→x1 z0=some y9→CL f1_ ⟨[.agg ⟨cz0⟩]++u1_⟩ w9 (Ret fun v w8=>v=.bool y9∧St w9 w8 [])){fu:Nat}{r:Bool}(hm:zm fu x0 x1=some r):
  CL 187 ⟨[sl d x0 h,.func (.func f1_) #[] ⟨u1_⟩]⟩ w (RB w r):=by
 refine into Tryz.func187 9 _ ?_;unfold zm at hm;have hS:=St.start w;refine sq<|rg<|rr 1 ?_;refine rn<|sq<|rg<|rr 2 ?_;obtain⟨r1,O,hm⟩:=bS hm;refine ca znn (z5x (hE.trans hS.ext) o q O) (fun v3 w4 G=>?_);obtain⟨rfl,H⟩:=G;have M:=hS.join H;refine rr 2 ?_;refine rn<|rt ?_;cases hm;exact⟨_,tR rfl,rfl,M⟩

theorem znR:EN 188:=en Tryz.func188
def z6E (fu:Nat) (x0:D.Qb):Option (Bool):=((z2x fu x0).bind fun d=>some (!d))

theorem zcS {W w:World}(hE:Ext W w){H:List Value}{x0:D.Qb}(M:z2B.ro W H x0){fu:Nat}{r:Bool}(hm:z6E fu x0=some r):
  CL 188 ⟨[.agg ⟨H⟩]⟩ w (RB w r):=by
 obtain⟨A1,k2,A4,k5,e7,h3,h6⟩:=zq M;subst e7;refine into Tryz.func188 6 _ ?_;unfold z6E at hm;have hS:=St.start w;refine sq<|rg<|nw hS (fun S Z O d=>?_);refine rr 1 ?_;refine rn<|sq<|rg<|lN ((d.bring 0 rfl).box) ?_;obtain⟨X,G,hm⟩:=bS hm;refine ca ziO (za6 (hE.trans d.ext) M G) (fun Y a0 h=>?_);obtain⟨rfl,o⟩:=h;have q:=d.join o;refine rr 2 ?_;refine rn<|rt ?_;cases hm;exact⟨_,tR rfl,rfl,(q.taken 0)⟩

theorem znm:EN 236:=en Tryz.func236
def z1e (fu:Nat) (t2:Unit):Option Int:=some (-1)
def zn (fu:Nat) (x0:(List D.Qn)) (x1:D.Qn→Option Bool) (s1:Int):Option (Rd (Int) (Unit) (Int)):=(if(decide (s1<(x0.length:Int)))=true then((idx x0 s1).bind fun h=>((x1 h).bind fun d=>(if d=true then some (.ret s1) else some (.next (w64 (s1+1)))))) else some (.brk ()))
def zR (fu:Nat) (x0:(List D.Qn)) (x1:D.Qn→Option Bool):Option (Int):=((iter (zn fu x0 x1) fu 0).bind fun o=>aft o (z1e fu))

theorem z6i {W w:World}(hE:Ext W w){M:Option Addr}{d0:Nat}{x0:(List D.Qn)}{f1_:Nat}{u1_:List Value}{x1:D.Qn→Option Bool}(j0:z3w.ro W [sl M x0 d0] x0) (e0:Enters Tryz.prog f1_∧∀ {w9:World},Ext W w9→∀ {cz0:List Value}{z0:D.Qn}{y9:Bool},za8.ro w9 cz0 z0→x1 z0=some y9→CL f1_ ⟨[.agg ⟨cz0⟩]++u1_⟩ w9 (Ret fun v w8=>v=.bool y9∧St w9 w8 [])){fu:Nat}{r:Int}(hm:zR fu x0 x1=some r):
  CL 236 ⟨[sl M x0 d0,.func (.func f1_) #[] ⟨u1_⟩]⟩ w (RI w r):=by
 refine into Tryz.func236 19 _ ?_;unfold zR at hm;have hS:=St.start w;refine sq<|rg<|rr 1 ?_;refine rn<|sq<|sq<|rg<|rr 3 ?_;refine rn ?_;obtain⟨k0,Y,hm⟩:=bS hm;refine ct (fun(t2:Unit) F w9=>k0=.inl t2∧Ext w w9∧St w w9 []∧F=[]) ?_ ?_
 ·rintro t2 F w7 ⟨Z,o0,S,rfl⟩;subst Z;rw [z8] at hm;unfold z1e at hm;refine sq<|rg<|rr 1 ?_;refine rn<|rt ?_;cases hm;exact⟨_,tR rfl,rfl,S⟩
 ·refine bk<|wk [0,1,7,8] ?_;refine it (fun(s1:Int) F w9=>Ext w w9∧St w w9 []∧F=[(0,sl M x0 d0),(1,.func (.func f1_) #[] ⟨u1_⟩),(7,iv (x0.length:Int)),(8,iv s1)]) Y ⟨(Ext.refl _),hS,rfl⟩ ?_;rintro s1 F u0 _ p0 ⟨f0,h,rfl⟩ d G;unfold zn at d;refine sq<|rg<|rr 1 ?_;refine rn<|sq<|ci d (fun d=>?_) (fun d=>?_)
  ·refine sp<|sq<|bk<|sq<|rg<|rr 2 ?_;refine rn<|sq<|rg<|rr 3 ?_;obtain⟨y0,a0,d⟩:=bS d;refine ix (hE.trans h.ext) j0 a0 (fun q0 i0 X H=>?_);have g0:=z1n H;subst g0;refine lN (ax hE h X) ?_;obtain⟨r0,b0,d⟩:=bS d;refine ca e0.1 (e0.2 (hE.trans h.ext) (za8.ext (hE.trans h.ext) H) b0) (fun t0 v0 O=>?_);obtain⟨rfl,o⟩:=O;have q:=h.join o;refine rn<|ci d (fun d=>?_) (fun d=>?_)
   ·refine sq<|rg<|rr 2 ?_;refine rn<|rt ?_;cases d;cases G;have hm:some _=some _:=hm;cases hm;exact⟨_,tR rfl,rfl,q⟩
   ·refine sp<|rg<|rr 2 ?_;refine rn ?_;cases d;exact⟨_,_,rfl,⟨(f0.trans o.ext),q,rfl⟩,rfl⟩
  ·refine xt ?_;cases d;exact⟨_,_,⟨G,f0,h,rfl⟩,rfl⟩

theorem znQ:EN 189:=en Tryz.func189
def zo (fu:Nat) (x0:(List D.Qn)) (x1:D.Qn→Option Bool):Option (Bool):=((zR fu x0 x1).bind fun r1=>some (decide (r1≥0)))

theorem z5t {W w:World}(hE:Ext W w){d:Option Addr}{h:Nat}{x0:(List D.Qn)}{f1_:Nat}{u1_:List Value}{x1:D.Qn→Option Bool}(o:z3w.ro W [sl d x0 h] x0) (q:Enters Tryz.prog f1_∧∀ {w9:World},Ext W w9→∀ {cz0:List Value}{z0:D.Qn}{y9:Bool},za8.ro w9 cz0 z0→x1 z0=some y9→CL f1_ ⟨[.agg ⟨cz0⟩]++u1_⟩ w9 (Ret fun v w8=>v=.bool y9∧St w9 w8 [])){fu:Nat}{r:Bool}(hm:zo fu x0 x1=some r):
  CL 189 ⟨[sl d x0 h,.func (.func f1_) #[] ⟨u1_⟩]⟩ w (RB w r):=by
 refine into Tryz.func189 9 _ ?_;unfold zo at hm;have hS:=St.start w;refine sq<|rg<|rr 1 ?_;refine rn<|sq<|rg<|rr 2 ?_;obtain⟨r1,O,hm⟩:=bS hm;refine ca znm (z6i (hE.trans hS.ext) o q O) (fun v3 w4 G=>?_);obtain⟨rfl,H⟩:=G;have M:=hS.join H;refine rr 2 ?_;refine rn<|rt ?_;cases hm;exact⟨_,tR rfl,rfl,M⟩

theorem znO:EN 191:=en Tryz.func191
def z6F (fu:Nat) (x0:D.Qn):Option (Bool):=(if x0.Qa0=true then some true else(if(!x0.Qa1)=true then some (((x0.QV.Qg:Int) == 0) && (((x0.QV.Qj:Int) == 0) && (((x0.QV.Qs:Int) == 0) && true))) else some false))

theorem zcT {W w:World}(hE:Ext W w){h:List Value}{x0:D.Qn}(o:za8.ro W h x0){fu:Nat}{r:Bool}(hm:z6F fu x0=some r):
  CL 191 ⟨[.agg ⟨h⟩]⟩ w (RB w r):=by
 have e1:=z1n o;subst e1;refine into Tryz.func191 16 _ ?_;unfold z6F at hm;have hS:=St.start w;refine sq<|rg<|nw hS (fun g2 w3 e4 d=>?_);refine rr 1 ?_;refine rn<|sq<|rg<|rr 1 ?_;refine l1 ((d.bring 0 rfl).box) 0 ?_;refine rr 1 ?_;refine rb 5 hm (fun hm=>?_) (fun hm=>?_)
 ·refine rr 11 ?_;refine rn<|rt ?_;cases hm;exact⟨_,tR rfl,rfl,(d.taken 0)⟩
 ·refine rr 1 ?_;refine l1 ((d.bring 0 rfl).box) 1 ?_;refine rr 2 ?_;refine rb 9 hm (fun hm=>?_) (fun hm=>?_)
  ·refine rr 1 ?_;refine lN (At.sub ((d.bring 0 rfl).box) 2 3) ?_;refine qt (qb) ?_;refine rr 4 ?_;refine rn<|rt ?_;cases hm;exact⟨_,tR rfl,rfl,(d.taken 0)⟩
  ·refine rr 7 ?_;refine rn<|rt ?_;cases hm;exact⟨_,tR rfl,rfl,(d.taken 0)⟩

theorem znP:EN 190:=en Tryz.func190
def z4A (fu:Nat) (x0:D.Qn):Option (Bool):=((z6F fu x0).bind fun r6=>(if(!r6)=true then some true else(if(!x0.Qa1)=true then some (!(((x0.QV.Qg:Int) == 0) && (((x0.QV.Qj:Int) == 0) && (((x0.QV.Qs:Int) == 0) && true)))) else some false)))

theorem zcR {W w:World}(hE:Ext W w){G:List Value}{x0:D.Qn}(H:za8.ro W G x0){fu:Nat}{r:Bool}(hm:z4A fu x0=some r):
  CL 190 ⟨[.agg ⟨G⟩]⟩ w (RB w r):=by
 have e1:=z1n H;subst e1;refine into Tryz.func190 17 _ ?_;unfold z4A at hm;have hS:=St.start w;refine sq<|rg<|nw hS (fun g2 w3 e4 q=>?_);refine rr 1 ?_;refine rn<|sq<|rg<|lN ((q.bring 0 rfl).box) ?_;obtain⟨r6,M,hm⟩:=bS hm;refine ca znO (zcT (hE.trans q.ext) H M) (fun O S h=>?_);obtain⟨rfl,o⟩:=h;have d:=q.join o;refine rr 2 ?_;refine rb 6 hm (fun hm=>?_) (fun hm=>?_)
 ·refine rr 11 ?_;refine rn<|rt ?_;cases hm;exact⟨_,tR rfl,rfl,(d.taken 0)⟩
 ·refine rr 1 ?_;refine l1 ((d.bring 0 rfl).box) 1 ?_;refine rr 2 ?_;refine rb 10 hm (fun hm=>?_) (fun hm=>?_)
  ·refine rr 1 ?_;refine lN (At.sub ((d.bring 0 rfl).box) 2 3) ?_;refine qt (qb) ?_;refine rr 4 ?_;refine rn<|rt ?_;cases hm;exact⟨_,tR rfl,rfl,(d.taken 0)⟩
  ·refine rr 7 ?_;refine rn<|rt ?_;cases hm;exact⟨_,tR rfl,rfl,(d.taken 0)⟩

theorem ziZ:EN 136:=en Tryz.func136
def z32 (fu:Nat) (x0:D.Qp) (o:Bool):Option Bool:=(if o=true then some false else((zm fu x0.Cells (fun y0=>z6E fu y0)).bind fun d=>(if(!d)=true then((zo fu x0.QG (fun y0=>z4A fu y0)).bind fun h=>some (!h)) else some false)))
def z4S (fu:Nat) (x0:D.Qp):Option (Bool):=(if(decide ((x0.Cells.length:Int)>400))=true then z32 fu x0 true else(if(decide ((x0.QG.length:Int)>400))=true then z32 fu x0 true else z32 fu x0 (decide ((x0.Qu.length:Int)>400))))

theorem zbJ {W w:World}(hE:Ext W w){b0:List Value}{x0:D.Qp}(f0:z20.ro W b0 x0){fu:Nat}{r:Bool}(hm:z4S fu x0=some r):
  CL 136 ⟨[.agg ⟨b0⟩]⟩ w (RB w r):=by
 obtain⟨A1,k2,A4,k5,A7,i0,e0,h3,h6,o0⟩:=zw f0;subst e0;refine into Tryz.func136 29 _ ?_;unfold z4S at hm;have hS:=St.start w;refine sq<|rg<|nw hS (fun d0 j0 k0 d=>?_);refine rr 1 ?_;refine rn<|sq<|sq<|ct (fun(a0:Bool) F w9=>z32 fu x0 a0=some r∧Ext j0 w9∧St w w9 [Box d0 [sl A1 x0.Cells k2,sl A4 x0.QG k5,sl A7 x0.Qu i0] 166]∧F=[(1,.pointer (some ⟨d0,0,none⟩)),(18,.bool a0)]) ?_ ?_
 ·rintro a0 F u0 ⟨hm,g0,h,rfl⟩;unfold z32 at hm;refine ci hm (fun hm=>?_) (fun hm=>?_)
  ·refine sq<|rg<|rr 1 ?_;refine rn<|rt ?_;cases hm;exact⟨_,tR rfl,rfl,(h.taken 0)⟩
  ·refine sp<|sq<|rg<|rr 1 ?_;refine l1 ((h.bring 0 rfl).box) 0 ?_;obtain⟨p0,X,hm⟩:=bS hm;refine ca znS (z4J (hE.trans h.ext) h3 ⟨znR,fun e9=>(fun q Z=>zcS (Ext.refl _) q Z)⟩ X) (fun r0 v0 G=>?_);obtain⟨rfl,H⟩:=G;have o:=h.join H;refine rr 2 ?_;refine rb 23 hm (fun hm=>?_) (fun hm=>?_)
   ·refine rr 1 ?_;refine l1 ((o.bring 0 rfl).box) 1 ?_;obtain⟨q0,Y,hm⟩:=bS hm;refine ca znQ (z5t (hE.trans o.ext) h6 ⟨znP,fun e9=>(fun q Z=>zcR (Ext.refl _) q Z)⟩ Y) (fun t0 y0 M=>?_);obtain⟨rfl,O⟩:=M;have S:=o.join O;refine rr 3 ?_;refine rn<|rt ?_;cases hm;exact⟨_,tR rfl,rfl,(S.taken 0)⟩
   ·refine rr 6 ?_;refine rn<|rt ?_;cases hm;exact⟨_,tR rfl,rfl,(o.taken 0)⟩
 ·refine rg<|rr 1 ?_;refine l1 ((d.bring 0 rfl).box) 0 ?_;refine rr 3 ?_;refine rb 7 hm (fun hm=>?_) (fun hm=>?_)
  ·refine rr 11 ?_;refine rn ?_;exact⟨true,_,⟨hm,(Ext.refl _),d,rfl⟩,rfl⟩
  ·refine rr 1 ?_;refine l1 ((d.bring 0 rfl).box) 1 ?_;refine rr 4 ?_;refine rb 13 hm (fun hm=>?_) (fun hm=>?_)
   ·refine rr 5 ?_;refine rn ?_;exact⟨true,_,⟨hm,(Ext.refl _),d,rfl⟩,rfl⟩
   ·refine rr 1 ?_;refine l1 ((d.bring 0 rfl).box) 2 ?_;refine rr 3 ?_;refine rn ?_;exact⟨decide ((x0.Qu.length:Int)>400),_,⟨hm,(Ext.refl _),d,rfl⟩,rfl⟩

theorem zog:EN 135:=en Tryz.func135
def z48 (fu:Nat) (x0:D.Qp):Option (Bool):=((z4S fu x0).bind fun d=>some (!d))

theorem zbR {W w:World}(hE:Ext W w){H:List Value}{x0:D.Qp}(M:z20.ro W H x0){fu:Nat}{r:Bool}(hm:z48 fu x0=some r):
  CL 135 ⟨[.agg ⟨H⟩]⟩ w (RB w r):=by
 obtain⟨A1,k2,A4,k5,A7,Z,O,h3,h6,Y⟩:=zw M;subst O;refine into Tryz.func135 6 _ ?_;unfold z48 at hm;have hS:=St.start w;refine sq<|rg<|nw hS (fun X d0 S d=>?_);refine rr 1 ?_;refine rn<|sq<|rg<|lN ((d.bring 0 rfl).box) ?_;obtain⟨a0,G,hm⟩:=bS hm;refine ca ziZ (zbJ (hE.trans d.ext) M G) (fun b0 e0 h=>?_);obtain⟨rfl,o⟩:=h;have q:=d.join o;refine rr 2 ?_;refine rn<|rt ?_;cases hm;exact⟨_,tR rfl,rfl,(q.taken 0)⟩

theorem zga:EN 194:=en Tryz.func194
def z46 (fu:Nat) (x0:Int) (x1:Int):Option (D.Qf):=some (⟨x0,1,x1⟩:D.Qf)

theorem z9f {W w:World}(hE:Ext W w){x0:Int}{x1:Int}  {fu:Nat}{r:D.Qf}(hm:z46 fu x0 x1=some r):
  CL 194 ⟨[iv x0,iv x1]⟩ w (Ret fun v w8=>v=.agg ⟨[iv r.Qg,iv r.Qj,iv r.Qs]⟩∧St w w8 []):=by
 refine into Tryz.func194 8 _ ?_;unfold z46 at hm;have hS:=St.start w;refine sq<|rg<|nw hS (fun g1 w2 e3 h=>?_);refine rn<|sq<|rg<|rr 2 ?_;refine qt (qb) ?_;have o:=h.bring 0 rfl;refine so (A:=[]) o 0 (fun w6 d=>?_);refine rn<|rt ?_;cases hm;exact⟨_,.cons (ra ((d.bring 0 rfl).box)) .nil,rfl,(d.taken 0)⟩

theorem zg9:EN 195:=en Tryz.func195
def z4R (fu:Nat) (x0:Int) (x1:Int):Option (D.Qf):=some (⟨x0,2,x1⟩:D.Qf)

theorem z9Q {W w:World}(hE:Ext W w){x0:Int}{x1:Int}  {fu:Nat}{r:D.Qf}(hm:z4R fu x0 x1=some r):
  CL 195 ⟨[iv x0,iv x1]⟩ w (Ret fun v w8=>v=.agg ⟨[iv r.Qg,iv r.Qj,iv r.Qs]⟩∧St w w8 []):=by
 refine into Tryz.func195 8 _ ?_;unfold z4R at hm;have hS:=St.start w;refine sq<|rg<|nw hS (fun g1 w2 e3 h=>?_);refine rn<|sq<|rg<|rr 2 ?_;refine qt (qb) ?_;have o:=h.bring 0 rfl;refine so (A:=[]) o 0 (fun w6 d=>?_);refine rn<|rt ?_;cases hm;exact⟨_,.cons (ra ((d.bring 0 rfl).box)) .nil,rfl,(d.taken 0)⟩

theorem zoe:EN 138:=en Tryz.func138
def z8Z (fu:Nat) (d:(List D.Qd)):Option (List D.Qd):=some d
def z8Y (fu:Nat) (d:Int × (List D.Qd)) (h:(List D.Qd)):Option (Rd (Int × (List D.Qd)) ((List D.Qd)) ((List D.Qd))):=some (.next (w64 (d.1+1),h))
def z2a (fu:Nat) (h:Int × (List D.Qd)) (d:(List D.Qd)):Option (Rd (Int × (List D.Qd)) ((List D.Qd)) (Rd (Int × (List D.Qd)) ((List D.Qd)) ((List D.Qd)))):=some (.next (w64 (h.1+1),d))
def z3v (fu:Nat) (h:Int × (List D.Qd)) (d:(List D.Qd)):Option (Rd (Int × (List D.Qd)) ((List D.Qd)) (Rd (Int × (List D.Qd)) ((List D.Qd)) ((List D.Qd)))):=z2a fu h d
def z2b (fu:Nat) (G:Int × (List D.Qd)) (q:D.Qp) (d:Int × (List D.Qd)):Option (Rd (Int × (List D.Qd)) ((List D.Qd)) (Rd (Int × (List D.Qd)) ((List D.Qd)) ((List D.Qd)))):=(if(decide (d.1<(q.QG.length:Int)))=true then((idx q.QG d.1).bind fun h=>(if h.Qa1=true then((z4R fu G.1 d.1).bind fun o=>(if decide ((d.2.length:Int)+(([(⟨(⟨o,0,false⟩:D.QO),(⟨h.QV,0,false⟩:D.QO)⟩:D.Qd)]:(List D.Qd)).length:Int)≤4294967296)=true then z3v fu d (d.2++([(⟨(⟨o,0,false⟩:D.QO),(⟨h.QV,0,false⟩:D.QO)⟩:D.Qd)]:(List D.Qd))) else none)) else z2a fu d d.2)) else some (.brk d.2))
def z6o (fu:Nat) (d:Int × (List D.Qd)) (q:D.Qp) (h:(List D.Qd)):Option (Rd (Int × (List D.Qd)) ((List D.Qd)) ((List D.Qd))):=((iter (z2b fu d q) fu (0,h)).bind fun o=>aft o (z8Y fu d))
def z2c (fu:Nat) (o:D.Qp) (h:Int × (List D.Qd)):Option (Rd (Int × (List D.Qd)) ((List D.Qd)) (Rd (Int × (List D.Qd)) ((List D.Qd)) ((List D.Qd)))):=(if(decide (h.1<(o.Qu.length:Int)))=true then((idx o.Qu h.1).bind fun d=>(if decide ((h.2.length:Int)+(([(⟨(⟨d.A,0,false⟩:D.QO),(⟨d.B,0,false⟩:D.QO)⟩:D.Qd)]:(List D.Qd)).length:Int)≤4294967296)=true then some (.next (w64 (h.1+1),(h.2++([(⟨(⟨d.A,0,false⟩:D.QO),(⟨d.B,0,false⟩:D.QO)⟩:D.Qd)]:(List D.Qd))))) else none)) else some (.brk h.2))
def z6p (fu:Nat) (h:Int × (List D.Qd)) (d:D.Qp) (q:(List D.Qd)):Option (Rd (Int × (List D.Qd)) ((List D.Qd)) ((List D.Qd))):=((iter (z2c fu d) fu (0,q)).bind fun o=>aft o (z6o fu h d))
def z6n (fu:Nat) (h:Int × (List D.Qd)) (d:(List D.Qd)):Option (Rd (Int × (List D.Qd)) ((List D.Qd)) (Rd (Int × (List D.Qd)) ((List D.Qd)) ((List D.Qd)))):=some (.next (w64 (h.1+1),d))
def z2d (fu:Nat) (H:Int × (List D.Qd)) (G:D.Qp) (d:Int × (List D.Qd)):Option (Rd (Int × (List D.Qd)) ((List D.Qd)) (Rd (Int × (List D.Qd)) ((List D.Qd)) ((List D.Qd)))):=(if(decide (d.1<(G.Cells.length:Int)))=true then((idx G.Cells d.1).bind fun q=>((z46 fu H.1 d.1).bind fun o=>((z1M fu o q.QX).bind fun h=>(if decide ((d.2.length:Int)+(h.length:Int)≤4294967296)=true then z6n fu d (d.2++h) else none)))) else some (.brk d.2))
def z1m (fu:Nat) (x0:D.Qi) (d:Int × (List D.Qd)):Option (Rd (Int × (List D.Qd)) ((List D.Qd)) ((List D.Qd))):=(if(decide (d.1<(x0.Qc.length:Int)))=true then((idx x0.Qc d.1).bind fun h=>((iter (z2d fu d h) fu (0,d.2)).bind fun o=>aft o (z6p fu d h))) else some (.brk d.2))
def z3f (fu:Nat) (x0:D.Qi):Option ((List D.Qd)):=((z7s fu (⟨0,0,0⟩:D.Qf) 0).bind fun r7=>((iter (z1m fu x0) fu (0,([(⟨r7,(⟨x0.Qy,0,false⟩:D.QO)⟩:D.Qd)]:(List D.Qd)))).bind fun o=>aft o (z8Z fu)))

theorem zcn {W w:World}(hE:Ext W w){b4:Addr}{U3:List Value}{x0:D.Qi}(u4:ty37.ro W U3 x0) (Y3:At W b4 U3){fu:Nat}{r:(List D.Qd)}(hm:z3f fu x0=some r):
  CL 138 ⟨[.pointer (some b4)]⟩ w (Ret fun v w8=>∃ A0 k0,v=sl A0 r k0∧St w w8 [ow z94 A0 r k0]):=by
 obtain⟨A1,k2,e4,h3⟩:=z4d u4;subst e4;refine into Tryz.func138 90 _ ?_;unfold z3f at hm;have hS:=St.start w;refine sq<|rg<|rr 1 ?_;refine rn<|sq<|dn 0 mixed 10 [([],1023),([0],1022),([],1023),([2],1019),([3],1015),([4],1007),([5],991),([1,6],957),([7],895),([8,1,0,1,2,3,4,5,6,7,8],767)] hS.ext (fun u0=>?_);have a4:=hS.step (Ext.draw _);refine dr 7 u0 [2,3,4] ?_;refine dp u0 0 rfl (fun _=>qb) ?_;refine dL u0 5 (At.sub (ax hE hS Y3) 1 3) ?_;refine dp u0 6 rfl (fun _=>qb) ?_;obtain⟨r7,J3,hm⟩:=bS hm;refine o1 u0 1 (mc u0 zbt (z8s (hE.trans a4.ext) (zO (⟨0,0,0⟩:D.Qf)) J3) (fun H5 J5 r3=>?_));obtain⟨rfl,B1⟩:=r3;refine⟨B1.ext,?_⟩;have s3:=a4.join B1;refine dp u0 7 rfl (fun _=>qb) ?_;refine o1 u0 8 (mn (s3.flatEls (U:=zce) (els:=[iv r7.at_.Qg,iv r7.at_.Qj,iv r7.at_.Qs,iv r7.slot,.bool r7.own,iv x0.Qy.Qg,iv x0.Qy.Qj,iv x0.Qy.Qs,iv 0,.bool false]) (ys:=[(⟨r7,(⟨x0.Qy,0,false⟩:D.QO)⟩:D.Qd)]) ⟨[iv r7.at_.Qg,iv r7.at_.Qj,iv r7.at_.Qs,iv r7.slot,.bool r7.own,iv x0.Qy.Qg,iv x0.Qy.Qj,iv x0.Qy.Qs,iv 0,.bool false],_,[],[],rfl,rfl,(z6J (c:=(⟨r7,(⟨x0.Qy,0,false⟩:D.QO)⟩:D.Qd)) rfl),⟨rfl,rfl⟩⟩) u0 (fun c4 E4 K5 D5 T1=>?_));refine dr 0 u0 [9] ?_;refine dw [0,3] ?_;refine dd u0 ?_;refine sq<|sq<|rg<|rr 3 ?_;refine l1 (ax hE T1 Y3) 0 ?_;refine rr 2 ?_;refine rn ?_;obtain⟨L4,A3,hm⟩:=bS hm;refine ct (fun(a3:(List D.Qd)) F w9=>∃ N2 T2,L4=.inl a3∧St w w9 [ow z94 N2 a3 T2]∧F=[(3,sl N2 a3 T2)]) ?_ ?_
 ·rintro a3 F L5 ⟨N2,T2,D3,t3,rfl⟩;subst D3;rw [z8] at hm;unfold z8Z at hm;refine sq<|rg<|rr 2 ?_;refine rn<|rt ?_;cases hm;exact⟨_,tR rfl,N2,T2,rfl,t3⟩
 ·refine bk<|wk [3,24,25,26] ?_;refine it (fun(Y:Int × (List D.Qd)) F w9=>∃ t1 H2,St w w9 [ow z94 t1 Y.2 H2]∧F=[(3,sl t1 Y.2 H2),(24,sl A1 x0.Qc k2),(25,iv (x0.Qc.length:Int)),(26,iv Y.1)]) A3 ⟨c4,E4,T1,rfl⟩ ?_;rintro Y F M5 _ F5 ⟨t1,H2,G0,rfl⟩ H E3;unfold z1m at H;refine sq<|rg<|rr 1 ?_;refine rn<|sq<|ci H (fun H=>?_) (fun H=>?_)
  ·refine sp<|sq<|bk<|sq<|rg<|rr 1 ?_;obtain⟨M,K3,H⟩:=bS H;refine ix (hE.trans G0.ext) h3 K3 (fun G5 s4 y3 H3=>?_);obtain⟨o0,r0,i0,j0,B0,C0,r4,x4,y4,A4⟩:=zw H3;subst r4;refine lN (ax hE G0 y3) ?_;refine nw G0 (fun b0 N5 E5 u3=>?_);refine rr 1 ?_;have v3:=u3.bring 0 rfl;refine so (A:=[]) v3 0 (fun O5 j2=>?_);refine rn<|sq<|sq<|rg<|rr 1 ?_;refine l1 ((j2.bring 0 rfl).box) 0 ?_;refine rr 2 ?_;refine rn ?_;obtain⟨M4,B3,H⟩:=bS H;refine ct (fun(b3:(List D.Qd)) F w9=>∃ P2 V2,M4=.inl b3∧St w w9 [Box b0 [sl o0 M.Cells r0,sl i0 M.QG j0,sl B0 M.Qu C0] 166,ow z94 P2 b3 V2]∧F=[(3,sl P2 b3 V2),(4,iv Y.1),(5,.pointer (some ⟨b0,0,none⟩)),(24,sl A1 x0.Qc k2),(25,iv (x0.Qc.length:Int)),(26,iv Y.1)]) ?_ ?_
   ·rintro b3 F P5 ⟨P2,V2,F3,m2,rfl⟩;subst F3;rw [z8] at H;unfold z6p at H;refine sq<|sq<|rg<|rr 1 ?_;refine l1 ((m2.bring 0 rfl).box) 2 ?_;refine rr 2 ?_;refine rn ?_;obtain⟨N4,C3,H⟩:=bS H;refine ct (fun(c3:(List D.Qd)) F w9=>∃ R2 X2,N4=.inl c3∧St w w9 [Box b0 [sl o0 M.Cells r0,sl i0 M.QG j0,sl B0 M.Qu C0] 166,ow z94 R2 c3 X2]∧F=[(3,sl R2 c3 X2),(4,iv Y.1),(5,.pointer (some ⟨b0,0,none⟩)),(24,sl A1 x0.Qc k2),(25,iv (x0.Qc.length:Int)),(26,iv Y.1)]) ?_ ?_
    ·rintro c3 F Q5 ⟨R2,X2,G3,n2,rfl⟩;subst G3;rw [z8] at H;unfold z6o at H;refine sq<|rg<|rr 1 ?_;refine l1 ((n2.bring 0 rfl).box) 1 ?_;refine rr 2 ?_;refine rn ?_;obtain⟨S3,t2,H⟩:=bS H;refine ct (fun(d3:(List D.Qd)) F w9=>∃ S2 H0,S3=.inl d3∧St w w9 [Box b0 [sl o0 M.Cells r0,sl i0 M.QG j0,sl B0 M.Qu C0] 166,ow z94 S2 d3 H0]∧F=[(3,sl S2 d3 H0),(24,sl A1 x0.Qc k2),(25,iv (x0.Qc.length:Int)),(26,iv Y.1)]) ?_ ?_
     ·rintro d3 F X4 ⟨S2,H0,u2,J1,rfl⟩;subst u2;rw [z8] at H;unfold z8Y at H;refine rg<|rr 2 ?_;refine rn ?_;cases H;exact⟨_,_,rfl,⟨S2,H0,((J1.bring 1 rfl).taken 1),rfl⟩,rfl⟩
     ·refine bk<|wk [3,4,24,25,26,67,68,69] ?_;refine it (fun(t0:Int × (List D.Qd)) F w9=>∃ u1 J2,St w w9 [Box b0 [sl o0 M.Cells r0,sl i0 M.QG j0,sl B0 M.Qu C0] 166,ow z94 u1 t0.2 J2]∧F=[(3,sl u1 t0.2 J2),(4,iv Y.1),(24,sl A1 x0.Qc k2),(25,iv (x0.Qc.length:Int)),(26,iv Y.1),(67,sl i0 M.QG j0),(68,iv (M.QG.length:Int)),(69,iv t0.1)]) t2 ⟨R2,X2,n2,rfl⟩ ?_;rintro t0 F Y4 _ K2 ⟨u1,J2,d0,rfl⟩ h v2;unfold z2b at h;refine sq<|rg<|rr 1 ?_;refine rn<|sq<|ci h (fun h=>?_) (fun h=>?_)
      ·refine sp<|sq<|bk<|sq<|rg<|rr 1 ?_;obtain⟨q,E2,h⟩:=bS h;refine ix (hE.trans d0.ext) y4 E2 (fun O4 V3 o2 B2=>?_);have n3:=z1n B2;subst n3;refine lN (ax hE d0 o2) ?_;refine nw d0 (fun v1 a5 k4 K1=>?_);refine rr 1 ?_;have L1:=K1.bring 0 rfl;refine so (A:=[]) L1 0 (fun b5 e0=>?_);refine rn<|sq<|rg<|rr 1 ?_;refine l1 ((e0.bring 0 rfl).box) 1 ?_;refine rn<|ct (fun(M0:(List D.Qd)) F w9=>∃ D0 J0,z2a fu t0 M0=some K2∧St w w9 [Box v1 [.bool q.Qa0,.bool q.Qa1,iv q.QV.Qg,iv q.QV.Qj,iv q.QV.Qs] 223,Box b0 [sl o0 M.Cells r0,sl i0 M.QG j0,sl B0 M.Qu C0] 166,ow z94 D0 M0 J0]∧F=[(3,sl D0 M0 J0),(4,iv Y.1),(24,sl A1 x0.Qc k2),(25,iv (x0.Qc.length:Int)),(26,iv Y.1),(67,sl i0 M.QG j0),(68,iv (M.QG.length:Int)),(69,iv t0.1)]) ?_ ?_
       ·rintro M0 F c5 ⟨D0,J0,h,M1,rfl⟩;unfold z2a at h;refine rg<|rr 2 ?_;refine rn ?_;cases h;exact⟨_,_,rfl,⟨D0,J0,(M1.bring 0 rfl).drop,rfl⟩,rfl⟩
       ·refine ci h (fun h=>?_) (fun h=>?_)
        ·refine ct (fun(v0:(List D.Qd)) F w9=>∃ E0 K0,z3v fu t0 v0=some K2∧St w w9 [Box v1 [.bool q.Qa0,.bool q.Qa1,iv q.QV.Qg,iv q.QV.Qj,iv q.QV.Qs] 223,Box b0 [sl o0 M.Cells r0,sl i0 M.QG j0,sl B0 M.Qu C0] 166,ow z94 E0 v0 K0]∧F=[(3,sl E0 v0 K0),(4,iv Y.1),(24,sl A1 x0.Qc k2),(25,iv (x0.Qc.length:Int)),(26,iv Y.1),(67,sl i0 M.QG j0),(68,iv (M.QG.length:Int)),(69,iv t0.1)]) ?_ ?_
         ·rintro v0 F d5 ⟨E0,K0,h,N1,rfl⟩;unfold z3v at h;exact⟨v0,_,⟨E0,K0,h,N1,rfl⟩,rfl⟩
         ·refine dn 1024 mixed 12 [([],4095),([],4095),([],4095),([1,2],4089),([3],4087),([],4095),([5],4063),([6],4031),([4,7],3951),([8],3839),([0,9,3],3582),([10,10,0,1,2,3,4,5,6,7,8,9,10],3070)] e0.ext (fun d=>?_);have Z:=e0.step (Ext.draw _);refine dr 8 d [0,1,2,5] ?_;refine dw [3,4,24,25,26,67,68,69,76,77,78,81] ?_;obtain⟨O,j1,h⟩:=bS h;obtain⟨g1,h⟩:=iS h;refine da d [3,6] (by simp) ?_;intro B4 hi158;simp only [List.mem_cons,List.not_mem_nil,or_false] at hi158
          rcases hi158 with rfl | rfl
          ·refine mc d zg9 (z9Q (hE.trans Z.ext)  j1) (fun R4 e5 C1=>?_);obtain⟨rfl,O0⟩:=C1;refine⟨O0.ext,?_⟩;have U0:=Z.join O0;refine dp d 4 rfl (fun _=>qb) ?_;refine o1 d 6 (mq d rfl (qN (At.sub ((U0.bring 0 rfl).box) 2 3)) ?_);refine dp d 7 rfl (fun _=>qb) ?_;refine dp d 8 rfl (fun _=>qb) ?_;refine o1 d 9 (mn (U0.flatEls (U:=zce) (els:=[iv O.Qg,iv O.Qj,iv O.Qs,iv 0,.bool false,iv q.QV.Qg,iv q.QV.Qj,iv q.QV.Qs,iv 0,.bool false]) (ys:=[(⟨(⟨O,0,false⟩:D.QO),(⟨q.QV,0,false⟩:D.QO)⟩:D.Qd)]) ⟨[iv O.Qg,iv O.Qj,iv O.Qs,iv 0,.bool false,iv q.QV.Qg,iv q.QV.Qj,iv q.QV.Qs,iv 0,.bool false],_,[],[],rfl,rfl,(z6J (c:=(⟨(⟨O,0,false⟩:D.QO),(⟨q.QV,0,false⟩:D.QO)⟩:D.Qd)) rfl),⟨rfl,rfl⟩⟩) d (fun d4 D4 f5 m4 O1=>?_));have V0:=O1.bring 3 rfl;refine o1 d 10 (mp (Flat.map (Flat.pair (Flat.map (Flat.pair (Flat.map fL0) fL1)) (Flat.pair (Flat.map (Flat.pair (Flat.map fL0) fL1)) Flat.unit))) V0 d ((V0.bring 1 rfl).own) g1 (fun e3 L3 g5 P1=>?_));refine dr 0 d [11] ?_;refine dw [3,4,24,25,26,67,68,69] ?_;refine dd d ?_;exact⟨(t0.2++([(⟨(⟨O,0,false⟩:D.QO),(⟨q.QV,0,false⟩:D.QO)⟩:D.Qd)]:(List D.Qd))),_,⟨e3,L3,h,((((P1.bring 0 rfl).bring 3 rfl).bring 3 rfl).taken 3),rfl⟩,rfl⟩
          ·refine mq d rfl (qN (At.sub ((Z.bring 0 rfl).box) 2 3)) ?_;refine dp d 7 rfl (fun _=>qb) ?_;refine o1 d 3 (mc d zg9 (z9Q (hE.trans Z.ext)  j1) (fun S4 i5 D1=>?_));obtain⟨rfl,P0⟩:=D1;refine⟨P0.ext,?_⟩;have Q1:=Z.join P0;refine dp d 4 rfl (fun _=>qb) ?_;refine dp d 8 rfl (fun _=>qb) ?_;refine o1 d 9 (mn (Q1.flatEls (U:=zce) (els:=[iv O.Qg,iv O.Qj,iv O.Qs,iv 0,.bool false,iv q.QV.Qg,iv q.QV.Qj,iv q.QV.Qs,iv 0,.bool false]) (ys:=[(⟨(⟨O,0,false⟩:D.QO),(⟨q.QV,0,false⟩:D.QO)⟩:D.Qd)]) ⟨[iv O.Qg,iv O.Qj,iv O.Qs,iv 0,.bool false,iv q.QV.Qg,iv q.QV.Qj,iv q.QV.Qs,iv 0,.bool false],_,[],[],rfl,rfl,(z6J (c:=(⟨(⟨O,0,false⟩:D.QO),(⟨q.QV,0,false⟩:D.QO)⟩:D.Qd)) rfl),⟨rfl,rfl⟩⟩) d (fun f4 F4 j5 n4 R1=>?_));have X0:=R1.bring 3 rfl;refine o1 d 10 (mp (Flat.map (Flat.pair (Flat.map (Flat.pair (Flat.map fL0) fL1)) (Flat.pair (Flat.map (Flat.pair (Flat.map fL0) fL1)) Flat.unit))) X0 d ((X0.bring 1 rfl).own) g1 (fun f3 M3 k5 S1=>?_));refine dr 0 d [11] ?_;refine dw [3,4,24,25,26,67,68,69] ?_;refine dd d ?_;exact⟨(t0.2++([(⟨(⟨O,0,false⟩:D.QO),(⟨q.QV,0,false⟩:D.QO)⟩:D.Qd)]:(List D.Qd))),_,⟨f3,M3,h,((((S1.bring 0 rfl).bring 3 rfl).bring 3 rfl).taken 3),rfl⟩,rfl⟩
        ·refine sp ?_;exact⟨t0.2,_,⟨u1,J2,h,e0,rfl⟩,rfl⟩
      ·refine xt ?_;cases h;exact⟨_,_,⟨u1,J2,v2,d0,rfl⟩,rfl⟩
    ·refine bk<|wk [3,4,5,24,25,26,49,50,51] ?_;refine it (fun(Y2:Int × (List D.Qd)) F w9=>∃ Q2 W2,St w w9 [Box b0 [sl o0 M.Cells r0,sl i0 M.QG j0,sl B0 M.Qu C0] 166,ow z94 Q2 Y2.2 W2]∧F=[(3,sl Q2 Y2.2 W2),(4,iv Y.1),(5,.pointer (some ⟨b0,0,none⟩)),(24,sl A1 x0.Qc k2),(25,iv (x0.Qc.length:Int)),(26,iv Y.1),(49,sl B0 M.Qu C0),(50,iv (M.Qu.length:Int)),(51,iv Y2.1)]) C3 ⟨P2,V2,m2,rfl⟩ ?_;rintro Y2 F m5 _ K4 ⟨Q2,W2,f0,rfl⟩ X y2;unfold z2c at X;refine sq<|rg<|rr 1 ?_;refine rn<|sq<|ci X (fun X=>?_) (fun X=>?_)
     ·refine sp<|sq<|bk<|sq<|rg ?_;obtain⟨S,F2,X⟩:=bS X;refine ix (hE.trans f0.ext) A4 F2 (fun P4 W3 p2 C2=>?_);have o3:=z2r C2;subst o3;refine lN (ax hE f0 p2) ?_;refine nw f0 (fun t4 n5 o4 U1=>?_);have V1:=U1.bring 0 rfl;refine so (A:=[]) V1 0 (fun o5 p0=>?_);refine rn<|rg<|rr 2 ?_;refine lN (At.sub ((p0.bring 0 rfl).box) 0 3) ?_;refine qt (qb) ?_;refine rr 1 ?_;refine lN (At.sub ((p0.bring 0 rfl).box) 3 3) ?_;refine qt (qb) ?_;refine qt (qb) ?_;refine ns (p0.flatEls (U:=zce) (els:=[iv S.A.Qg,iv S.A.Qj,iv S.A.Qs,iv 0,.bool false,iv S.B.Qg,iv S.B.Qj,iv S.B.Qs,iv 0,.bool false]) (ys:=[(⟨(⟨S.A,0,false⟩:D.QO),(⟨S.B,0,false⟩:D.QO)⟩:D.Qd)]) ⟨[iv S.A.Qg,iv S.A.Qj,iv S.A.Qs,iv 0,.bool false,iv S.B.Qg,iv S.B.Qj,iv S.B.Qs,iv 0,.bool false],_,[],[],rfl,rfl,(z6J (c:=(⟨(⟨S.A,0,false⟩:D.QO),(⟨S.B,0,false⟩:D.QO)⟩:D.Qd)) rfl),⟨rfl,rfl⟩⟩) (fun g4 G4 p5 p4 W1=>?_);have Y0:=W1.bring 3 rfl;obtain⟨r2,X⟩:=iS X;refine ap (Flat.map (Flat.pair (Flat.map (Flat.pair (Flat.map fL0) fL1)) (Flat.pair (Flat.map (Flat.pair (Flat.map fL0) fL1)) Flat.unit))) Y0 ((Y0.bring 1 rfl).own) r2 (fun g3 N3 q5 X1=>?_);refine rr 1 ?_;refine rn<|rg<|rr 2 ?_;refine rn ?_;cases X;exact⟨_,_,rfl,⟨g3,N3,(((X1.bring 0 rfl).bring 3 rfl).taken 2),rfl⟩,rfl⟩
     ·refine xt ?_;cases X;exact⟨_,_,⟨Q2,W2,y2,f0,rfl⟩,rfl⟩
   ·refine bk<|wk [3,4,5,24,25,26,32,33,34] ?_;refine it (fun(p1:Int × (List D.Qd)) F w9=>∃ O2 U2,St w w9 [Box b0 [sl o0 M.Cells r0,sl i0 M.QG j0,sl B0 M.Qu C0] 166,ow z94 O2 p1.2 U2]∧F=[(3,sl O2 p1.2 U2),(4,iv Y.1),(5,.pointer (some ⟨b0,0,none⟩)),(24,sl A1 x0.Qc k2),(25,iv (x0.Qc.length:Int)),(26,iv Y.1),(32,sl o0 M.Cells r0),(33,iv (M.Cells.length:Int)),(34,iv p1.1)]) B3 ⟨t1,H2,j2,rfl⟩ ?_;rintro p1 F r5 _ T3 ⟨O2,U2,g0,rfl⟩ G A2;unfold z2d at G;refine sq<|rg<|rr 1 ?_;refine rn<|sq<|ci G (fun G=>?_) (fun G=>?_)
    ·refine sp<|sq<|bk<|sq<|rg<|rr 1 ?_;obtain⟨y0,G2,G⟩:=bS G;refine ix (hE.trans g0.ext) x4 G2 (fun Q4 X3 q2 D2=>?_);obtain⟨i3,O3,j3,P3,p3,v4,y1⟩:=zq D2;subst p3;refine lN (ax hE g0 q2) ?_;refine nw g0 (fun q3 s5 q4 Y1=>?_);refine rr 1 ?_;have a2:=Y1.bring 0 rfl;refine so (A:=[]) a2 0 (fun t5 a1=>?_);refine rn<|ct (fun(N0:(List D.Qd)) F w9=>∃ F0 L0,z6n fu p1 N0=some T3∧St w w9 [Box q3 [iv y0.Qj,iv y0.QL,iv y0.Value,sl i3 y0.Data O3,sl j3 y0.QX P3] 154,Box b0 [sl o0 M.Cells r0,sl i0 M.QG j0,sl B0 M.Qu C0] 166,ow z94 F0 N0 L0]∧F=[(3,sl F0 N0 L0),(4,iv Y.1),(5,.pointer (some ⟨b0,0,none⟩)),(24,sl A1 x0.Qc k2),(25,iv (x0.Qc.length:Int)),(26,iv Y.1),(32,sl o0 M.Cells r0),(33,iv (M.Cells.length:Int)),(34,iv p1.1)]) ?_ ?_
     ·rintro N0 F u5 ⟨F0,L0,G,d2,rfl⟩;unfold z6n at G;refine rg<|rr 2 ?_;refine rn ?_;cases G;exact⟨_,_,rfl,⟨F0,L0,(d2.bring 0 rfl).drop,rfl⟩,rfl⟩
     ·refine dn 128 mixed 9 [([],511),([],511),([],511),([1,2],505),([],511),([4],495),([3,5,3],471),([0,6,6],446),([7,7,0,1,2,3,4,5,6,7],382)] a1.ext (fun o=>?_);have a0:=a1.step (Ext.draw _);refine dr 5 o [0,1,2,4] ?_;refine dw [3,4,5,24,25,26,32,33,34,39,40,41,43] ?_;obtain⟨L2,m1,G⟩:=bS G;obtain⟨M2,n1,G⟩:=bS G;obtain⟨i1,G⟩:=iS G;refine da o [3,5] (by simp) ?_;intro C4 hi275;simp only [List.mem_cons,List.not_mem_nil,or_false] at hi275
      rcases hi275 with rfl | rfl
      ·refine mc o zga (z9f (hE.trans a0.ext)  m1) (fun T4 v5 E1=>?_);obtain⟨rfl,Q0⟩:=E1;refine⟨Q0.ext,?_⟩;have q0:=a0.join Q0;refine o1 o 5 (mq o rfl (q1 ((q0.bring 0 rfl).box) 4) ?_);refine o1 o 6 (mc o zge (z8t (hE.trans q0.ext) (zO L2) y1 n1) (fun U4 x5 F1=>?_));obtain⟨i4,H4,rfl,R0⟩:=F1;refine⟨R0.ext,?_⟩;have e2:=q0.join R0;have d1:=e2.bring 3 rfl;refine o1 o 7 (mp (Flat.map (Flat.pair (Flat.map (Flat.pair (Flat.map fL0) fL1)) (Flat.pair (Flat.map (Flat.pair (Flat.map fL0) fL1)) Flat.unit))) d1 o ((d1.bring 1 rfl).own) i1 (fun k3 Q3 y5 f2=>?_));refine dr 0 o [8] ?_;refine dw [3,4,5,24,25,26,32,33,34] ?_;refine dd o ?_;exact⟨(p1.2++M2),_,⟨k3,Q3,G,((((f2.bring 0 rfl).bring 3 rfl).bring 3 rfl).taken 3),rfl⟩,rfl⟩
      ·refine mq o rfl (q1 ((a0.bring 0 rfl).box) 4) ?_;refine o1 o 3 (mc o zga (z9f (hE.trans a0.ext)  m1) (fun V4 A5 G1=>?_));obtain⟨rfl,S0⟩:=G1;refine⟨S0.ext,?_⟩;have e1:=a0.join S0;refine o1 o 6 (mc o zge (z8t (hE.trans e1.ext) (zO L2) y1 n1) (fun W4 B5 H1=>?_));obtain⟨j4,J4,rfl,T0⟩:=H1;refine⟨T0.ext,?_⟩;have g2:=e1.join T0;have f1:=g2.bring 3 rfl;refine o1 o 7 (mp (Flat.map (Flat.pair (Flat.map (Flat.pair (Flat.map fL0) fL1)) (Flat.pair (Flat.map (Flat.pair (Flat.map fL0) fL1)) Flat.unit))) f1 o ((f1.bring 1 rfl).own) i1 (fun m3 R3 C5 i2=>?_));refine dr 0 o [8] ?_;refine dw [3,4,5,24,25,26,32,33,34] ?_;refine dd o ?_;exact⟨(p1.2++M2),_,⟨m3,R3,G,((((i2.bring 0 rfl).bring 3 rfl).bring 3 rfl).taken 3),rfl⟩,rfl⟩
    ·refine xt ?_;cases G;exact⟨_,_,⟨O2,U2,A2,g0,rfl⟩,rfl⟩
  ·refine xt ?_;cases H;exact⟨_,_,⟨t1,H2,E3,G0,rfl⟩,rfl⟩

theorem zgb:EN 192:=en Tryz.func192
def z34 (fu:Nat) (x0:D.Qi) (x1:D.Qf) (h:Bool):Option Bool:=(if h=true then some false else((idx x0.Qc x1.Qg).bind fun d=>(if(x1.Qj == 1)=true then(if(decide (x1.Qs<(d.Cells.length:Int)))=true then((idx d.Cells x1.Qs).bind fun o=>some (o.Qj != 0)) else some false) else(if(x1.Qj == 2)=true then(if(decide (x1.Qs<(d.QG.length:Int)))=true then((idx d.QG x1.Qs).bind fun q=>some q.Qa0) else some false) else some false))))
def z3q (fu:Nat) (x0:D.Qi) (x1:D.Qf):Option (Bool):=(if(decide (x1.Qg<0))=true then z34 fu x0 x1 true else(if(decide (x1.Qg≥(x0.Qc.length:Int)))=true then z34 fu x0 x1 true else z34 fu x0 x1 (decide (x1.Qs<0))))

theorem z9S {W w:World}(hE:Ext W w){i0:Addr}{k0:List Value}{x0:D.Qi}{o0:List Value}{x1:D.Qf}(A0:ty37.ro W k0 x0) (p0:At W i0 k0) (B0:ty35.ro W o0 x1){fu:Nat}{r:Bool}(hm:z3q fu x0 x1=some r):
  CL 192 ⟨[.pointer (some i0),.agg ⟨o0⟩]⟩ w (RB w r):=by
 obtain⟨A1,k2,e4,h3⟩:=z4d A0;subst e4;have e5:=z1p B0;subst e5;refine into Tryz.func192 69 _ ?_;unfold z3q at hm;have hS:=St.start w;refine sq<|rg<|nw hS (fun g6 w7 L0 G=>?_);refine rr 1 ?_;refine rn<|sq<|sq<|ct (fun(j0:Bool) F w9=>z34 fu x0 x1 j0=some r∧Ext w7 w9∧St w w9 [Box g6 [iv x1.Qg,iv x1.Qj,iv x1.Qs] 35]∧F=[(0,.pointer (some i0)),(3,.pointer (some ⟨g6,0,none⟩)),(23,.bool j0)]) ?_ ?_
 ·rintro j0 F d1 ⟨hm,E0,q,rfl⟩;unfold z34 at hm;refine ci hm (fun hm=>?_) (fun hm=>?_)
  ·refine sq<|rg<|rr 1 ?_;refine rn<|rt ?_;cases hm;exact⟨_,tR rfl,rfl,(q.taken 0)⟩
  ·refine sp<|sq<|dn 512 mixed 10 [([],1023),([0],1022),([1],1021),([2],1019),([],1023),([4],1007),([3,5],983),([6],959),([],1023),([8,7,0,1,2,3,4,5,6,7,8],639)] q.ext (fun o=>?_);have M:=q.step (Ext.draw _);refine dr 6 o [0,1,2,4] ?_;refine dl o 3 (ax hE q p0) 0 ?_;refine dl o 5 ((q.bring 0 rfl).box) 0 ?_;obtain⟨g1,e0,hm⟩:=bS hm;refine dx (hE.trans q.ext) o 6 h3 e0 (fun X0 u0 X a0=>?_);obtain⟨F0,R0,G0,S0,H0,T0,q0,C0,D0,O0⟩:=zw a0;subst q0;refine dL o 7 (ax hE q X) ?_;refine o1 o 8 (mw o M (fun N0 e1 M0 O=>?_));have S:=O.bring 0 rfl;refine o1 o 9 (ms (A:=[]) S o 0 (fun f1 d=>?_));refine dd o ?_;refine sq<|sq<|rg<|rr 1 ?_;refine l1 ((d.bring 1 rfl).box) 1 ?_;refine rn<|bk<|sq<|rg<|rr 2 ?_;refine rn<|ci hm (fun hm=>?_) (fun hm=>?_)
   ·refine sq<|rg<|rr 1 ?_;refine l1 ((d.bring 1 rfl).box) 2 ?_;refine rr 1 ?_;refine l1 ((d.bring 0 rfl).box) 0 ?_;refine rr 3 ?_;refine rb 42 hm (fun hm=>?_) (fun hm=>?_)
    ·refine rr 1 ?_;refine l1 ((d.bring 0 rfl).box) 0 ?_;refine rr 1 ?_;refine l1 ((d.bring 1 rfl).box) 2 ?_;obtain⟨i1,f0,hm⟩:=bS hm;refine ix (hE.trans d.ext) C0 f0 (fun Y0 v0 Y b0=>?_);obtain⟨J0,U0,K0,V0,r0,P0,Q0⟩:=zq b0;subst r0;refine rr 1 ?_;refine l1 (ax hE d Y) 0 ?_;refine rr 3 ?_;refine rn<|rt ?_;cases hm;exact⟨_,tR rfl,rfl,(d.taken 0)⟩
    ·refine rr 10 ?_;refine rn<|rt ?_;cases hm;exact⟨_,tR rfl,rfl,(d.taken 0)⟩
   ·refine sq<|rg<|rr 2 ?_;refine rn<|ci hm (fun hm=>?_) (fun hm=>?_)
    ·refine sq<|rg<|rr 1 ?_;refine l1 ((d.bring 1 rfl).box) 2 ?_;refine rr 1 ?_;refine l1 ((d.bring 0 rfl).box) 1 ?_;refine rr 3 ?_;refine rb 60 hm (fun hm=>?_) (fun hm=>?_)
     ·refine rr 1 ?_;refine l1 ((d.bring 0 rfl).box) 1 ?_;refine rr 1 ?_;refine l1 ((d.bring 1 rfl).box) 2 ?_;obtain⟨j1,g0,hm⟩:=bS hm;refine ix (hE.trans d.ext) D0 g0 (fun a1 y0 Z d0=>?_);have t0:=z1n d0;subst t0;refine rr 1 ?_;refine l1 (ax hE d Z) 0 ?_;refine rr 2 ?_;refine rn<|rt ?_;cases hm;exact⟨_,tR rfl,rfl,(d.taken 0)⟩
     ·refine rr 9 ?_;refine rn<|rt ?_;cases hm;exact⟨_,tR rfl,rfl,(d.taken 0)⟩
    ·refine sp<|sq<|rg<|rr 1 ?_;refine rn<|rt ?_;cases hm;exact⟨_,tR rfl,rfl,(d.taken 0)⟩
 ·refine dn 0 mixed 18 [([],262143),([0],262142),([1],262141),([2],262139),([3],262135),([4,3],262119),([3],262135),([6,3],262071),([7,3],262007),([8,3],261879),([9,3],261623),([5,10,3],261079),([3,11],260087),([12,3],258047),([13],253951),([14,13],237567),([15,13],221183),([13,16],188415)] G.ext (fun h=>?_);have H:=G.step (Ext.draw _);refine dr 17 h [0] ?_;refine dl h 1 ((G.bring 0 rfl).box) 0 ?_;refine dr 14 h [2,3] ?_;refine db 9 hm (fun hm=>?_) (fun hm=>?_)
  ·refine dr 0 h [4,5,6,7,8,9,10,11,12,13,14,15,16,17] ?_;refine dw [0,3,23] ?_;refine dd h ?_;exact⟨true,_,⟨hm,(Ext.draw _),H,rfl⟩,rfl⟩
  ·refine dr 10 h [4,6,7,8] ?_;refine dw [0,3,9,10,14] ?_;refine dl h 5 ((G.bring 0 rfl).box) 0 ?_;refine dl h 9 (ax hE G p0) 0 ?_;refine dr 4 h [10,11,12,13] ?_;refine dw [0,3,19] ?_;refine db 19 hm (fun hm=>?_) (fun hm=>?_)
   ·refine dr 0 h [14,15,16,17] ?_;refine dd h ?_;exact⟨true,_,⟨hm,(Ext.draw _),H,rfl⟩,rfl⟩
   ·refine dr 3 h [14] ?_;refine dl h 15 ((G.bring 0 rfl).box) 2 ?_;refine dr 0 h [16,17] ?_;refine dd h ?_;exact⟨decide (x1.Qs<0),_,⟨hm,(Ext.draw _),H,rfl⟩,rfl⟩

theorem znN:EN 193:=en Tryz.func193
def zcP (fu:Nat) (t6:(List (D.Qf × Int))):Option (List (D.Qf × Int)):=some t6
def zcO (fu:Nat) (s5:Int × (List (D.Qf × Int))) (d:(List (D.Qf × Int))):Option (Rd (Int × (List (D.Qf × Int))) ((List (D.Qf × Int))) ((List (D.Qf × Int)))):=some (.next (w64 (s5.1+1),d))
def z8k (fu:Nat) (d:Int × (List (D.Qf × Int))) (h:(List (D.Qf × Int))):Option (Rd (Int × (List (D.Qf × Int))) ((List (D.Qf × Int))) (Rd (Int × (List (D.Qf × Int))) ((List (D.Qf × Int))) ((List (D.Qf × Int))))):=some (.next (w64 (d.1+1),h))
def z9O (fu:Nat) (d:Int × (List (D.Qf × Int))) (h:(List (D.Qf × Int))):Option (Rd (Int × (List (D.Qf × Int))) ((List (D.Qf × Int))) (Rd (Int × (List (D.Qf × Int))) ((List (D.Qf × Int))) ((List (D.Qf × Int))))):=z8k fu d h
def z29 (fu:Nat) (h:D.Qd) (d:Int × (List (D.Qf × Int))):Option (Rd (Int × (List (D.Qf × Int))) ((List (D.Qf × Int))) (Rd (Int × (List (D.Qf × Int))) ((List (D.Qf × Int))) ((List (D.Qf × Int))))):=(if(decide (d.1<(([h.a,h.b]:(List D.QO)).length:Int)))=true then((idx ([h.a,h.b]:(List D.QO)) d.1).bind fun o=>(if(!o.own)=true then z9O fu d (mput d.2 o.at_ (w64 (((mget d.2 o.at_).getD (0:Int))+1))) else z8k fu d d.2)) else some (.brk d.2))
def z8m (fu:Nat) (x0:(List D.Qd)) (s5:Int × (List (D.Qf × Int))):Option (Rd (Int × (List (D.Qf × Int))) ((List (D.Qf × Int))) ((List (D.Qf × Int)))):=(if(decide (s5.1<(x0.length:Int)))=true then((idx x0 s5.1).bind fun d=>((iter (z29 fu d) fu (0,s5.2)).bind fun o=>aft o (zcO fu s5))) else some (.brk s5.2))
def zaw (fu:Nat) (x0:(List D.Qd)):Option ((List (D.Qf × Int))):=((iter (z8m fu x0) fu (0,([]:(List (D.Qf × Int))))).bind fun o=>aft o (zcP fu))

theorem zhD {W w:World}(hE:Ext W w){S:Option Addr}{b0:Nat}{x0:(List D.Qd)}(f1:z94.ro W [sl S x0 b0] x0){fu:Nat}{r:(List (D.Qf × Int))}(hm:zaw fu x0=some r):
  CL 193 ⟨[sl S x0 b0]⟩ w (Ret fun v w8=>∃ A0,v=.map (some A0)∧St w w8 [Own zdi [.map (some A0)] r]):=by
 refine into Tryz.func193 38 _ ?_;unfold zaw at hm;have hS:=St.start w;refine sq<|rg<|rr 1 ?_;refine rn<|sq<|rg<|rMakeMap zoC (Value.int .i64) hS (fun g1 w2 e3 i1=>?_);refine rr 1 ?_;refine rn<|sq<|sq<|rg<|rr 3 ?_;refine rn ?_;obtain⟨j1,J0,hm⟩:=bS hm;refine ct (fun(t6:(List (D.Qf × Int))) F w9=>j1=.inl t6∧St w w9 [Own zdi [.map (some g1)] t6]∧F=[(3,.map (some g1))]) ?_ ?_
 ·rintro t6 F D1 ⟨L0,i0,rfl⟩;subst L0;rw [z8] at hm;unfold zcP at hm;refine sq<|rg<|rr 2 ?_;refine rn<|rt ?_;cases hm;exact⟨_,tR rfl,g1,rfl,i0⟩
 ·refine bk<|wk [3,9,10,11] ?_;refine it (fun(s5:Int × (List (D.Qf × Int))) F w9=>St w w9 [Own zdi [.map (some g1)] s5.2]∧F=[(3,.map (some g1)),(9,sl S x0 b0),(10,iv (x0.length:Int)),(11,iv s5.1)]) J0 ⟨i1,rfl⟩ ?_;rintro s5 F E1 _ A1 ⟨O,rfl⟩ q M0;unfold z8m at q;refine sq<|rg<|rr 1 ?_;refine rn<|sq<|ci q (fun q=>?_) (fun q=>?_)
  ·refine sp<|sq<|bk<|sq<|rg ?_;obtain⟨d,R0,q⟩:=bS q;refine ix (hE.trans O.ext) f1 R0 (fun B1 d1 G0 P0=>?_);have Y0:=zgU P0;subst Y0;refine lN (ax hE O G0) ?_;refine nw O (fun f0 F1 t1 j0=>?_);have k0:=j0.bring 0 rfl;refine so (A:=[]) k0 0 (fun G1 Y=>?_);refine rn<|sq<|rg<|rr 1 ?_;refine lN (At.sub ((Y.bring 0 rfl).box) 0 5) ?_;refine rr 1 ?_;refine lN (At.sub ((Y.bring 0 rfl).box) 5 5) ?_;refine ns (Y.flatEls (U:=zfA) (els:=[iv d.a.at_.Qg,iv d.a.at_.Qj,iv d.a.at_.Qs,iv d.a.slot,.bool d.a.own,iv d.b.at_.Qg,iv d.b.at_.Qj,iv d.b.at_.Qs,iv d.b.slot,.bool d.b.own]) (ys:=[d.a,d.b]) ⟨[iv d.a.at_.Qg,iv d.a.at_.Qj,iv d.a.at_.Qs,iv d.a.slot,.bool d.a.own],_,[],[],rfl,rfl,(zd7 (c:=d.a) rfl),⟨[iv d.b.at_.Qg,iv d.b.at_.Qj,iv d.b.at_.Qs,iv d.b.slot,.bool d.b.own],_,[],[],rfl,rfl,(zd7 (c:=d.b) rfl),⟨rfl,rfl⟩⟩⟩) (fun X d0 H1 u1 o0=>?_);refine rr 2 ?_;refine rn ?_;obtain⟨m1,K0,q⟩:=bS q;refine ct (fun(T0:(List (D.Qf × Int))) F w9=>m1=.inl T0∧St w w9 [ow zmg X ([d.a,d.b]:(List D.QO)) d0,Box f0 [iv d.a.at_.Qg,iv d.a.at_.Qj,iv d.a.at_.Qs,iv d.a.slot,.bool d.a.own,iv d.b.at_.Qg,iv d.b.at_.Qj,iv d.b.at_.Qs,iv d.b.slot,.bool d.b.own] 171,Own zdi [.map (some g1)] T0]∧F=[(3,.map (some g1)),(9,sl S x0 b0),(10,iv (x0.length:Int)),(11,iv s5.1)]) ?_ ?_
   ·rintro T0 F J1 ⟨N0,p0,rfl⟩;subst N0;rw [z8] at q;unfold zcO at q;refine rg<|rr 2 ?_;refine rn ?_;cases q;exact⟨_,_,rfl,⟨((p0.bring 2 rfl).taken 1),rfl⟩,rfl⟩
   ·refine bk<|wk [3,9,10,11,19,20,21] ?_;refine it (fun(H:Int × (List (D.Qf × Int))) F w9=>St w w9 [ow zmg X ([d.a,d.b]:(List D.QO)) d0,Box f0 [iv d.a.at_.Qg,iv d.a.at_.Qj,iv d.a.at_.Qs,iv d.a.slot,.bool d.a.own,iv d.b.at_.Qg,iv d.b.at_.Qj,iv d.b.at_.Qs,iv d.b.slot,.bool d.b.own] 171,Own zdi [.map (some g1)] H.2]∧F=[(3,.map (some g1)),(9,sl S x0 b0),(10,iv (x0.length:Int)),(11,iv s5.1),(19,sl X ([d.a,d.b]:(List D.QO)) d0),(20,iv (([d.a,d.b]:(List D.QO)).length:Int)),(21,iv H.1)]) K0 ⟨o0,rfl⟩ ?_;rintro H F K1 _ X0 ⟨Z,rfl⟩ h O0;unfold z29 at h;refine sq<|rg<|rr 1 ?_;refine rn<|sq<|ci h (fun h=>?_) (fun h=>?_)
    ·refine sp<|sq<|bk<|sq<|rg ?_;obtain⟨G,S0,h⟩:=bS h;refine ix (Ext.refl _) ((Z.bring 0 rfl).own) S0 (fun C1 e1 H0 Q0=>?_);have a1:=zep Q0;subst a1;refine lN H0 ?_;refine nw Z (fun V0 L1 v1 q0=>?_);have r0:=q0.bring 0 rfl;refine so (A:=[]) r0 0 (fun M1 M=>?_);refine rn<|sq<|rg<|rr 1 ?_;refine l1 ((M.bring 0 rfl).box) 4 ?_;refine rr 1 ?_;refine rn<|ct (fun(U0:(List (D.Qf × Int))) F w9=>z8k fu H U0=some X0∧St w w9 [Box V0 [iv G.at_.Qg,iv G.at_.Qj,iv G.at_.Qs,iv G.slot,.bool G.own] 169,ow zmg X ([d.a,d.b]:(List D.QO)) d0,Box f0 [iv d.a.at_.Qg,iv d.a.at_.Qj,iv d.a.at_.Qs,iv d.a.slot,.bool d.a.own,iv d.b.at_.Qg,iv d.b.at_.Qj,iv d.b.at_.Qs,iv d.b.slot,.bool d.b.own] 171,Own zdi [.map (some g1)] U0]∧F=[(3,.map (some g1)),(9,sl S x0 b0),(10,iv (x0.length:Int)),(11,iv s5.1),(19,sl X ([d.a,d.b]:(List D.QO)) d0),(20,iv (([d.a,d.b]:(List D.QO)).length:Int)),(21,iv H.1)]) ?_ ?_
     ·rintro U0 F N1 ⟨h,t0,rfl⟩;unfold z8k at h;refine rg<|rr 2 ?_;refine rn ?_;cases h;exact⟨_,_,rfl,⟨(t0.bring 0 rfl).drop,rfl⟩,rfl⟩
     ·refine ci h (fun h=>?_) (fun h=>?_)
      ·refine ct (fun(g0:(List (D.Qf × Int))) F w9=>z9O fu H g0=some X0∧St w w9 [Box V0 [iv G.at_.Qg,iv G.at_.Qj,iv G.at_.Qs,iv G.slot,.bool G.own] 169,ow zmg X ([d.a,d.b]:(List D.QO)) d0,Box f0 [iv d.a.at_.Qg,iv d.a.at_.Qj,iv d.a.at_.Qs,iv d.a.slot,.bool d.a.own,iv d.b.at_.Qg,iv d.b.at_.Qj,iv d.b.at_.Qs,iv d.b.slot,.bool d.b.own] 171,Own zdi [.map (some g1)] g0]∧F=[(3,.map (some g1)),(9,sl S x0 b0),(10,iv (x0.length:Int)),(11,iv s5.1),(19,sl X ([d.a,d.b]:(List D.QO)) d0),(20,iv (([d.a,d.b]:(List D.QO)).length:Int)),(21,iv H.1)]) ?_ ?_
       ·rintro g0 F O1 ⟨h,u0,rfl⟩;unfold z9O at h;exact⟨g0,_,⟨h,u0,rfl⟩,rfl⟩
       ·refine dn 160 mixed 8 [([],255),([],255),([1],253),([0,2],250),([3],247),([0,2,0,1,2],250),([5],223),([0,6,4,5,0,1,2,3,4,5,6],174)] M.ext (fun o=>?_);have a0:=M.step (Ext.draw _);refine dr 6 o [0,1] ?_;refine dw [3,9,10,11,19,20,21,28,29] ?_;refine dL o 2 (At.sub ((M.bring 0 rfl).box) 0 3) ?_;refine da o [3,5] (by simp) ?_;intro y1 hi85;simp only [List.mem_cons,List.not_mem_nil,or_false] at hi85
        rcases hi85 with rfl | rfl
        ·refine mq o rfl ((Quiet.lookup zdc (kk:=G.at_) ((a0.bring 3 rfl).own) rfl rfl rfl).later (Ext.refl _)) ?_;refine dr 3 o [4] ?_;have y0:=a0.bring 3 rfl;refine o1 o 5 (lMapEntry (kk:=G.at_) zdc y0 o (fun n1 P1 v0=>?_));refine dr 1 o [6] ?_;have C0:=v0.bring 0 rfl;refine o1 o 7 (lEntryStore (v:=(w64 (((mget H.2 G.at_).getD (0:Int))+1))) C0 o (fun Q1 B0=>?_));refine dd o ?_;exact⟨(mput H.2 G.at_ (w64 (((mget H.2 G.at_).getD (0:Int))+1))),_,⟨h,((((B0.bring 0 rfl).bring 3 rfl).bring 3 rfl).bring 3 rfl),rfl⟩,rfl⟩
        ·have D0:=a0.bring 3 rfl;refine lMapEntry (kk:=G.at_) zdc D0 o (fun p1 R1 e0=>?_);refine dr 3 o [6] ?_;refine o1 o 3 (mq o rfl (Quiet.lookupO zdc (e0.bring 0 rfl) rfl rfl rfl) ?_);refine dr 1 o [4] ?_;have F0:=e0.bring 0 rfl;refine o1 o 7 (lEntryStore (v:=(w64 (((mget H.2 G.at_).getD (0:Int))+1))) F0 o (fun S1 E0=>?_));refine dd o ?_;exact⟨(mput H.2 G.at_ (w64 (((mget H.2 G.at_).getD (0:Int))+1))),_,⟨h,((((E0.bring 0 rfl).bring 3 rfl).bring 3 rfl).bring 3 rfl),rfl⟩,rfl⟩
      ·refine sp ?_;exact⟨H.2,_,⟨h,M,rfl⟩,rfl⟩
    ·refine xt ?_;cases h;exact⟨_,_,⟨O0,Z,rfl⟩,rfl⟩
  ·refine xt ?_;cases q;exact⟨_,_,⟨M0,O,rfl⟩,rfl⟩

theorem zof:EN 137:=en Tryz.func137
def z91 (fu:Nat) (d:Unit):Option Bool:=some true
def z90 (fu:Nat) (d:Int) (h:Unit):Option (Rd (Int) (Unit) (Bool)):=some (.next (w64 (d+1)))
def z2f (fu:Nat) (d:Int) (h:Bool):Option (Rd (Int) (Unit) (Rd (Int) (Unit) (Bool))):=(if h=true then some (.ret (.ret false)) else some (.next (w64 (d+1))))
def z2g (fu:Nat) (q:(List (D.Qf × Int))) (G:Int) (o:D.Qp) (d:Int):Option (Rd (Int) (Unit) (Rd (Int) (Unit) (Bool))):=(if(decide (d<(o.QG.length:Int)))=true then((idx o.QG d).bind fun H=>(if H.Qa0=true then((z4R fu G d).bind fun h=>z2f fu d (((mget q h).getD (0:Int)) != 2)) else z2f fu d false)) else some (.brk ()))
def z6q (fu:Nat) (h:(List (D.Qf × Int))) (d:Int) (q:D.Qp) (G:Unit):Option (Rd (Int) (Unit) (Bool)):=((iter (z2g fu h d q) fu 0).bind fun o=>aft o (z90 fu d))
def z2e (fu:Nat) (h:Int) (d:Bool):Option (Rd (Int) (Unit) (Rd (Int) (Unit) (Bool))):=(if d=true then some (.ret (.ret false)) else some (.next (w64 (h+1))))
def z2h (fu:Nat) (G:(List (D.Qf × Int))) (H:Int) (q:D.Qp) (d:Int):Option (Rd (Int) (Unit) (Rd (Int) (Unit) (Bool))):=(if(decide (d<(q.Cells.length:Int)))=true then((idx q.Cells d).bind fun o=>(if(o.Qj != 0)=true then((z46 fu H d).bind fun h=>z2e fu d (((mget G h).getD (0:Int)) != 1)) else z2e fu d false)) else some (.brk ()))
def z2i (fu:Nat) (x0:D.Qi) (h:(List (D.Qf × Int))) (d:Int):Option (Rd (Int) (Unit) (Bool)):=(if(decide (d<(x0.Qc.length:Int)))=true then((idx x0.Qc d).bind fun q=>((iter (z2h fu h d q) fu 0).bind fun o=>aft o (z6q fu h d q))) else some (.brk ()))
def z6r (fu:Nat) (x0:D.Qi) (x1:(List D.Qd)) (t6:Unit):Option Bool:=((zaw fu x1).bind fun d=>((iter (z2i fu x0 d) fu 0).bind fun o=>aft o (z91 fu)))
def zK (fu:Nat) (s5:Int) (d:Bool):Option (Rd (Int) (Unit) (Bool)):=(if d=true then some (.ret false) else some (.next (w64 (s5+1))))
def z2j (fu:Nat) (x0:D.Qi) (x1:(List D.Qd)) (s5:Int):Option (Rd (Int) (Unit) (Bool)):=(if(decide (s5<(x1.length:Int)))=true then((idx x1 s5).bind fun d=>(if(!d.a.own)=true then((z3q fu x0 d.a.at_).bind fun h=>(if(!h)=true then zK fu s5 true else(if(!d.b.own)=true then((z3q fu x0 d.b.at_).bind fun o=>zK fu s5 (!o)) else zK fu s5 false))) else(if(!d.b.own)=true then((z3q fu x0 d.b.at_).bind fun q=>zK fu s5 (!q)) else zK fu s5 false))) else some (.brk ()))
def z3g (fu:Nat) (x0:D.Qi) (x1:(List D.Qd)):Option (Bool):=((iter (z2j fu x0 x1) fu 0).bind fun o=>aft o (z6r fu x0 x1))

theorem zco {W w:World}(hE:Ext W w){E1:Addr}{K2:List Value}{x0:D.Qi}{F0:Option Addr}{H0:Nat}{x1:(List D.Qd)}(K1:ty37.ro W K2 x0) (J1:At W E1 K2) (N2:z94.ro W [sl F0 x1 H0] x1){fu:Nat}{r:Bool}(hm:z3g fu x0 x1=some r):
  CL 137 ⟨[.pointer (some E1),sl F0 x1 H0]⟩ w (RB w r):=by
 obtain⟨A1,k2,e4,h3⟩:=z4d K1;subst e4;refine into Tryz.func137 99 _ ?_;unfold z3g at hm;have hS:=St.start w;refine sq<|rg<|rr 1 ?_;refine rn<|sq<|sq<|rg<|rr 3 ?_;refine rn ?_;obtain⟨g3,g2,hm⟩:=bS hm;refine ct (fun(t6:Unit) F w9=>g3=.inl t6∧St w w9 []∧F=[(0,.pointer (some E1)),(1,sl F0 x1 H0)]) ?_ ?_
 ·rintro t6 F S3 ⟨n2,T0,rfl⟩;subst n2;rw [z8] at hm;unfold z6r at hm;refine sq<|rg<|rr 1 ?_;obtain⟨e0,u2,hm⟩:=bS hm;refine ca znN (zhD (hE.trans T0.ext) N2 u2) (fun R3 T3 T1=>?_);obtain⟨S,rfl,U1⟩:=T1;have d1:=T0.join U1;refine rr 1 ?_;refine rn<|sq<|sq<|rg<|rr 3 ?_;refine l1 (ax hE d1 J1) 0 ?_;refine rr 2 ?_;refine rn ?_;obtain⟨i3,i2,hm⟩:=bS hm;refine ct (fun(Q2:Unit) F w9=>i3=.inl Q2∧St w w9 [Own zdi [.map (some S)] e0]∧F=[]) ?_ ?_
  ·rintro Q2 F U3 ⟨o2,V1,rfl⟩;subst o2;rw [z8] at hm;unfold z91 at hm;refine sq<|rg<|rr 1 ?_;refine rn<|rt ?_;cases hm;exact⟨_,tR rfl,rfl,(V1.taken 0)⟩
  ·refine bk<|wk [7,52,53,54] ?_;refine it (fun(b0:Int) F w9=>St w w9 [Own zdi [.map (some S)] e0]∧F=[(7,.map (some S)),(52,sl A1 x0.Qc k2),(53,iv (x0.Qc.length:Int)),(54,iv b0)]) i2 ⟨d1,rfl⟩ ?_;rintro b0 F V3 _ O3 ⟨g0,rfl⟩ o G0;unfold z2i at o;refine sq<|rg<|rr 1 ?_;refine rn<|sq<|ci o (fun o=>?_) (fun o=>?_)
   ·refine sp<|sq<|bk<|sq<|rg<|rr 1 ?_;obtain⟨M,v2,o⟩:=bS o;refine ix (hE.trans g0.ext) h3 v2 (fun P3 X2 e2 r2=>?_);obtain⟨k0,D0,o0,E0,L0,M0,V2,d3,e3,N3⟩:=zw r2;subst V2;refine lN (ax hE g0 e2) ?_;refine nw g0 (fun f0 W3 L3 W1=>?_);refine rr 1 ?_;have X1:=W1.bring 0 rfl;refine so (A:=[]) X1 0 (fun X3 e1=>?_);refine rn<|sq<|sq<|rg<|rr 1 ?_;refine l1 ((e1.bring 0 rfl).box) 0 ?_;refine rr 2 ?_;refine rn ?_;obtain⟨j3,j2,o⟩:=bS o;refine ct (fun(R2:Unit) F w9=>j3=.inl R2∧St w w9 [Box f0 [sl k0 M.Cells D0,sl o0 M.QG E0,sl L0 M.Qu M0] 166,Own zdi [.map (some S)] e0]∧F=[(7,.map (some S)),(8,iv b0),(9,.pointer (some ⟨f0,0,none⟩)),(52,sl A1 x0.Qc k2),(53,iv (x0.Qc.length:Int)),(54,iv b0)]) ?_ ?_
    ·rintro R2 F Y3 ⟨p2,f1,rfl⟩;subst p2;rw [z8] at o;unfold z6q at o;refine sq<|rg<|rr 1 ?_;refine l1 ((f1.bring 0 rfl).box) 1 ?_;refine rr 2 ?_;refine rn ?_;obtain⟨k3,m2,o⟩:=bS o;refine ct (fun(S2:Unit) F w9=>k3=.inl S2∧St w w9 [Box f0 [sl k0 M.Cells D0,sl o0 M.QG E0,sl L0 M.Qu M0] 166,Own zdi [.map (some S)] e0]∧F=[(7,.map (some S)),(52,sl A1 x0.Qc k2),(53,iv (x0.Qc.length:Int)),(54,iv b0)]) ?_ ?_
     ·rintro S2 F a4 ⟨q2,Y1,rfl⟩;subst q2;rw [z8] at o;unfold z90 at o;refine rg<|rr 2 ?_;refine rn ?_;cases o;exact⟨_,_,rfl,⟨((Y1.bring 1 rfl).taken 1),rfl⟩,rfl⟩
     ·refine bk<|wk [7,8,52,53,54,80,81,82] ?_;refine it (fun(M1:Int) F w9=>St w w9 [Box f0 [sl k0 M.Cells D0,sl o0 M.QG E0,sl L0 M.Qu M0] 166,Own zdi [.map (some S)] e0]∧F=[(7,.map (some S)),(8,iv b0),(52,sl A1 x0.Qc k2),(53,iv (x0.Qc.length:Int)),(54,iv b0),(80,sl o0 M.QG E0),(81,iv (M.QG.length:Int)),(82,iv M1)]) m2 ⟨f1,rfl⟩ ?_;rintro M1 F b4 _ m3 ⟨i0,rfl⟩ q m1;unfold z2g at q;refine sq<|rg<|rr 1 ?_;refine rn<|sq<|ci q (fun q=>?_) (fun q=>?_)
      ·refine sp<|sq<|bk<|sq<|rg<|rr 1 ?_;obtain⟨H1,y2,q⟩:=bS q;refine ix (hE.trans i0.ext) e3 y2 (fun Q3 Y2 f2 t2=>?_);have W2:=z1n t2;subst W2;refine lN (ax hE i0 f2) ?_;refine nw i0 (fun a3 c4 M3 a2=>?_);refine rr 1 ?_;have d2:=a2.bring 0 rfl;refine so (A:=[]) d2 0 (fun K3 j0=>?_);refine rn<|sq<|ct (fun(G2:Bool) F w9=>z2f fu M1 G2=some m3∧Ext K3 w9∧St w w9 [Box a3 [.bool H1.Qa0,.bool H1.Qa1,iv H1.QV.Qg,iv H1.QV.Qj,iv H1.QV.Qs] 223,Box f0 [sl k0 M.Cells D0,sl o0 M.QG E0,sl L0 M.Qu M0] 166,Own zdi [.map (some S)] e0]∧F=[(7,.map (some S)),(8,iv b0),(52,sl A1 x0.Qc k2),(53,iv (x0.Qc.length:Int)),(54,iv b0),(80,sl o0 M.QG E0),(81,iv (M.QG.length:Int)),(82,iv M1),(96,.bool G2)]) ?_ ?_
       ·rintro G2 F d4 ⟨q,f3,g1,rfl⟩;unfold z2f at q;refine ci q (fun q=>?_) (fun q=>?_)
        ·refine sq<|rg<|rr 1 ?_;refine rn<|rt ?_;cases q;cases m1;have o:some _=some _:=o;cases o;cases G0;have hm:some _=some _:=hm;cases hm;exact⟨_,tR rfl,rfl,(g1.taken 0)⟩
        ·refine sp<|rg<|rr 2 ?_;refine rn ?_;cases q;exact⟨_,_,rfl,⟨(g1.bring 0 rfl).drop,rfl⟩,rfl⟩
       ·refine rg<|rr 1 ?_;refine l1 ((j0.bring 0 rfl).box) 0 ?_;refine rr 1 ?_;refine rb 89 q (fun q=>?_) (fun q=>?_)
        ·refine rr 3 ?_;obtain⟨F1,t1,q⟩:=bS q;refine ca zg9 (z9Q (hE.trans j0.ext)  t1) (fun q3 v3 N0=>?_);obtain⟨rfl,p0⟩:=N0;have u0:=j0.join p0;refine qt ((Quiet.lookup zdc (kk:=F1) ((u0.bring 2 rfl).own) rfl rfl rfl).later (Ext.refl _)) ?_;refine rr 2 ?_;refine rn ?_;exact⟨(((mget e0 F1).getD (0:Int)) != 2),_,⟨q,p0.ext,u0,rfl⟩,rfl⟩
        ·refine rr 7 ?_;refine rn ?_;exact⟨false,_,⟨q,(Ext.refl _),j0,rfl⟩,rfl⟩
      ·refine xt ?_;cases q;exact⟨_,_,⟨m1,i0,rfl⟩,rfl⟩
    ·refine bk<|wk [7,8,9,52,53,54,60,61,62] ?_;refine it (fun(L1:Int) F w9=>St w w9 [Box f0 [sl k0 M.Cells D0,sl o0 M.QG E0,sl L0 M.Qu M0] 166,Own zdi [.map (some S)] e0]∧F=[(7,.map (some S)),(8,iv b0),(9,.pointer (some ⟨f0,0,none⟩)),(52,sl A1 x0.Qc k2),(53,iv (x0.Qc.length:Int)),(54,iv b0),(60,sl k0 M.Cells D0),(61,iv (M.Cells.length:Int)),(62,iv L1)]) j2 ⟨e1,rfl⟩ ?_;rintro L1 F y3 _ C2 ⟨Y,rfl⟩ h B0;unfold z2h at h;refine sq<|rg<|rr 1 ?_;refine rn<|sq<|ci h (fun h=>?_) (fun h=>?_)
     ·refine sp<|sq<|bk<|sq<|rg<|rr 1 ?_;obtain⟨d0,u1,h⟩:=bS h;refine ix (hE.trans Y.ext) d3 u1 (fun n3 L2 i1 n1=>?_);obtain⟨N1,A2,O1,B2,P1,b3,c3⟩:=zq n1;subst P1;refine lN (ax hE Y i1) ?_;refine nw Y (fun R1 A3 T2 S0=>?_);refine rr 1 ?_;have U0:=S0.bring 0 rfl;refine so (A:=[]) U0 0 (fun H2 Z=>?_);refine rn<|sq<|ct (fun(J0:Bool) F w9=>z2e fu L1 J0=some C2∧Ext H2 w9∧St w w9 [Box R1 [iv d0.Qj,iv d0.QL,iv d0.Value,sl N1 d0.Data A2,sl O1 d0.QX B2] 154,Box f0 [sl k0 M.Cells D0,sl o0 M.QG E0,sl L0 M.Qu M0] 166,Own zdi [.map (some S)] e0]∧F=[(7,.map (some S)),(8,iv b0),(9,.pointer (some ⟨f0,0,none⟩)),(52,sl A1 x0.Qc k2),(53,iv (x0.Qc.length:Int)),(54,iv b0),(60,sl k0 M.Cells D0),(61,iv (M.Cells.length:Int)),(62,iv L1),(77,.bool J0)]) ?_ ?_
      ·rintro J0 F B3 ⟨h,O2,v0,rfl⟩;unfold z2e at h;refine ci h (fun h=>?_) (fun h=>?_)
       ·refine sq<|rg<|rr 1 ?_;refine rn<|rt ?_;cases h;cases B0;have o:some _=some _:=o;cases o;cases G0;have hm:some _=some _:=hm;cases hm;exact⟨_,tR rfl,rfl,(v0.taken 0)⟩
       ·refine sp<|rg<|rr 2 ?_;refine rn ?_;cases h;exact⟨_,_,rfl,⟨(v0.bring 0 rfl).drop,rfl⟩,rfl⟩
      ·refine rg<|rr 1 ?_;refine l1 ((Z.bring 0 rfl).box) 0 ?_;refine rr 2 ?_;refine rb 70 h (fun h=>?_) (fun h=>?_)
       ·refine rr 3 ?_;obtain⟨G1,v1,h⟩:=bS h;refine ca zga (z9f (hE.trans Z.ext)  v1) (fun r3 C3 O0=>?_);obtain⟨rfl,q0⟩:=O0;have y0:=Z.join q0;refine qt ((Quiet.lookup zdc (kk:=G1) ((y0.bring 2 rfl).own) rfl rfl rfl).later (Ext.refl _)) ?_;refine rr 2 ?_;refine rn ?_;exact⟨(((mget e0 G1).getD (0:Int)) != 1),_,⟨h,q0.ext,y0,rfl⟩,rfl⟩
       ·refine rr 7 ?_;refine rn ?_;exact⟨false,_,⟨h,(Ext.refl _),Z,rfl⟩,rfl⟩
     ·refine xt ?_;cases h;exact⟨_,_,⟨B0,Y,rfl⟩,rfl⟩
   ·refine xt ?_;cases o;exact⟨_,_,⟨G0,g0,rfl⟩,rfl⟩
 ·refine bk<|wk [0,1,14,15,16] ?_;refine it (fun(s5:Int) F w9=>St w w9 []∧F=[(0,.pointer (some E1)),(1,sl F0 x1 H0),(14,sl F0 x1 H0),(15,iv (x1.length:Int)),(16,iv s5)]) g2 ⟨hS,rfl⟩ ?_;rintro s5 F D3 _ D2 ⟨a0,rfl⟩ d C0;unfold z2j at d;refine sq<|rg<|rr 1 ?_;refine rn<|sq<|ci d (fun d=>?_) (fun d=>?_)
  ·refine sp<|sq<|bk<|sq<|rg ?_;obtain⟨H,y1,d⟩:=bS d;refine ix (hE.trans a0.ext) N2 y1 (fun o3 M2 j1 p1=>?_);have Q1:=zgU p1;subst Q1;refine lN (ax hE a0 j1) ?_;refine nw a0 (fun S1 E3 U2 V0=>?_);have X0:=V0.bring 0 rfl;refine so (A:=[]) X0 0 (fun J2 G=>?_);refine rn<|sq<|ct (fun(K0:Bool) F w9=>zK fu s5 K0=some D2∧Ext J2 w9∧St w w9 [Box S1 [iv H.a.at_.Qg,iv H.a.at_.Qj,iv H.a.at_.Qs,iv H.a.slot,.bool H.a.own,iv H.b.at_.Qg,iv H.b.at_.Qj,iv H.b.at_.Qs,iv H.b.slot,.bool H.b.own] 171]∧F=[(0,.pointer (some E1)),(1,sl F0 x1 H0),(14,sl F0 x1 H0),(15,iv (x1.length:Int)),(16,iv s5),(45,.bool K0)]) ?_ ?_
   ·rintro K0 F F3 ⟨d,P2,A0,rfl⟩;unfold zK at d;refine ci d (fun d=>?_) (fun d=>?_)
    ·refine sq<|rg<|rr 1 ?_;refine rn<|rt ?_;cases d;cases C0;have hm:some _=some _:=hm;cases hm;exact⟨_,tR rfl,rfl,(A0.taken 0)⟩
    ·refine sp<|rg<|rr 2 ?_;refine rn ?_;cases d;exact⟨_,_,rfl,⟨(A0.taken 0),rfl⟩,rfl⟩
   ·refine rg<|rr 2 ?_;refine l1 ((G.bring 0 rfl).box) 4 ?_;refine rr 2 ?_;refine rb 24 d (fun d=>?_) (fun d=>?_)
    ·refine rr 3 ?_;refine lN (At.sub ((G.bring 0 rfl).box) 0 3) ?_;obtain⟨p3,B1,d⟩:=bS d;refine ca zgb (z9S (hE.trans G.ext) K1 J1 (zO H.a.at_) B1) (fun s3 G3 P0=>?_);obtain⟨rfl,X⟩:=P0;have O:=G.join X;refine rr 3 ?_;refine rb 32 d (fun d=>?_) (fun d=>?_)
     ·refine rr 13 ?_;refine rn ?_;exact⟨true,_,⟨d,X.ext,O,rfl⟩,rfl⟩
     ·refine rr 2 ?_;refine l1 ((O.bring 0 rfl).box) 9 ?_;refine rr 2 ?_;refine rb 37 d (fun d=>?_) (fun d=>?_)
      ·refine rr 3 ?_;refine lN (At.sub ((O.bring 0 rfl).box) 5 3) ?_;obtain⟨E2,C1,d⟩:=bS d;refine ca zgb (z9S (hE.trans O.ext) K1 J1 (zO H.b.at_) C1) (fun t3 H3 Q0=>?_);obtain⟨rfl,r0⟩:=Q0;have Y0:=O.join r0;refine rr 3 ?_;refine rn ?_;exact⟨!E2,_,⟨d,(X.ext.trans r0.ext),Y0,rfl⟩,rfl⟩
      ·refine rr 8 ?_;refine rn ?_;exact⟨false,_,⟨d,X.ext,O,rfl⟩,rfl⟩
    ·refine rr 10 ?_;refine l1 ((G.bring 0 rfl).box) 9 ?_;refine rr 2 ?_;refine rb 37 d (fun d=>?_) (fun d=>?_)
     ·refine rr 3 ?_;refine lN (At.sub ((G.bring 0 rfl).box) 5 3) ?_;obtain⟨F2,D1,d⟩:=bS d;refine ca zgb (z9S (hE.trans G.ext) K1 J1 (zO H.b.at_) D1) (fun u3 J3 R0=>?_);obtain⟨rfl,t0⟩:=R0;have a1:=G.join t0;refine rr 3 ?_;refine rn ?_;exact⟨!F2,_,⟨d,t0.ext,a1,rfl⟩,rfl⟩
     ·refine rr 8 ?_;refine rn ?_;exact⟨false,_,⟨d,(Ext.refl _),G,rfl⟩,rfl⟩
  ·refine xt ?_;cases d;exact⟨_,_,⟨C0,a0,rfl⟩,rfl⟩

theorem zpH:EN 74:=en Tryz.func74
def z1w (fu:Nat) (x0:D.Qi) (x1:(List D.Qd)) (t5:Bool):Option Bool:=(if t5=true then some false else((z3f fu x0).bind fun d=>(if decide ((d.length:Int)+(x1.length:Int)≤4294967296)=true then((z3g fu x0 (d++x1)).bind fun h=>some h) else none)))
def z2A (fu:Nat) (x0:D.Qi) (x1:(List D.Qd)):Option (Bool):=(if(decide ((x0.Qc.length:Int)<1))=true then z1w fu x0 x1 true else(if(decide ((x0.Qc.length:Int)>4))=true then z1w fu x0 x1 true else((zB fu x0.Qc (fun y0=>z48 fu y0)).bind fun d=>z1w fu x0 x1 d)))

theorem zcy {W w:World}(hE:Ext W w){o0:Addr}{p0:List Value}{x0:D.Qi}{G:Option Addr}{k0:Nat}{x1:(List D.Qd)}(M:ty37.ro W p0 x0) (h:At W o0 p0) (q0:z94.ro W [sl G x1 k0] x1){fu:Nat}{r:Bool}(hm:z2A fu x0 x1=some r):
  CL 74 ⟨[.pointer (some o0),sl G x1 k0]⟩ w (RB w r):=by
 obtain⟨A1,k2,e4,h3⟩:=z4d M;subst e4;refine into Tryz.func74 32 _ ?_;unfold z2A at hm;have hS:=St.start w;refine sq<|rg<|rr 1 ?_;refine rn<|sq<|sq<|ct (fun(t5:Bool) F w9=>z1w fu x0 x1 t5=some r∧Ext w w9∧St w w9 []∧F=[(0,.pointer (some o0)),(1,sl G x1 k0),(25,.bool t5)]) ?_ ?_
 ·rintro t5 F H0 ⟨hm,y0,e0,rfl⟩;unfold z1w at hm;refine ci hm (fun hm=>?_) (fun hm=>?_)
  ·refine sq<|rg<|rr 1 ?_;refine rn<|rt ?_;cases hm;exact⟨_,tR rfl,rfl,e0⟩
  ·refine sp<|sq<|rg<|rr 2 ?_;obtain⟨C0,g0,hm⟩:=bS hm;refine ca zoe (zcn (hE.trans e0.ext) M h g0) (fun E0 J0 O=>?_);obtain⟨u0,A0,rfl,S⟩:=O;have a0:=e0.join S;refine rr 1 ?_;have q:=a0.bring 0 rfl;obtain⟨f0,hm⟩:=iS hm;refine ap (Flat.map (Flat.pair (Flat.map (Flat.pair (Flat.map fL0) fL1)) (Flat.pair (Flat.map (Flat.pair (Flat.map fL0) fL1)) Flat.unit))) q (z94.ext (hE.trans q.ext) q0) f0 (fun v0 B0 K0 d=>?_);obtain⟨D0,i0,hm⟩:=bS hm;refine ca zof (zco (Ext.refl _) (ty37.ext (hE.trans d.ext) M) (ax hE d h) ((d.bring 0 rfl).own) i0) (fun F0 L0 X=>?_);obtain⟨rfl,Y⟩:=X;have b0:=d.join Y;refine rr 1 ?_;refine rn<|rt ?_;cases hm;exact⟨_,tR rfl,rfl,(b0.taken 0)⟩
 ·refine rg<|rr 3 ?_;refine l1 (ax hE hS h) 0 ?_;refine rr 3 ?_;refine rb 11 hm (fun hm=>?_) (fun hm=>?_)
  ·refine rr 14 ?_;refine rn ?_;exact⟨true,_,⟨hm,(Ext.refl _),hS,rfl⟩,rfl⟩
  ·refine rr 3 ?_;refine l1 (ax hE hS h) 0 ?_;refine rr 4 ?_;refine rb 19 hm (fun hm=>?_) (fun hm=>?_)
   ·refine rr 6 ?_;refine rn ?_;exact⟨true,_,⟨hm,(Ext.refl _),hS,rfl⟩,rfl⟩
   ·refine rr 3 ?_;refine l1 (ax hE hS h) 0 ?_;obtain⟨t0,j0,hm⟩:=bS hm;refine ca zoh (z7e (hE.trans hS.ext) h3 ⟨zog,fun e9=>(fun H r0=>zbR (Ext.refl _) H r0)⟩ j0) (fun G0 M0 Z=>?_);obtain⟨rfl,o⟩:=Z;have d0:=hS.join o;refine rr 1 ?_;refine rn ?_;exact⟨t0,_,⟨hm,o.ext,d0,rfl⟩,rfl⟩

theorem zkm:EN 18:=en Tryz.func18
def zv (fu:Nat) (x0:D.Qa) (q:Bool):Option Bool:=(if q=true then some false else((zY fu x0.Qo (fun y0=>z5s fu y0)).bind fun d=>(if d=true then some false else((z13 fu x0).bind fun h=>((z2A fu x0.Qi h).bind fun o=>some o)))))
def z1s (fu:Nat) (x0:D.Qa) (d:Int) (q:Bool):Option Bool:=(if q=true then some false else(if((x0.Qo.length:Int) != d)=true then zv fu x0 true else(if((x0.QU.length:Int) != d)=true then zv fu x0 true else(if((x0.QZ.length:Int) != d)=true then zv fu x0 true else((z7v fu 1000000000 x0.QU).bind fun h=>(if(!h)=true then zv fu x0 true else((z7v fu 1000000000 x0.QZ).bind fun o=>zv fu x0 (!o))))))))
def z3o (fu:Nat) (x0:D.Qa):Option (Bool):=((z1i fu x0).bind fun d=>(if(decide (d<1))=true then z1s fu x0 d true else(if(decide (d>4))=true then z1s fu x0 d true else((z33 fu x0.Qh d).bind fun h=>z1s fu x0 d (!h)))))

theorem zaV {W w:World}(hE:Ext W w){K0:List Value}{x0:D.Qa}(a0:ty40.ro W K0 x0){fu:Nat}{r:Bool}(hm:z3o fu x0=some r):
  CL 18 ⟨[.agg ⟨K0⟩]⟩ w (RB w r):=by
 obtain⟨A1,k2,A4,k5,A7,L0,H0,M0,J0,N0,P0,h3,h6,Q0,R0,S0⟩:=z88 a0;subst P0;refine into Tryz.func18 55 _ ?_;unfold z3o at hm;have hS:=St.start w;refine sq<|rg<|nw hS (fun Y D1 f1 O=>?_);refine rr 1 ?_;refine rn<|sq<|rg ?_;obtain⟨O0,v0,hm⟩:=bS hm;refine ca zfi (z49 (Ext.refl _) (ty40.ext (hE.trans O.ext) a0) ((O.bring 0 rfl).box) v0) (fun p1 a1 b0=>?_);obtain⟨rfl,d0⟩:=b0;have h:=O.join d0;refine rr 1 ?_;refine rn<|sq<|sq<|ct (fun(F0:Bool) F w9=>z1s fu x0 O0 F0=some r∧Ext a1 w9∧St w w9 [Box Y [sl A1 x0.Qi.Qc k2,iv x0.Qi.Qy.Qg,iv x0.Qi.Qy.Qj,iv x0.Qi.Qy.Qs,sl A4 x0.Qh k5,sl A7 x0.Qo L0,sl H0 x0.QU M0,sl J0 x0.QZ N0] 40]∧F=[(1,.pointer (some ⟨Y,0,none⟩)),(3,iv O0),(17,.bool F0)]) ?_ ?_
 ·rintro F0 F d1 ⟨hm,T0,d,rfl⟩;unfold z1s at hm;refine ci hm (fun hm=>?_) (fun hm=>?_)
  ·refine sq<|rg<|rr 1 ?_;refine rn<|rt ?_;cases hm;exact⟨_,tR rfl,rfl,(d.taken 0)⟩
  ·refine sp<|sq<|sq<|ct (fun(G0:Bool) F w9=>zv fu x0 G0=some r∧Ext d1 w9∧St w w9 [Box Y [sl A1 x0.Qi.Qc k2,iv x0.Qi.Qy.Qg,iv x0.Qi.Qy.Qj,iv x0.Qi.Qy.Qs,sl A4 x0.Qh k5,sl A7 x0.Qo L0,sl H0 x0.QU M0,sl J0 x0.QZ N0] 40]∧F=[(1,.pointer (some ⟨Y,0,none⟩)),(48,.bool G0)]) ?_ ?_
   ·rintro G0 F E1 ⟨hm,U0,o,rfl⟩;unfold zv at hm;refine ci hm (fun hm=>?_) (fun hm=>?_)
    ·refine sq<|rg<|rr 1 ?_;refine rn<|rt ?_;cases hm;exact⟨_,tR rfl,rfl,(o.taken 0)⟩
    ·refine sp<|sq<|sq<|rg<|rr 1 ?_;refine l1 ((o.bring 0 rfl).box) 5 ?_;obtain⟨i1,y0,hm⟩:=bS hm;refine ca zpK (z8x (hE.trans o.ext) Q0 ⟨zpJ,fun e9=>(fun Z V0=>zcm (Ext.refl _) Z V0)⟩ y0) (fun t1 F1 e0=>?_);obtain⟨rfl,f0⟩:=e0;have q:=o.join f0;refine rn<|ci hm (fun hm=>?_) (fun hm=>?_)
     ·refine sq<|rg<|rr 1 ?_;refine rn<|rt ?_;cases hm;exact⟨_,tR rfl,rfl,(q.taken 0)⟩
     ·refine sp<|sq<|rg<|rr 1 ?_;obtain⟨j1,A0,hm⟩:=bS hm;refine ca zpG (z9V (Ext.refl _) (ty40.ext (hE.trans q.ext) a0) ((q.bring 0 rfl).box) A0) (fun u1 G1 g0=>?_);obtain⟨e1,g1,rfl,i0⟩:=g0;have G:=q.join i0;obtain⟨m1,B0,hm⟩:=bS hm;refine ca zpH (zcy (Ext.refl _) (z5J x0.Qi (ty34.ext (hE.trans G.ext) h3)) (At.sub ((G.bring 1 rfl).box) 0 4) ((G.bring 0 rfl).own) B0) (fun v1 H1 j0=>?_);obtain⟨rfl,k0⟩:=j0;have r0:=G.join k0;refine rr 1 ?_;refine rn<|rt ?_;cases hm;exact⟨_,tR rfl,rfl,(r0.taken 0)⟩
   ·refine rg<|rr 1 ?_;refine l1 ((d.bring 0 rfl).box) 5 ?_;refine rr 4 ?_;refine rb 23 hm (fun hm=>?_) (fun hm=>?_)
    ·refine rr 25 ?_;refine rn ?_;exact⟨true,_,⟨hm,(Ext.refl _),d,rfl⟩,rfl⟩
    ·refine rr 1 ?_;refine l1 ((d.bring 0 rfl).box) 6 ?_;refine rr 5 ?_;refine rb 30 hm (fun hm=>?_) (fun hm=>?_)
     ·refine rr 18 ?_;refine rn ?_;exact⟨true,_,⟨hm,(Ext.refl _),d,rfl⟩,rfl⟩
     ·refine rr 1 ?_;refine l1 ((d.bring 0 rfl).box) 7 ?_;refine rr 5 ?_;refine rb 37 hm (fun hm=>?_) (fun hm=>?_)
      ·refine rr 11 ?_;refine rn ?_;exact⟨true,_,⟨hm,(Ext.refl _),d,rfl⟩,rfl⟩
      ·refine rr 1 ?_;refine l1 ((d.bring 0 rfl).box) 6 ?_;obtain⟨n1,C0,hm⟩:=bS hm;refine ca zhK (zbP (hE.trans d.ext) R0 C0) (fun y1 J1 o0=>?_);obtain⟨rfl,M⟩:=o0;have H:=d.join M;refine rr 3 ?_;refine rb 43 hm (fun hm=>?_) (fun hm=>?_)
       ·refine rr 5 ?_;refine rn ?_;exact⟨true,_,⟨hm,M.ext,H,rfl⟩,rfl⟩
       ·refine rr 1 ?_;refine l1 ((H.bring 0 rfl).box) 7 ?_;obtain⟨X0,D0,hm⟩:=bS hm;refine ca zhK (zbP (hE.trans H.ext) S0 D0) (fun B1 K1 p0=>?_);obtain⟨rfl,S⟩:=p0;have t0:=H.join S;refine rr 2 ?_;refine rn ?_;exact⟨!X0,_,⟨hm,(M.ext.trans S.ext),t0,rfl⟩,rfl⟩
 ·refine rg<|rr 3 ?_;refine rb 7 hm (fun hm=>?_) (fun hm=>?_)
  ·refine rr 10 ?_;refine rn ?_;exact⟨true,_,⟨hm,(Ext.refl _),h,rfl⟩,rfl⟩
  ·refine rr 4 ?_;refine rb 11 hm (fun hm=>?_) (fun hm=>?_)
   ·refine rr 6 ?_;refine rn ?_;exact⟨true,_,⟨hm,(Ext.refl _),h,rfl⟩,rfl⟩
   ·refine rr 1 ?_;refine l1 ((h.bring 0 rfl).box) 4 ?_;refine rr 1 ?_;obtain⟨Y0,E0,hm⟩:=bS hm;refine ca zkc (zay (hE.trans h.ext) h6 E0) (fun C1 L1 q0=>?_);obtain⟨rfl,X⟩:=q0;have u0:=h.join X;refine rr 2 ?_;refine rn ?_;exact⟨!Y0,_,⟨hm,X.ext,u0,rfl⟩,rfl⟩

theorem zfn:EN 26:=en Tryz.func26
def zbG (fu:Nat) (t2:Unit):Option Bool:=some true
def z85 (fu:Nat) (x0:(List Int)) (x1:(List Int)) (s1:Int):Option (Rd (Int) (Unit) (Bool)):=(if(decide (s1<(x0.length:Int)))=true then((idx x0 s1).bind fun d=>((idx x1 s1).bind fun h=>(if(d != h)=true then some (.ret false) else some (.next (w64 (s1+1)))))) else some (.brk ()))
def z3J (fu:Nat) (x0:(List Int)) (x1:(List Int)):Option (Bool):=(if((x0.length:Int) != (x1.length:Int))=true then some false else((iter (z85 fu x0 x1) fu 0).bind fun o=>aft o (zbG fu)))

theorem laws_eqInt64S_ok {W w:World}(hE:Ext W w){H:Option Addr}{f0:Nat}{x0:(List Int)}{M:Option Addr}{g0:Nat}{x1:(List Int)}(o0:ty29.ro W [sl H x0 f0] x0) (p0:ty29.ro W [sl M x1 g0] x1){fu:Nat}{r:Bool}(hm:z3J fu x0 x1=some r):
  CL 26 ⟨[sl H x0 f0,sl M x1 g0]⟩ w (RB w r):=by
 refine into Tryz.func26 26 _ ?_;unfold z3J at hm;have hS:=St.start w;refine sq<|rg<|rr 1 ?_;refine rn<|sq<|sq<|rg<|rr 5 ?_;refine rn<|ci hm (fun hm=>?_) (fun hm=>?_)
 ·refine sq<|rg<|rr 1 ?_;refine rn<|rt ?_;cases hm;exact⟨_,tR rfl,rfl,hS⟩
 ·refine sp<|sq<|sq<|rg<|rr 1 ?_;refine rn ?_;obtain⟨q0,Y,hm⟩:=bS hm;refine ct (fun(t2:Unit) F w9=>q0=.inl t2∧Ext w w9∧St w w9 []∧F=[]) ?_ ?_
  ·rintro t2 F w7 ⟨Z,r0,O,rfl⟩;subst Z;rw [z8] at hm;unfold zbG at hm;refine sq<|rg<|rr 1 ?_;refine rn<|rt ?_;cases hm;exact⟨_,tR rfl,rfl,O⟩
  ·refine bk<|wk [0,1,5] ?_;refine it (fun(s1:Int) F w9=>Ext w w9∧St w w9 []∧F=[(0,sl H x0 f0),(1,sl M x1 g0),(5,iv s1)]) Y ⟨(Ext.refl _),hS,rfl⟩ ?_;rintro s1 F y0 _ t0 ⟨i0,h,rfl⟩ d G;unfold z85 at d;refine sq<|sq<|rg<|rr 4 ?_;refine rn<|ci d (fun d=>?_) (fun d=>?_)
   ·refine sp<|sq<|bk<|sq<|dn 0 mixed 9 [([],511),([],511),([0,1],508),([2],507),([],511),([],511),([4,5],463),([6],447),([3,7],375)] h.ext (fun o=>?_);have q:=h.step (Ext.draw _);refine dr 5 o [0,1,4,5] ?_;obtain⟨A0,d0,d⟩:=bS d;refine dx (hE.trans h.ext) o 2 o0 d0 (fun u0 j0 S a0=>?_);cases a0;refine dl o 3 (ax hE h S) 0 ?_;obtain⟨B0,e0,d⟩:=bS d;refine dx (hE.trans h.ext) o 6 p0 e0 (fun v0 k0 X b0=>?_);cases b0;refine dl o 7 (ax hE h X) 0 ?_;refine dr 0 o [8] ?_;refine dw [0,1,5,25] ?_;refine dd o ?_;refine ci d (fun d=>?_) (fun d=>?_)
    ·refine sq<|rg<|rr 1 ?_;refine rn<|rt ?_;cases d;cases G;have hm:some _=some _:=hm;cases hm;exact⟨_,tR rfl,rfl,q⟩
    ·refine sp<|rg<|rr 3 ?_;refine rn ?_;cases d;exact⟨_,_,rfl,⟨(i0.trans (Ext.draw _)),q,rfl⟩,rfl⟩
   ·refine xt ?_;cases d;exact⟨_,_,⟨G,i0,h,rfl⟩,rfl⟩

theorem zbs:EN 143:=en Tryz.func143
def z1G (fu:Nat) (x0:D.Qf) (x1:D.Qf):Option (Bool):=(if(x0.Qg != x1.Qg)=true then some false else(if(x0.Qj != x1.Qj)=true then some false else(if(x0.Qs != x1.Qs)=true then some false else some true)))

theorem laws_eqAddress_ok {W w:World}(hE:Ext W w){h:List Value}{x0:D.Qf}{o:List Value}{x1:D.Qf}(q:ty35.ro W h x0) (G:ty35.ro W o x1){fu:Nat}{r:Bool}(hm:z1G fu x0 x1=some r):
  CL 143 ⟨[.agg ⟨h⟩,.agg ⟨o⟩]⟩ w (RB w r):=by
 have e1:=z1p q;subst e1;have e2:=z1p G;subst e2;refine into Tryz.func143 20 _ ?_;unfold z1G at hm;have hS:=St.start w;refine sq<|rg<|nw hS (fun g3 w4 e5 H=>?_);refine nw H (fun g7 O M d=>?_);refine rr 1 ?_;refine rn<|sq<|sq<|rg<|rr 1 ?_;refine l1 ((d.bring 1 rfl).box) 0 ?_;refine rr 1 ?_;refine l1 ((d.bring 0 rfl).box) 0 ?_;refine rr 1 ?_;refine rn<|ci hm (fun hm=>?_) (fun hm=>?_)
 ·refine sq<|rg<|rr 1 ?_;refine rn<|rt ?_;cases hm;exact⟨_,tR rfl,rfl,(d.taken 0)⟩
 ·refine sp<|sq<|sq<|rg<|rr 1 ?_;refine l1 ((d.bring 1 rfl).box) 1 ?_;refine rr 1 ?_;refine l1 ((d.bring 0 rfl).box) 1 ?_;refine rr 1 ?_;refine rn<|ci hm (fun hm=>?_) (fun hm=>?_)
  ·refine sq<|rg<|rr 1 ?_;refine rn<|rt ?_;cases hm;exact⟨_,tR rfl,rfl,(d.taken 0)⟩
  ·refine sp<|sq<|sq<|rg<|rr 1 ?_;refine l1 ((d.bring 1 rfl).box) 2 ?_;refine rr 1 ?_;refine l1 ((d.bring 0 rfl).box) 2 ?_;refine rr 1 ?_;refine rn<|ci hm (fun hm=>?_) (fun hm=>?_)
   ·refine sq<|rg<|rr 1 ?_;refine rn<|rt ?_;cases hm;exact⟨_,tR rfl,rfl,(d.taken 0)⟩
   ·refine sp<|sq<|rg<|rr 1 ?_;refine rn<|rt ?_;cases hm;exact⟨_,tR rfl,rfl,(d.taken 0)⟩

theorem zn3:EN 264:=en Tryz.func264
def zaS (fu:Nat) (t2:Unit):Option Bool:=some true
def z6C (fu:Nat) (x0:(List D.Qf)) (x1:(List D.Qf)) (s1:Int):Option (Rd (Int) (Unit) (Bool)):=(if(decide (s1<(x0.length:Int)))=true then((idx x0 s1).bind fun h=>((idx x1 s1).bind fun o=>((z1G fu h o).bind fun d=>(if(!d)=true then some (.ret false) else some (.next (w64 (s1+1))))))) else some (.brk ()))
def z79 (fu:Nat) (x0:(List D.Qf)) (x1:(List D.Qf)):Option (Bool):=(if((x0.length:Int) != (x1.length:Int))=true then some false else((iter (z6C fu x0 x1) fu 0).bind fun o=>aft o (zaS fu)))

theorem laws_eqAddressS_ok {W w:World}(hE:Ext W w){X:Option Addr}{k0:Nat}{x0:(List D.Qf)}{Y:Option Addr}{o0:Nat}{x1:(List D.Qf)}(v0:z3r.ro W [sl X x0 k0] x0) (y0:z3r.ro W [sl Y x1 o0] x1){fu:Nat}{r:Bool}(hm:z79 fu x0 x1=some r):
  CL 264 ⟨[sl X x0 k0,sl Y x1 o0]⟩ w (RB w r):=by
 refine into Tryz.func264 27 _ ?_;unfold z79 at hm;have hS:=St.start w;refine sq<|rg<|rr 1 ?_;refine rn<|sq<|sq<|rg<|rr 5 ?_;refine rn<|ci hm (fun hm=>?_) (fun hm=>?_)
 ·refine sq<|rg<|rr 1 ?_;refine rn<|rt ?_;cases hm;exact⟨_,tR rfl,rfl,hS⟩
 ·refine sp<|sq<|sq<|rg<|rr 1 ?_;refine rn ?_;obtain⟨A0,e0,hm⟩:=bS hm;refine ct (fun(t2:Unit) F w9=>A0=.inl t2∧Ext w w9∧St w w9 []∧F=[]) ?_ ?_
  ·rintro t2 F w7 ⟨f0,B0,a0,rfl⟩;subst f0;rw [z8] at hm;unfold zaS at hm;refine sq<|rg<|rr 1 ?_;refine rn<|rt ?_;cases hm;exact⟨_,tR rfl,rfl,a0⟩
  ·refine bk<|wk [0,1,5] ?_;refine it (fun(s1:Int) F w9=>Ext w w9∧St w w9 []∧F=[(0,sl X x0 k0),(1,sl Y x1 o0),(5,iv s1)]) e0 ⟨(Ext.refl _),hS,rfl⟩ ?_;rintro s1 F H0 _ C0 ⟨p0,o,rfl⟩ d M;unfold z6C at d;refine sq<|sq<|rg<|rr 4 ?_;refine rn<|ci d (fun d=>?_) (fun d=>?_)
   ·refine sp<|sq<|bk<|sq<|dn 0 mixed 10 [([],1023),([],1023),([0,1],1020),([2],1019),([],1023),([],1023),([4,5],975),([6],959),([3,7],887),([8],767)] o.ext (fun h=>?_);have G:=o.step (Ext.draw _);refine dr 6 h [0,1,4,5] ?_;obtain⟨K0,g0,d⟩:=bS d;refine dx (hE.trans o.ext) h 2 v0 g0 (fun D0 t0 b0 O=>?_);have q0:=z1p O;subst q0;refine dL h 3 (ax hE o b0) ?_;obtain⟨L0,i0,d⟩:=bS d;refine dx (hE.trans o.ext) h 6 y0 i0 (fun E0 u0 d0 S=>?_);have r0:=z1p S;subst r0;refine dL h 7 (ax hE o d0) ?_;obtain⟨F0,j0,d⟩:=bS d;refine o1 h 8 (mc h zbs (laws_eqAddress_ok (hE.trans G.ext) O S j0) (fun G0 J0 Z=>?_));obtain⟨rfl,q⟩:=Z;refine⟨q.ext,?_⟩;have H:=G.join q;refine dr 0 h [9] ?_;refine dw [0,1,5,26] ?_;refine dd h ?_;refine ci d (fun d=>?_) (fun d=>?_)
    ·refine sq<|rg<|rr 1 ?_;refine rn<|rt ?_;cases d;cases M;have hm:some _=some _:=hm;cases hm;exact⟨_,tR rfl,rfl,H⟩
    ·refine sp<|rg<|rr 3 ?_;refine rn ?_;cases d;exact⟨_,_,rfl,⟨((p0.trans (Ext.draw _)).trans q.ext),H,rfl⟩,rfl⟩
   ·refine xt ?_;cases d;exact⟨_,_,⟨M,p0,o,rfl⟩,rfl⟩

theorem ziE:EN 240:=en Tryz.func240
def z45 (fu:Nat) (x0:D.Qb) (x1:D.Qb):Option (Bool):=(if(x0.Qj != x1.Qj)=true then some false else(if(x0.QL != x1.QL)=true then some false else(if(x0.Value != x1.Value)=true then some false else((z3J fu x0.Data x1.Data).bind fun d=>(if(!d)=true then some false else((z79 fu x0.QX x1.QX).bind fun h=>(if(!h)=true then some false else some true)))))))

theorem laws_eqShardCell_ok {W w:World}(hE:Ext W w){Y:List Value}{x0:D.Qb}{Z:List Value}{x1:D.Qb}(b0:z2B.ro W Y x0) (f0:z2B.ro W Z x1){fu:Nat}{r:Bool}(hm:z45 fu x0 x1=some r):
  CL 240 ⟨[.agg ⟨Y⟩,.agg ⟨Z⟩]⟩ w (RB w r):=by
 obtain⟨A1,k2,A4,k5,e7,h3,h6⟩:=zq b0;subst e7;obtain⟨g0,q0,i0,r0,a0,d0,e0⟩:=zq f0;subst a0;refine into Tryz.func240 32 _ ?_;unfold z45 at hm;have hS:=St.start w;refine sq<|rg<|nw hS (fun o0 A0 j0 O=>?_);refine nw O (fun p0 B0 k0 d=>?_);refine rr 1 ?_;refine rn<|sq<|sq<|rg<|rr 1 ?_;refine l1 ((d.bring 1 rfl).box) 0 ?_;refine rr 1 ?_;refine l1 ((d.bring 0 rfl).box) 0 ?_;refine rr 1 ?_;refine rn<|ci hm (fun hm=>?_) (fun hm=>?_)
 ·refine sq<|rg<|rr 1 ?_;refine rn<|rt ?_;cases hm;exact⟨_,tR rfl,rfl,(d.taken 0)⟩
 ·refine sp<|sq<|sq<|rg<|rr 1 ?_;refine l1 ((d.bring 1 rfl).box) 1 ?_;refine rr 1 ?_;refine l1 ((d.bring 0 rfl).box) 1 ?_;refine rr 1 ?_;refine rn<|ci hm (fun hm=>?_) (fun hm=>?_)
  ·refine sq<|rg<|rr 1 ?_;refine rn<|rt ?_;cases hm;exact⟨_,tR rfl,rfl,(d.taken 0)⟩
  ·refine sp<|sq<|sq<|rg<|rr 1 ?_;refine l1 ((d.bring 1 rfl).box) 2 ?_;refine rr 1 ?_;refine l1 ((d.bring 0 rfl).box) 2 ?_;refine rr 1 ?_;refine rn<|ci hm (fun hm=>?_) (fun hm=>?_)
   ·refine sq<|rg<|rr 1 ?_;refine rn<|rt ?_;cases hm;exact⟨_,tR rfl,rfl,(d.taken 0)⟩
   ·refine sp<|sq<|sq<|rg<|rr 1 ?_;refine l1 ((d.bring 1 rfl).box) 3 ?_;refine rr 1 ?_;refine l1 ((d.bring 0 rfl).box) 3 ?_;obtain⟨t0,S,hm⟩:=bS hm;refine ca zfn (laws_eqInt64S_ok (hE.trans d.ext) h3 d0 S) (fun v0 C0 q=>?_);obtain⟨rfl,G⟩:=q;have h:=d.join G;refine rr 1 ?_;refine rn<|ci hm (fun hm=>?_) (fun hm=>?_)
    ·refine sq<|rg<|rr 1 ?_;refine rn<|rt ?_;cases hm;exact⟨_,tR rfl,rfl,(h.taken 0)⟩
    ·refine sp<|sq<|sq<|rg<|rr 1 ?_;refine l1 ((h.bring 1 rfl).box) 4 ?_;refine rr 1 ?_;refine l1 ((h.bring 0 rfl).box) 4 ?_;obtain⟨u0,X,hm⟩:=bS hm;refine ca zn3 (laws_eqAddressS_ok (hE.trans h.ext) h6 e0 X) (fun y0 D0 H=>?_);obtain⟨rfl,M⟩:=H;have o:=h.join M;refine rr 1 ?_;refine rn<|ci hm (fun hm=>?_) (fun hm=>?_)
     ·refine sq<|rg<|rr 1 ?_;refine rn<|rt ?_;cases hm;exact⟨_,tR rfl,rfl,(o.taken 0)⟩
     ·refine sp<|sq<|rg<|rr 1 ?_;refine rn<|rt ?_;cases hm;exact⟨_,tR rfl,rfl,(o.taken 0)⟩

theorem znk:EN 237:=en Tryz.func237
def za3 (fu:Nat) (t2:Unit):Option Bool:=some true
def z5o (fu:Nat) (x0:(List D.Qb)) (x1:(List D.Qb)) (s1:Int):Option (Rd (Int) (Unit) (Bool)):=(if(decide (s1<(x0.length:Int)))=true then((idx x0 s1).bind fun h=>((idx x1 s1).bind fun o=>((z45 fu h o).bind fun d=>(if(!d)=true then some (.ret false) else some (.next (w64 (s1+1))))))) else some (.brk ()))
def z5f (fu:Nat) (x0:(List D.Qb)) (x1:(List D.Qb)):Option (Bool):=(if((x0.length:Int) != (x1.length:Int))=true then some false else((iter (z5o fu x0 x1) fu 0).bind fun o=>aft o (za3 fu)))

theorem laws_eqShardCellS_ok {W w:World}(hE:Ext W w){X:Option Addr}{k0:Nat}{x0:(List D.Qb)}{Y:Option Addr}{o0:Nat}{x1:(List D.Qb)}(v0:z6K.ro W [sl X x0 k0] x0) (y0:z6K.ro W [sl Y x1 o0] x1){fu:Nat}{r:Bool}(hm:z5f fu x0 x1=some r):
  CL 237 ⟨[sl X x0 k0,sl Y x1 o0]⟩ w (RB w r):=by
 refine into Tryz.func237 27 _ ?_;unfold z5f at hm;have hS:=St.start w;refine sq<|rg<|rr 1 ?_;refine rn<|sq<|sq<|rg<|rr 5 ?_;refine rn<|ci hm (fun hm=>?_) (fun hm=>?_)
 ·refine sq<|rg<|rr 1 ?_;refine rn<|rt ?_;cases hm;exact⟨_,tR rfl,rfl,hS⟩
 ·refine sp<|sq<|sq<|rg<|rr 1 ?_;refine rn ?_;obtain⟨A0,e0,hm⟩:=bS hm;refine ct (fun(t2:Unit) F w9=>A0=.inl t2∧Ext w w9∧St w w9 []∧F=[]) ?_ ?_
  ·rintro t2 F w7 ⟨f0,K0,a0,rfl⟩;subst f0;rw [z8] at hm;unfold za3 at hm;refine sq<|rg<|rr 1 ?_;refine rn<|rt ?_;cases hm;exact⟨_,tR rfl,rfl,a0⟩
  ·refine bk<|wk [0,1,5] ?_;refine it (fun(s1:Int) F w9=>Ext w w9∧St w w9 []∧F=[(0,sl X x0 k0),(1,sl Y x1 o0),(5,iv s1)]) e0 ⟨(Ext.refl _),hS,rfl⟩ ?_;rintro s1 F U0 _ P0 ⟨p0,o,rfl⟩ d M;unfold z5o at d;refine sq<|sq<|rg<|rr 4 ?_;refine rn<|ci d (fun d=>?_) (fun d=>?_)
   ·refine sp<|sq<|bk<|sq<|dn 0 mixed 10 [([],1023),([],1023),([0,1],1020),([2],1019),([],1023),([],1023),([4,5],975),([6],959),([3,7],887),([8],767)] o.ext (fun h=>?_);have G:=o.step (Ext.draw _);refine dr 6 h [0,1,4,5] ?_;obtain⟨X0,g0,d⟩:=bS d;refine dx (hE.trans o.ext) h 2 v0 g0 (fun Q0 t0 b0 O=>?_);obtain⟨B0,L0,C0,M0,q0,F0,G0⟩:=zq O;subst q0;refine dL h 3 (ax hE o b0) ?_;obtain⟨Y0,i0,d⟩:=bS d;refine dx (hE.trans o.ext) h 6 y0 i0 (fun R0 u0 d0 S=>?_);obtain⟨D0,N0,E0,O0,r0,H0,J0⟩:=zq S;subst r0;refine dL h 7 (ax hE o d0) ?_;obtain⟨S0,j0,d⟩:=bS d;refine o1 h 8 (mc h ziE (laws_eqShardCell_ok (hE.trans G.ext) O S j0) (fun T0 V0 Z=>?_));obtain⟨rfl,q⟩:=Z;refine⟨q.ext,?_⟩;have H:=G.join q;refine dr 0 h [9] ?_;refine dw [0,1,5,26] ?_;refine dd h ?_;refine ci d (fun d=>?_) (fun d=>?_)
    ·refine sq<|rg<|rr 1 ?_;refine rn<|rt ?_;cases d;cases M;have hm:some _=some _:=hm;cases hm;exact⟨_,tR rfl,rfl,H⟩
    ·refine sp<|rg<|rr 3 ?_;refine rn ?_;cases d;exact⟨_,_,rfl,⟨((p0.trans (Ext.draw _)).trans q.ext),H,rfl⟩,rfl⟩
   ·refine xt ?_;cases d;exact⟨_,_,⟨M,p0,o,rfl⟩,rfl⟩

theorem zn5:EN 262:=en Tryz.func262
def z77 (fu:Nat) (x0:D.Qn) (x1:D.Qn):Option (Bool):=(if(!(x0.Qa0 == x1.Qa0))=true then some false else(if(!(x0.Qa1 == x1.Qa1))=true then some false else((z1G fu x0.QV x1.QV).bind fun d=>(if(!d)=true then some false else some true))))

theorem laws_eqShardVar_ok {W w:World}(hE:Ext W w){H:List Value}{x0:D.Qn}{M:List Value}{x1:D.Qn}(O:za8.ro W H x0) (S:za8.ro W M x1){fu:Nat}{r:Bool}(hm:z77 fu x0 x1=some r):
  CL 262 ⟨[.agg ⟨H⟩,.agg ⟨M⟩]⟩ w (RB w r):=by
 have e1:=z1n O;subst e1;have e2:=z1n S;subst e2;refine into Tryz.func262 21 _ ?_;unfold z77 at hm;have hS:=St.start w;refine sq<|rg<|nw hS (fun g3 w4 e5 X=>?_);refine nw X (fun g7 b0 Y d=>?_);refine rr 1 ?_;refine rn<|sq<|sq<|rg<|rr 1 ?_;refine l1 ((d.bring 1 rfl).box) 0 ?_;refine rr 1 ?_;refine l1 ((d.bring 0 rfl).box) 0 ?_;refine rr 1 ?_;refine rn<|ci hm (fun hm=>?_) (fun hm=>?_)
 ·refine sq<|rg<|rr 1 ?_;refine rn<|rt ?_;cases hm;exact⟨_,tR rfl,rfl,(d.taken 0)⟩
 ·refine sp<|sq<|sq<|rg<|rr 1 ?_;refine l1 ((d.bring 1 rfl).box) 1 ?_;refine rr 1 ?_;refine l1 ((d.bring 0 rfl).box) 1 ?_;refine rr 1 ?_;refine rn<|ci hm (fun hm=>?_) (fun hm=>?_)
  ·refine sq<|rg<|rr 1 ?_;refine rn<|rt ?_;cases hm;exact⟨_,tR rfl,rfl,(d.taken 0)⟩
  ·refine sp<|sq<|sq<|rg<|rr 1 ?_;refine lN (At.sub ((d.bring 1 rfl).box) 2 3) ?_;refine rr 1 ?_;refine lN (At.sub ((d.bring 0 rfl).box) 2 3) ?_;obtain⟨Z,G,hm⟩:=bS hm;refine ca zbs (laws_eqAddress_ok (hE.trans d.ext) (zO x0.QV) (zO x1.QV) G) (fun a0 d0 o=>?_);obtain⟨rfl,q⟩:=o;have h:=d.join q;refine rr 1 ?_;refine rn<|ci hm (fun hm=>?_) (fun hm=>?_)
   ·refine sq<|rg<|rr 1 ?_;refine rn<|rt ?_;cases hm;exact⟨_,tR rfl,rfl,(h.taken 0)⟩
   ·refine sp<|sq<|rg<|rr 1 ?_;refine rn<|rt ?_;cases hm;exact⟨_,tR rfl,rfl,(h.taken 0)⟩

theorem znj:EN 238:=en Tryz.func238
def zav (fu:Nat) (t2:Unit):Option Bool:=some true
def z69 (fu:Nat) (x0:(List D.Qn)) (x1:(List D.Qn)) (s1:Int):Option (Rd (Int) (Unit) (Bool)):=(if(decide (s1<(x0.length:Int)))=true then((idx x0 s1).bind fun h=>((idx x1 s1).bind fun o=>((z77 fu h o).bind fun d=>(if(!d)=true then some (.ret false) else some (.next (w64 (s1+1))))))) else some (.brk ()))
def z6a (fu:Nat) (x0:(List D.Qn)) (x1:(List D.Qn)):Option (Bool):=(if((x0.length:Int) != (x1.length:Int))=true then some false else((iter (z69 fu x0 x1) fu 0).bind fun o=>aft o (zav fu)))

theorem laws_eqShardVarS_ok {W w:World}(hE:Ext W w){X:Option Addr}{k0:Nat}{x0:(List D.Qn)}{Y:Option Addr}{o0:Nat}{x1:(List D.Qn)}(v0:z3w.ro W [sl X x0 k0] x0) (y0:z3w.ro W [sl Y x1 o0] x1){fu:Nat}{r:Bool}(hm:z6a fu x0 x1=some r):
  CL 238 ⟨[sl X x0 k0,sl Y x1 o0]⟩ w (RB w r):=by
 refine into Tryz.func238 27 _ ?_;unfold z6a at hm;have hS:=St.start w;refine sq<|rg<|rr 1 ?_;refine rn<|sq<|sq<|rg<|rr 5 ?_;refine rn<|ci hm (fun hm=>?_) (fun hm=>?_)
 ·refine sq<|rg<|rr 1 ?_;refine rn<|rt ?_;cases hm;exact⟨_,tR rfl,rfl,hS⟩
 ·refine sp<|sq<|sq<|rg<|rr 1 ?_;refine rn ?_;obtain⟨A0,e0,hm⟩:=bS hm;refine ct (fun(t2:Unit) F w9=>A0=.inl t2∧Ext w w9∧St w w9 []∧F=[]) ?_ ?_
  ·rintro t2 F w7 ⟨f0,B0,a0,rfl⟩;subst f0;rw [z8] at hm;unfold zav at hm;refine sq<|rg<|rr 1 ?_;refine rn<|rt ?_;cases hm;exact⟨_,tR rfl,rfl,a0⟩
  ·refine bk<|wk [0,1,5] ?_;refine it (fun(s1:Int) F w9=>Ext w w9∧St w w9 []∧F=[(0,sl X x0 k0),(1,sl Y x1 o0),(5,iv s1)]) e0 ⟨(Ext.refl _),hS,rfl⟩ ?_;rintro s1 F H0 _ C0 ⟨p0,o,rfl⟩ d M;unfold z69 at d;refine sq<|sq<|rg<|rr 4 ?_;refine rn<|ci d (fun d=>?_) (fun d=>?_)
   ·refine sp<|sq<|bk<|sq<|dn 0 mixed 10 [([],1023),([],1023),([0,1],1020),([2],1019),([],1023),([],1023),([4,5],975),([6],959),([3,7],887),([8],767)] o.ext (fun h=>?_);have G:=o.step (Ext.draw _);refine dr 6 h [0,1,4,5] ?_;obtain⟨K0,g0,d⟩:=bS d;refine dx (hE.trans o.ext) h 2 v0 g0 (fun D0 t0 b0 O=>?_);have q0:=z1n O;subst q0;refine dL h 3 (ax hE o b0) ?_;obtain⟨L0,i0,d⟩:=bS d;refine dx (hE.trans o.ext) h 6 y0 i0 (fun E0 u0 d0 S=>?_);have r0:=z1n S;subst r0;refine dL h 7 (ax hE o d0) ?_;obtain⟨F0,j0,d⟩:=bS d;refine o1 h 8 (mc h zn5 (laws_eqShardVar_ok (hE.trans G.ext) O S j0) (fun G0 J0 Z=>?_));obtain⟨rfl,q⟩:=Z;refine⟨q.ext,?_⟩;have H:=G.join q;refine dr 0 h [9] ?_;refine dw [0,1,5,26] ?_;refine dd h ?_;refine ci d (fun d=>?_) (fun d=>?_)
    ·refine sq<|rg<|rr 1 ?_;refine rn<|rt ?_;cases d;cases M;have hm:some _=some _:=hm;cases hm;exact⟨_,tR rfl,rfl,H⟩
    ·refine sp<|rg<|rr 3 ?_;refine rn ?_;cases d;exact⟨_,_,rfl,⟨((p0.trans (Ext.draw _)).trans q.ext),H,rfl⟩,rfl⟩
   ·refine xt ?_;cases d;exact⟨_,_,⟨M,p0,o,rfl⟩,rfl⟩

theorem zn4:EN 263:=en Tryz.func263
def z5e (fu:Nat) (x0:D.Qk) (x1:D.Qk):Option (Bool):=((z1G fu x0.A x1.A).bind fun d=>(if(!d)=true then some false else((z1G fu x0.B x1.B).bind fun h=>(if(!h)=true then some false else some true))))

theorem laws_eqShardRedex_ok {W w:World}(hE:Ext W w){X:List Value}{x0:D.Qk}{Y:List Value}{x1:D.Qk}(Z:zak.ro W X x0) (a0:zak.ro W Y x1){fu:Nat}{r:Bool}(hm:z5e fu x0 x1=some r):
  CL 263 ⟨[.agg ⟨X⟩,.agg ⟨Y⟩]⟩ w (RB w r):=by
 have e1:=z2r Z;subst e1;have e2:=z2r a0;subst e2;refine into Tryz.func263 17 _ ?_;unfold z5e at hm;have hS:=St.start w;refine sq<|rg<|nw hS (fun g3 w4 e5 b0=>?_);refine nw b0 (fun g7 j0 d0 h=>?_);refine rr 1 ?_;refine rn<|sq<|sq<|rg<|rr 1 ?_;refine lN (At.sub ((h.bring 1 rfl).box) 0 3) ?_;refine rr 1 ?_;refine lN (At.sub ((h.bring 0 rfl).box) 0 3) ?_;obtain⟨e0,O,hm⟩:=bS hm;refine ca zbs (laws_eqAddress_ok (hE.trans h.ext) (zO x0.A) (zO x1.A) O) (fun g0 k0 q=>?_);obtain⟨rfl,G⟩:=q;have d:=h.join G;refine rr 1 ?_;refine rn<|ci hm (fun hm=>?_) (fun hm=>?_)
 ·refine sq<|rg<|rr 1 ?_;refine rn<|rt ?_;cases hm;exact⟨_,tR rfl,rfl,(d.taken 0)⟩
 ·refine sp<|sq<|sq<|rg<|rr 1 ?_;refine lN (At.sub ((d.bring 1 rfl).box) 3 3) ?_;refine rr 1 ?_;refine lN (At.sub ((d.bring 0 rfl).box) 3 3) ?_;obtain⟨f0,S,hm⟩:=bS hm;refine ca zbs (laws_eqAddress_ok (hE.trans d.ext) (zO x0.B) (zO x1.B) S) (fun i0 o0 H=>?_);obtain⟨rfl,M⟩:=H;have o:=d.join M;refine rr 1 ?_;refine rn<|ci hm (fun hm=>?_) (fun hm=>?_)
  ·refine sq<|rg<|rr 1 ?_;refine rn<|rt ?_;cases hm;exact⟨_,tR rfl,rfl,(o.taken 0)⟩
  ·refine sp<|sq<|rg<|rr 1 ?_;refine rn<|rt ?_;cases hm;exact⟨_,tR rfl,rfl,(o.taken 0)⟩

theorem zni:EN 239:=en Tryz.func239
def z9M (fu:Nat) (t2:Unit):Option Bool:=some true
def z4F (fu:Nat) (x0:(List D.Qk)) (x1:(List D.Qk)) (s1:Int):Option (Rd (Int) (Unit) (Bool)):=(if(decide (s1<(x0.length:Int)))=true then((idx x0 s1).bind fun h=>((idx x1 s1).bind fun o=>((z5e fu h o).bind fun d=>(if(!d)=true then some (.ret false) else some (.next (w64 (s1+1))))))) else some (.brk ()))
def z4s (fu:Nat) (x0:(List D.Qk)) (x1:(List D.Qk)):Option (Bool):=(if((x0.length:Int) != (x1.length:Int))=true then some false else((iter (z4F fu x0 x1) fu 0).bind fun o=>aft o (z9M fu)))

theorem laws_eqShardRedexS_ok {W w:World}(hE:Ext W w){X:Option Addr}{k0:Nat}{x0:(List D.Qk)}{Y:Option Addr}{o0:Nat}{x1:(List D.Qk)}(v0:z3h.ro W [sl X x0 k0] x0) (y0:z3h.ro W [sl Y x1 o0] x1){fu:Nat}{r:Bool}(hm:z4s fu x0 x1=some r):
  CL 239 ⟨[sl X x0 k0,sl Y x1 o0]⟩ w (RB w r):=by
 refine into Tryz.func239 27 _ ?_;unfold z4s at hm;have hS:=St.start w;refine sq<|rg<|rr 1 ?_;refine rn<|sq<|sq<|rg<|rr 5 ?_;refine rn<|ci hm (fun hm=>?_) (fun hm=>?_)
 ·refine sq<|rg<|rr 1 ?_;refine rn<|rt ?_;cases hm;exact⟨_,tR rfl,rfl,hS⟩
 ·refine sp<|sq<|sq<|rg<|rr 1 ?_;refine rn ?_;obtain⟨A0,e0,hm⟩:=bS hm;refine ct (fun(t2:Unit) F w9=>A0=.inl t2∧Ext w w9∧St w w9 []∧F=[]) ?_ ?_
  ·rintro t2 F w7 ⟨f0,B0,a0,rfl⟩;subst f0;rw [z8] at hm;unfold z9M at hm;refine sq<|rg<|rr 1 ?_;refine rn<|rt ?_;cases hm;exact⟨_,tR rfl,rfl,a0⟩
  ·refine bk<|wk [0,1,5] ?_;refine it (fun(s1:Int) F w9=>Ext w w9∧St w w9 []∧F=[(0,sl X x0 k0),(1,sl Y x1 o0),(5,iv s1)]) e0 ⟨(Ext.refl _),hS,rfl⟩ ?_;rintro s1 F H0 _ C0 ⟨p0,o,rfl⟩ d M;unfold z4F at d;refine sq<|sq<|rg<|rr 4 ?_;refine rn<|ci d (fun d=>?_) (fun d=>?_)
   ·refine sp<|sq<|bk<|sq<|dn 0 mixed 10 [([],1023),([],1023),([0,1],1020),([2],1019),([],1023),([],1023),([4,5],975),([6],959),([3,7],887),([8],767)] o.ext (fun h=>?_);have G:=o.step (Ext.draw _);refine dr 6 h [0,1,4,5] ?_;obtain⟨K0,g0,d⟩:=bS d;refine dx (hE.trans o.ext) h 2 v0 g0 (fun D0 t0 b0 O=>?_);have q0:=z2r O;subst q0;refine dL h 3 (ax hE o b0) ?_;obtain⟨L0,i0,d⟩:=bS d;refine dx (hE.trans o.ext) h 6 y0 i0 (fun E0 u0 d0 S=>?_);have r0:=z2r S;subst r0;refine dL h 7 (ax hE o d0) ?_;obtain⟨F0,j0,d⟩:=bS d;refine o1 h 8 (mc h zn4 (laws_eqShardRedex_ok (hE.trans G.ext) O S j0) (fun G0 J0 Z=>?_));obtain⟨rfl,q⟩:=Z;refine⟨q.ext,?_⟩;have H:=G.join q;refine dr 0 h [9] ?_;refine dw [0,1,5,26] ?_;refine dd h ?_;refine ci d (fun d=>?_) (fun d=>?_)
    ·refine sq<|rg<|rr 1 ?_;refine rn<|rt ?_;cases d;cases M;have hm:some _=some _:=hm;cases hm;exact⟨_,tR rfl,rfl,H⟩
    ·refine sp<|rg<|rr 3 ?_;refine rn ?_;cases d;exact⟨_,_,rfl,⟨((p0.trans (Ext.draw _)).trans q.ext),H,rfl⟩,rfl⟩
   ·refine xt ?_;cases d;exact⟨_,_,⟨M,p0,o,rfl⟩,rfl⟩

theorem znM:EN 196:=en Tryz.func196
def z8W (fu:Nat) (x0:D.Qp) (x1:D.Qp):Option (Bool):=((z5f fu x0.Cells x1.Cells).bind fun d=>(if(!d)=true then some false else((z6a fu x0.QG x1.QG).bind fun h=>(if(!h)=true then some false else((z4s fu x0.Qu x1.Qu).bind fun o=>(if(!o)=true then some false else some true))))))

theorem laws_eqShard_ok {W w:World}(hE:Ext W w){d0:List Value}{x0:D.Qp}{e0:List Value}{x1:D.Qp}(i0:z20.ro W d0 x0) (p0:z20.ro W e0 x1){fu:Nat}{r:Bool}(hm:z8W fu x0 x1=some r):
  CL 196 ⟨[.agg ⟨d0⟩,.agg ⟨e0⟩]⟩ w (RB w r):=by
 obtain⟨A1,k2,A4,k5,A7,C0,f0,h3,h6,j0⟩:=zw i0;subst f0;obtain⟨r0,D0,t0,E0,u0,F0,g0,k0,o0,q0⟩:=zw p0;subst g0;refine into Tryz.func196 23 _ ?_;unfold z8W at hm;have hS:=St.start w;refine sq<|rg<|nw hS (fun A0 N0 v0 Y=>?_);refine nw Y (fun B0 O0 y0 o=>?_);refine rr 1 ?_;refine rn<|sq<|sq<|rg<|rr 1 ?_;refine l1 ((o.bring 1 rfl).box) 0 ?_;refine rr 1 ?_;refine l1 ((o.bring 0 rfl).box) 0 ?_;obtain⟨G0,Z,hm⟩:=bS hm;refine ca znk (laws_eqShardCellS_ok (hE.trans o.ext) h3 k0 Z) (fun K0 P0 G=>?_);obtain⟨rfl,H⟩:=G;have d:=o.join H;refine rr 1 ?_;refine rn<|ci hm (fun hm=>?_) (fun hm=>?_)
 ·refine sq<|rg<|rr 1 ?_;refine rn<|rt ?_;cases hm;exact⟨_,tR rfl,rfl,(d.taken 0)⟩
 ·refine sp<|sq<|sq<|rg<|rr 1 ?_;refine l1 ((d.bring 1 rfl).box) 1 ?_;refine rr 1 ?_;refine l1 ((d.bring 0 rfl).box) 1 ?_;obtain⟨H0,a0,hm⟩:=bS hm;refine ca znj (laws_eqShardVarS_ok (hE.trans d.ext) h6 o0 a0) (fun L0 Q0 M=>?_);obtain⟨rfl,O⟩:=M;have h:=d.join O;refine rr 1 ?_;refine rn<|ci hm (fun hm=>?_) (fun hm=>?_)
  ·refine sq<|rg<|rr 1 ?_;refine rn<|rt ?_;cases hm;exact⟨_,tR rfl,rfl,(h.taken 0)⟩
  ·refine sp<|sq<|sq<|rg<|rr 1 ?_;refine l1 ((h.bring 1 rfl).box) 2 ?_;refine rr 1 ?_;refine l1 ((h.bring 0 rfl).box) 2 ?_;obtain⟨J0,b0,hm⟩:=bS hm;refine ca zni (laws_eqShardRedexS_ok (hE.trans h.ext) j0 q0 b0) (fun M0 R0 S=>?_);obtain⟨rfl,X⟩:=S;have q:=h.join X;refine rr 1 ?_;refine rn<|ci hm (fun hm=>?_) (fun hm=>?_)
   ·refine sq<|rg<|rr 1 ?_;refine rn<|rt ?_;cases hm;exact⟨_,tR rfl,rfl,(q.taken 0)⟩
   ·refine sp<|sq<|rg<|rr 1 ?_;refine rn<|rt ?_;cases hm;exact⟨_,tR rfl,rfl,(q.taken 0)⟩

theorem ziY:EN 142:=en Tryz.func142
def zbF (fu:Nat) (t2:Unit):Option Bool:=some true
def z84 (fu:Nat) (x0:(List D.Qp)) (x1:(List D.Qp)) (s1:Int):Option (Rd (Int) (Unit) (Bool)):=(if(decide (s1<(x0.length:Int)))=true then((idx x0 s1).bind fun h=>((idx x1 s1).bind fun o=>((z8W fu h o).bind fun d=>(if(!d)=true then some (.ret false) else some (.next (w64 (s1+1))))))) else some (.brk ()))
def z78 (fu:Nat) (x0:(List D.Qp)) (x1:(List D.Qp)):Option (Bool):=(if((x0.length:Int) != (x1.length:Int))=true then some false else((iter (z84 fu x0 x1) fu 0).bind fun o=>aft o (zbF fu)))

theorem laws_eqShardS_ok {W w:World}(hE:Ext W w){X:Option Addr}{k0:Nat}{x0:(List D.Qp)}{Y:Option Addr}{o0:Nat}{x1:(List D.Qp)}(v0:ty34.ro W [sl X x0 k0] x0) (y0:ty34.ro W [sl Y x1 o0] x1){fu:Nat}{r:Bool}(hm:z78 fu x0 x1=some r):
  CL 142 ⟨[sl X x0 k0,sl Y x1 o0]⟩ w (RB w r):=by
 refine into Tryz.func142 27 _ ?_;unfold z78 at hm;have hS:=St.start w;refine sq<|rg<|rr 1 ?_;refine rn<|sq<|sq<|rg<|rr 5 ?_;refine rn<|ci hm (fun hm=>?_) (fun hm=>?_)
 ·refine sq<|rg<|rr 1 ?_;refine rn<|rt ?_;cases hm;exact⟨_,tR rfl,rfl,hS⟩
 ·refine sp<|sq<|sq<|rg<|rr 1 ?_;refine rn ?_;obtain⟨A0,e0,hm⟩:=bS hm;refine ct (fun(t2:Unit) F w9=>A0=.inl t2∧Ext w w9∧St w w9 []∧F=[]) ?_ ?_
  ·rintro t2 F w7 ⟨f0,O0,a0,rfl⟩;subst f0;rw [z8] at hm;unfold zbF at hm;refine sq<|rg<|rr 1 ?_;refine rn<|rt ?_;cases hm;exact⟨_,tR rfl,rfl,a0⟩
  ·refine bk<|wk [0,1,5] ?_;refine it (fun(s1:Int) F w9=>Ext w w9∧St w w9 []∧F=[(0,sl X x0 k0),(1,sl Y x1 o0),(5,iv s1)]) e0 ⟨(Ext.refl _),hS,rfl⟩ ?_;rintro s1 F e1 _ V0 ⟨p0,o,rfl⟩ d M;unfold z84 at d;refine sq<|sq<|rg<|rr 4 ?_;refine rn<|ci d (fun d=>?_) (fun d=>?_)
   ·refine sp<|sq<|bk<|sq<|dn 0 mixed 10 [([],1023),([],1023),([0,1],1020),([2],1019),([],1023),([],1023),([4,5],975),([6],959),([3,7],887),([8],767)] o.ext (fun h=>?_);have G:=o.step (Ext.draw _);refine dr 6 h [0,1,4,5] ?_;obtain⟨g1,g0,d⟩:=bS d;refine dx (hE.trans o.ext) h 2 v0 g0 (fun X0 t0 b0 O=>?_);obtain⟨B0,P0,C0,Q0,D0,R0,q0,H0,J0,K0⟩:=zw O;subst q0;refine dL h 3 (ax hE o b0) ?_;obtain⟨i1,i0,d⟩:=bS d;refine dx (hE.trans o.ext) h 6 y0 i0 (fun Y0 u0 d0 S=>?_);obtain⟨E0,S0,F0,T0,G0,U0,r0,L0,M0,N0⟩:=zw S;subst r0;refine dL h 7 (ax hE o d0) ?_;obtain⟨a1,j0,d⟩:=bS d;refine o1 h 8 (mc h znM (laws_eqShard_ok (hE.trans G.ext) O S j0) (fun d1 f1 Z=>?_));obtain⟨rfl,q⟩:=Z;refine⟨q.ext,?_⟩;have H:=G.join q;refine dr 0 h [9] ?_;refine dw [0,1,5,26] ?_;refine dd h ?_;refine ci d (fun d=>?_) (fun d=>?_)
    ·refine sq<|rg<|rr 1 ?_;refine rn<|rt ?_;cases d;cases M;have hm:some _=some _:=hm;cases hm;exact⟨_,tR rfl,rfl,H⟩
    ·refine sp<|rg<|rr 3 ?_;refine rn ?_;cases d;exact⟨_,_,rfl,⟨((p0.trans (Ext.draw _)).trans q.ext),H,rfl⟩,rfl⟩
   ·refine xt ?_;cases d;exact⟨_,_,⟨M,p0,o,rfl⟩,rfl⟩

theorem zpF:EN 76:=en Tryz.func76
def z9N (fu:Nat) (x0:D.Qi) (x1:D.Qi):Option (Bool):=((z78 fu x0.Qc x1.Qc).bind fun d=>(if(!d)=true then some false else((z1G fu x0.Qy x1.Qy).bind fun h=>(if(!h)=true then some false else some true))))

theorem laws_eqGrid_ok {W w:World}(hE:Ext W w){Y:List Value}{x0:D.Qi}{Z:List Value}{x1:D.Qi}(b0:ty37.ro W Y x0) (d0:ty37.ro W Z x1){fu:Nat}{r:Bool}(hm:z9N fu x0 x1=some r):
  CL 76 ⟨[.agg ⟨Y⟩,.agg ⟨Z⟩]⟩ w (RB w r):=by
 obtain⟨A1,k2,e4,h3⟩:=z4d b0;subst e4;obtain⟨A5,k6,a0,h7⟩:=z4d d0;subst a0;refine into Tryz.func76 17 _ ?_;unfold z9N at hm;have hS:=St.start w;refine sq<|rg<|nw hS (fun g0 q0 e0 O=>?_);refine nw O (fun i0 r0 f0 h=>?_);refine rr 1 ?_;refine rn<|sq<|sq<|rg<|rr 1 ?_;refine l1 ((h.bring 1 rfl).box) 0 ?_;refine rr 1 ?_;refine l1 ((h.bring 0 rfl).box) 0 ?_;obtain⟨j0,S,hm⟩:=bS hm;refine ca ziY (laws_eqShardS_ok (hE.trans h.ext) h3 h7 S) (fun o0 t0 q=>?_);obtain⟨rfl,G⟩:=q;have d:=h.join G;refine rr 1 ?_;refine rn<|ci hm (fun hm=>?_) (fun hm=>?_)
 ·refine sq<|rg<|rr 1 ?_;refine rn<|rt ?_;cases hm;exact⟨_,tR rfl,rfl,(d.taken 0)⟩
 ·refine sp<|sq<|sq<|rg<|rr 1 ?_;refine lN (At.sub ((d.bring 1 rfl).box) 1 3) ?_;refine rr 1 ?_;refine lN (At.sub ((d.bring 0 rfl).box) 1 3) ?_;obtain⟨k0,X,hm⟩:=bS hm;refine ca zbs (laws_eqAddress_ok (hE.trans d.ext) (zO x0.Qy) (zO x1.Qy) X) (fun p0 u0 H=>?_);obtain⟨rfl,M⟩:=H;have o:=d.join M;refine rr 1 ?_;refine rn<|ci hm (fun hm=>?_) (fun hm=>?_)
  ·refine sq<|rg<|rr 1 ?_;refine rn<|rt ?_;cases hm;exact⟨_,tR rfl,rfl,(o.taken 0)⟩
  ·refine sp<|sq<|rg<|rr 1 ?_;refine rn<|rt ?_;cases hm;exact⟨_,tR rfl,rfl,(o.taken 0)⟩

theorem znL:EN 197:=en Tryz.func197
def z8j (fu:Nat) (x0:D.Qe) (x1:D.Qe):Option (Bool):=(if(x0.Qj != x1.Qj)=true then some false else((z45 fu x0.Qz x1.Qz).bind fun d=>(if(!d)=true then some false else((z1G fu x0.A x1.A).bind fun h=>(if(!h)=true then some false else((z1G fu x0.B x1.B).bind fun o=>(if(!o)=true then some false else some true)))))))

theorem laws_eqParcel_ok {W w:World}(hE:Ext W w){d0:List Value}{x0:D.Qe}{e0:List Value}{x1:D.Qe}(g0:z8K.ro W d0 x0) (k0:z8K.ro W e0 x1){fu:Nat}{r:Bool}(hm:z8j fu x0 x1=some r):
  CL 197 ⟨[.agg ⟨d0⟩,.agg ⟨e0⟩]⟩ w (RB w r):=by
 obtain⟨A1,k2,A4,k5,e7,h3,h6⟩:=zC g0;subst e7;obtain⟨o0,v0,p0,y0,f0,i0,j0⟩:=zC k0;subst f0;refine into Tryz.func197 28 _ ?_;unfold z8j at hm;have hS:=St.start w;refine sq<|rg<|nw hS (fun t0 G0 q0 Y=>?_);refine nw Y (fun u0 H0 r0 d=>?_);refine rr 1 ?_;refine rn<|sq<|sq<|rg<|rr 1 ?_;refine l1 ((d.bring 1 rfl).box) 0 ?_;refine rr 1 ?_;refine l1 ((d.bring 0 rfl).box) 0 ?_;refine rr 1 ?_;refine rn<|ci hm (fun hm=>?_) (fun hm=>?_)
 ·refine sq<|rg<|rr 1 ?_;refine rn<|rt ?_;cases hm;exact⟨_,tR rfl,rfl,(d.taken 0)⟩
 ·refine sp<|sq<|sq<|rg<|rr 1 ?_;refine lN (At.sub ((d.bring 1 rfl).box) 1 5) ?_;refine rr 1 ?_;refine lN (At.sub ((d.bring 0 rfl).box) 1 5) ?_;obtain⟨A0,Z,hm⟩:=bS hm;refine ca ziE (laws_eqShardCell_ok (hE.trans d.ext) (z4H x0.Qz h3 h6) (z4H x1.Qz i0 j0) Z) (fun D0 J0 G=>?_);obtain⟨rfl,H⟩:=G;have h:=d.join H;refine rr 1 ?_;refine rn<|ci hm (fun hm=>?_) (fun hm=>?_)
  ·refine sq<|rg<|rr 1 ?_;refine rn<|rt ?_;cases hm;exact⟨_,tR rfl,rfl,(h.taken 0)⟩
  ·refine sp<|sq<|sq<|rg<|rr 1 ?_;refine lN (At.sub ((h.bring 1 rfl).box) 6 3) ?_;refine rr 1 ?_;refine lN (At.sub ((h.bring 0 rfl).box) 6 3) ?_;obtain⟨B0,a0,hm⟩:=bS hm;refine ca zbs (laws_eqAddress_ok (hE.trans h.ext) (zO x0.A) (zO x1.A) a0) (fun E0 K0 M=>?_);obtain⟨rfl,O⟩:=M;have o:=h.join O;refine rr 1 ?_;refine rn<|ci hm (fun hm=>?_) (fun hm=>?_)
   ·refine sq<|rg<|rr 1 ?_;refine rn<|rt ?_;cases hm;exact⟨_,tR rfl,rfl,(o.taken 0)⟩
   ·refine sp<|sq<|sq<|rg<|rr 1 ?_;refine lN (At.sub ((o.bring 1 rfl).box) 9 3) ?_;refine rr 1 ?_;refine lN (At.sub ((o.bring 0 rfl).box) 9 3) ?_;obtain⟨C0,b0,hm⟩:=bS hm;refine ca zbs (laws_eqAddress_ok (hE.trans o.ext) (zO x0.B) (zO x1.B) b0) (fun F0 L0 S=>?_);obtain⟨rfl,X⟩:=S;have q:=o.join X;refine rr 1 ?_;refine rn<|ci hm (fun hm=>?_) (fun hm=>?_)
    ·refine sq<|rg<|rr 1 ?_;refine rn<|rt ?_;cases hm;exact⟨_,tR rfl,rfl,(q.taken 0)⟩
    ·refine sp<|sq<|rg<|rr 1 ?_;refine rn<|rt ?_;cases hm;exact⟨_,tR rfl,rfl,(q.taken 0)⟩

end Go.E


