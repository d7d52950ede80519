/- Models of functions and proofs that the code runs as they say (written by program). Conditions: the model gives a value. -/
import Derived.Test.YtijgffjimnbcpaaGreatFN
import Derived.Test.YtijgffjimnbcpaaGreatMixed
namespace Go.E
open Go.RowKit Go.Proofs
set_option linter.unusedVariables false
set_option linter.unusedSimpArgs false
set_option maxHeartbeats 2000000
set_option maxRecDepth 100000

theorem zb7:Enters Tryz.prog 179:=⟨_,_,Tryz.func179,rfl,by kernel_rfl⟩
def zQ (fuel:Nat) (t2:Unit):Option Int:=some (-1)
def z9 (fuel:Nat) (x0:(List D.Cell)) (x1:D.Cell→Option Bool) (s1:Int):Option (Rd (Int) (Unit) (Int)):=(if(decide (s1<(x0.length:Int)))=true then((idx x0 s1).bind fun o=>((x1 o).bind fun d=>(if d=true then some (.ret s1) else some (.next (w64 (s1+1)))))) else some (.brk ()))
def zA (fuel:Nat) (x0:(List D.Cell)) (x1:D.Cell→Option Bool):Option (Int):=((iter (z9 fuel x0 x1) fuel 0).bind fun o=>aft o (zQ fuel))

theorem z3s {W w:World}(hE:Ext W w){H:Option Addr}{b0:Nat}{x0:(List D.Cell)}{f1_:Nat}{u1_:List Value}{x1:D.Cell→Option Bool}(g0:ty29.ro W [sl H x0 b0] x0) (c0:Enters Tryz.prog f1_∧∀ {w9:World},Ext W w9→∀ {cz0:List Value}{z0:D.Cell}{y9:Bool},ty83.ro w9 cz0 z0→x1 z0=some y9→Calls Tryz.prog f1_ ⟨[.agg ⟨cz0⟩]++u1_⟩ w9 (Ret fun v w8=>v=.bool y9∧St w9 w8 [])){fuel:Nat}{r:Int}(hm:zA fuel x0 x1=some r):
  Calls Tryz.prog 179 ⟨[sl H x0 b0,.func (.func f1_) #[] ⟨u1_⟩]⟩ w (Ret fun v w8=>v=.int .i64 r∧St w w8 []):=by
 refine into Tryz.func179 19 _ ?_;unfold zA at hm;have hS:=St.start w;refine sq<|rg<|rr 1 ?_;refine rn<|sq<|sq<|rg<|rr 3 ?_;refine rn ?_;obtain⟨i0,X,hm⟩:=bS hm;refine ct (fun(t2:Unit) F w9=>i0=.inl t2∧Ext w w9∧St w w9 []∧F=[]) ?_ ?_
 ·rintro t2 F w7 ⟨Y,q0,M,rfl⟩;subst Y;rw [z4] at hm;unfold zQ at hm;refine sq<|rg<|rr 1 ?_;refine rn<|rt ?_;cases hm;exact⟨_,.cons (.tmp rfl) .nil,rfl,M⟩
 ·refine bk<|wk [0,1,7,8] ?_;refine it (fun(s1:Int) F w9=>Ext w w9∧St w w9 []∧F=[(0,sl H x0 b0),(1,.func (.func f1_) #[] ⟨u1_⟩),(7,.int .i64 (x0.length:Int)),(8,.int .i64 s1)]) X ⟨(Ext.refl _),hS,rfl⟩ ?_;rintro s1 F B0 _ u0 ⟨d0,o,rfl⟩ d z;unfold z9 at d;refine sq<|rg<|rr 1 ?_;refine rn<|sq<|ci d (fun d=>?_) (fun d=>?_)
  ·refine sp<|sq<|bk<|sq<|rg<|rr 2 ?_;refine rn<|sq<|rg<|rr 3 ?_;obtain⟨D0,Z,d⟩:=bS d;refine ix (hE.trans o.ext) g0 Z (fun v0 f0 O G=>?_);obtain⟨j0,r0,k0,t0,e0,o0,p0⟩:=z3 G;subst e0;refine lN (At.ext (hE.trans o.ext) O) ?_;obtain⟨y0,a0,d⟩:=bS d;refine ca c0.1 (c0.2 (hE.trans o.ext) (ty83.ext (hE.trans o.ext) G) a0) (fun A0 C0 L=>?_);obtain⟨rfl,q⟩:=L;have y:=o.join q;refine rn<|ci d (fun d=>?_) (fun d=>?_)
   ·refine sq<|rg<|rr 2 ?_;refine rn<|rt ?_;cases d;cases z;have hm:some _=some _:=hm;cases hm;exact⟨_,.cons (.tmp rfl) .nil,rfl,y⟩
   ·refine sp<|rg<|rr 2 ?_;refine rn ?_;cases d;exact⟨_,_,rfl,⟨(d0.trans q.ext),y,rfl⟩,rfl⟩
  ·refine xt ?_;cases d;exact⟨_,_,⟨z,d0,o,rfl⟩,rfl⟩

theorem zbq:Enters Tryz.prog 143:=⟨_,_,Tryz.func143,rfl,by kernel_rfl⟩
def zc (fuel:Nat) (x0:(List D.Cell)) (x1:D.Cell→Option Bool):Option (Bool):=((zA fuel x0 x1).bind fun r1=>some (decide (r1≥0)))

theorem z37 {W w:World}(hE:Ext W w){d:Option Addr}{o:Nat}{x0:(List D.Cell)}{f1_:Nat}{u1_:List Value}{x1:D.Cell→Option Bool}(q:ty29.ro W [sl d x0 o] x0) (y:Enters Tryz.prog f1_∧∀ {w9:World},Ext W w9→∀ {cz0:List Value}{z0:D.Cell}{y9:Bool},ty83.ro w9 cz0 z0→x1 z0=some y9→Calls Tryz.prog f1_ ⟨[.agg ⟨cz0⟩]++u1_⟩ w9 (Ret fun v w8=>v=.bool y9∧St w9 w8 [])){fuel:Nat}{r:Bool}(hm:zc fuel x0 x1=some r):
  Calls Tryz.prog 143 ⟨[sl d x0 o,.func (.func f1_) #[] ⟨u1_⟩]⟩ w (Ret fun v w8=>v=.bool r∧St w w8 []):=by
 refine into Tryz.func143 9 _ ?_;unfold zc at hm;have hS:=St.start w;refine sq<|rg<|rr 1 ?_;refine rn<|sq<|rg<|rr 2 ?_;obtain⟨r1,L,hm⟩:=bS hm;refine ca zb7 (z3s (hE.trans hS.ext) q y L) (fun v3 w4 z=>?_);obtain⟨rfl,G⟩:=z;have H:=hS.join G;refine rr 2 ?_;refine rn<|rt ?_;cases hm;exact⟨_,.cons (.tmp rfl) .nil,rfl,H⟩

theorem z70:Enters Tryz.prog 94:=⟨_,_,Tryz.func94,rfl,by kernel_rfl⟩
def zw (fuel:Nat) (x0:D.Cell):Option (Bool):=(if(decide (x0.Kind≥2))=true then some (decide (x0.Kind≤12)) else some false)

theorem z1G {W w:World}(hE:Ext W w){o:List Value}{x0:D.Cell}(q:ty83.ro W o x0){fuel:Nat}{r:Bool}(hm:zw fuel x0=some r):
  Calls Tryz.prog 94 ⟨[.agg ⟨o⟩]⟩ w (Ret fun v w8=>v=.bool r∧St w w8 []):=by
 obtain⟨A1,k2,A4,k5,e7,h3,h6⟩:=z3 q;subst e7;refine into Tryz.func94 11 _ ?_;unfold zw at hm;have hS:=St.start w;refine sq<|rg<|nw hS (fun z G y d=>?_);refine rr 1 ?_;refine rn<|sq<|rg<|rr 1 ?_;refine l1 ((d.bring 0 rfl).box) 0 ?_;refine rr 2 ?_;refine rb 6 hm (fun hm=>?_) (fun hm=>?_)
 ·refine rr 1 ?_;refine l1 ((d.bring 0 rfl).box) 0 ?_;refine rr 3 ?_;refine rn<|rt ?_;cases hm;exact⟨_,.cons (.tmp rfl) .nil,rfl,(d.taken 0)⟩
 ·refine rr 5 ?_;refine rn<|rt ?_;cases hm;exact⟨_,.cons (.tmp rfl) .nil,rfl,(d.taken 0)⟩

theorem z5M:Enters Tryz.prog 155:=⟨_,_,Tryz.func155,rfl,by kernel_rfl⟩
def zd (fuel:Nat) (x0:D.Cell):Option (Bool):=some (x0.Kind == 13)

theorem z1i {W w:World}(hE:Ext W w){o:List Value}{x0:D.Cell}(q:ty83.ro W o x0){fuel:Nat}{r:Bool}(hm:zd fuel x0=some r):
  Calls Tryz.prog 155 ⟨[.agg ⟨o⟩]⟩ w (Ret fun v w8=>v=.bool r∧St w w8 []):=by
 obtain⟨A1,k2,A4,k5,e7,h3,h6⟩:=z3 q;subst e7;refine into Tryz.func155 6 _ ?_;unfold zd at hm;have hS:=St.start w;refine sq<|rg<|nw hS (fun z G y d=>?_);refine rr 1 ?_;refine rn<|sq<|rg<|rr 1 ?_;refine l1 ((d.bring 0 rfl).box) 0 ?_;refine rr 2 ?_;refine rn<|rt ?_;cases hm;exact⟨_,.cons (.tmp rfl) .nil,rfl,(d.taken 0)⟩

theorem z6s:Enters Tryz.prog 41:=⟨_,_,Tryz.func41,rfl,by kernel_rfl⟩
def zf (fuel:Nat) (x0:D.Cell):Option (Bool):=some (x0.Kind == 0)

theorem z2e {W w:World}(hE:Ext W w){o:List Value}{x0:D.Cell}(q:ty83.ro W o x0){fuel:Nat}{r:Bool}(hm:zf fuel x0=some r):
  Calls Tryz.prog 41 ⟨[.agg ⟨o⟩]⟩ w (Ret fun v w8=>v=.bool r∧St w w8 []):=by
 obtain⟨A1,k2,A4,k5,e7,h3,h6⟩:=z3 q;subst e7;refine into Tryz.func41 6 _ ?_;unfold zf at hm;have hS:=St.start w;refine sq<|rg<|nw hS (fun z G y d=>?_);refine rr 1 ?_;refine rn<|sq<|rg<|rr 1 ?_;refine l1 ((d.bring 0 rfl).box) 0 ?_;refine rr 2 ?_;refine rn<|rt ?_;cases hm;exact⟨_,.cons (.tmp rfl) .nil,rfl,(d.taken 0)⟩

theorem zbo:Enters Tryz.prog 145:=⟨_,_,Tryz.func145,rfl,by kernel_rfl⟩
def z3f (fuel:Nat) (x0:D.Cell):Option (Bool):=((zw fuel x0).bind fun d=>(if d=true then(if decide (0≤(w64 ((x0.Words.length:Int)+1))∧(w64 ((x0.Words.length:Int)+1))≤4294967296)=true then((z2V fuel (⟨x0.Kind,x0.Level,x0.Value,x0.Data,(List.replicate (w64 ((x0.Words.length:Int)+1)).toNat (⟨(0:Int),(0:Int)⟩:D.Port))⟩:D.Agent)).bind fun o=>some o) else none) else((zd fuel x0).bind fun q=>(if q=true then(if(x0.Level == 0)=true then(if(x0.Value == 0)=true then(if((x0.Data.length:Int) == 0)=true then some (decide ((x0.Words.length:Int)≤1)) else some false) else some false) else some false) else((zf fuel x0).bind fun y=>(if y=true then(if(x0.Level == 0)=true then(if((x0.Data.length:Int) == 0)=true then some ((x0.Words.length:Int) == 0) else some false) else some false) else some false))))))

theorem z6E {W w:World}(hE:Ext W w){k0:List Value}{x0:D.Cell}(L:ty83.ro W k0 x0){fuel:Nat}{r:Bool}(hm:z3f fuel x0=some r):
  Calls Tryz.prog 145 ⟨[.agg ⟨k0⟩]⟩ w (Ret fun v w8=>v=.bool r∧St w w8 []):=by
 obtain⟨A1,k2,A4,k5,e7,h3,h6⟩:=z3 L;subst e7;refine into Tryz.func145 63 _ ?_;unfold z3f at hm;have hS:=St.start w;refine sq<|rg<|nw hS (fun r0 F0 p0 z=>?_);refine rr 1 ?_;refine rn<|sq<|bk<|sq<|rg<|lN ((z.bring 0 rfl).box) ?_;obtain⟨u0,f0,hm⟩:=bS hm;refine ca z70 (z1G (hE.trans z.ext) L f0) (fun B0 G0 M=>?_);obtain⟨rfl,O⟩:=M;have q:=z.join O;refine rr 1 ?_;refine rn<|ci hm (fun hm=>?_) (fun hm=>?_)
 ·refine sq<|dn 0 mixed 16 [([],65535),([0],65534),([],65535),([2],65531),([],65535),([4],65519),([],65535),([6],65471),([],65535),([8],65279),([9],65023),([10],64511),([11,11],63487),([1,3,5,7,12],61269),([13],57343),([14,14,0,1,2,3,4,5,6,7,8,9,10,11,12,13,14],49151)] q.ext (fun d=>?_);have c0:=q.step (Ext.draw _);refine dr 11 d [0,2,4,6,8] ?_;refine dl d 1 ((q.bring 0 rfl).box) 0 ?_;refine dl d 3 ((q.bring 0 rfl).box) 1 ?_;refine dl d 5 ((q.bring 0 rfl).box) 2 ?_;refine dl d 7 ((q.bring 0 rfl).box) 3 ?_;refine dl d 9 ((q.bring 0 rfl).box) 4 ?_;refine dr 4 d [10,11] ?_;refine dw [2,7,9,11,13,17] ?_;obtain⟨e0,hm⟩:=iS hm;have hz29:=of_decide_eq_true e0;refine o1 d 12 (mk (U:=z85) (⟨(0:Int),(0:Int)⟩:D.Port) c0 d hz29 (fun _=>(z5T (c:=(⟨(0:Int),(0:Int)⟩:D.Port)) rfl)) (fun o0 t0 H0 q0 G=>?_));refine dp d 13 rfl (fun _=>qb) ?_;obtain⟨v0,g0,hm⟩:=bS hm;refine o1 d 14 (mc d zba (z6k (Ext.refl _) (z7T (⟨x0.Kind,x0.Level,x0.Value,x0.Data,(List.replicate (w64 ((x0.Words.length:Int)+1)).toNat (⟨(0:Int),(0:Int)⟩:D.Port))⟩:D.Agent) (ty80.ext (hE.trans G.ext) h3) ((G.bring 0 rfl).own)) g0) (fun C0 J0 X=>?_));obtain⟨rfl,H⟩:=X;refine⟨H.ext,?_⟩;have d0:=G.join H;refine dr 0 d [15] ?_;refine dw [2] ?_;refine dd d ?_;refine rt ?_;cases hm;exact⟨_,.cons (.tmp rfl) .nil,rfl,(d0.taken 0)⟩
 ·refine sq<|rg<|lN ((q.bring 0 rfl).box) ?_;obtain⟨y0,i0,hm⟩:=bS hm;refine ca z5M (z1i (hE.trans q.ext) L i0) (fun D0 K0 Y=>?_);obtain⟨rfl,Z⟩:=Y;have o:=q.join Z;refine rr 1 ?_;refine rn<|ci hm (fun hm=>?_) (fun hm=>?_)
  ·refine sq<|rg<|rr 1 ?_;refine l1 ((o.bring 0 rfl).box) 1 ?_;refine rr 2 ?_;refine rb 27 hm (fun hm=>?_) (fun hm=>?_)
   ·refine rr 1 ?_;refine l1 ((o.bring 0 rfl).box) 2 ?_;refine rr 3 ?_;refine rb 32 hm (fun hm=>?_) (fun hm=>?_)
    ·refine rr 1 ?_;refine l1 ((o.bring 0 rfl).box) 3 ?_;refine rr 4 ?_;refine rb 38 hm (fun hm=>?_) (fun hm=>?_)
     ·refine rr 1 ?_;refine l1 ((o.bring 0 rfl).box) 4 ?_;refine rr 4 ?_;refine rn<|rt ?_;cases hm;exact⟨_,.cons (.tmp rfl) .nil,rfl,(o.taken 0)⟩
     ·refine rr 6 ?_;refine rn<|rt ?_;cases hm;exact⟨_,.cons (.tmp rfl) .nil,rfl,(o.taken 0)⟩
    ·refine rr 12 ?_;refine rn<|rt ?_;cases hm;exact⟨_,.cons (.tmp rfl) .nil,rfl,(o.taken 0)⟩
   ·refine rr 17 ?_;refine rn<|rt ?_;cases hm;exact⟨_,.cons (.tmp rfl) .nil,rfl,(o.taken 0)⟩
  ·refine sp<|sq<|rg<|lN ((o.bring 0 rfl).box) ?_;obtain⟨A0,j0,hm⟩:=bS hm;refine ca z6s (z2e (hE.trans o.ext) L j0) (fun E0 L0 a0=>?_);obtain⟨rfl,b0⟩:=a0;have y:=o.join b0;refine rr 1 ?_;refine rb 46 hm (fun hm=>?_) (fun hm=>?_)
   ·refine rr 1 ?_;refine l1 ((y.bring 0 rfl).box) 1 ?_;refine rr 3 ?_;refine rb 51 hm (fun hm=>?_) (fun hm=>?_)
    ·refine rr 1 ?_;refine l1 ((y.bring 0 rfl).box) 3 ?_;refine rr 4 ?_;refine rb 57 hm (fun hm=>?_) (fun hm=>?_)
     ·refine rr 1 ?_;refine l1 ((y.bring 0 rfl).box) 4 ?_;refine rr 4 ?_;refine rn<|rt ?_;cases hm;exact⟨_,.cons (.tmp rfl) .nil,rfl,(y.taken 0)⟩
     ·refine rr 6 ?_;refine rn<|rt ?_;cases hm;exact⟨_,.cons (.tmp rfl) .nil,rfl,(y.taken 0)⟩
    ·refine rr 12 ?_;refine rn<|rt ?_;cases hm;exact⟨_,.cons (.tmp rfl) .nil,rfl,(y.taken 0)⟩
   ·refine rr 17 ?_;refine rn<|rt ?_;cases hm;exact⟨_,.cons (.tmp rfl) .nil,rfl,(y.taken 0)⟩

theorem zbp:Enters Tryz.prog 144:=⟨_,_,Tryz.func144,rfl,by kernel_rfl⟩
def z1v (fuel:Nat) (x0:D.Cell):Option (Bool):=((z3f fuel x0).bind fun d=>some (!d))

theorem z51 {W w:World}(hE:Ext W w){G:List Value}{x0:D.Cell}(H:ty83.ro W G x0){fuel:Nat}{r:Bool}(hm:z1v fuel x0=some r):
  Calls Tryz.prog 144 ⟨[.agg ⟨G⟩]⟩ w (Ret fun v w8=>v=.bool r∧St w w8 []):=by
 obtain⟨A1,k2,A4,k5,e7,h3,h6⟩:=z3 H;subst e7;refine into Tryz.func144 6 _ ?_;unfold z1v at hm;have hS:=St.start w;refine sq<|rg<|nw hS (fun M Y L d=>?_);refine rr 1 ?_;refine rn<|sq<|rg<|lN ((d.bring 0 rfl).box) ?_;obtain⟨O,z,hm⟩:=bS hm;refine ca zbo (z6E (hE.trans d.ext) H z) (fun X Z o=>?_);obtain⟨rfl,q⟩:=o;have y:=d.join q;refine rr 2 ?_;refine rn<|rt ?_;cases hm;exact⟨_,.cons (.tmp rfl) .nil,rfl,(y.taken 0)⟩

theorem z96:Enters Tryz.prog 147:=⟨_,_,Tryz.func147,rfl,by kernel_rfl⟩
def z4x (fuel:Nat) (d:(List D.Word)):Option (List D.Word):=some d
def z4y (fuel:Nat) (x0:D.Memory) (d:Int × (List D.Word)):Option (Rd (Int × (List D.Word)) ((List D.Word)) ((List D.Word))):=(if(decide (d.1<(x0.Cells.length:Int)))=true then((idx x0.Cells d.1).bind fun o=>(if decide ((d.2.length:Int)+(o.Words.length:Int)≤4294967296)=true then some (.next (w64 (d.1+1),(d.2++o.Words))) else none)) else some (.brk d.2))
def z2d (fuel:Nat) (x0:D.Memory):Option ((List D.Word)):=((iter (z4y fuel x0) fuel (0,([x0.Root]:(List D.Word)))).bind fun o=>aft o (z4x fuel))

theorem z4O {W w:World}(hE:Ext W w){q0:Addr}{o0:List Value}{x0:D.Memory}(y0:ty33.ro W o0 x0) (p0:At W q0 o0){fuel:Nat}{r:(List D.Word)}(hm:z2d fuel x0=some r):
  Calls Tryz.prog 147 ⟨[.pointer (some q0)]⟩ w (Ret fun v w8=>∃ A0 k0,v=sl A0 r k0∧St w w8 [ow ty81 A0 r k0]):=by
 obtain⟨A1,k2,A4,k5,e7,h3,h6⟩:=zR y0;subst e7;refine into Tryz.func147 26 _ ?_;unfold z2d at hm;have hS:=St.start w;refine sq<|rg<|rr 1 ?_;refine rn<|sq<|rg<|rr 3 ?_;refine lN (At.sub (At.ext (hE.trans hS.ext) p0) 2 2) ?_;refine ns (hS.flatEls (U:=ty30) (els:=[.int .i64 x0.Root.Tag,.int .i64 x0.Root.At]) (ys:=[x0.Root]) ⟨[.int .i64 x0.Root.Tag,.int .i64 x0.Root.At],_,[],[],rfl,rfl,(z68 (c:=x0.Root) rfl),⟨rfl,rfl⟩⟩) (fun r0 C0 Q0 H0 q=>?_);refine rr 1 ?_;refine rn<|sq<|sq<|rg<|rr 3 ?_;refine l1 (At.ext (hE.trans q.ext) p0) 0 ?_;refine rr 2 ?_;refine rn ?_;obtain⟨E0,e0,hm⟩:=bS hm;refine ct (fun(X:(List D.Word)) F w9=>∃ H M,E0=.inl X∧St w w9 [ow ty81 H X M]∧F=[(3,sl H X M)]) ?_ ?_
 ·rintro X F R0 ⟨H,M,f0,Y,rfl⟩;subst f0;rw [z4] at hm;unfold z4x at hm;refine sq<|rg<|rr 2 ?_;refine rn<|rt ?_;cases hm;exact⟨_,.cons (.tmp rfl) .nil,H,M,rfl,Y⟩
 ·refine bk<|wk [3,14,15,16] ?_;refine it (fun(O:Int × (List D.Word)) F w9=>∃ G L,St w w9 [ow ty81 G O.2 L]∧F=[(3,sl G O.2 L),(14,sl A1 x0.Cells k2),(15,.int .i64 (x0.Cells.length:Int)),(16,.int .i64 O.1)]) e0 ⟨r0,C0,q,rfl⟩ ?_;rintro O F S0 _ O0 ⟨G,L,o,rfl⟩ d g0;unfold z4y at d;refine sq<|rg<|rr 1 ?_;refine rn<|sq<|ci d (fun d=>?_) (fun d=>?_)
  ·refine sp<|sq<|bk<|sq<|rg ?_;obtain⟨W0,j0,d⟩:=bS d;refine ix (hE.trans o.ext) h3 j0 (fun P0 v0 c0 i0=>?_);obtain⟨F0,M0,G0,N0,u0,L0,B0⟩:=z3 i0;subst u0;refine lN (At.ext (hE.trans o.ext) c0) ?_;refine nw o (fun K0 T0 J0 Z=>?_);have a0:=Z.bring 0 rfl;refine so (A:=[]) a0 0 (fun U0 y=>?_);refine rn<|rg<|rr 2 ?_;refine l1 ((y.bring 0 rfl).box) 4 ?_;have z:=y.bring 1 rfl;obtain⟨d0,d⟩:=iS d;refine ap (Flat.map (Flat.pair Flat.int (Flat.pair Flat.int Flat.unit))) z (ty81.ext (hE.trans z.ext) B0) d0 (fun t0 D0 V0 b0=>?_);refine rr 1 ?_;refine rn<|rg<|rr 2 ?_;refine rn ?_;cases d;exact⟨_,_,rfl,⟨t0,D0,(b0.taken 1),rfl⟩,rfl⟩
  ·refine xt ?_;cases d;exact⟨_,_,⟨G,L,g0,o,rfl⟩,rfl⟩

theorem zb6:Enters Tryz.prog 180:=⟨_,_,Tryz.func180,rfl,by kernel_rfl⟩
def zO (fuel:Nat) (t2:Unit):Option Int:=some (-1)
def z7 (fuel:Nat) (x0:(List D.Word)) (x1:D.Word→Option Bool) (s1:Int):Option (Rd (Int) (Unit) (Int)):=(if(decide (s1<(x0.length:Int)))=true then((idx x0 s1).bind fun o=>((x1 o).bind fun d=>(if d=true then some (.ret s1) else some (.next (w64 (s1+1)))))) else some (.brk ()))
def zx (fuel:Nat) (x0:(List D.Word)) (x1:D.Word→Option Bool):Option (Int):=((iter (z7 fuel x0 x1) fuel 0).bind fun o=>aft o (zO fuel))

theorem z3q {W w:World}(hE:Ext W w){H:Option Addr}{b0:Nat}{x0:(List D.Word)}{f1_:Nat}{u1_:List Value}{x1:D.Word→Option Bool}(g0:ty81.ro W [sl H x0 b0] x0) (c0:Enters Tryz.prog f1_∧∀ {w9:World},Ext W w9→∀ {cz0:List Value}{z0:D.Word}{y9:Bool},ty30.ro w9 cz0 z0→x1 z0=some y9→Calls Tryz.prog f1_ ⟨[.agg ⟨cz0⟩]++u1_⟩ w9 (Ret fun v w8=>v=.bool y9∧St w9 w8 [])){fuel:Nat}{r:Int}(hm:zx fuel x0 x1=some r):
  Calls Tryz.prog 180 ⟨[sl H x0 b0,.func (.func f1_) #[] ⟨u1_⟩]⟩ w (Ret fun v w8=>v=.int .i64 r∧St w w8 []):=by
 refine into Tryz.func180 19 _ ?_;unfold zx at hm;have hS:=St.start w;refine sq<|rg<|rr 1 ?_;refine rn<|sq<|sq<|rg<|rr 3 ?_;refine rn ?_;obtain⟨i0,X,hm⟩:=bS hm;refine ct (fun(t2:Unit) F w9=>i0=.inl t2∧Ext w w9∧St w w9 []∧F=[]) ?_ ?_
 ·rintro t2 F w7 ⟨Y,j0,M,rfl⟩;subst Y;rw [z4] at hm;unfold zO at hm;refine sq<|rg<|rr 1 ?_;refine rn<|rt ?_;cases hm;exact⟨_,.cons (.tmp rfl) .nil,rfl,M⟩
 ·refine bk<|wk [0,1,7,8] ?_;refine it (fun(s1:Int) F w9=>Ext w w9∧St w w9 []∧F=[(0,sl H x0 b0),(1,.func (.func f1_) #[] ⟨u1_⟩),(7,.int .i64 (x0.length:Int)),(8,.int .i64 s1)]) X ⟨(Ext.refl _),hS,rfl⟩ ?_;rintro s1 F r0 _ k0 ⟨d0,o,rfl⟩ d z;unfold z7 at d;refine sq<|rg<|rr 1 ?_;refine rn<|sq<|ci d (fun d=>?_) (fun d=>?_)
  ·refine sp<|sq<|bk<|sq<|rg<|rr 2 ?_;refine rn<|sq<|rg<|rr 3 ?_;obtain⟨u0,Z,d⟩:=bS d;refine ix (hE.trans o.ext) g0 Z (fun o0 f0 O G=>?_);have e0:=z17 G;subst e0;refine lN (At.ext (hE.trans o.ext) O) ?_;obtain⟨p0,a0,d⟩:=bS d;refine ca c0.1 (c0.2 (hE.trans o.ext) (ty30.ext (hE.trans o.ext) G) a0) (fun q0 t0 L=>?_);obtain⟨rfl,q⟩:=L;have y:=o.join q;refine rn<|ci d (fun d=>?_) (fun d=>?_)
   ·refine sq<|rg<|rr 2 ?_;refine rn<|rt ?_;cases d;cases z;have hm:some _=some _:=hm;cases hm;exact⟨_,.cons (.tmp rfl) .nil,rfl,y⟩
   ·refine sp<|rg<|rr 2 ?_;refine rn ?_;cases d;exact⟨_,_,rfl,⟨(d0.trans q.ext),y,rfl⟩,rfl⟩
  ·refine xt ?_;cases d;exact⟨_,_,⟨z,d0,o,rfl⟩,rfl⟩

theorem zbn:Enters Tryz.prog 146:=⟨_,_,Tryz.func146,rfl,by kernel_rfl⟩
def za (fuel:Nat) (x0:(List D.Word)) (x1:D.Word→Option Bool):Option (Bool):=((zx fuel x0 x1).bind fun r1=>some (decide (r1≥0)))

theorem z35 {W w:World}(hE:Ext W w){d:Option Addr}{o:Nat}{x0:(List D.Word)}{f1_:Nat}{u1_:List Value}{x1:D.Word→Option Bool}(q:ty81.ro W [sl d x0 o] x0) (y:Enters Tryz.prog f1_∧∀ {w9:World},Ext W w9→∀ {cz0:List Value}{z0:D.Word}{y9:Bool},ty30.ro w9 cz0 z0→x1 z0=some y9→Calls Tryz.prog f1_ ⟨[.agg ⟨cz0⟩]++u1_⟩ w9 (Ret fun v w8=>v=.bool y9∧St w9 w8 [])){fuel:Nat}{r:Bool}(hm:za fuel x0 x1=some r):
  Calls Tryz.prog 146 ⟨[sl d x0 o,.func (.func f1_) #[] ⟨u1_⟩]⟩ w (Ret fun v w8=>v=.bool r∧St w w8 []):=by
 refine into Tryz.func146 9 _ ?_;unfold za at hm;have hS:=St.start w;refine sq<|rg<|rr 1 ?_;refine rn<|sq<|rg<|rr 2 ?_;obtain⟨r1,L,hm⟩:=bS hm;refine ca zb6 (z3q (hE.trans hS.ext) q y L) (fun v3 w4 z=>?_);obtain⟨rfl,G⟩:=z;have H:=hS.join G;refine rr 2 ?_;refine rn<|rt ?_;cases hm;exact⟨_,.cons (.tmp rfl) .nil,rfl,H⟩

theorem z6t:Enters Tryz.prog 181:=⟨_,_,Tryz.func181,rfl,by kernel_rfl⟩
def zH (fuel:Nat) (x0:D.Memory) (x1:Int):Option (Bool):=(if(decide (x1≥0))=true then some (decide (x1<(x0.Cells.length:Int))) else some false)

theorem z2f {W w:World}(hE:Ext W w){o:Addr}{d:List Value}{x0:D.Memory}{x1:Int}(y:ty33.ro W d x0) (q:At W o d){fuel:Nat}{r:Bool}(hm:zH fuel x0 x1=some r):
  Calls Tryz.prog 181 ⟨[.pointer (some o),.int .i64 x1]⟩ w (Ret fun v w8=>v=.bool r∧St w w8 []):=by
 obtain⟨A1,k2,A4,k5,e7,h3,h6⟩:=zR y;subst e7;refine into Tryz.func181 16 _ ?_;unfold zH at hm;have hS:=St.start w;refine sq<|rg<|rr 1 ?_;refine rn<|sq<|rg<|rr 3 ?_;refine rb 7 hm (fun hm=>?_) (fun hm=>?_)
 ·refine rr 4 ?_;refine l1 (At.ext (hE.trans hS.ext) q) 0 ?_;refine rr 4 ?_;refine rn<|rt ?_;cases hm;exact⟨_,.cons (.tmp rfl) .nil,rfl,hS⟩
 ·refine rr 9 ?_;refine rn<|rt ?_;cases hm;exact⟨_,.cons (.tmp rfl) .nil,rfl,hS⟩

theorem zbk:Enters Tryz.prog 149:=⟨_,_,Tryz.func149,rfl,by kernel_rfl⟩
def z1e (fuel:Nat) (x0:D.Memory) (x1:D.Word):Option (Bool):=((zH fuel x0 x1.At).bind fun o=>(if(!o)=true then some false else((idx x0.Cells x1.At).bind fun d=>(if(x1.Tag == 1)=true then((zw fuel d).bind fun q=>(if q=true then some true else(if(x1.Tag == 2)=true then((zd fuel d).bind fun y=>some y) else some false))) else(if(x1.Tag == 2)=true then((zd fuel d).bind fun z=>some z) else some false)))))

theorem z5t {W w:World}(hE:Ext W w){B0:Addr}{u0:List Value}{x0:D.Memory}{v0:List Value}{x1:D.Word}(A0:ty33.ro W u0 x0) (y0:At W B0 u0) (F0:ty30.ro W v0 x1){fuel:Nat}{r:Bool}(hm:z1e fuel x0 x1=some r):
  Calls Tryz.prog 149 ⟨[.pointer (some B0),.agg ⟨v0⟩]⟩ w (Ret fun v w8=>v=.bool r∧St w w8 []):=by
 obtain⟨A1,k2,A4,k5,e7,h3,h6⟩:=zR A0;subst e7;have C0:=z17 F0;subst C0;refine into Tryz.func149 35 _ ?_;unfold z1e at hm;have hS:=St.start w;refine sq<|rg<|nw hS (fun L0 Y0 J0 z=>?_);refine rr 1 ?_;refine rn<|sq<|sq<|rg<|rr 2 ?_;refine l1 ((z.bring 0 rfl).box) 1 ?_;obtain⟨Q0,k0,hm⟩:=bS hm;refine ca z6t (z2f (hE.trans z.ext) A0 y0 k0) (fun U0 a1 L=>?_);obtain⟨rfl,M⟩:=L;have q:=z.join M;refine rr 1 ?_;refine rn<|ci hm (fun hm=>?_) (fun hm=>?_)
 ·refine sq<|rg<|rr 1 ?_;refine rn<|rt ?_;cases hm;exact⟨_,.cons (.tmp rfl) .nil,rfl,(q.taken 0)⟩
 ·refine sp<|sq<|dn 512 mixed 10 [([],1023),([0],1022),([1],1021),([2],1019),([],1023),([4],1007),([3,5],983),([6],959),([],1023),([8,7,0,1,2,3,4,5,6,7,8],639)] q.ext (fun d=>?_);have c0:=q.step (Ext.draw _);refine dr 6 d [0,1,2,4] ?_;refine dw [3,13,15] ?_;refine dl d 3 (At.ext (hE.trans q.ext) y0) 0 ?_;refine dl d 5 ((q.bring 0 rfl).box) 1 ?_;obtain⟨t0,o0,hm⟩:=bS hm;refine dx (hE.trans q.ext) d 6 h3 o0 (fun P0 E0 i0 j0=>?_);obtain⟨G0,N0,H0,O0,D0,G,H⟩:=z3 j0;subst D0;refine dL d 7 (At.ext (hE.trans q.ext) i0) ?_;refine o1 d 8 (mw d c0 (fun M0 b1 K0 d0=>?_));have e0:=d0.bring 0 rfl;refine o1 d 9 (ms (A:=[]) e0 d 0 (fun d1 o=>?_));refine dd d ?_;refine sq<|rg<|rr 1 ?_;refine l1 ((o.bring 1 rfl).box) 0 ?_;refine rr 2 ?_;refine rb 22 hm (fun hm=>?_) (fun hm=>?_)
  ·refine lN ((o.bring 0 rfl).box) ?_;obtain⟨R0,p0,hm⟩:=bS hm;refine ca z70 (z1G (hE.trans o.ext) (z4E t0 G H) p0) (fun V0 e1 O=>?_);obtain⟨rfl,X⟩:=O;have y:=o.join X;refine rr 2 ?_;refine rb 26 hm (fun hm=>?_) (fun hm=>?_)
   ·refine rr 9 ?_;refine rn<|rt ?_;cases hm;exact⟨_,.cons (.tmp rfl) .nil,rfl,(y.taken 0)⟩
   ·refine rr 1 ?_;refine l1 ((y.bring 1 rfl).box) 0 ?_;refine rr 2 ?_;refine rb 30 hm (fun hm=>?_) (fun hm=>?_)
    ·refine lN ((y.bring 0 rfl).box) ?_;obtain⟨S0,q0,hm⟩:=bS hm;refine ca z5M (z1i (hE.trans y.ext) (z4E t0 G H) q0) (fun W0 f1 Y=>?_);obtain⟨rfl,Z⟩:=Y;have f0:=y.join Z;refine rr 3 ?_;refine rn<|rt ?_;cases hm;exact⟨_,.cons (.tmp rfl) .nil,rfl,(f0.taken 0)⟩
    ·refine rr 5 ?_;refine rn<|rt ?_;cases hm;exact⟨_,.cons (.tmp rfl) .nil,rfl,(y.taken 0)⟩
  ·refine rr 5 ?_;refine l1 ((o.bring 1 rfl).box) 0 ?_;refine rr 2 ?_;refine rb 30 hm (fun hm=>?_) (fun hm=>?_)
   ·refine lN ((o.bring 0 rfl).box) ?_;obtain⟨T0,r0,hm⟩:=bS hm;refine ca z5M (z1i (hE.trans o.ext) (z4E t0 G H) r0) (fun X0 g1 a0=>?_);obtain⟨rfl,b0⟩:=a0;have g0:=o.join b0;refine rr 3 ?_;refine rn<|rt ?_;cases hm;exact⟨_,.cons (.tmp rfl) .nil,rfl,(g0.taken 0)⟩
   ·refine rr 5 ?_;refine rn<|rt ?_;cases hm;exact⟨_,.cons (.tmp rfl) .nil,rfl,(o.taken 0)⟩

theorem zbm:Enters Tryz.prog 148:=⟨_,_,Tryz.func148,rfl,by kernel_rfl⟩
def z1u (fuel:Nat) (x0:D.Word) (x1:D.Memory):Option (Bool):=((z1e fuel x1 x0).bind fun d=>some (!d))

theorem z50 {W w:World}(hE:Ext W w){G:List Value}{x0:D.Word}{O X:Addr}{H:List Value}{x1:D.Memory}(L:ty30.ro W G x0) (f1_:At W O [.pointer (some X)]) (M:ty33.ro W H x1) (Z:At W X H){fuel:Nat}{r:Bool}(hm:z1u fuel x0 x1=some r):
  Calls Tryz.prog 148 ⟨[.agg ⟨G⟩,.pointer (some O)]⟩ w (Ret fun v w8=>v=.bool r∧St w w8 []):=by
 have e1:=z17 L;subst e1;obtain⟨A2,k3,A5,k6,Y,h4,h7⟩:=zR M;subst Y;refine into Tryz.func148 8 _ ?_;unfold z1u at hm;have hS:=St.start w;refine sq<|rg<|nw hS (fun b0 e0 a0 d=>?_);refine rr 1 ?_;refine rn<|sq<|rg<|l1 (At.ext (hE.trans d.ext) f1_) 0 ?_;refine lN ((d.bring 0 rfl).box) ?_;obtain⟨c0,z,hm⟩:=bS hm;refine ca zbk (z5t (hE.trans d.ext) M Z L z) (fun d0 f0 o=>?_);obtain⟨rfl,q⟩:=o;have y:=d.join q;refine rr 2 ?_;refine rn<|rt ?_;cases hm;exact⟨_,.cons (.tmp rfl) .nil,rfl,(y.taken 0)⟩

theorem zb5:Enters Tryz.prog 182:=⟨_,_,Tryz.func182,rfl,by kernel_rfl⟩
def zP (fuel:Nat) (t2:Unit):Option Int:=some (-1)
def z8 (fuel:Nat) (x0:(List D.Pair)) (x1:D.Pair→Option Bool) (s1:Int):Option (Rd (Int) (Unit) (Int)):=(if(decide (s1<(x0.length:Int)))=true then((idx x0 s1).bind fun o=>((x1 o).bind fun d=>(if d=true then some (.ret s1) else some (.next (w64 (s1+1)))))) else some (.brk ()))
def zy (fuel:Nat) (x0:(List D.Pair)) (x1:D.Pair→Option Bool):Option (Int):=((iter (z8 fuel x0 x1) fuel 0).bind fun o=>aft o (zP fuel))

theorem z3r {W w:World}(hE:Ext W w){H:Option Addr}{b0:Nat}{x0:(List D.Pair)}{f1_:Nat}{u1_:List Value}{x1:D.Pair→Option Bool}(g0:ty31.ro W [sl H x0 b0] x0) (c0:Enters Tryz.prog f1_∧∀ {w9:World},Ext W w9→∀ {cz0:List Value}{z0:D.Pair}{y9:Bool},ty87.ro w9 cz0 z0→x1 z0=some y9→Calls Tryz.prog f1_ ⟨[.agg ⟨cz0⟩]++u1_⟩ w9 (Ret fun v w8=>v=.bool y9∧St w9 w8 [])){fuel:Nat}{r:Int}(hm:zy fuel x0 x1=some r):
  Calls Tryz.prog 182 ⟨[sl H x0 b0,.func (.func f1_) #[] ⟨u1_⟩]⟩ w (Ret fun v w8=>v=.int .i64 r∧St w w8 []):=by
 refine into Tryz.func182 19 _ ?_;unfold zy at hm;have hS:=St.start w;refine sq<|rg<|rr 1 ?_;refine rn<|sq<|sq<|rg<|rr 3 ?_;refine rn ?_;obtain⟨i0,X,hm⟩:=bS hm;refine ct (fun(t2:Unit) F w9=>i0=.inl t2∧Ext w w9∧St w w9 []∧F=[]) ?_ ?_
 ·rintro t2 F w7 ⟨Y,j0,M,rfl⟩;subst Y;rw [z4] at hm;unfold zP at hm;refine sq<|rg<|rr 1 ?_;refine rn<|rt ?_;cases hm;exact⟨_,.cons (.tmp rfl) .nil,rfl,M⟩
 ·refine bk<|wk [0,1,7,8] ?_;refine it (fun(s1:Int) F w9=>Ext w w9∧St w w9 []∧F=[(0,sl H x0 b0),(1,.func (.func f1_) #[] ⟨u1_⟩),(7,.int .i64 (x0.length:Int)),(8,.int .i64 s1)]) X ⟨(Ext.refl _),hS,rfl⟩ ?_;rintro s1 F r0 _ k0 ⟨d0,o,rfl⟩ d z;unfold z8 at d;refine sq<|rg<|rr 1 ?_;refine rn<|sq<|ci d (fun d=>?_) (fun d=>?_)
  ·refine sp<|sq<|bk<|sq<|rg<|rr 2 ?_;refine rn<|sq<|rg<|rr 3 ?_;obtain⟨u0,Z,d⟩:=bS d;refine ix (hE.trans o.ext) g0 Z (fun o0 f0 O G=>?_);have e0:=z2h G;subst e0;refine lN (At.ext (hE.trans o.ext) O) ?_;obtain⟨p0,a0,d⟩:=bS d;refine ca c0.1 (c0.2 (hE.trans o.ext) (ty87.ext (hE.trans o.ext) G) a0) (fun q0 t0 L=>?_);obtain⟨rfl,q⟩:=L;have y:=o.join q;refine rn<|ci d (fun d=>?_) (fun d=>?_)
   ·refine sq<|rg<|rr 2 ?_;refine rn<|rt ?_;cases d;cases z;have hm:some _=some _:=hm;cases hm;exact⟨_,.cons (.tmp rfl) .nil,rfl,y⟩
   ·refine sp<|rg<|rr 2 ?_;refine rn ?_;cases d;exact⟨_,_,rfl,⟨(d0.trans q.ext),y,rfl⟩,rfl⟩
  ·refine xt ?_;cases d;exact⟨_,_,⟨z,d0,o,rfl⟩,rfl⟩

theorem zbj:Enters Tryz.prog 150:=⟨_,_,Tryz.func150,rfl,by kernel_rfl⟩
def zb (fuel:Nat) (x0:(List D.Pair)) (x1:D.Pair→Option Bool):Option (Bool):=((zy fuel x0 x1).bind fun r1=>some (decide (r1≥0)))

theorem z36 {W w:World}(hE:Ext W w){d:Option Addr}{o:Nat}{x0:(List D.Pair)}{f1_:Nat}{u1_:List Value}{x1:D.Pair→Option Bool}(q:ty31.ro W [sl d x0 o] x0) (y:Enters Tryz.prog f1_∧∀ {w9:World},Ext W w9→∀ {cz0:List Value}{z0:D.Pair}{y9:Bool},ty87.ro w9 cz0 z0→x1 z0=some y9→Calls Tryz.prog f1_ ⟨[.agg ⟨cz0⟩]++u1_⟩ w9 (Ret fun v w8=>v=.bool y9∧St w9 w8 [])){fuel:Nat}{r:Bool}(hm:zb fuel x0 x1=some r):
  Calls Tryz.prog 150 ⟨[sl d x0 o,.func (.func f1_) #[] ⟨u1_⟩]⟩ w (Ret fun v w8=>v=.bool r∧St w w8 []):=by
 refine into Tryz.func150 9 _ ?_;unfold zb at hm;have hS:=St.start w;refine sq<|rg<|rr 1 ?_;refine rn<|sq<|rg<|rr 2 ?_;obtain⟨r1,L,hm⟩:=bS hm;refine ca zb5 (z3r (hE.trans hS.ext) q y L) (fun v3 w4 z=>?_);obtain⟨rfl,G⟩:=z;have H:=hS.join G;refine rr 2 ?_;refine rn<|rt ?_;cases hm;exact⟨_,.cons (.tmp rfl) .nil,rfl,H⟩

theorem zbh:Enters Tryz.prog 152:=⟨_,_,Tryz.func152,rfl,by kernel_rfl⟩
def z19 (fuel:Nat) (x0:D.Memory) (x1:D.Pair):Option (Bool):=(if(decide (x1.A<x1.B))=true then((zH fuel x0 x1.A).bind fun d=>(if d=true then((zH fuel x0 x1.B).bind fun o=>(if o=true then((idx x0.Cells x1.A).bind fun z=>((zw fuel z).bind fun q=>(if q=true then((idx x0.Cells x1.B).bind fun G=>((zw fuel G).bind fun y=>some y)) else some false))) else some false)) else some false)) else some false)

theorem z5h {W w:World}(hE:Ext W w){v0:Addr}{t0:List Value}{x0:D.Memory}{u0:List Value}{x1:D.Pair}(a0:ty33.ro W t0 x0) (Z:At W v0 t0) (E0:ty87.ro W u0 x1){fuel:Nat}{r:Bool}(hm:z19 fuel x0 x1=some r):
  Calls Tryz.prog 152 ⟨[.pointer (some v0),.agg ⟨u0⟩]⟩ w (Ret fun v w8=>v=.bool r∧St w w8 []):=by
 obtain⟨A1,k2,A4,k5,e7,h3,h6⟩:=zR a0;subst e7;have y0:=z2h E0;subst y0;refine into Tryz.func152 44 _ ?_;unfold z19 at hm;have hS:=St.start w;refine sq<|rg<|nw hS (fun L0 g1 K0 o=>?_);refine rr 1 ?_;refine rn<|sq<|dn 0 mixed 40 [([],1099511627775),([0],1099511627774),([],1099511627775),([2],1099511627771),([1,3],1099511627765),([4],1099511627759),([5],1099511627743),([5],1099511627743),([7,5],1099511627615),([6,8,5,5],1099511627423),([5,9],1099511627231),([10,9],1099511626751),([11],1099511625727),([11],1099511625727),([13,11],1099511617535),([12,14,11,11],1099511605247),([11,15],1099511592959),([16,15],1099511562239),([17],1099511496703),([18,17],1099511234559),([19,17],1099510972415),([20,17],1099510448127),([17],1099511496703),([22,17],1099507302399),([21,23,17],1099501010943),([24,17],1099494719487),([25,17,17],1099477942271),([17,26],1099444387839),([27,26],1099377410047),([28],1099243192319),([29,28],1098706321407),([30,28],1098169450495),([31,28],1097095708671),([28],1099243192319),([33,28],1090653257727),([32,34,28],1077768355839),([35,28],1064883453951),([36,28,28],1030523715583),([28,37],961804238847),([38,37,0,1,2,3,4,5,6,7,8,9,10,11,12,13,14,15,16,17,18,19,20,21,22,23,24,25,26,27,28,29,30,31,32,33,34,35,36,37,38],824633720831)] o.ext (fun d=>?_);have q:=o.step (Ext.draw _);refine dr 38 d [0,2] ?_;refine dl d 1 ((o.bring 0 rfl).box) 0 ?_;refine dl d 3 ((o.bring 0 rfl).box) 1 ?_;refine dr 34 d [4,5] ?_;refine dw [0,3,4,10] ?_;refine db 10 hm (fun hm=>?_) (fun hm=>?_)
 ·refine dr 32 d [6,7] ?_;refine dl d 8 ((o.bring 0 rfl).box) 0 ?_;obtain⟨W0,j0,hm⟩:=bS hm;refine o1 d 9 (mc d z6t (z2f (hE.trans q.ext) a0 Z j0) (fun b1 i1 b0=>?_));obtain⟨rfl,H⟩:=b0;refine⟨H.ext,?_⟩;have y:=q.join H;refine dr 28 d [10,11] ?_;refine dw [0,3,4,16] ?_;refine db 16 hm (fun hm=>?_) (fun hm=>?_)
  ·refine dr 26 d [12,13] ?_;refine dl d 14 ((o.bring 0 rfl).box) 1 ?_;obtain⟨X0,k0,hm⟩:=bS hm;refine o1 d 15 (mc d z6t (z2f (hE.trans y.ext) a0 Z k0) (fun d1 j1 c0=>?_));obtain⟨rfl,L⟩:=c0;refine⟨L.ext,?_⟩;have z:=y.join L;refine dr 22 d [16,17] ?_;refine dw [0,3,4,22] ?_;refine db 22 hm (fun hm=>?_) (fun hm=>?_)
   ·refine dr 18 d [18,19,20,22] ?_;refine dl d 21 (At.ext (hE.trans o.ext) Z) 0 ?_;refine dl d 23 ((o.bring 0 rfl).box) 0 ?_;obtain⟨p1,o0,hm⟩:=bS hm;refine dx (hE.trans o.ext) d 24 h3 o0 (fun U0 C0 g0 X=>?_);obtain⟨F0,Q0,G0,R0,A0,M0,N0⟩:=z3 X;subst A0;refine dL d 25 (At.ext (hE.trans o.ext) g0) ?_;obtain⟨Y0,p0,hm⟩:=bS hm;refine o1 d 26 (mc d z70 (z1G (hE.trans z.ext) X p0) (fun e1 m1 d0=>?_));obtain⟨rfl,M⟩:=d0;refine⟨M.ext,?_⟩;have G:=z.join M;refine dr 11 d [27,28] ?_;refine dw [0,3,4,33] ?_;refine db 33 hm (fun hm=>?_) (fun hm=>?_)
    ·refine dr 7 d [29,30,31,33] ?_;refine dl d 32 (At.ext (hE.trans o.ext) Z) 0 ?_;refine dl d 34 ((o.bring 0 rfl).box) 1 ?_;obtain⟨s1,q0,hm⟩:=bS hm;refine dx (hE.trans o.ext) d 35 h3 q0 (fun V0 D0 i0 Y=>?_);obtain⟨H0,S0,J0,T0,B0,O0,P0⟩:=z3 Y;subst B0;refine dL d 36 (At.ext (hE.trans o.ext) i0) ?_;obtain⟨a1,r0,hm⟩:=bS hm;refine o1 d 37 (mc d z70 (z1G (hE.trans G.ext) Y r0) (fun f1 n1 e0=>?_));obtain⟨rfl,O⟩:=e0;refine⟨O.ext,?_⟩;have f0:=G.join O;refine dr 0 d [38,39] ?_;refine dw [4] ?_;refine dd d ?_;refine rt ?_;cases hm;exact⟨_,.cons (.tmp rfl) .nil,rfl,(f0.taken 0)⟩
    ·refine dr 0 d [29,30,31,32,33,34,35,36,37,38,39] ?_;refine dw [4] ?_;refine dd d ?_;refine rt ?_;cases hm;exact⟨_,.cons (.tmp rfl) .nil,rfl,(G.taken 0)⟩
   ·refine dr 0 d [18,19,20,21,22,23,24,25,26,27,28,29,30,31,32,33,34,35,36,37,38,39] ?_;refine dw [4] ?_;refine dd d ?_;refine rt ?_;cases hm;exact⟨_,.cons (.tmp rfl) .nil,rfl,(z.taken 0)⟩
  ·refine dr 0 d [12,13,14,15,16,17,18,19,20,21,22,23,24,25,26,27,28,29,30,31,32,33,34,35,36,37,38,39] ?_;refine dw [4] ?_;refine dd d ?_;refine rt ?_;cases hm;exact⟨_,.cons (.tmp rfl) .nil,rfl,(y.taken 0)⟩
 ·refine dr 0 d [6,7,8,9,10,11,12,13,14,15,16,17,18,19,20,21,22,23,24,25,26,27,28,29,30,31,32,33,34,35,36,37,38,39] ?_;refine dw [4] ?_;refine dd d ?_;refine rt ?_;cases hm;exact⟨_,.cons (.tmp rfl) .nil,rfl,(q.taken 0)⟩

theorem zbi:Enters Tryz.prog 151:=⟨_,_,Tryz.func151,rfl,by kernel_rfl⟩
def z1t (fuel:Nat) (x0:D.Pair) (x1:D.Memory):Option (Bool):=((z19 fuel x1 x0).bind fun d=>some (!d))

theorem z4Z {W w:World}(hE:Ext W w){G:List Value}{x0:D.Pair}{O X:Addr}{H:List Value}{x1:D.Memory}(L:ty87.ro W G x0) (f1_:At W O [.pointer (some X)]) (M:ty33.ro W H x1) (Z:At W X H){fuel:Nat}{r:Bool}(hm:z1t fuel x0 x1=some r):
  Calls Tryz.prog 151 ⟨[.agg ⟨G⟩,.pointer (some O)]⟩ w (Ret fun v w8=>v=.bool r∧St w w8 []):=by
 have e1:=z2h L;subst e1;obtain⟨A2,k3,A5,k6,Y,h4,h7⟩:=zR M;subst Y;refine into Tryz.func151 8 _ ?_;unfold z1t at hm;have hS:=St.start w;refine sq<|rg<|nw hS (fun b0 e0 a0 d=>?_);refine rr 1 ?_;refine rn<|sq<|rg<|l1 (At.ext (hE.trans d.ext) f1_) 0 ?_;refine lN ((d.bring 0 rfl).box) ?_;obtain⟨c0,z,hm⟩:=bS hm;refine ca zbh (z5h (hE.trans d.ext) M Z L z) (fun d0 f0 o=>?_);obtain⟨rfl,q⟩:=o;have y:=d.join q;refine rr 2 ?_;refine rn<|rt ?_;cases hm;exact⟨_,.cons (.tmp rfl) .nil,rfl,(y.taken 0)⟩

theorem zbg:Enters Tryz.prog 153:=⟨_,_,Tryz.func153,rfl,by kernel_rfl⟩
def z2W (fuel:Nat) (d:Unit):Option Bool:=some true
def zG (fuel:Nat) (o:(List Int)) (d:Int) (q:Int):Option (Rd (Int) (Unit) (Bool)):=((idx o d).bind fun y=>(if(y != q)=true then some (.ret false) else some (.next (w64 (d+1)))))
def zE (fuel:Nat) (q:(List Int)) (o:Int) (d:Int):Option (Rd (Int) (Unit) (Bool)):=zG fuel q o d
def zF (fuel:Nat) (q:(List Int)) (o:Int) (d:Bool):Option (Rd (Int) (Unit) (Bool)):=(if d=true then zE fuel q o 2 else zE fuel q o 1)
def zk (fuel:Nat) (x0:D.Memory) (q:(List Int)) (d:Int):Option (Rd (Int) (Unit) (Bool)):=(if(decide (d<(x0.Cells.length:Int)))=true then((idx x0.Cells d).bind fun y=>((zf fuel y).bind fun z=>(if z=true then zG fuel q d 0 else((zd fuel y).bind fun o=>(if o=true then zF fuel q d ((y.Words.length:Int) == 0) else zF fuel q d false))))) else some (.brk ()))
def z14 (fuel:Nat) (x0:D.Memory) (d:(List Int)):Option Bool:=((iter (zk fuel x0 d) fuel 0).bind fun o=>aft o (z2W fuel))
def zm (fuel:Nat) (x0:D.Memory) (o:Int × (List Int)):Option (Rd (Int × (List Int)) ((List Int)) (Bool)):=(if(decide (o.1<(x0.Redexes.length:Int)))=true then((idx x0.Redexes o.1).bind fun d=>((idx o.2 d.A).bind fun q=>(if decide (0≤d.A∧d.A.toNat<o.2.length)=true then((idx (o.2.set d.A.toNat (w64 (q+1))) d.B).bind fun y=>(if decide (0≤d.B∧d.B.toNat<(o.2.set d.A.toNat (w64 (q+1))).length)=true then some (.next (w64 (o.1+1),((o.2.set d.A.toNat (w64 (q+1))).set d.B.toNat (w64 (y+1))))) else none)) else none))) else some (.brk o.2))
def z15 (fuel:Nat) (x0:D.Memory) (d:(List Int)):Option Bool:=((iter (zm fuel x0) fuel (0,d)).bind fun o=>aft o (z14 fuel x0))
def zn (fuel:Nat) (x1:(List D.Word)) (y:(List D.Word)) (o:Int × (List Int)):Option (Rd (Int × (List Int)) ((List Int)) (Bool)):=(if(decide (o.1<((y++x1).length:Int)))=true then((idx (y++x1) o.1).bind fun d=>((idx o.2 d.At).bind fun q=>(if decide (0≤d.At∧d.At.toNat<o.2.length)=true then some (.next (w64 (o.1+1),(o.2.set d.At.toNat (w64 (q+1))))) else none))) else some (.brk o.2))
def zT (fuel:Nat) (x0:D.Memory) (x1:(List D.Word)):Option (Bool):=(if decide (0≤(x0.Cells.length:Int)∧(x0.Cells.length:Int)≤4294967296)=true then((z2d fuel x0).bind fun d=>(if decide ((d.length:Int)+(x1.length:Int)≤4294967296)=true then((iter (zn fuel x1 d) fuel (0,(List.replicate (x0.Cells.length:Int).toNat (0:Int)))).bind fun o=>aft o (z15 fuel x0)) else none)) else none)

theorem z4Q {W w:World}(hE:Ext W w){t0:Addr}{v2:List Value}{x0:D.Memory}{t2:Option Addr}{H2:Nat}{x1:(List D.Word)}(E2:ty33.ro W v2 x0) (D1:At W t0 v2) (T2:ty81.ro W [sl t2 x1 H2] x1){fuel:Nat}{r:Bool}(hm:zT fuel x0 x1=some r):
  Calls Tryz.prog 153 ⟨[.pointer (some t0),sl t2 x1 H2]⟩ w (Ret fun v w8=>v=.bool r∧St w w8 []):=by
 obtain⟨A1,k2,A4,k5,e7,h3,h6⟩:=zR E2;subst e7;refine into Tryz.func153 89 _ ?_;unfold zT at hm;have hS:=St.start w;refine sq<|rg<|rr 1 ?_;refine rn<|sq<|rg<|rr 3 ?_;refine l1 (At.ext (hE.trans hS.ext) D1) 0 ?_;refine rr 1 ?_;obtain⟨S1,hm⟩:=iS hm;have hz16:=of_decide_eq_true S1;refine mS (U:=tInt) (0:Int) hS hz16 (fun _=>⟨rfl,rfl⟩) (fun y z O3 C3 F0=>?_);refine rr 1 ?_;refine rn<|sq<|sq<|rg<|rr 1 ?_;obtain⟨m2,e2,hm⟩:=bS hm;refine ca z96 (z4O (hE.trans F0.ext) E2 D1 e2) (fun M3 P3 G1=>?_);obtain⟨y3,F3,rfl,H1⟩:=G1;have L1:=F0.join H1;refine rr 1 ?_;have P0:=L1.bring 0 rfl;obtain⟨T1,hm⟩:=iS hm;refine ap (Flat.map (Flat.pair Flat.int (Flat.pair Flat.int Flat.unit))) P0 (ty81.ext (hE.trans P0.ext) T2) T1 (fun u2 J2 Q3 M1=>?_);refine rr 2 ?_;refine rn ?_;obtain⟨X2,U1,hm⟩:=bS hm;refine ct (fun(p2:(List Int)) F w9=>X2=.inl p2∧St w w9 [Own z84 [sl y (List.replicate (x0.Cells.length:Int).toNat (0:Int)) z] p2]∧F=[(0,.pointer (some t0)),(5,sl y (List.replicate (x0.Cells.length:Int).toNat (0:Int)) z)]) ?_ ?_
 ·rintro p2 F R3 ⟨X1,Q0,rfl⟩;subst X1;rw [z4] at hm;unfold z15 at hm;refine sq<|sq<|rg<|rr 3 ?_;refine l1 (At.ext (hE.trans Q0.ext) D1) 4 ?_;refine rr 2 ?_;refine rn ?_;obtain⟨Y2,V1,hm⟩:=bS hm;refine ct (fun(d0:(List Int)) F w9=>Y2=.inl d0∧St w w9 [Own z84 [sl y (List.replicate (x0.Cells.length:Int).toNat (0:Int)) z] d0]∧F=[(0,.pointer (some t0)),(5,sl y (List.replicate (x0.Cells.length:Int).toNat (0:Int)) z)]) ?_ ?_
  ·rintro d0 F S3 ⟨Y1,R0,rfl⟩;subst Y1;rw [z4] at hm;unfold z14 at hm;refine sq<|sq<|rg<|rr 3 ?_;refine l1 (At.ext (hE.trans R0.ext) D1) 0 ?_;refine rr 2 ?_;refine rn ?_;obtain⟨a3,W1,hm⟩:=bS hm;refine ct (fun(K2:Unit) F w9=>a3=.inl K2∧St w w9 []∧F=[]) ?_ ?_
   ·rintro K2 F T3 ⟨a2,N1,rfl⟩;subst a2;rw [z4] at hm;unfold z2W at hm;refine sq<|rg<|rr 1 ?_;refine rn<|rt ?_;cases hm;exact⟨_,.cons (.tmp rfl) .nil,rfl,N1⟩
   ·refine bk<|wk [5,63,64,65] ?_;refine it (fun(c0:Int) F w9=>St w w9 [Own z84 [sl y (List.replicate (x0.Cells.length:Int).toNat (0:Int)) z] d0]∧F=[(5,sl y (List.replicate (x0.Cells.length:Int).toNat (0:Int)) z),(63,sl A1 x0.Cells k2),(64,.int .i64 (x0.Cells.length:Int)),(65,.int .i64 c0)]) W1 ⟨R0,rfl⟩ ?_;rintro c0 F U3 _ j2 ⟨e0,rfl⟩ d e1;unfold zk at d;refine sq<|rg<|rr 1 ?_;refine rn<|sq<|ci d (fun d=>?_) (fun d=>?_)
    ·refine sp<|sq<|bk<|sq<|rg<|rr 1 ?_;obtain⟨s2,f2,d⟩:=bS d;refine ix (hE.trans e0.ext) h3 f2 (fun J3 P2 Q1 b2=>?_);obtain⟨A3,G3,B3,H3,O2,F2,G2⟩:=z3 b2;subst O2;refine lN (At.ext (hE.trans e0.ext) Q1) ?_;refine nw e0 (fun E3 V3 D3 O1=>?_);refine rr 1 ?_;have P1:=O1.bring 0 rfl;refine so (A:=[]) P1 0 (fun W3 p0=>?_);refine rn<|sq<|rg<|rr 1 ?_;refine rn<|sq<|bk<|sq<|rg<|lN ((p0.bring 0 rfl).box) ?_;obtain⟨L3,g2,d⟩:=bS d;refine ca z6s (z2e (hE.trans p0.ext) (z4E s2 F2 G2) g2) (fun N3 L2 J1=>?_);obtain⟨rfl,K1⟩:=J1;have f0:=p0.join K1;refine rr 1 ?_;refine rn<|ct (fun(q2:Int) F w9=>zG fuel d0 c0 q2=some j2∧Ext L2 w9∧St w w9 [Own z84 [sl y (List.replicate (x0.Cells.length:Int).toNat (0:Int)) z] d0]∧F=[(5,sl y (List.replicate (x0.Cells.length:Int).toNat (0:Int)) z),(10,.int .i64 c0),(12,.int .i64 q2),(63,sl A1 x0.Cells k2),(64,.int .i64 (x0.Cells.length:Int)),(65,.int .i64 c0)]) ?_ ?_
     ·rintro q2 F X3 ⟨d,U2,q0,rfl⟩;unfold zG at d;refine sq<|rg<|rr 2 ?_;obtain⟨Y3,i2,d⟩:=bS d;refine ix (Ext.refl _) ((q0.bring 0 rfl).own) i2 (fun K3 Q2 R1 d2=>?_);cases d2;refine l1 R1 0 ?_;refine rr 2 ?_;refine rn<|ci d (fun d=>?_) (fun d=>?_)
      ·refine sq<|rg<|rr 1 ?_;refine rn<|rt ?_;cases d;cases e1;have hm:some _=some _:=hm;cases hm;exact⟨_,.cons (.tmp rfl) .nil,rfl,(q0.taken 0)⟩
      ·refine sp<|rg<|rr 2 ?_;refine rn ?_;cases d;exact⟨_,_,rfl,⟨q0,rfl⟩,rfl⟩
     ·refine ci d (fun d=>?_) (fun d=>?_)
      ·refine rg<|rr 1 ?_;refine rn ?_;exact⟨0,_,⟨d,(Ext.refl _),((f0.bring 1 rfl).taken 1),rfl⟩,rfl⟩
      ·refine sq<|ct (fun(r0:Bool) F w9=>zF fuel d0 c0 r0=some j2∧Ext L2 w9∧St w w9 [Own z84 [sl y (List.replicate (x0.Cells.length:Int).toNat (0:Int)) z] d0]∧F=[(5,sl y (List.replicate (x0.Cells.length:Int).toNat (0:Int)) z),(10,.int .i64 c0),(12,.int .i64 1),(63,sl A1 x0.Cells k2),(64,.int .i64 (x0.Cells.length:Int)),(65,.int .i64 c0),(73,.bool r0)]) ?_ ?_
       ·rintro r0 F r2 ⟨d,u0,i0,rfl⟩;unfold zF at d;refine ct (fun(g0:Int) F w9=>zE fuel d0 c0 g0=some j2∧Ext r2 w9∧St w w9 [Own z84 [sl y (List.replicate (x0.Cells.length:Int).toNat (0:Int)) z] d0]∧F=[(5,sl y (List.replicate (x0.Cells.length:Int).toNat (0:Int)) z),(10,.int .i64 c0),(12,.int .i64 g0),(63,sl A1 x0.Cells k2),(64,.int .i64 (x0.Cells.length:Int)),(65,.int .i64 c0)]) ?_ ?_
        ·rintro g0 F j3 ⟨d,v0,A0,rfl⟩;unfold zE at d;exact⟨g0,_,⟨d,(u0.trans v0),A0,rfl⟩,rfl⟩
        ·refine ci d (fun d=>?_) (fun d=>?_)
         ·refine rg<|rr 1 ?_;refine rn ?_;exact⟨2,_,⟨d,(Ext.refl _),i0,rfl⟩,rfl⟩
         ·refine sp ?_;exact⟨1,_,⟨d,(Ext.refl _),i0,rfl⟩,rfl⟩
       ·refine rg<|lN ((f0.bring 0 rfl).box) ?_;obtain⟨g3,n1,d⟩:=bS d;refine ca z5M (z1i (hE.trans f0.ext) (z4E s2 F2 G2) n1) (fun i3 k3 y0=>?_);obtain⟨rfl,H⟩:=y0;have L:=f0.join H;refine rr 1 ?_;refine rb 76 d (fun d=>?_) (fun d=>?_)
        ·refine rr 1 ?_;refine l1 ((L.bring 0 rfl).box) 4 ?_;refine rr 4 ?_;refine rn ?_;exact⟨((s2.Words.length:Int) == 0),_,⟨d,H.ext,((L.bring 1 rfl).taken 1),rfl⟩,rfl⟩
        ·refine rr 6 ?_;refine rn ?_;exact⟨false,_,⟨d,H.ext,((L.bring 1 rfl).taken 1),rfl⟩,rfl⟩
    ·refine xt ?_;cases d;exact⟨_,_,⟨e1,(e0.taken 0),rfl⟩,rfl⟩
  ·refine bk<|wk [0,5,39,40,41] ?_;refine it (fun(o2:Int × (List Int)) F w9=>St w w9 [Own z84 [sl y (List.replicate (x0.Cells.length:Int).toNat (0:Int)) z] o2.2]∧F=[(0,.pointer (some t0)),(5,sl y (List.replicate (x0.Cells.length:Int).toNat (0:Int)) z),(39,sl A4 x0.Redexes k5),(40,.int .i64 (x0.Redexes.length:Int)),(41,.int .i64 o2.1)]) V1 ⟨Q0,rfl⟩ ?_;rintro o2 F m3 _ V2 ⟨G,rfl⟩ o b1;unfold zm at o;refine sq<|rg<|rr 1 ?_;refine rn<|sq<|ci o (fun o=>?_) (fun o=>?_)
   ·refine sp<|sq<|bk<|sq<|rg ?_;obtain⟨v3,p1,o⟩:=bS o;refine ix (hE.trans G.ext) h6 p1 (fun b3 y2 S0 f1=>?_);have E1:=z2h f1;subst E1;refine lN (At.ext (hE.trans G.ext) S0) ?_;refine nw G (fun R2 n3 M2 B0=>?_);have C0:=B0.bring 0 rfl;refine so (A:=[]) C0 0 (fun o3 M=>?_);refine rn<|sq<|rg<|rr 2 ?_;refine l1 ((M.bring 0 rfl).box) 0 ?_;obtain⟨y1,s1,o⟩:=bS o;refine ix (Ext.refl _) ((M.bring 1 rfl).own) s1 (fun c3 A2 T0 g1=>?_);cases g1;refine l1 T0 0 ?_;refine rr 1 ?_;have j0:=M.bring 1 rfl;obtain⟨X0,o⟩:=iS o;have Z:=of_decide_eq_true X0;refine io j0 Z.1 Z.2 (fun q146 hq147=>?_);have D0:=j0.flat (T:=tInt) (cs:=[.int .i64 (w64 (y1+1))]) (x:=(w64 (y1+1))) ⟨rfl,rfl⟩;have E0:=D0.bring 1 rfl;refine se E0 Z.2 hq147 (fun p3 O=>?_);refine rn<|rg<|rr 2 ?_;refine l1 ((O.bring 1 rfl).box) 1 ?_;obtain⟨B1,t1,o⟩:=bS o;refine ix (Ext.refl _) ((O.bring 0 rfl).own) t1 (fun d3 B2 U0 i1=>?_);cases i1;refine l1 U0 0 ?_;refine rr 1 ?_;have k0:=O.bring 0 rfl;obtain⟨Y0,o⟩:=iS o;have a0:=of_decide_eq_true Y0;refine io k0 a0.1 a0.2 (fun q161 hq162=>?_);have G0:=k0.flat (T:=tInt) (cs:=[.int .i64 (w64 (B1+1))]) (x:=(w64 (B1+1))) ⟨rfl,rfl⟩;have H0:=G0.bring 1 rfl;refine se H0 a0.2 hq162 (fun q3 J0=>?_);refine rn<|rg<|rr 2 ?_;refine rn ?_;cases o;exact⟨_,_,rfl,⟨(J0.taken 1),rfl⟩,rfl⟩
   ·refine xt ?_;cases o;exact⟨_,_,⟨b1,G,rfl⟩,rfl⟩
 ·refine bk<|wk [0,5,22,23,24] ?_;refine it (fun(n2:Int × (List Int)) F w9=>St w w9 [ow ty81 u2 (m2++x1) J2,Own z84 [sl y (List.replicate (x0.Cells.length:Int).toNat (0:Int)) z] n2.2]∧F=[(0,.pointer (some t0)),(5,sl y (List.replicate (x0.Cells.length:Int).toNat (0:Int)) z),(22,sl u2 (m2++x1) J2),(23,.int .i64 ((m2++x1).length:Int)),(24,.int .i64 n2.1)]) U1 ⟨M1,rfl⟩ ?_;rintro n2 F r3 _ W2 ⟨X,rfl⟩ q d1;unfold zn at q;refine sq<|rg<|rr 1 ?_;refine rn<|sq<|ci q (fun q=>?_) (fun q=>?_)
  ·refine sp<|sq<|bk<|sq<|rg ?_;obtain⟨x3,u1,q⟩:=bS q;refine ix (Ext.refl _) ((X.bring 0 rfl).own) u1 (fun e3 C2 V0 j1=>?_);have F1:=z17 j1;subst F1;refine lN V0 ?_;refine nw X (fun S2 s3 N2 K0=>?_);have L0:=K0.bring 0 rfl;refine so (A:=[]) L0 0 (fun t3 Y=>?_);refine rn<|rg<|rr 2 ?_;refine l1 ((Y.bring 0 rfl).box) 1 ?_;obtain⟨C1,v1,q⟩:=bS q;refine ix (Ext.refl _) ((Y.bring 2 rfl).own) v1 (fun f3 D2 W0 m1=>?_);cases m1;refine l1 W0 0 ?_;refine rr 1 ?_;have o0:=Y.bring 2 rfl;obtain⟨a1,q⟩:=iS q;have b0:=of_decide_eq_true a1;refine io o0 b0.1 b0.2 (fun q195 hq196=>?_);have M0:=o0.flat (T:=tInt) (cs:=[.int .i64 (w64 (C1+1))]) (x:=(w64 (C1+1))) ⟨rfl,rfl⟩;have N0:=M0.bring 1 rfl;refine se N0 b0.2 hq196 (fun u3 O0=>?_);refine rn<|rg<|rr 2 ?_;refine rn ?_;cases q;exact⟨_,_,rfl,⟨(((O0.bring 0 rfl).bring 2 rfl).taken 2),rfl⟩,rfl⟩
  ·refine xt ?_;cases q;exact⟨_,_,⟨d1,((X.bring 1 rfl).taken 1),rfl⟩,rfl⟩

theorem zb9:Enters Tryz.prog 168:=⟨_,_,Tryz.func168,rfl,by kernel_rfl⟩
def z5b (fuel:Nat) (x0:Bool):Option (Int):=(if x0=true then some 1 else some 0)

theorem z8k {W w:World}(hE:Ext W w){x0:Bool}  {fuel:Nat}{r:Int}(hm:z5b fuel x0=some r):
  Calls Tryz.prog 168 ⟨[.bool x0]⟩ w (Ret fun v w8=>v=.int .i64 r∧St w w8 []):=by
 refine into Tryz.func168 4 _ ?_;unfold z5b at hm;have hS:=St.start w;refine sq<|rg<|rr 1 ?_;refine rn<|sq<|sq<|rg<|rr 1 ?_;refine rn<|ci hm (fun hm=>?_) (fun hm=>?_)
 ·refine sq<|rg<|rr 1 ?_;refine rn<|rt ?_;cases hm;exact⟨_,.cons (.tmp rfl) .nil,rfl,hS⟩
 ·refine sp<|sq<|rg<|rr 1 ?_;refine rn<|rt ?_;cases hm;exact⟨_,.cons (.tmp rfl) .nil,rfl,hS⟩

theorem zbf:Enters Tryz.prog 154:=⟨_,_,Tryz.func154,rfl,by kernel_rfl⟩
def z1X (fuel:Nat) (d:Int):Option Bool:=some (d == (-1))
def zL (fuel:Nat) (x0:D.Memory) (d:Int × Int) (o:Bool):Option (Rd (Int × Int) (Int) (Bool)):=(if o=true then some (.ret false) else((idx x0.Cells d.1).bind fun q=>some (.next (q.Value,w64 (d.2+1)))))
def z5 (fuel:Nat) (x0:D.Memory) (y:Int) (d:Int × Int):Option (Rd (Int × Int) (Int) (Bool)):=(if(decide (d.2<y))=true then((zH fuel x0 d.1).bind fun o=>(if(!o)=true then zL fuel x0 d true else((idx x0.Cells d.1).bind fun z=>((zf fuel z).bind fun q=>zL fuel x0 d (!q))))) else some (.brk d.1))
def z4w (fuel:Nat) (x0:D.Memory) (d:Int):Option Bool:=((iter (z5 fuel x0 d) fuel (x0.Free,0)).bind fun o=>aft o (z1X fuel))
def z1g (fuel:Nat) (x0:D.Memory) (d:Int × Int):Option (Rd (Int × Int) (Int) (Bool)):=(if(decide (d.2<(x0.Cells.length:Int)))=true then((idx x0.Cells d.2).bind fun y=>((zf fuel y).bind fun o=>((z5b fuel o).bind fun q=>some (.next (w64 (d.1+q),w64 (d.2+1)))))) else some (.brk d.1))
def z1W (fuel:Nat) (x0:D.Memory):Option (Bool):=((iter (z1g fuel x0) fuel (0,0)).bind fun o=>aft o (z4w fuel x0))

theorem z5L {W w:World}(hE:Ext W w){O:Addr}{U0:List Value}{x0:D.Memory}(V0:ty33.ro W U0 x0) (Y:At W O U0){fuel:Nat}{r:Bool}(hm:z1W fuel x0=some r):
  Calls Tryz.prog 154 ⟨[.pointer (some O)]⟩ w (Ret fun v w8=>v=.bool r∧St w w8 []):=by
 obtain⟨A1,k2,A4,k5,e7,h3,h6⟩:=zR V0;subst e7;refine into Tryz.func154 55 _ ?_;unfold z1W at hm;have hS:=St.start w;refine sq<|rg<|rr 1 ?_;refine rn<|sq<|rg<|rr 1 ?_;refine rn<|sq<|sq<|rg<|rr 3 ?_;refine l1 (At.ext (hE.trans hS.ext) Y) 0 ?_;refine rr 2 ?_;refine rn ?_;obtain⟨m1,E0,hm⟩:=bS hm;refine ct (fun(r0:Int) F w9=>m1=.inl r0∧St w w9 []∧F=[(0,.pointer (some O)),(3,.int .i64 r0)]) ?_ ?_
 ·rintro r0 F W0 ⟨G0,j0,rfl⟩;subst G0;rw [z4] at hm;unfold z4w at hm;refine sq<|rg<|rr 3 ?_;refine l1 (At.ext (hE.trans j0.ext) Y) 1 ?_;refine rr 1 ?_;refine rn<|sq<|sq<|rg<|rr 2 ?_;refine rn ?_;obtain⟨n1,F0,hm⟩:=bS hm;refine ct (fun(S0:Int) F w9=>n1=.inl S0∧Ext W0 w9∧St w w9 []∧F=[(6,.int .i64 S0)]) ?_ ?_
  ·rintro S0 F j2 ⟨H0,j1,y0,rfl⟩;subst H0;rw [z4] at hm;unfold z1X at hm;refine sq<|rg<|rr 3 ?_;refine rn<|rt ?_;cases hm;exact⟨_,.cons (.tmp rfl) .nil,rfl,y0⟩
  ·refine bk<|wk [0,6,26,27] ?_;refine it (fun(X:Int × Int) F w9=>Ext W0 w9∧St w w9 []∧F=[(0,.pointer (some O)),(6,.int .i64 X.1),(26,.int .i64 r0),(27,.int .i64 X.2)]) F0 ⟨(Ext.refl _),j0,rfl⟩ ?_;rintro X F F1 _ p1 ⟨Z,M,rfl⟩ d k0;unfold z5 at d;refine sq<|rg<|rr 1 ?_;refine rn<|sq<|ci d (fun d=>?_) (fun d=>?_)
   ·refine sp<|sq<|bk<|sq<|sq<|ct (fun(T0:Bool) F w9=>zL fuel x0 X T0=some p1∧Ext F1 w9∧St w w9 []∧F=[(0,.pointer (some O)),(6,.int .i64 X.1),(26,.int .i64 r0),(27,.int .i64 X.2),(43,.bool T0)]) ?_ ?_
    ·rintro T0 F m2 ⟨d,t0,z,rfl⟩;unfold zL at d;refine ci d (fun d=>?_) (fun d=>?_)
     ·refine sq<|rg<|rr 1 ?_;refine rn<|rt ?_;cases d;cases k0;have hm:some _=some _:=hm;cases hm;exact⟨_,.cons (.tmp rfl) .nil,rfl,z⟩
     ·refine sp<|rg<|rr 3 ?_;refine l1 (At.ext (hE.trans z.ext) Y) 0 ?_;refine rr 1 ?_;obtain⟨q2,M0,d⟩:=bS d;refine ix (hE.trans z.ext) h3 M0 (fun b2 d1 B0 K0=>?_);obtain⟨H1,T1,J1,U1,Y0,P1,Q1⟩:=z3 K0;subst Y0;refine rr 1 ?_;refine l1 (At.ext (hE.trans z.ext) B0) 2 ?_;refine rr 1 ?_;refine rn<|rg<|rr 2 ?_;refine rn ?_;cases d;exact⟨_,_,rfl,⟨(Z.trans t0),z,rfl⟩,rfl⟩
    ·refine rg<|rr 2 ?_;obtain⟨f2,N0,d⟩:=bS d;refine ca z6t (z2f (hE.trans M.ext) V0 Y N0) (fun g2 n2 u0=>?_);obtain⟨rfl,L⟩:=u0;have q:=M.join L;refine rr 2 ?_;refine rb 33 d (fun d=>?_) (fun d=>?_)
     ·refine rr 10 ?_;refine rn ?_;exact⟨true,_,⟨d,L.ext,q,rfl⟩,rfl⟩
     ·refine rr 3 ?_;refine l1 (At.ext (hE.trans q.ext) Y) 0 ?_;refine rr 1 ?_;obtain⟨r2,O0,d⟩:=bS d;refine ix (hE.trans q.ext) h3 O0 (fun d2 e1 C0 o0=>?_);obtain⟨K1,V1,L1,W1,a1,R1,S1⟩:=z3 o0;subst a1;refine lN (At.ext (hE.trans q.ext) C0) ?_;obtain⟨u1,P0,d⟩:=bS d;refine ca z6s (z2e (hE.trans q.ext) o0 P0) (fun i2 o2 v0=>?_);obtain⟨rfl,e0⟩:=v0;have A0:=q.join e0;refine rr 2 ?_;refine rn ?_;exact⟨!u1,_,⟨d,(L.ext.trans e0.ext),A0,rfl⟩,rfl⟩
   ·refine xt ?_;cases d;exact⟨_,_,⟨k0,Z,M,rfl⟩,rfl⟩
 ·refine bk<|wk [0,3,10,11,12] ?_;refine it (fun(R0:Int × Int) F w9=>St w w9 []∧F=[(0,.pointer (some O)),(3,.int .i64 R0.1),(10,sl A1 x0.Cells k2),(11,.int .i64 (x0.Cells.length:Int)),(12,.int .i64 R0.2)]) E0 ⟨hS,rfl⟩ ?_;rintro R0 F p2 _ a2 ⟨G,rfl⟩ o J0;unfold z1g at o;refine sq<|rg<|rr 1 ?_;refine rn<|sq<|ci o (fun o=>?_) (fun o=>?_)
  ·refine sp<|sq<|bk<|sq<|rg ?_;obtain⟨G1,Q0,o⟩:=bS o;refine ix (hE.trans G.ext) h3 Q0 (fun e2 f1 D0 L0=>?_);obtain⟨M1,X1,N1,Y1,b1,g1,i1⟩:=z3 L0;subst b1;refine lN (At.ext (hE.trans G.ext) D0) ?_;refine nw G (fun O1 B1 X0 f0=>?_);have g0:=f0.bring 0 rfl;refine so (A:=[]) g0 0 (fun C1 y=>?_);refine rn<|rg<|rr 1 ?_;refine lN ((y.bring 0 rfl).box) ?_;obtain⟨s1,p0,o⟩:=bS o;refine ca z6s (z2e (hE.trans y.ext) (z4E G1 g1 i1) p0) (fun v1 D1 a0=>?_);obtain⟨rfl,b0⟩:=a0;have H:=y.join b0;obtain⟨t1,q0,o⟩:=bS o;refine ca zb9 (z8k (hE.trans H.ext)  q0) (fun y1 E1 c0=>?_);obtain⟨rfl,d0⟩:=c0;have i0:=H.join d0;refine rr 2 ?_;refine rn<|rg<|rr 2 ?_;refine rn ?_;cases o;exact⟨_,_,rfl,⟨(i0.taken 0),rfl⟩,rfl⟩
  ·refine xt ?_;cases o;exact⟨_,_,⟨J0,G,rfl⟩,rfl⟩

theorem zbZ:Enters Tryz.prog 96:=⟨_,_,Tryz.func96,rfl,by kernel_rfl⟩
def z4j (fuel:Nat) (d:Unit):Option (D.Word × Bool):=some ((⟨0,0⟩:D.Word),false)
def z1a (fuel:Nat) (x0:D.Memory) (d:Int × Int × Int) (q:Bool):Option (Rd (Int × Int × Int) (Unit) (D.Word × Bool)):=(if q=true then some (.ret ((⟨d.2.1,d.2.2⟩:D.Word),true)) else((idx x0.Cells d.2.2).bind fun y=>((idx y.Words 0).bind fun o=>some (.next (w64 (d.1+1),o.Tag,o.At)))))
def zB (fuel:Nat) (x0:D.Memory) (d:Int × Int × Int):Option (Rd (Int × Int × Int) (Unit) (D.Word × Bool)):=(if(decide (d.1<(w64 ((x0.Cells.length:Int)+1))))=true then(if(d.2.1 == 1)=true then z1a fuel x0 d true else((idx x0.Cells d.2.2).bind fun o=>z1a fuel x0 d ((o.Words.length:Int) == 0))) else some (.brk ()))
def z1D (fuel:Nat) (x0:D.Memory) (x1:D.Word):Option (D.Word × Bool):=((iter (zB fuel x0) fuel (0,x1.Tag,x1.At)).bind fun o=>aft o (z4j fuel))

theorem z5z {W w:World}(hE:Ext W w){a0:Addr}{D0:List Value}{x0:D.Memory}{E0:List Value}{x1:D.Word}(O0:ty33.ro W D0 x0) (b0:At W a0 D0) (P0:ty30.ro W E0 x1){fuel:Nat}{r:D.Word × Bool}(hm:z1D fuel x0 x1=some r):
  Calls Tryz.prog 96 ⟨[.pointer (some a0),.agg ⟨E0⟩]⟩ w (Ret fun v w8=>v=.tuple ⟨[.agg ⟨[.int .i64 r.1.Tag,.int .i64 r.1.At]⟩,.bool r.2]⟩∧St w w8 []):=by
 obtain⟨A1,k2,A4,k5,e7,h3,h6⟩:=zR O0;subst e7;have G0:=z17 P0;subst G0;refine into Tryz.func96 44 _ ?_;unfold z1D at hm;have hS:=St.start w;refine sq<|rg<|nw hS (fun Z u1 b1 c0=>?_);refine nw c0 (fun H v1 d1 L=>?_);refine rr 1 ?_;refine rn<|sq<|sq<|rg<|rr 3 ?_;refine l1 (At.ext (hE.trans L.ext) b0) 0 ?_;refine rr 3 ?_;refine rn ?_;obtain⟨S0,q0,hm⟩:=bS hm;refine ct (fun(F0:Unit) F w9=>S0=.inl F0∧St w w9 [Box H [.int .i64 0,.int .i64 0] 30]∧F=[(4,.pointer (some ⟨H,0,none⟩))]) ?_ ?_
 ·rintro F0 F y1 ⟨r0,d0,rfl⟩;subst r0;rw [z4] at hm;unfold z4j at hm;refine sq<|rg<|qt (qb) ?_;have e0:=d0.bring 0 rfl;refine so (A:=[]) e0 0 (fun B1 M=>?_);refine rr 1 ?_;refine rn<|rt ?_;cases hm;exact⟨_,.cons (ra ((M.bring 0 rfl).box)) (.cons (.tmp rfl) .nil),rfl,(M.taken 0)⟩
 ·refine bk<|wk [0,3,4,11,12] ?_;refine it (fun(G:Int × Int × Int) F w9=>St w w9 [Box H [.int .i64 0,.int .i64 0] 30,Box Z [.int .i64 G.2.1,.int .i64 G.2.2] 30]∧F=[(0,.pointer (some a0)),(3,.pointer (some ⟨Z,0,none⟩)),(4,.pointer (some ⟨H,0,none⟩)),(11,.int .i64 (w64 ((x0.Cells.length:Int)+1))),(12,.int .i64 G.1)]) q0 ⟨L,rfl⟩ ?_;rintro G F U0 _ T0 ⟨z,rfl⟩ d Y;unfold zB at d;refine sq<|rg<|rr 1 ?_;refine rn<|sq<|ci d (fun d=>?_) (fun d=>?_)
  ·refine sp<|sq<|bk<|sq<|sq<|ct (fun(C0:Bool) F w9=>z1a fuel x0 G C0=some T0∧Ext U0 w9∧St w w9 [Box H [.int .i64 0,.int .i64 0] 30,Box Z [.int .i64 G.2.1,.int .i64 G.2.2] 30]∧F=[(0,.pointer (some a0)),(3,.pointer (some ⟨Z,0,none⟩)),(4,.pointer (some ⟨H,0,none⟩)),(11,.int .i64 (w64 ((x0.Cells.length:Int)+1))),(12,.int .i64 G.1),(29,.bool C0)]) ?_ ?_
   ·rintro C0 F C1 ⟨d,R0,y,rfl⟩;unfold z1a at d;refine ci d (fun d=>?_) (fun d=>?_)
    ·refine sq<|rg<|lN ((y.bring 1 rfl).box) ?_;have f0:=y.bring 0 rfl;refine so (A:=[]) f0 0 (fun D1 O=>?_);refine rr 1 ?_;refine rn<|rt ?_;cases d;cases Y;have hm:some _=some _:=hm;cases hm;exact⟨_,.cons (ra ((O.bring 0 rfl).box)) (.cons (.tmp rfl) .nil),rfl,(O.taken 0)⟩
    ·refine sp<|dn 2048 mixed 12 [([],4095),([0],4094),([1],4093),([2],4091),([],4095),([4],4079),([3,5],4055),([6],4031),([7],3967),([8],3839),([9],3583),([10,0,1,2,3,4,5,6,7,8,9,10],3071)] y.ext (fun q=>?_);have g0:=y.step (Ext.draw _);refine dr 8 q [0,1,2,4] ?_;refine dl q 3 (At.ext (hE.trans y.ext) b0) 0 ?_;refine dl q 5 ((y.bring 1 rfl).box) 1 ?_;obtain⟨F1,y0,d⟩:=bS d;refine dx (hE.trans y.ext) q 6 h3 y0 (fun p1 L0 k0 t0=>?_);obtain⟨W0,i1,X0,j1,H0,e1,Q0⟩:=z3 t0;subst H0;refine dr 4 q [7] ?_;refine dw [0,3,4,11,12,38] ?_;refine dl q 8 (At.ext (hE.trans y.ext) k0) 4 ?_;obtain⟨G1,A0,d⟩:=bS d;refine dx (hE.trans y.ext) q 9 Q0 A0 (fun s1 M0 o0 u0=>?_);have J0:=z17 u0;subst J0;refine dL q 10 (At.ext (hE.trans y.ext) o0) ?_;have i0:=g0.bring 1 rfl;refine o1 q 11 (ms (A:=[]) i0 q 0 (fun E1 j0=>?_));refine dd q ?_;refine rg<|rr 2 ?_;refine rn ?_;cases d;exact⟨_,_,rfl,⟨((j0.bring 0 rfl).bring 1 rfl),rfl⟩,rfl⟩
   ·refine dn 0 mixed 16 [([],65535),([0],65534),([1],65533),([2],65531),([3],65527),([4,3],65511),([5,3],65495),([6,3],65463),([3],65527),([8,3],65271),([7,9,3],64887),([10,3],64503),([11,3],63479),([12,3],61431),([13,3],57335),([3,14],49143)] z.ext (fun o=>?_);have X:=z.step (Ext.draw _);refine dr 15 o [0] ?_;refine dl o 1 ((z.bring 1 rfl).box) 0 ?_;refine dr 12 o [2,3] ?_;refine db 17 d (fun d=>?_) (fun d=>?_)
    ·refine dr 0 o [4,5,6,7,8,9,10,11,12,13,14,15] ?_;refine dw [0,3,4,11,12,29] ?_;refine dd o ?_;exact⟨true,_,⟨d,(Ext.draw _),X,rfl⟩,rfl⟩
    ·refine dr 8 o [4,5,6,8] ?_;refine dw [0,3,4,11,12,17,20,22] ?_;refine dl o 7 (At.ext (hE.trans z.ext) b0) 0 ?_;refine dl o 9 ((z.bring 1 rfl).box) 1 ?_;obtain⟨V0,B0,d⟩:=bS d;refine dx (hE.trans z.ext) o 10 h3 B0 (fun t1 N0 p0 v0=>?_);obtain⟨Y0,m1,a1,n1,K0,f1,g1⟩:=z3 v0;subst K0;refine dr 4 o [11] ?_;refine dl o 12 (At.ext (hE.trans z.ext) p0) 4 ?_;refine dr 0 o [13,14,15] ?_;refine dw [0,3,4,11,12,29] ?_;refine dd o ?_;exact⟨((V0.Words.length:Int) == 0),_,⟨d,(Ext.draw _),X,rfl⟩,rfl⟩
  ·refine xt ?_;cases d;exact⟨_,_,⟨Y,(z.taken 1),rfl⟩,rfl⟩

theorem zc9:Enters Tryz.prog 79:=⟨_,_,Tryz.func79,rfl,by kernel_rfl⟩
def z3W (fuel:Nat) (d:Unit):Option Bool:=some true
def zZ (fuel:Nat) (d:Int) (o:Unit):Option (Rd (Int) (Unit) (Bool)):=some (.next (w64 (d+1)))
def zK (fuel:Nat) (x0:D.Memory) (d:Int):Option (Rd (Int) (Unit) (Bool)):=(if(decide (d<(x0.Cells.length:Int)))=true then((idx x0.Cells d).bind fun y=>((zd fuel y).bind fun o=>(if o=true then((z1D fuel x0 (⟨2,d⟩:D.Word)).bind fun q=>(if(!q.2)=true then some (.ret false) else zZ fuel d ())) else zZ fuel d ()))) else some (.brk ()))
def z10 (fuel:Nat) (x0:D.Memory) (d:Bool):Option Bool:=(if d=true then some false else((iter (zK fuel x0) fuel 0).bind fun o=>aft o (z3W fuel)))
def zJ (fuel:Nat) (x0:D.Memory) (x1:(List D.Word)) (q:Bool):Option Bool:=(if q=true then some false else((zT fuel x0 x1).bind fun d=>(if(!d)=true then z10 fuel x0 true else((z1W fuel x0).bind fun o=>z10 fuel x0 (!o)))))
def zp (fuel:Nat) (x0:D.Memory) (x1:(List D.Word)) (z:Bool):Option Bool:=(if z=true then some false else((zc fuel x0.Cells (fun y0=>z1v fuel y0)).bind fun o=>(if o=true then zJ fuel x0 x1 true else((z2d fuel x0).bind fun d=>(if decide ((d.length:Int)+(x1.length:Int)≤4294967296)=true then((za fuel (d++x1) (fun y0=>z1u fuel y0 x0)).bind fun q=>(if q=true then zJ fuel x0 x1 true else((zb fuel x0.Redexes (fun y0=>z1t fuel y0 x0)).bind fun y=>zJ fuel x0 x1 y))) else none)))))
def z1f (fuel:Nat) (x0:D.Memory) (x1:(List D.Word)):Option (Bool):=(if(decide ((x0.Cells.length:Int)<1))=true then zp fuel x0 x1 true else(if(decide ((x0.Cells.length:Int)>1500))=true then zp fuel x0 x1 true else zp fuel x0 x1 (decide ((x0.Redexes.length:Int)>(x0.Cells.length:Int)))))

theorem z5u {W w:World}(hE:Ext W w){j0:Addr}{y1:List Value}{x0:D.Memory}{M0:Option Addr}{N0:Nat}{x1:(List D.Word)}(f0:ty33.ro W y1 x0) (H:At W j0 y1) (B1:ty81.ro W [sl M0 x1 N0] x1){fuel:Nat}{r:Bool}(hm:z1f fuel x0 x1=some r):
  Calls Tryz.prog 79 ⟨[.pointer (some j0),sl M0 x1 N0]⟩ w (Ret fun v w8=>v=.bool r∧St w w8 []):=by
 obtain⟨A1,k2,A4,k5,e7,h3,h6⟩:=zR f0;subst e7;refine into Tryz.func79 88 _ ?_;unfold z1f at hm;have hS:=St.start w;refine sq<|rg<|nw hS (fun X b2 o2 y=>?_);refine rr 1 ?_;refine rn<|sq<|sq<|ct (fun(t1:Bool) F w9=>zp fuel x0 x1 t1=some r∧Ext b2 w9∧St w w9 [Box X [.pointer (some j0)] 71]∧F=[(1,sl M0 x1 N0),(2,.pointer (some ⟨X,0,none⟩)),(35,.bool t1)]) ?_ ?_
 ·rintro t1 F G2 ⟨hm,L1,O,rfl⟩;unfold zp at hm;refine ci hm (fun hm=>?_) (fun hm=>?_)
  ·refine sq<|rg<|rr 1 ?_;refine rn<|rt ?_;cases hm;exact⟨_,.cons (.tmp rfl) .nil,rfl,(O.taken 0)⟩
  ·refine sp<|sq<|sq<|ct (fun(u1:Bool) F w9=>zJ fuel x0 x1 u1=some r∧St w w9 [Box X [.pointer (some j0)] 71]∧F=[(1,sl M0 x1 N0),(2,.pointer (some ⟨X,0,none⟩)),(56,.bool u1)]) ?_ ?_
   ·rintro u1 F i2 ⟨hm,Y,rfl⟩;unfold zJ at hm;refine ci hm (fun hm=>?_) (fun hm=>?_)
    ·refine sq<|rg<|rr 1 ?_;refine rn<|rt ?_;cases hm;exact⟨_,.cons (.tmp rfl) .nil,rfl,(Y.taken 0)⟩
    ·refine sp<|sq<|sq<|ct (fun(v1:Bool) F w9=>z10 fuel x0 v1=some r∧Ext i2 w9∧St w w9 [Box X [.pointer (some j0)] 71]∧F=[(2,.pointer (some ⟨X,0,none⟩)),(65,.bool v1)]) ?_ ?_
     ·rintro v1 F H2 ⟨hm,M1,Z,rfl⟩;unfold z10 at hm;refine ci hm (fun hm=>?_) (fun hm=>?_)
      ·refine sq<|rg<|rr 1 ?_;refine rn<|rt ?_;cases hm;exact⟨_,.cons (.tmp rfl) .nil,rfl,(Z.taken 0)⟩
      ·refine sp<|sq<|sq<|rg<|l1 ((Z.bring 0 rfl).box) 0 ?_;refine rr 2 ?_;refine l1 (At.ext (hE.trans Z.ext) H) 0 ?_;refine rr 2 ?_;refine rn ?_;obtain⟨P1,e1,hm⟩:=bS hm;refine ct (fun(C1:Unit) F w9=>P1=.inl C1∧St w w9 []∧F=[]) ?_ ?_
       ·rintro C1 F J2 ⟨f1,U0,rfl⟩;subst f1;rw [z4] at hm;unfold z3W at hm;refine sq<|rg<|rr 1 ?_;refine rn<|rt ?_;cases hm;exact⟨_,.cons (.tmp rfl) .nil,rfl,U0⟩
       ·refine bk<|wk [2,69,70,71] ?_;refine it (fun(L0:Int) F w9=>St w w9 [Box X [.pointer (some j0)] 71]∧F=[(2,.pointer (some ⟨X,0,none⟩)),(69,sl A1 x0.Cells k2),(70,.int .i64 (x0.Cells.length:Int)),(71,.int .i64 L0)]) e1 ⟨Z,rfl⟩ ?_;rintro L0 F K2 _ Q1 ⟨a0,rfl⟩ o E0;unfold zK at o;refine sq<|rg<|rr 1 ?_;refine rn<|sq<|ci o (fun o=>?_) (fun o=>?_)
        ·refine sp<|sq<|bk<|sq<|rg<|rr 1 ?_;obtain⟨j2,i1,o⟩:=bS o;refine ix (hE.trans a0.ext) h3 i1 (fun v2 H1 d1 g1=>?_);obtain⟨m2,t2,n2,u2,G1,J1,K1⟩:=z3 g1;subst G1;refine lN (At.ext (hE.trans a0.ext) d1) ?_;refine nw a0 (fun r2 L2 p2 V0=>?_);refine rr 1 ?_;have W0:=V0.bring 0 rfl;refine so (A:=[]) W0 0 (fun M2 i0=>?_);refine rn<|sq<|rg<|lN ((i0.bring 0 rfl).box) ?_;obtain⟨y2,j1,o⟩:=bS o;refine ca z5M (z1i (hE.trans i0.ext) (z4E j2 J1 K1) j1) (fun C2 N2 O0=>?_);obtain⟨rfl,P0⟩:=O0;have b0:=i0.join P0;refine rn<|ct (fun(D1:Unit) F w9=>zZ fuel L0 D1=some Q1∧St w w9 [Box X [.pointer (some j0)] 71]∧F=[(2,.pointer (some ⟨X,0,none⟩)),(69,sl A1 x0.Cells k2),(70,.int .i64 (x0.Cells.length:Int)),(71,.int .i64 L0)]) ?_ ?_
         ·rintro D1 F O2 ⟨o,X0,rfl⟩;unfold zZ at o;refine rg<|rr 2 ?_;refine rn ?_;cases o;exact⟨_,_,rfl,⟨X0,rfl⟩,rfl⟩
         ·refine ci o (fun o=>?_) (fun o=>?_)
          ·refine sq<|rg<|l1 ((b0.bring 1 rfl).box) 0 ?_;refine rr 1 ?_;refine qt (qb) ?_;obtain⟨A2,m1,o⟩:=bS o;refine ca zbZ (z5z (hE.trans b0.ext) f0 H (z5i (⟨2,L0⟩:D.Word)) m1) (fun D2 P2 Q0=>?_);obtain⟨rfl,R0⟩:=Q0;have Y0:=b0.join R0;refine rr 3 ?_;refine nw Y0 (fun s2 Q2 q2 a1=>?_);have b1:=a1.bring 0 rfl;refine so (A:=[]) b1 0 (fun R2 C0=>?_);refine rr 1 ?_;refine rn<|sq<|rg<|rr 2 ?_;refine rn<|ci o (fun o=>?_) (fun o=>?_)
           ·refine sq<|rg<|rr 1 ?_;refine rn<|rt ?_;cases o;cases E0;have hm:some _=some _:=hm;cases hm;exact⟨_,.cons (.tmp rfl) .nil,rfl,(C0.taken 0)⟩
           ·refine sp ?_;exact⟨(),_,⟨o,((C0.bring 2 rfl).taken 1),rfl⟩,rfl⟩
          ·refine sp ?_;exact⟨(),_,⟨o,((b0.bring 1 rfl).taken 1),rfl⟩,rfl⟩
        ·refine xt ?_;cases o;exact⟨_,_,⟨E0,(a0.taken 0),rfl⟩,rfl⟩
     ·refine rg<|l1 ((Y.bring 0 rfl).box) 0 ?_;refine rr 1 ?_;obtain⟨B2,n1,hm⟩:=bS hm;refine ca zbg (z4Q (hE.trans Y.ext) f0 H B1 n1) (fun E2 S2 S0=>?_);obtain⟨rfl,g0⟩:=S0;have c0:=Y.join g0;refine rr 2 ?_;refine rb 61 hm (fun hm=>?_) (fun hm=>?_)
      ·refine rr 4 ?_;refine rn ?_;exact⟨true,_,⟨hm,g0.ext,c0,rfl⟩,rfl⟩
      ·refine l1 ((c0.bring 0 rfl).box) 0 ?_;obtain⟨U1,p1,hm⟩:=bS hm;refine ca zbf (z5L (hE.trans c0.ext) f0 H p1) (fun F2 T2 T0=>?_);obtain⟨rfl,d0⟩:=T0;have y0:=c0.join d0;refine rr 2 ?_;refine rn ?_;exact⟨!U1,_,⟨hm,(g0.ext.trans d0.ext),y0,rfl⟩,rfl⟩
   ·refine rg<|l1 ((O.bring 0 rfl).box) 0 ?_;refine rr 2 ?_;refine l1 (At.ext (hE.trans O.ext) H) 0 ?_;obtain⟨R1,F0,hm⟩:=bS hm;refine ca zbq (z37 (hE.trans O.ext) h3 ⟨zbp,fun e9=>(fun L K0=>z51 (Ext.refl _) L K0)⟩ F0) (fun V1 a2 k0=>?_);obtain⟨rfl,o0⟩:=k0;have G:=O.join o0;refine rr 1 ?_;refine rb 41 hm (fun hm=>?_) (fun hm=>?_)
    ·refine rr 15 ?_;refine rn ?_;exact⟨true,_,⟨hm,G,rfl⟩,rfl⟩
    ·refine l1 ((G.bring 0 rfl).box) 0 ?_;obtain⟨S1,G0,hm⟩:=bS hm;refine ca z96 (z4O (hE.trans G.ext) f0 H G0) (fun W1 d2 p0=>?_);obtain⟨E1,N1,rfl,q0⟩:=p0;have A0:=G.join q0;refine rr 1 ?_;have e0:=A0.bring 0 rfl;obtain⟨D0,hm⟩:=iS hm;refine ap (Flat.map (Flat.pair Flat.int (Flat.pair Flat.int Flat.unit))) e0 (ty81.ext (hE.trans e0.ext) B1) D0 (fun F1 O1 e2 z=>?_);refine rr 1 ?_;obtain⟨T1,H0,hm⟩:=bS hm;refine ca zbn (z35 (Ext.refl _) ((z.bring 0 rfl).own) ⟨zbm,fun e9=>(fun L K0=>z50 (Ext.refl _) L (At.ext e9 ((z.bring 1 rfl).box)) (ty33.ext e9 (ty33.ext (hE.trans z.ext) f0)) (At.ext e9 (At.ext (hE.trans z.ext) H)) K0)⟩ H0) (fun X1 f2 r0=>?_);obtain⟨rfl,t0⟩:=r0;have q:=z.join t0;refine rr 2 ?_;refine rb 49 hm (fun hm=>?_) (fun hm=>?_)
     ·refine rr 7 ?_;refine rn ?_;exact⟨true,_,⟨hm,((q.bring 1 rfl).taken 1),rfl⟩,rfl⟩
     ·refine l1 ((q.bring 1 rfl).box) 0 ?_;refine rr 2 ?_;refine l1 (At.ext (hE.trans q.ext) H) 4 ?_;refine rr 1 ?_;obtain⟨s1,J0,hm⟩:=bS hm;refine ca zbj (z36 (Ext.refl _) (ty31.ext (hE.trans q.ext) h6) ⟨zbi,fun e9=>(fun L K0=>z4Z (Ext.refl _) L (At.ext e9 ((q.bring 1 rfl).box)) (ty33.ext e9 (ty33.ext (hE.trans q.ext) f0)) (At.ext e9 (At.ext (hE.trans q.ext) H)) K0)⟩ J0) (fun Y1 g2 u0=>?_);obtain⟨rfl,v0⟩:=u0;have B0:=q.join v0;refine rr 1 ?_;refine rn ?_;exact⟨s1,_,⟨hm,((B0.bring 1 rfl).taken 1),rfl⟩,rfl⟩
 ·refine dn 0 mixed 27 [([],134217727),([0],134217726),([1],134217725),([2],134217723),([3],134217719),([4],134217711),([5],134217695),([6],134217663),([7,6],134217535),([8,6],134217407),([9,6],134217151),([10,6],134216639),([11,6],134215615),([6,12],134213567),([13,6],134209535),([14],134201343),([15,14],134168575),([16,14],134135807),([17,14],134070271),([18,14],133939199),([14],134201343),([20,14],133152767),([21,14],132104191),([22,14],130007039),([23,14],125812735),([19,24,14],116899839),([14,25],100646911)] y.ext (fun d=>?_);have M:=y.step (Ext.draw _);refine dl d 0 ((y.bring 0 rfl).box) 0 ?_;refine dr 24 d [1,2] ?_;refine dl d 3 (At.ext (hE.trans y.ext) H) 0 ?_;refine dr 20 d [4,5,6] ?_;refine dw [1,2,15] ?_;refine db 15 hm (fun hm=>?_) (fun hm=>?_)
  ·refine dr 0 d [7,8,9,10,11,12,13,14,15,16,17,18,19,20,21,22,23,24,25,26] ?_;refine dw [1,2,35] ?_;refine dd d ?_;exact⟨true,_,⟨hm,(Ext.draw _),M,rfl⟩,rfl⟩
  ·refine dl d 7 ((y.bring 0 rfl).box) 0 ?_;refine dr 17 d [8,9] ?_;refine dl d 10 (At.ext (hE.trans y.ext) H) 0 ?_;refine dr 12 d [11,12,13,14] ?_;refine dw [1,2,23] ?_;refine db 23 hm (fun hm=>?_) (fun hm=>?_)
   ·refine dr 0 d [15,16,17,18,19,20,21,22,23,24,25,26] ?_;refine dw [1,2,35] ?_;refine dd d ?_;exact⟨true,_,⟨hm,(Ext.draw _),M,rfl⟩,rfl⟩
   ·refine dl d 15 ((y.bring 0 rfl).box) 0 ?_;refine dr 9 d [16,17] ?_;refine dl d 18 (At.ext (hE.trans y.ext) H) 4 ?_;refine dr 7 d [19] ?_;refine dl d 20 ((y.bring 0 rfl).box) 0 ?_;refine dr 4 d [21,22] ?_;refine dw [1,2,23,28,31] ?_;refine dl d 23 (At.ext (hE.trans y.ext) H) 0 ?_;refine dr 0 d [24,25,26] ?_;refine dw [1,2,35] ?_;refine dd d ?_;exact⟨decide ((x0.Redexes.length:Int)>(x0.Cells.length:Int)),_,⟨hm,(Ext.draw _),M,rfl⟩,rfl⟩

theorem zcs:Enters Tryz.prog 38:=⟨_,_,Tryz.func38,rfl,by kernel_rfl⟩
def z2z (fuel:Nat) (x0:D.Memory):Option (Bool):=((z1f fuel x0 ([]:(List D.Word))).bind fun d=>some d)

theorem z64 {W w:World}(hE:Ext W w){G:List Value}{x0:D.Memory}(H:ty33.ro W G x0){fuel:Nat}{r:Bool}(hm:z2z fuel x0=some r):
  Calls Tryz.prog 38 ⟨[.agg ⟨G⟩]⟩ w (Ret fun v w8=>v=.bool r∧St w w8 []):=by
 obtain⟨A1,k2,A4,k5,e7,h3,h6⟩:=zR H;subst e7;refine into Tryz.func38 4 _ ?_;unfold z2z at hm;have hS:=St.start w;refine sq<|rg<|nw hS (fun M Y L d=>?_);refine rr 1 ?_;refine rn<|sq<|rg ?_;obtain⟨O,z,hm⟩:=bS hm;refine ca zc9 (z5u (Ext.refl _) (ty33.ext (hE.trans d.ext) H) ((d.bring 0 rfl).box) (show ty81.ro _ [.slice none ([]:(List D.Word)).length 0] [] from slNil ty30 30 _) z) (fun X Z o=>?_);obtain⟨rfl,q⟩:=o;have y:=d.join q;refine rr 1 ?_;refine rn<|rt ?_;cases hm;exact⟨_,.cons (.tmp rfl) .nil,rfl,(y.taken 0)⟩

theorem z6q:Enters Tryz.prog 90:=⟨_,_,Tryz.func90,rfl,by kernel_rfl⟩
def zU (fuel:Nat) (x0:D.Cell):Option (Bool):=((zg fuel x0.Kind 2 12).bind fun d=>some d)

theorem z2i {W w:World}(hE:Ext W w){G:Addr}{z:List Value}{x0:D.Cell}(L:ty83.ro W z x0) (H:At W G z){fuel:Nat}{r:Bool}(hm:zU fuel x0=some r):
  Calls Tryz.prog 90 ⟨[.pointer (some G)]⟩ w (Ret fun v w8=>v=.bool r∧St w w8 []):=by
 obtain⟨A1,k2,A4,k5,e7,h3,h6⟩:=z3 L;subst e7;refine into Tryz.func90 8 _ ?_;unfold zU at hm;have hS:=St.start w;refine sq<|rg<|rr 1 ?_;refine rn<|sq<|rg<|rr 3 ?_;refine l1 (At.ext (hE.trans hS.ext) H) 0 ?_;obtain⟨M,y,hm⟩:=bS hm;refine ca z2g (zi (hE.trans hS.ext)  y) (fun O X d=>?_);obtain⟨rfl,o⟩:=d;have q:=hS.join o;refine rr 1 ?_;refine rn<|rt ?_;cases hm;exact⟨_,.cons (.tmp rfl) .nil,rfl,q⟩

theorem zb8:Enters Tryz.prog 172:=⟨_,_,Tryz.func172,rfl,by kernel_rfl⟩
def z58 (fuel:Nat) (d:(Int × Int × Int × (List Int) × (List D.Port))) (o:(List D.Port)):Option D.Agent:=some (⟨d.1,d.2.1,d.2.2.1,d.2.2.2.1,o⟩:D.Agent)
def z2q (fuel:Nat) (x0:D.Cell) (d:Int × (List D.Port)):Option (Rd (Int × (List D.Port)) ((List D.Port)) (D.Agent)):=(if(decide (d.1<(x0.Words.length:Int)))=true then(if decide ((d.2.length:Int)+(([(⟨0,0⟩:D.Port)]:(List D.Port)).length:Int)≤4294967296)=true then some (.next (w64 (d.1+1),(d.2++([(⟨0,0⟩:D.Port)]:(List D.Port))))) else none) else some (.brk d.2))
def z3m (fuel:Nat) (x0:D.Cell) (d:(Int × Int × Int × (List Int) × (List D.Port))):Option D.Agent:=((iter (z2q fuel x0) fuel (0,d.2.2.2.2)).bind fun o=>aft o (z58 fuel d))
def z3w (fuel:Nat) (x0:D.Cell):Option (D.Agent):=z3m fuel x0 (x0.Kind,x0.Level,x0.Value,x0.Data,([(⟨0,0⟩:D.Port)]:(List D.Port)))

theorem z6R {W w:World}(hE:Ext W w){j0:Addr}{N0:List Value}{x0:D.Cell}(T0:ty83.ro W N0 x0) (O:At W j0 N0){fuel:Nat}{r:D.Agent}(hm:z3w fuel x0=some r):
  Calls Tryz.prog 172 ⟨[.pointer (some j0)]⟩ w (Ret fun v w8=>∃ A0 k0 A1 k1,v=.agg ⟨[.int .i64 r.Kind,.int .i64 r.Level,.int .i64 r.Value,sl A0 r.Data k0,sl A1 r.Ports k1]⟩∧St w w8 [ow z7F A1 r.Ports k1]∧ty80.ro W [sl A0 r.Data k0] r.Data):=by
 obtain⟨A1,k2,A4,k5,e7,h3,h6⟩:=z3 T0;subst e7;refine into Tryz.func172 40 _ ?_;unfold z3w at hm;have hS:=St.start w;refine sq<|rg<|nw hS (fun L p1 b1 y=>?_);refine rn<|sq<|ct (fun(o:(Int × Int × Int × (List Int) × (List D.Port))) F w9=>∃ G H M c0 f0,z3m fuel x0 o=some r∧ty80.ro W [sl H o.2.2.2.1 M] o.2.2.2.1∧St w w9 [Box G [.int .i64 o.1,.int .i64 o.2.1,.int .i64 o.2.2.1,sl H o.2.2.2.1 M,sl c0 o.2.2.2.2 f0] 148,ow z7F c0 o.2.2.2.2 f0,Box L [.int .i64 0,.int .i64 0,.int .i64 0,.slice none 0 0,.slice none 0 0] 148]∧F=[(0,.pointer (some j0)),(2,.pointer (some ⟨L,0,none⟩)),(3,.pointer (some ⟨G,0,none⟩))]) ?_ ?_
 ·rintro o F s1 ⟨G,H,M,c0,f0,hm,U0,q0,rfl⟩;unfold z3m at hm;refine sq<|sq<|rg<|rr 1 ?_;refine rn ?_;obtain⟨Y0,K0,hm⟩:=bS hm;refine ct (fun(p0:(List D.Port)) F w9=>∃ e0 i0,Y0=.inl p0∧St w w9 [Box G [.int .i64 o.1,.int .i64 o.2.1,.int .i64 o.2.2.1,sl H o.2.2.2.1 M,sl e0 p0 i0] 148,ow z7F e0 p0 i0,Box L [.int .i64 0,.int .i64 0,.int .i64 0,.slice none 0 0,.slice none 0 0] 148]∧F=[(2,.pointer (some ⟨L,0,none⟩)),(3,.pointer (some ⟨G,0,none⟩))]) ?_ ?_
  ·rintro p0 F t1 ⟨e0,i0,L0,Y,rfl⟩;subst L0;rw [z4] at hm;unfold z58 at hm;refine sq<|rg<|lN ((Y.bring 0 rfl).box) ?_;have r0:=Y.bring 2 rfl;refine so (A:=[]) r0 0 (fun u1 Z=>?_);refine rn<|rt ?_;cases hm;exact⟨_,.cons (ra ((Z.bring 0 rfl).box)) .nil,H,M,e0,i0,rfl,((Z.bring 2 rfl).taken 1),U0⟩
  ·refine bk<|wk [0,2,3,4] ?_;refine it (fun(o0:Int × (List D.Port)) F w9=>∃ d0 g0,St w w9 [Box G [.int .i64 o.1,.int .i64 o.2.1,.int .i64 o.2.2.1,sl H o.2.2.2.1 M,sl d0 o0.2 g0] 148,ow z7F d0 o0.2 g0,Box L [.int .i64 0,.int .i64 0,.int .i64 0,.slice none 0 0,.slice none 0 0] 148]∧F=[(0,.pointer (some j0)),(2,.pointer (some ⟨L,0,none⟩)),(3,.pointer (some ⟨G,0,none⟩)),(4,.int .i64 o0.1)]) K0 ⟨c0,f0,q0,rfl⟩ ?_;rintro o0 F v1 _ n1 ⟨d0,g0,z,rfl⟩ q M0;unfold z2q at q;refine sq<|sq<|rg<|rr 4 ?_;refine l1 (At.ext (hE.trans z.ext) O) 4 ?_;refine rr 2 ?_;refine rn<|ci q (fun q=>?_) (fun q=>?_)
   ·refine sp<|sq<|bk<|rg<|rr 1 ?_;refine l1 ((z.bring 0 rfl).box) 4 ?_;refine qt (qb) ?_;refine ns (z.flatEls (U:=z85) (els:=[.int .i64 0,.int .i64 0]) (ys:=[(⟨0,0⟩:D.Port)]) ⟨[.int .i64 0,.int .i64 0],_,[],[],rfl,rfl,(z5T (c:=(⟨0,0⟩:D.Port)) rfl),⟨rfl,rfl⟩⟩) (fun a1 m1 y1 d1 t0=>?_);have a0:=t0.bring 2 rfl;obtain⟨J0,q⟩:=iS q;refine ap (Flat.map (Flat.pair Flat.int (Flat.pair Flat.int Flat.unit))) a0 ((a0.bring 1 rfl).own) J0 (fun O0 V0 B1 u0=>?_);refine rr 1 ?_;have v0:=u0.bring 2 rfl;refine so (A:=[]) v0 4 (fun C1 y0=>?_);refine rn<|rg<|rr 3 ?_;refine rn ?_;cases q;exact⟨_,_,rfl,⟨O0,V0,(y0.sel [0,1,3]),rfl⟩,rfl⟩
   ·refine xt ?_;cases q;exact⟨_,_,⟨d0,g0,M0,z,rfl⟩,rfl⟩
 ·refine dn 1048576 mixed 21 [([],2097151),([0],2097150),([1],2097149),([2],2097147),([],2097151),([4],2097135),([5],2097119),([6],2097087),([],2097151),([8],2096895),([9],2096639),([10],2096127),([],2097151),([12],2093055),([13],2088959),([14],2080767),([],2097151),([16],2031615),([3,7,11,15,17],1931127),([],2097151),([19,18,0,1,2,3,4,5,6,7,8,9,10,11,12,13,14,15,16,17,18,19],1310719)] y.ext (fun d=>?_);have b0:=y.step (Ext.draw _);refine dr 9 d [0,1,2,4,5,6,8,9,10,12,13,14] ?_;refine dw [0,2,7,11,15,19] ?_;refine dl d 3 (At.ext (hE.trans y.ext) O) 0 ?_;refine dl d 7 (At.ext (hE.trans y.ext) O) 1 ?_;refine dl d 11 (At.ext (hE.trans y.ext) O) 2 ?_;refine dl d 15 (At.ext (hE.trans y.ext) O) 3 ?_;refine dp d 16 rfl (fun _=>qb) ?_;refine da d [17,19] (by simp) ?_;intro j1 hi76;simp only [List.mem_cons,List.not_mem_nil,or_false] at hi76
  rcases hi76 with rfl | rfl
  ·refine mn (b0.flatEls (U:=z85) (els:=[.int .i64 0,.int .i64 0]) (ys:=[(⟨0,0⟩:D.Port)]) ⟨[.int .i64 0,.int .i64 0],_,[],[],rfl,rfl,(z5T (c:=(⟨0,0⟩:D.Port)) rfl),⟨rfl,rfl⟩⟩) d (fun P0 W0 D1 e1 B0=>?_);refine dp d 18 rfl (fun _=>qb) ?_;refine o1 d 19 (mw d B0 (fun R0 E1 f1 C0=>?_));have D0:=C0.bring 0 rfl;refine o1 d 20 (ms (A:=[]) D0 d 0 (fun F1 E0=>?_));refine dd d ?_;exact⟨(x0.Kind,x0.Level,x0.Value,x0.Data,([(⟨0,0⟩:D.Port)]:(List D.Port))),_,⟨R0,A1,k2,P0,W0,hm,h3,E0,rfl⟩,rfl⟩
  ·refine mw d b0 (fun S0 G1 g1 F0=>?_);refine o1 d 17 (mn (F0.flatEls (U:=z85) (els:=[.int .i64 0,.int .i64 0]) (ys:=[(⟨0,0⟩:D.Port)]) ⟨[.int .i64 0,.int .i64 0],_,[],[],rfl,rfl,(z5T (c:=(⟨0,0⟩:D.Port)) rfl),⟨rfl,rfl⟩⟩) d (fun Q0 X0 H1 i1 G0=>?_));refine dp d 18 rfl (fun _=>qb) ?_;have H0:=G0.bring 1 rfl;refine o1 d 20 (ms (A:=[]) H0 d 0 (fun J1 X=>?_));refine dd d ?_;exact⟨(x0.Kind,x0.Level,x0.Value,x0.Data,([(⟨0,0⟩:D.Port)]:(List D.Port))),_,⟨S0,A1,k2,Q0,X0,hm,h3,X,rfl⟩,rfl⟩

theorem zby:Enters Tryz.prog 134:=⟨_,_,Tryz.func134,rfl,by kernel_rfl⟩
def z45 (fuel:Nat) (x0:D.Cell) (x1:Int):Option (Bool):=(if(x0.Kind == 0)=true then(if(x0.Level == 0)=true then(if((x0.Data.length:Int) == 0)=true then(if((x0.Words.length:Int) == 0)=true then((zg fuel x0.Value (-1) (w64 (x1 - 1))).bind fun o=>some o) else some false) else some false) else some false) else(if(x0.Kind == 13)=true then(if(x0.Level == 0)=true then(if(x0.Value == 0)=true then(if((x0.Data.length:Int) == 0)=true then some (decide ((x0.Words.length:Int)<2)) else some false) else some false) else some false) else((zU fuel x0).bind fun q=>(if q=true then((z3w fuel x0).bind fun d=>((z3x fuel (⟨d.Kind,d.Level,d.Value,d.Data,d.Ports⟩:D.Agent)).bind fun y=>some y)) else some false))))

theorem z7e {W w:World}(hE:Ext W w){o0:Addr}{k0:List Value}{x0:D.Cell}{x1:Int}(z:ty83.ro W k0 x0) (d:At W o0 k0){fuel:Nat}{r:Bool}(hm:z45 fuel x0 x1=some r):
  Calls Tryz.prog 134 ⟨[.pointer (some o0),.int .i64 x1]⟩ w (Ret fun v w8=>v=.bool r∧St w w8 []):=by
 obtain⟨A1,k2,A4,k5,e7,h3,h6⟩:=z3 z;subst e7;refine into Tryz.func134 82 _ ?_;unfold z45 at hm;have hS:=St.start w;refine sq<|rg<|rr 1 ?_;refine rn<|sq<|bk<|sq<|rg<|rr 3 ?_;refine l1 (At.ext (hE.trans hS.ext) d) 0 ?_;refine rr 2 ?_;refine rn<|ci hm (fun hm=>?_) (fun hm=>?_)
 ·refine sq<|rg<|rr 3 ?_;refine l1 (At.ext (hE.trans hS.ext) d) 1 ?_;refine rr 2 ?_;refine rb 17 hm (fun hm=>?_) (fun hm=>?_)
  ·refine rr 3 ?_;refine l1 (At.ext (hE.trans hS.ext) d) 3 ?_;refine rr 4 ?_;refine rb 25 hm (fun hm=>?_) (fun hm=>?_)
   ·refine rr 3 ?_;refine l1 (At.ext (hE.trans hS.ext) d) 4 ?_;refine rr 4 ?_;refine rb 33 hm (fun hm=>?_) (fun hm=>?_)
    ·refine rr 3 ?_;refine l1 (At.ext (hE.trans hS.ext) d) 2 ?_;refine rr 2 ?_;obtain⟨A0,f0,hm⟩:=bS hm;refine ca z2g (zi (hE.trans hS.ext)  f0) (fun D0 H0 G=>?_);obtain⟨rfl,H⟩:=G;have a0:=hS.join H;refine rr 2 ?_;refine rn<|rt ?_;cases hm;exact⟨_,.cons (.tmp rfl) .nil,rfl,a0⟩
    ·refine rr 9 ?_;refine rn<|rt ?_;cases hm;exact⟨_,.cons (.tmp rfl) .nil,rfl,hS⟩
   ·refine rr 17 ?_;refine rn<|rt ?_;cases hm;exact⟨_,.cons (.tmp rfl) .nil,rfl,hS⟩
  ·refine rr 25 ?_;refine rn<|rt ?_;cases hm;exact⟨_,.cons (.tmp rfl) .nil,rfl,hS⟩
 ·refine sq<|rg<|rr 3 ?_;refine l1 (At.ext (hE.trans hS.ext) d) 0 ?_;refine rr 2 ?_;refine rn<|ci hm (fun hm=>?_) (fun hm=>?_)
  ·refine sq<|rg<|rr 3 ?_;refine l1 (At.ext (hE.trans hS.ext) d) 1 ?_;refine rr 2 ?_;refine rb 53 hm (fun hm=>?_) (fun hm=>?_)
   ·refine rr 3 ?_;refine l1 (At.ext (hE.trans hS.ext) d) 2 ?_;refine rr 3 ?_;refine rb 60 hm (fun hm=>?_) (fun hm=>?_)
    ·refine rr 3 ?_;refine l1 (At.ext (hE.trans hS.ext) d) 3 ?_;refine rr 4 ?_;refine rb 68 hm (fun hm=>?_) (fun hm=>?_)
     ·refine rr 3 ?_;refine l1 (At.ext (hE.trans hS.ext) d) 4 ?_;refine rr 4 ?_;refine rn<|rt ?_;cases hm;exact⟨_,.cons (.tmp rfl) .nil,rfl,hS⟩
     ·refine rr 8 ?_;refine rn<|rt ?_;cases hm;exact⟨_,.cons (.tmp rfl) .nil,rfl,hS⟩
    ·refine rr 16 ?_;refine rn<|rt ?_;cases hm;exact⟨_,.cons (.tmp rfl) .nil,rfl,hS⟩
   ·refine rr 23 ?_;refine rn<|rt ?_;cases hm;exact⟨_,.cons (.tmp rfl) .nil,rfl,hS⟩
  ·refine sq<|rg<|rr 1 ?_;obtain⟨B0,g0,hm⟩:=bS hm;refine ca z6q (z2i (hE.trans hS.ext) z d g0) (fun E0 J0 L=>?_);obtain⟨rfl,M⟩:=L;have q:=hS.join M;refine rr 1 ?_;refine rn<|ci hm (fun hm=>?_) (fun hm=>?_)
   ·refine sq<|rg<|rr 1 ?_;obtain⟨y,i0,hm⟩:=bS hm;refine ca zb8 (z6R (hE.trans q.ext) z d i0) (fun F0 K0 O=>?_);obtain⟨q0,v0,r0,y0,rfl,X,p0⟩:=O;have b0:=q.join X;refine nw b0 (fun u0 L0 t0 c0=>?_);have d0:=c0.bring 0 rfl;refine so (A:=[]) d0 0 (fun M0 o=>?_);refine rn<|sq<|rg ?_;obtain⟨C0,j0,hm⟩:=bS hm;refine ca zbc (z6S (Ext.refl _) (z7T (⟨y.Kind,y.Level,y.Value,y.Data,y.Ports⟩:D.Agent) (ty80.ext (hE.trans o.ext) p0) ((o.bring 1 rfl).own)) ((o.bring 0 rfl).box) j0) (fun G0 N0 Y=>?_);obtain⟨rfl,Z⟩:=Y;have e0:=o.join Z;refine rr 1 ?_;refine rn<|rt ?_;cases hm;exact⟨_,.cons (.tmp rfl) .nil,rfl,(e0.taken 0)⟩
   ·refine sp<|sq<|rg<|rr 1 ?_;refine rn<|rt ?_;cases hm;exact⟨_,.cons (.tmp rfl) .nil,rfl,q⟩

theorem zbx:Enters Tryz.prog 135:=⟨_,_,Tryz.func135,rfl,by kernel_rfl⟩
def z4m (fuel:Nat) (d:(List D.Word)):Option (List D.Word):=some d
def z2k (fuel:Nat) (x0:D.Memory) (d:Int × (List D.Word)):Option (Rd (Int × (List D.Word)) ((List D.Word)) ((List D.Word))):=(if(decide (d.1<(x0.Cells.length:Int)))=true then((idx x0.Cells d.1).bind fun o=>(if decide ((d.2.length:Int)+(o.Words.length:Int)≤4294967296)=true then some (.next (w64 (d.1+1),(d.2++o.Words))) else none)) else some (.brk d.2))
def z3t (fuel:Nat) (x0:D.Memory):Option ((List D.Word)):=((iter (z2k fuel x0) fuel (0,([x0.Root]:(List D.Word)))).bind fun o=>aft o (z4m fuel))

theorem z6N {W w:World}(hE:Ext W w){i0:Addr}{j0:List Value}{x0:D.Memory}(t0:ty33.ro W j0 x0) (O:At W i0 j0){fuel:Nat}{r:(List D.Word)}(hm:z3t fuel x0=some r):
  Calls Tryz.prog 135 ⟨[.pointer (some i0)]⟩ w (Ret fun v w8=>∃ A0 k0,v=sl A0 r k0∧St w w8 [ow ty81 A0 r k0]):=by
 obtain⟨A1,k2,A4,k5,e7,h3,h6⟩:=zR t0;subst e7;refine into Tryz.func135 30 _ ?_;unfold z3t at hm;have hS:=St.start w;refine sq<|rg<|rr 1 ?_;refine rn<|sq<|rg<|rr 3 ?_;refine lN (At.sub (At.ext (hE.trans hS.ext) O) 2 2) ?_;refine ns (hS.flatEls (U:=ty30) (els:=[.int .i64 x0.Root.Tag,.int .i64 x0.Root.At]) (ys:=[x0.Root]) ⟨[.int .i64 x0.Root.Tag,.int .i64 x0.Root.At],_,[],[],rfl,rfl,(z68 (c:=x0.Root) rfl),⟨rfl,rfl⟩⟩) (fun o0 v0 L0 E0 X=>?_);refine rr 1 ?_;refine rn<|sq<|sq<|rg<|rr 1 ?_;refine rn ?_;obtain⟨B0,c0,hm⟩:=bS hm;refine ct (fun(M:(List D.Word)) F w9=>∃ z H,B0=.inl M∧St w w9 [ow ty81 z M H]∧F=[(3,sl z M H)]) ?_ ?_
 ·rintro M F M0 ⟨z,H,d0,Y,rfl⟩;subst d0;rw [z4] at hm;unfold z4m at hm;refine sq<|rg<|rr 2 ?_;refine rn<|rt ?_;cases hm;exact⟨_,.cons (.tmp rfl) .nil,z,H,rfl,Y⟩
 ·refine bk<|wk [0,3,4] ?_;refine it (fun(L:Int × (List D.Word)) F w9=>∃ y G,St w w9 [ow ty81 y L.2 G]∧F=[(0,.pointer (some i0)),(3,sl y L.2 G),(4,.int .i64 L.1)]) c0 ⟨o0,v0,X,rfl⟩ ?_;rintro L F N0 _ J0 ⟨y,G,o,rfl⟩ d e0;unfold z2k at d;refine sq<|sq<|rg<|rr 4 ?_;refine l1 (At.ext (hE.trans o.ext) O) 0 ?_;refine rr 2 ?_;refine rn<|ci d (fun d=>?_) (fun d=>?_)
  ·refine sp<|sq<|bk<|rg<|rr 4 ?_;refine l1 (At.ext (hE.trans o.ext) O) 0 ?_;refine rr 1 ?_;obtain⟨P0,g0,d⟩:=bS d;refine ix (hE.trans o.ext) h3 g0 (fun K0 r0 a0 f0=>?_);obtain⟨C0,G0,D0,H0,q0,F0,u0⟩:=z3 f0;subst q0;refine rr 1 ?_;refine l1 (At.ext (hE.trans o.ext) a0) 4 ?_;have q:=o.bring 0 rfl;obtain⟨b0,d⟩:=iS d;refine ap (Flat.map (Flat.pair Flat.int (Flat.pair Flat.int Flat.unit))) q (ty81.ext (hE.trans q.ext) u0) b0 (fun p0 y0 O0 Z=>?_);refine rr 1 ?_;refine rn<|rg<|rr 3 ?_;refine rn ?_;cases d;exact⟨_,_,rfl,⟨p0,y0,Z,rfl⟩,rfl⟩
  ·refine xt ?_;cases d;exact⟨_,_,⟨y,G,e0,o,rfl⟩,rfl⟩

theorem zbw:Enters Tryz.prog 136:=⟨_,_,Tryz.func136,rfl,by kernel_rfl⟩
def z43 (fuel:Nat) (x0:D.Memory) (x1:D.Word):Option (Bool):=((zg fuel x1.At 0 (w64 ((x0.Cells.length:Int) - 1))).bind fun o=>(if(!o)=true then some false else((idx x0.Cells x1.At).bind fun d=>(if(x1.Tag == 1)=true then((zU fuel d).bind fun q=>(if q=true then some true else(if(x1.Tag == 2)=true then some (d.Kind == 13) else some false))) else(if(x1.Tag == 2)=true then some (d.Kind == 13) else some false)))))

theorem z7b {W w:World}(hE:Ext W w){g0:Addr}{d0:List Value}{x0:D.Memory}{e0:List Value}{x1:D.Word}(o0:ty33.ro W d0 x0) (f0:At W g0 d0) (p0:ty30.ro W e0 x1){fuel:Nat}{r:Bool}(hm:z43 fuel x0 x1=some r):
  Calls Tryz.prog 136 ⟨[.pointer (some g0),.agg ⟨e0⟩]⟩ w (Ret fun v w8=>v=.bool r∧St w w8 []):=by
 obtain⟨A1,k2,A4,k5,e7,h3,h6⟩:=zR o0;subst e7;have i0:=z17 p0;subst i0;refine into Tryz.func136 42 _ ?_;unfold z43 at hm;have hS:=St.start w;refine sq<|rg<|nw hS (fun u0 H0 t0 G=>?_);refine rr 1 ?_;refine rn<|sq<|sq<|dn 0 mixed 10 [([],1023),([0],1022),([],1023),([2],1019),([3],1015),([4],1007),([5],991),([6],959),([1,7],893),([8],767)] G.ext (fun d=>?_);have M:=G.step (Ext.draw _);refine dr 6 d [0,2,3,4] ?_;refine dl d 1 ((G.bring 0 rfl).box) 1 ?_;refine dl d 5 (At.ext (hE.trans G.ext) f0) 0 ?_;refine dr 2 d [6,7] ?_;refine dw [0,3,7,13] ?_;obtain⟨D0,a0,hm⟩:=bS hm;refine o1 d 8 (mc d z2g (zi (hE.trans M.ext)  a0) (fun F0 J0 X=>?_));obtain⟨rfl,L⟩:=X;refine⟨L.ext,?_⟩;have q:=M.join L;refine dr 0 d [9] ?_;refine dd d ?_;refine ci hm (fun hm=>?_) (fun hm=>?_)
 ·refine sq<|rg<|rr 1 ?_;refine rn<|rt ?_;cases hm;exact⟨_,.cons (.tmp rfl) .nil,rfl,(q.taken 0)⟩
 ·refine sp<|sq<|dn 0 mixed 8 [([],255),([0],254),([1],253),([2],251),([],255),([4],239),([3,5],215),([6,0,1,2,3,4,5,6],191)] q.ext (fun y=>?_);have o:=q.step (Ext.draw _);refine dr 4 y [0,1,2,4] ?_;refine dw [3,18,20] ?_;refine dl y 3 (At.ext (hE.trans q.ext) f0) 0 ?_;refine dl y 5 ((q.bring 0 rfl).box) 1 ?_;obtain⟨L0,b0,hm⟩:=bS hm;refine dx (hE.trans q.ext) y 6 h3 b0 (fun C0 k0 H O=>?_);obtain⟨q0,A0,r0,B0,j0,v0,y0⟩:=z3 O;subst j0;refine dr 0 y [7] ?_;refine dd y ?_;refine sq<|rg<|rr 1 ?_;refine l1 ((o.bring 0 rfl).box) 0 ?_;refine rr 2 ?_;refine rb 26 hm (fun hm=>?_) (fun hm=>?_)
  ·refine rr 1 ?_;obtain⟨E0,c0,hm⟩:=bS hm;refine ca z6q (z2i (hE.trans o.ext) O H c0) (fun G0 K0 Y=>?_);obtain⟨rfl,Z⟩:=Y;have z:=o.join Z;refine rr 2 ?_;refine rb 30 hm (fun hm=>?_) (fun hm=>?_)
   ·refine rr 12 ?_;refine rn<|rt ?_;cases hm;exact⟨_,.cons (.tmp rfl) .nil,rfl,(z.taken 0)⟩
   ·refine rr 1 ?_;refine l1 ((z.bring 0 rfl).box) 0 ?_;refine rr 2 ?_;refine rb 34 hm (fun hm=>?_) (fun hm=>?_)
    ·refine rr 3 ?_;refine l1 (At.ext (hE.trans z.ext) H) 0 ?_;refine rr 4 ?_;refine rn<|rt ?_;cases hm;exact⟨_,.cons (.tmp rfl) .nil,rfl,(z.taken 0)⟩
    ·refine rr 8 ?_;refine rn<|rt ?_;cases hm;exact⟨_,.cons (.tmp rfl) .nil,rfl,(z.taken 0)⟩
  ·refine rr 5 ?_;refine l1 ((o.bring 0 rfl).box) 0 ?_;refine rr 2 ?_;refine rb 34 hm (fun hm=>?_) (fun hm=>?_)
   ·refine rr 3 ?_;refine l1 (At.ext (hE.trans o.ext) H) 0 ?_;refine rr 4 ?_;refine rn<|rt ?_;cases hm;exact⟨_,.cons (.tmp rfl) .nil,rfl,(o.taken 0)⟩
   ·refine rr 8 ?_;refine rn<|rt ?_;cases hm;exact⟨_,.cons (.tmp rfl) .nil,rfl,(o.taken 0)⟩

theorem zc0:Enters Tryz.prog 91:=⟨_,_,Tryz.func91,rfl,by kernel_rfl⟩
def z4L (fuel:Nat) (d:Int × Int):Option (D.Word × Bool):=some ((⟨d.1,d.2⟩:D.Word),false)
def z1H (fuel:Nat) (x0:D.Memory) (d:Int × Int × Int) (q:Bool):Option (Rd (Int × Int × Int) (Int × Int) (D.Word × Bool)):=(if q=true then some (.ret ((⟨d.2.1,d.2.2⟩:D.Word),true)) else((idx x0.Cells d.2.2).bind fun y=>((idx y.Words 0).bind fun o=>some (.next (w64 (d.1 - 1),o.Tag,o.At)))))
def z1j (fuel:Nat) (x0:D.Memory) (d:Int × Int × Int):Option (Rd (Int × Int × Int) (Int × Int) (D.Word × Bool)):=(if(decide (d.1≥0))=true then(if(d.2.1 != 2)=true then z1H fuel x0 d true else((idx x0.Cells d.2.2).bind fun o=>z1H fuel x0 d ((o.Words.length:Int) == 0))) else some (.brk (d.2.1,d.2.2)))
def z2H (fuel:Nat) (x0:D.Memory) (x1:D.Word):Option (D.Word × Bool):=((iter (z1j fuel x0) fuel ((x0.Cells.length:Int),x1.Tag,x1.At)).bind fun o=>aft o (z4L fuel))

theorem z69 {W w:World}(hE:Ext W w){b0:Addr}{E0:List Value}{x0:D.Memory}{F0:List Value}{x1:D.Word}(O0:ty33.ro W E0 x0) (d0:At W b0 E0) (P0:ty30.ro W F0 x1){fuel:Nat}{r:D.Word × Bool}(hm:z2H fuel x0 x1=some r):
  Calls Tryz.prog 91 ⟨[.pointer (some b0),.agg ⟨F0⟩]⟩ w (Ret fun v w8=>v=.tuple ⟨[.agg ⟨[.int .i64 r.1.Tag,.int .i64 r.1.At]⟩,.bool r.2]⟩∧St w w8 []):=by
 obtain⟨A1,k2,A4,k5,e7,h3,h6⟩:=zR O0;subst e7;have G0:=z17 P0;subst G0;refine into Tryz.func91 45 _ ?_;unfold z2H at hm;have hS:=St.start w;refine sq<|rg<|nw hS (fun H u1 b1 e0=>?_);refine nw e0 (fun L v1 d1 M=>?_);refine rr 1 ?_;refine rn<|sq<|sq<|rg<|rr 3 ?_;refine l1 (At.ext (hE.trans M.ext) d0) 0 ?_;refine rr 2 ?_;refine rn ?_;obtain⟨S0,r0,hm⟩:=bS hm;refine ct (fun(c0:Int × Int) F w9=>S0=.inl c0∧St w w9 [Box L [.int .i64 0,.int .i64 0] 30,Box H [.int .i64 c0.1,.int .i64 c0.2] 30]∧F=[(3,.pointer (some ⟨H,0,none⟩)),(4,.pointer (some ⟨L,0,none⟩))]) ?_ ?_
 ·rintro c0 F y1 ⟨t0,O,rfl⟩;subst t0;rw [z4] at hm;unfold z4L at hm;refine sq<|rg<|lN ((O.bring 1 rfl).box) ?_;have f0:=O.bring 0 rfl;refine so (A:=[]) f0 0 (fun B1 X=>?_);refine rr 1 ?_;refine rn<|rt ?_;cases hm;exact⟨_,.cons (ra ((X.bring 0 rfl).box)) (.cons (.tmp rfl) .nil),rfl,(X.taken 0)⟩
 ·refine bk<|wk [0,3,4,6] ?_;refine it (fun(G:Int × Int × Int) F w9=>St w w9 [Box L [.int .i64 0,.int .i64 0] 30,Box H [.int .i64 G.2.1,.int .i64 G.2.2] 30]∧F=[(0,.pointer (some b0)),(3,.pointer (some ⟨H,0,none⟩)),(4,.pointer (some ⟨L,0,none⟩)),(6,.int .i64 G.1)]) r0 ⟨M,rfl⟩ ?_;rintro G F U0 _ T0 ⟨z,rfl⟩ d a0;unfold z1j at d;refine sq<|sq<|rg<|rr 2 ?_;refine rn<|ci d (fun d=>?_) (fun d=>?_)
  ·refine sp<|sq<|bk<|sq<|sq<|ct (fun(D0:Bool) F w9=>z1H fuel x0 G D0=some T0∧Ext U0 w9∧St w w9 [Box L [.int .i64 0,.int .i64 0] 30,Box H [.int .i64 G.2.1,.int .i64 G.2.2] 30]∧F=[(0,.pointer (some b0)),(3,.pointer (some ⟨H,0,none⟩)),(4,.pointer (some ⟨L,0,none⟩)),(6,.int .i64 G.1),(31,.bool D0)]) ?_ ?_
   ·rintro D0 F C1 ⟨d,R0,y,rfl⟩;unfold z1H at d;refine ci d (fun d=>?_) (fun d=>?_)
    ·refine sq<|rg<|lN ((y.bring 1 rfl).box) ?_;have g0:=y.bring 0 rfl;refine so (A:=[]) g0 0 (fun D1 Y=>?_);refine rr 1 ?_;refine rn<|rt ?_;cases d;cases a0;have hm:some _=some _:=hm;cases hm;exact⟨_,.cons (ra ((Y.bring 0 rfl).box)) (.cons (.tmp rfl) .nil),rfl,(Y.taken 0)⟩
    ·refine sp<|dn 2048 mixed 12 [([],4095),([0],4094),([1],4093),([2],4091),([],4095),([4],4079),([3,5],4055),([6],4031),([7],3967),([8],3839),([9],3583),([10,0,1,2,3,4,5,6,7,8,9,10],3071)] y.ext (fun q=>?_);have i0:=y.step (Ext.draw _);refine dr 8 q [0,1,2,4] ?_;refine dl q 3 (At.ext (hE.trans y.ext) d0) 0 ?_;refine dl q 5 ((y.bring 1 rfl).box) 1 ?_;obtain⟨F1,A0,d⟩:=bS d;refine dx (hE.trans y.ext) q 6 h3 A0 (fun p1 L0 o0 u0=>?_);obtain⟨W0,i1,X0,j1,H0,e1,Q0⟩:=z3 u0;subst H0;refine dr 4 q [7] ?_;refine dw [0,3,4,6,40] ?_;refine dl q 8 (At.ext (hE.trans y.ext) o0) 4 ?_;obtain⟨G1,B0,d⟩:=bS d;refine dx (hE.trans y.ext) q 9 Q0 B0 (fun s1 M0 p0 v0=>?_);have J0:=z17 v0;subst J0;refine dL q 10 (At.ext (hE.trans y.ext) p0) ?_;have j0:=i0.bring 1 rfl;refine o1 q 11 (ms (A:=[]) j0 q 0 (fun E1 k0=>?_));refine dd q ?_;refine rg<|rr 3 ?_;refine rn ?_;cases d;exact⟨_,_,rfl,⟨((k0.bring 0 rfl).bring 1 rfl),rfl⟩,rfl⟩
   ·refine dn 0 mixed 16 [([],65535),([0],65534),([1],65533),([2],65531),([3],65527),([4,3],65511),([5,3],65495),([6,3],65463),([3],65527),([8,3],65271),([7,9,3],64887),([10,3],64503),([11,3],63479),([12,3],61431),([13,3],57335),([3,14],49143)] z.ext (fun o=>?_);have Z:=z.step (Ext.draw _);refine dr 15 o [0] ?_;refine dl o 1 ((z.bring 1 rfl).box) 0 ?_;refine dr 12 o [2,3] ?_;refine db 19 d (fun d=>?_) (fun d=>?_)
    ·refine dr 0 o [4,5,6,7,8,9,10,11,12,13,14,15] ?_;refine dw [0,3,4,6,31] ?_;refine dd o ?_;exact⟨true,_,⟨d,(Ext.draw _),Z,rfl⟩,rfl⟩
    ·refine dr 8 o [4,5,6,8] ?_;refine dw [0,3,4,6,19,22,24] ?_;refine dl o 7 (At.ext (hE.trans z.ext) d0) 0 ?_;refine dl o 9 ((z.bring 1 rfl).box) 1 ?_;obtain⟨V0,C0,d⟩:=bS d;refine dx (hE.trans z.ext) o 10 h3 C0 (fun t1 N0 q0 y0=>?_);obtain⟨Y0,m1,a1,n1,K0,f1,g1⟩:=z3 y0;subst K0;refine dr 4 o [11] ?_;refine dl o 12 (At.ext (hE.trans z.ext) q0) 4 ?_;refine dr 0 o [13,14,15] ?_;refine dw [0,3,4,6,31] ?_;refine dd o ?_;exact⟨((V0.Words.length:Int) == 0),_,⟨d,(Ext.draw _),Z,rfl⟩,rfl⟩
  ·refine xt ?_;cases d;exact⟨_,_,⟨a0,z,rfl⟩,rfl⟩

theorem zbv:Enters Tryz.prog 137:=⟨_,_,Tryz.func137,rfl,by kernel_rfl⟩
def z2o (fuel:Nat) (d:Int):Option Bool:=some (d == (-1))
def z1b (fuel:Nat) (x0:D.Memory) (d:Int × Int) (o:Bool):Option (Rd (Int × Int) (Int) (Bool)):=(if o=true then some (.ret false) else((idx x0.Cells d.2).bind fun q=>some (.next (w64 (d.1 - 1),q.Value))))
def zr (fuel:Nat) (x0:D.Memory) (d:Int × Int):Option (Rd (Int × Int) (Int) (Bool)):=(if(decide (d.1>0))=true then((zg fuel d.2 0 (w64 ((x0.Cells.length:Int) - 1))).bind fun o=>(if(!o)=true then z1b fuel x0 d true else((idx x0.Cells d.2).bind fun q=>z1b fuel x0 d (q.Kind != 0)))) else some (.brk d.2))
def z57 (fuel:Nat) (x0:D.Memory) (d:Int):Option Bool:=((iter (zr fuel x0) fuel (d,x0.Free)).bind fun o=>aft o (z2o fuel))
def z2n (fuel:Nat) (d:Int × Int) (o:Int):Option (Rd (Int × Int) (Int) (Bool)):=some (.next (o,w64 (d.2+1)))
def z2p (fuel:Nat) (x0:D.Memory) (d:Int × Int):Option (Rd (Int × Int) (Int) (Bool)):=(if(decide (d.2<(x0.Cells.length:Int)))=true then((idx x0.Cells d.2).bind fun o=>(if(o.Kind == 0)=true then z2n fuel d (w64 (d.1+1)) else z2n fuel d d.1)) else some (.brk d.1))
def z3v (fuel:Nat) (x0:D.Memory):Option (Bool):=((iter (z2p fuel x0) fuel (0,0)).bind fun o=>aft o (z57 fuel x0))

theorem z6Q {W w:World}(hE:Ext W w){L:Addr}{J0:List Value}{x0:D.Memory}(R0:ty33.ro W J0 x0) (O:At W L J0){fuel:Nat}{r:Bool}(hm:z3v fuel x0=some r):
  Calls Tryz.prog 137 ⟨[.pointer (some L)]⟩ w (Ret fun v w8=>v=.bool r∧St w w8 []):=by
 obtain⟨A1,k2,A4,k5,e7,h3,h6⟩:=zR R0;subst e7;refine into Tryz.func137 64 _ ?_;unfold z3v at hm;have hS:=St.start w;refine sq<|rg<|rr 1 ?_;refine rn<|sq<|rg<|rr 1 ?_;refine rn<|sq<|sq<|rg<|rr 1 ?_;refine rn ?_;obtain⟨U0,o0,hm⟩:=bS hm;refine ct (fun(E0:Int) F w9=>U0=.inl E0∧Ext w w9∧St w w9 []∧F=[(0,.pointer (some L)),(3,.int .i64 E0)]) ?_ ?_
 ·rintro E0 F K0 ⟨q0,S0,a0,rfl⟩;subst q0;rw [z4] at hm;unfold z57 at hm;refine sq<|rg<|rr 3 ?_;refine l1 (At.ext (hE.trans a0.ext) O) 1 ?_;refine rr 1 ?_;refine rn<|sq ?_;obtain⟨V0,p0,hm⟩:=bS hm;refine ct (fun(F0:Int) F w9=>V0=.inl F0∧Ext K0 w9∧St w w9 []∧F=[(5,.int .i64 F0)]) ?_ ?_
  ·rintro F0 F L1 ⟨r0,T0,f0,rfl⟩;subst r0;rw [z4] at hm;unfold z2o at hm;refine sq<|rg<|rr 3 ?_;refine rn<|rt ?_;cases hm;exact⟨_,.cons (.tmp rfl) .nil,rfl,f0⟩
  ·refine bk<|wk [0,3,5] ?_;refine it (fun(X:Int × Int) F w9=>Ext K0 w9∧St w w9 []∧F=[(0,.pointer (some L)),(3,.int .i64 X.1),(5,.int .i64 X.2)]) p0 ⟨(Ext.refl _),a0,rfl⟩ ?_;rintro X F Y0 _ W0 ⟨Z,G,rfl⟩ d b0;unfold zr at d;refine sq<|sq<|rg<|rr 2 ?_;refine rn<|ci d (fun d=>?_) (fun d=>?_)
   ·refine sp<|sq<|bk<|sq<|sq<|ct (fun(G0:Bool) F w9=>z1b fuel x0 X G0=some W0∧Ext Y0 w9∧St w w9 []∧F=[(0,.pointer (some L)),(3,.int .i64 X.1),(5,.int .i64 X.2),(53,.bool G0)]) ?_ ?_
    ·rintro G0 F M1 ⟨d,c0,y,rfl⟩;unfold z1b at d;refine ci d (fun d=>?_) (fun d=>?_)
     ·refine sq<|rg<|rr 1 ?_;refine rn<|rt ?_;cases d;cases b0;have hm:some _=some _:=hm;cases hm;exact⟨_,.cons (.tmp rfl) .nil,rfl,y⟩
     ·refine sp<|rg<|rr 3 ?_;refine l1 (At.ext (hE.trans y.ext) O) 0 ?_;refine rr 1 ?_;obtain⟨P1,A0,d⟩:=bS d;refine ix (hE.trans y.ext) h3 A0 (fun F1 O0 i0 u0=>?_);obtain⟨d1,v1,e1,y1,L0,m1,n1⟩:=z3 u0;subst L0;refine rr 1 ?_;refine l1 (At.ext (hE.trans y.ext) i0) 2 ?_;refine rr 1 ?_;refine rn<|rg<|rr 3 ?_;refine rn ?_;cases d;exact⟨_,_,rfl,⟨(Z.trans c0),y,rfl⟩,rfl⟩
    ·refine rg<|rr 4 ?_;refine l1 (At.ext (hE.trans G.ext) O) 0 ?_;refine rr 2 ?_;obtain⟨J1,B0,d⟩:=bS d;refine ca z2g (zi (hE.trans G.ext)  B0) (fun K1 N1 e0=>?_);obtain⟨rfl,H⟩:=e0;have z:=G.join H;refine rr 2 ?_;refine rb 43 d (fun d=>?_) (fun d=>?_)
     ·refine rr 10 ?_;refine rn ?_;exact⟨true,_,⟨d,H.ext,z,rfl⟩,rfl⟩
     ·refine rr 3 ?_;refine l1 (At.ext (hE.trans z.ext) O) 0 ?_;refine rr 1 ?_;obtain⟨b1,C0,d⟩:=bS d;refine ix (hE.trans z.ext) h3 C0 (fun G1 P0 j0 v0=>?_);obtain⟨f1,B1,g1,C1,M0,p1,s1⟩:=z3 v0;subst M0;refine rr 1 ?_;refine l1 (At.ext (hE.trans z.ext) j0) 0 ?_;refine rr 2 ?_;refine rn ?_;exact⟨(b1.Kind != 0),_,⟨d,H.ext,z,rfl⟩,rfl⟩
   ·refine xt ?_;cases d;exact⟨_,_,⟨b0,Z,G,rfl⟩,rfl⟩
 ·refine bk<|wk [0,3,4] ?_;refine it (fun(M:Int × Int) F w9=>Ext w w9∧St w w9 []∧F=[(0,.pointer (some L)),(3,.int .i64 M.1),(4,.int .i64 M.2)]) o0 ⟨(Ext.refl _),hS,rfl⟩ ?_;rintro M F a1 _ X0 ⟨Y,q,rfl⟩ o t0;unfold z2p at o;refine sq<|sq<|rg<|rr 4 ?_;refine l1 (At.ext (hE.trans q.ext) O) 0 ?_;refine rr 2 ?_;refine rn<|ci o (fun o=>?_) (fun o=>?_)
  ·refine sp<|sq<|bk<|sq<|rg<|rr 3 ?_;refine l1 (At.ext (hE.trans q.ext) O) 0 ?_;refine rr 1 ?_;obtain⟨Q1,D0,o⟩:=bS o;refine ix (hE.trans q.ext) h3 D0 (fun H1 Q0 k0 y0=>?_);obtain⟨i1,D1,j1,E1,N0,t1,u1⟩:=z3 y0;subst N0;refine rr 1 ?_;refine l1 (At.ext (hE.trans q.ext) k0) 0 ?_;refine rr 1 ?_;refine rn<|ct (fun(H0:Int) F w9=>z2n fuel M H0=some X0∧Ext a1 w9∧St w w9 []∧F=[(0,.pointer (some L)),(3,.int .i64 H0),(4,.int .i64 M.2)]) ?_ ?_
   ·rintro H0 F O1 ⟨o,d0,g0,rfl⟩;unfold z2n at o;refine rg<|rr 3 ?_;refine rn ?_;cases o;exact⟨_,_,rfl,⟨(Y.trans d0),g0,rfl⟩,rfl⟩
   ·refine ci o (fun o=>?_) (fun o=>?_)
    ·refine rg<|rr 3 ?_;refine rn ?_;exact⟨w64 (M.1+1),_,⟨o,(Ext.refl _),q,rfl⟩,rfl⟩
    ·refine sp ?_;exact⟨M.1,_,⟨o,(Ext.refl _),q,rfl⟩,rfl⟩
  ·refine xt ?_;cases o;exact⟨_,_,⟨t0,Y,q,rfl⟩,rfl⟩

end Go.E


