/- Models of functions and proofs that the code runs as they say (written by program). Conditions: the model gives a value. -/
import Derived.Test.YtijgffjimnbcpaaGreatFN
import Derived.Test.YtijgffjimnbcpaaGreatMixed
namespace Go.E
open Go.RowKit Go.Proofs
set_option linter.unusedVariables false
set_option linter.unusedSimpArgs false
set_option maxHeartbeats 2000000
set_option maxRecDepth 100000

theorem zbP:Enters Tryz.prog 179:=⟨_,_,Tryz.func179,rfl,by kernel_rfl⟩
def zR (fuel:Nat) (t2:Unit):Option Int:=some (-1)
def z8 (fuel:Nat) (x0:(List D.Cell)) (x1:D.Cell→Option Bool) (s1:Int):Option (Rd (Int) (Unit) (Int)):=(if(decide (s1<(x0.length:Int)))=true then((idx x0 s1).bind fun o=>((x1 o).bind fun h=>(if h=true then some (.ret s1) else some (.next (w64 (s1+1)))))) else some (.brk ()))
def zA (fuel:Nat) (x0:(List D.Cell)) (x1:D.Cell→Option Bool):Option (Int):=((iter (z8 fuel x0 x1) fuel 0).bind fun o=>aft o (zR fuel))

theorem z3E {W w:World}(hE:Ext W w){L:Option Addr}{c0:Nat}{x0:(List D.Cell)}{f1_:Nat}{u1_:List Value}{x1:D.Cell→Option Bool}(i0:ty29.ro W [sl L x0 c0] x0) (d0:Enters Tryz.prog f1_∧∀ {w9:World},Ext W w9→∀ {cz0:List Value}{z0:D.Cell}{y9:Bool},ty83.ro w9 cz0 z0→x1 z0=some y9→Calls Tryz.prog f1_ ⟨[.agg ⟨cz0⟩]++u1_⟩ w9 (Ret fun v w8=>v=.bool y9∧St w9 w8 [])){fuel:Nat}{r:Int}(hm:zA fuel x0 x1=some r):
  Calls Tryz.prog 179 ⟨[sl L x0 c0,.func (.func f1_) #[] ⟨u1_⟩]⟩ w (Ret fun v w8=>v=.int .i64 r∧St w w8 []):=by
 refine into Tryz.func179 19 _ ?_;unfold zA at hm;have hS:=St.start w;refine sq<|rg<|rr 1 ?_;refine rn<|sq<|sq<|rg<|rr 3 ?_;refine rn ?_;obtain⟨j0,Y,hm⟩:=bS hm;refine ct (fun(t2:Unit) F w9=>j0=.inl t2∧Ext w w9∧St w w9 []∧F=[]) ?_ ?_
 ·rintro t2 F w7 ⟨Z,r0,O,rfl⟩;subst Z;rw [z3] at hm;unfold zR at hm;refine sq<|rg<|rr 1 ?_;refine rn<|rt ?_;cases hm;exact⟨_,.cons (.tmp rfl) .nil,rfl,O⟩
 ·refine bk<|wk [0,1,7,8] ?_;refine it (fun(s1:Int) F w9=>Ext w w9∧St w w9 []∧F=[(0,sl L x0 c0),(1,.func (.func f1_) #[] ⟨u1_⟩),(7,.int .i64 (x0.length:Int)),(8,.int .i64 s1)]) Y ⟨(Ext.refl _),hS,rfl⟩ ?_;rintro s1 F C0 _ v0 ⟨e0,o,rfl⟩ h G;unfold z8 at h;refine sq<|rg<|rr 1 ?_;refine rn<|sq<|ci h (fun h=>?_) (fun h=>?_)
  ·refine sp<|sq<|bk<|sq<|rg<|rr 2 ?_;refine rn<|sq<|rg<|rr 3 ?_;obtain⟨E0,a0,h⟩:=bS h;refine ix (hE.trans o.ext) i0 a0 (fun y0 g0 X H=>?_);obtain⟨k0,t0,o0,u0,f0,p0,q0⟩:=z4 H;subst f0;refine lN (At.ext (hE.trans o.ext) X) ?_;obtain⟨A0,b0,h⟩:=bS h;refine ca d0.1 (d0.2 (hE.trans o.ext) (ty83.ext (hE.trans o.ext) H) b0) (fun B0 D0 M=>?_);obtain⟨rfl,y⟩:=M;have z:=o.join y;refine rn<|ci h (fun h=>?_) (fun h=>?_)
   ·refine sq<|rg<|rr 2 ?_;refine rn<|rt ?_;cases h;cases G;have hm:some _=some _:=hm;cases hm;exact⟨_,.cons (.tmp rfl) .nil,rfl,z⟩
   ·refine sp<|rg<|rr 2 ?_;refine rn ?_;cases h;exact⟨_,_,rfl,⟨(e0.trans y.ext),z,rfl⟩,rfl⟩
  ·refine xt ?_;cases h;exact⟨_,_,⟨G,e0,o,rfl⟩,rfl⟩

theorem zc7:Enters Tryz.prog 143:=⟨_,_,Tryz.func143,rfl,by kernel_rfl⟩
def zb (fuel:Nat) (x0:(List D.Cell)) (x1:D.Cell→Option Bool):Option (Bool):=((zA fuel x0 x1).bind fun r1=>some (decide (r1≥0)))

theorem z3f {W w:World}(hE:Ext W w){h:Option Addr}{o:Nat}{x0:(List D.Cell)}{f1_:Nat}{u1_:List Value}{x1:D.Cell→Option Bool}(y:ty29.ro W [sl h x0 o] x0) (z:Enters Tryz.prog f1_∧∀ {w9:World},Ext W w9→∀ {cz0:List Value}{z0:D.Cell}{y9:Bool},ty83.ro w9 cz0 z0→x1 z0=some y9→Calls Tryz.prog f1_ ⟨[.agg ⟨cz0⟩]++u1_⟩ w9 (Ret fun v w8=>v=.bool y9∧St w9 w8 [])){fuel:Nat}{r:Bool}(hm:zb fuel x0 x1=some r):
  Calls Tryz.prog 143 ⟨[sl h x0 o,.func (.func f1_) #[] ⟨u1_⟩]⟩ w (Ret fun v w8=>v=.bool r∧St w w8 []):=by
 refine into Tryz.func143 9 _ ?_;unfold zb at hm;have hS:=St.start w;refine sq<|rg<|rr 1 ?_;refine rn<|sq<|rg<|rr 2 ?_;obtain⟨r1,M,hm⟩:=bS hm;refine ca zbP (z3E (hE.trans hS.ext) y z M) (fun v3 w4 G=>?_);obtain⟨rfl,H⟩:=G;have L:=hS.join H;refine rr 2 ?_;refine rn<|rt ?_;cases hm;exact⟨_,.cons (.tmp rfl) .nil,rfl,L⟩

theorem z6j:Enters Tryz.prog 94:=⟨_,_,Tryz.func94,rfl,by kernel_rfl⟩
def zd (fuel:Nat) (x0:D.Cell):Option (Bool):=(if(decide (x0.Kind≥2))=true then some (decide (x0.Kind≤12)) else some false)

theorem zT {W w:World}(hE:Ext W w){o:List Value}{x0:D.Cell}(y:ty83.ro W o x0){fuel:Nat}{r:Bool}(hm:zd fuel x0=some r):
  Calls Tryz.prog 94 ⟨[.agg ⟨o⟩]⟩ w (Ret fun v w8=>v=.bool r∧St w w8 []):=by
 obtain⟨A1,k2,A4,k5,e7,h3,h6⟩:=z4 y;subst e7;refine into Tryz.func94 11 _ ?_;unfold zd at hm;have hS:=St.start w;refine sq<|rg<|nw hS (fun G H z h=>?_);refine rr 1 ?_;refine rn<|sq<|rg<|rr 1 ?_;refine l1 ((h.bring 0 rfl).box) 0 ?_;refine rr 2 ?_;refine rb 6 hm (fun hm=>?_) (fun hm=>?_)
 ·refine rr 1 ?_;refine l1 ((h.bring 0 rfl).box) 0 ?_;refine rr 3 ?_;refine rn<|rt ?_;cases hm;exact⟨_,.cons (.tmp rfl) .nil,rfl,(h.taken 0)⟩
 ·refine rr 5 ?_;refine rn<|rt ?_;cases hm;exact⟨_,.cons (.tmp rfl) .nil,rfl,(h.taken 0)⟩

theorem z6d:Enters Tryz.prog 155:=⟨_,_,Tryz.func155,rfl,by kernel_rfl⟩
def zc (fuel:Nat) (x0:D.Cell):Option (Bool):=some (x0.Kind == 13)

theorem z1p {W w:World}(hE:Ext W w){o:List Value}{x0:D.Cell}(y:ty83.ro W o x0){fuel:Nat}{r:Bool}(hm:zc fuel x0=some r):
  Calls Tryz.prog 155 ⟨[.agg ⟨o⟩]⟩ w (Ret fun v w8=>v=.bool r∧St w w8 []):=by
 obtain⟨A1,k2,A4,k5,e7,h3,h6⟩:=z4 y;subst e7;refine into Tryz.func155 6 _ ?_;unfold zc at hm;have hS:=St.start w;refine sq<|rg<|nw hS (fun G H z h=>?_);refine rr 1 ?_;refine rn<|sq<|rg<|rr 1 ?_;refine l1 ((h.bring 0 rfl).box) 0 ?_;refine rr 2 ?_;refine rn<|rt ?_;cases hm;exact⟨_,.cons (.tmp rfl) .nil,rfl,(h.taken 0)⟩

theorem z7b:Enters Tryz.prog 41:=⟨_,_,Tryz.func41,rfl,by kernel_rfl⟩
def zw (fuel:Nat) (x0:D.Cell):Option (Bool):=some (x0.Kind == 0)

theorem z3a {W w:World}(hE:Ext W w){o:List Value}{x0:D.Cell}(y:ty83.ro W o x0){fuel:Nat}{r:Bool}(hm:zw fuel x0=some r):
  Calls Tryz.prog 41 ⟨[.agg ⟨o⟩]⟩ w (Ret fun v w8=>v=.bool r∧St w w8 []):=by
 obtain⟨A1,k2,A4,k5,e7,h3,h6⟩:=z4 y;subst e7;refine into Tryz.func41 6 _ ?_;unfold zw at hm;have hS:=St.start w;refine sq<|rg<|nw hS (fun G H z h=>?_);refine rr 1 ?_;refine rn<|sq<|rg<|rr 1 ?_;refine l1 ((h.bring 0 rfl).box) 0 ?_;refine rr 2 ?_;refine rn<|rt ?_;cases hm;exact⟨_,.cons (.tmp rfl) .nil,rfl,(h.taken 0)⟩

theorem zc5:Enters Tryz.prog 145:=⟨_,_,Tryz.func145,rfl,by kernel_rfl⟩
def z3q (fuel:Nat) (x0:D.Cell):Option (Bool):=((zd fuel x0).bind fun h=>(if h=true then(if decide (0≤(w64 ((x0.Words.length:Int)+1))∧(w64 ((x0.Words.length:Int)+1))≤4294967296)=true then((z2R fuel (⟨x0.Kind,x0.Level,x0.Value,x0.Data,(List.replicate (w64 ((x0.Words.length:Int)+1)).toNat (⟨(0:Int),(0:Int)⟩:D.Port))⟩:D.Agent)).bind fun o=>some o) else none) else((zc fuel x0).bind fun y=>(if y=true then(if(x0.Level == 0)=true then(if(x0.Value == 0)=true then(if((x0.Data.length:Int) == 0)=true then some (decide ((x0.Words.length:Int)≤1)) else some false) else some false) else some false) else((zw fuel x0).bind fun z=>(if z=true then(if(x0.Level == 0)=true then(if((x0.Data.length:Int) == 0)=true then some ((x0.Words.length:Int) == 0) else some false) else some false) else some false))))))

theorem z6Q {W w:World}(hE:Ext W w){o0:List Value}{x0:D.Cell}(M:ty83.ro W o0 x0){fuel:Nat}{r:Bool}(hm:z3q fuel x0=some r):
  Calls Tryz.prog 145 ⟨[.agg ⟨o0⟩]⟩ w (Ret fun v w8=>v=.bool r∧St w w8 []):=by
 obtain⟨A1,k2,A4,k5,e7,h3,h6⟩:=z4 M;subst e7;refine into Tryz.func145 63 _ ?_;unfold z3q at hm;have hS:=St.start w;refine sq<|rg<|nw hS (fun t0 G0 q0 G=>?_);refine rr 1 ?_;refine rn<|sq<|bk<|sq<|rg<|lN ((G.bring 0 rfl).box) ?_;obtain⟨v0,g0,hm⟩:=bS hm;refine ca z6j (zT (hE.trans G.ext) M g0) (fun C0 H0 O=>?_);obtain⟨rfl,X⟩:=O;have y:=G.join X;refine rr 1 ?_;refine rn<|ci hm (fun hm=>?_) (fun hm=>?_)
 ·refine sq<|dn 0 mixed 16 [([],65535),([0],65534),([],65535),([2],65531),([],65535),([4],65519),([],65535),([6],65471),([],65535),([8],65279),([9],65023),([10],64511),([11,11],63487),([1,3,5,7,12],61269),([13],57343),([14,14,0,1,2,3,4,5,6,7,8,9,10,11,12,13,14],49151)] y.ext (fun h=>?_);have d0:=y.step (Ext.draw _);refine dr 11 h [0,2,4,6,8] ?_;refine dl h 1 ((y.bring 0 rfl).box) 0 ?_;refine dl h 3 ((y.bring 0 rfl).box) 1 ?_;refine dl h 5 ((y.bring 0 rfl).box) 2 ?_;refine dl h 7 ((y.bring 0 rfl).box) 3 ?_;refine dl h 9 ((y.bring 0 rfl).box) 4 ?_;refine dr 4 h [10,11] ?_;refine dw [2,7,9,11,13,17] ?_;obtain⟨f0,hm⟩:=iS hm;have hz29:=of_decide_eq_true f0;refine o1 h 12 (mk (U:=z3c) (⟨(0:Int),(0:Int)⟩:D.Port) d0 h hz29 (fun _=>(z3t (c:=(⟨(0:Int),(0:Int)⟩:D.Port)) rfl)) (fun p0 u0 J0 r0 H=>?_));refine dp h 13 rfl (fun _=>qb) ?_;obtain⟨y0,i0,hm⟩:=bS hm;refine o1 h 14 (mc h zbS (z6A (Ext.refl _) (z88 (⟨x0.Kind,x0.Level,x0.Value,x0.Data,(List.replicate (w64 ((x0.Words.length:Int)+1)).toNat (⟨(0:Int),(0:Int)⟩:D.Port))⟩:D.Agent) (ty80.ext (hE.trans H.ext) h3) ((H.bring 0 rfl).own)) i0) (fun D0 K0 Y=>?_));obtain⟨rfl,L⟩:=Y;refine⟨L.ext,?_⟩;have e0:=H.join L;refine dr 0 h [15] ?_;refine dw [2] ?_;refine dd h ?_;refine rt ?_;cases hm;exact⟨_,.cons (.tmp rfl) .nil,rfl,(e0.taken 0)⟩
 ·refine sq<|rg<|lN ((y.bring 0 rfl).box) ?_;obtain⟨A0,j0,hm⟩:=bS hm;refine ca z6d (z1p (hE.trans y.ext) M j0) (fun E0 L0 Z=>?_);obtain⟨rfl,a0⟩:=Z;have o:=y.join a0;refine rr 1 ?_;refine rn<|ci hm (fun hm=>?_) (fun hm=>?_)
  ·refine sq<|rg<|rr 1 ?_;refine l1 ((o.bring 0 rfl).box) 1 ?_;refine rr 2 ?_;refine rb 27 hm (fun hm=>?_) (fun hm=>?_)
   ·refine rr 1 ?_;refine l1 ((o.bring 0 rfl).box) 2 ?_;refine rr 3 ?_;refine rb 32 hm (fun hm=>?_) (fun hm=>?_)
    ·refine rr 1 ?_;refine l1 ((o.bring 0 rfl).box) 3 ?_;refine rr 4 ?_;refine rb 38 hm (fun hm=>?_) (fun hm=>?_)
     ·refine rr 1 ?_;refine l1 ((o.bring 0 rfl).box) 4 ?_;refine rr 4 ?_;refine rn<|rt ?_;cases hm;exact⟨_,.cons (.tmp rfl) .nil,rfl,(o.taken 0)⟩
     ·refine rr 6 ?_;refine rn<|rt ?_;cases hm;exact⟨_,.cons (.tmp rfl) .nil,rfl,(o.taken 0)⟩
    ·refine rr 12 ?_;refine rn<|rt ?_;cases hm;exact⟨_,.cons (.tmp rfl) .nil,rfl,(o.taken 0)⟩
   ·refine rr 17 ?_;refine rn<|rt ?_;cases hm;exact⟨_,.cons (.tmp rfl) .nil,rfl,(o.taken 0)⟩
  ·refine sp<|sq<|rg<|lN ((o.bring 0 rfl).box) ?_;obtain⟨B0,k0,hm⟩:=bS hm;refine ca z7b (z3a (hE.trans o.ext) M k0) (fun F0 M0 b0=>?_);obtain⟨rfl,c0⟩:=b0;have z:=o.join c0;refine rr 1 ?_;refine rb 46 hm (fun hm=>?_) (fun hm=>?_)
   ·refine rr 1 ?_;refine l1 ((z.bring 0 rfl).box) 1 ?_;refine rr 3 ?_;refine rb 51 hm (fun hm=>?_) (fun hm=>?_)
    ·refine rr 1 ?_;refine l1 ((z.bring 0 rfl).box) 3 ?_;refine rr 4 ?_;refine rb 57 hm (fun hm=>?_) (fun hm=>?_)
     ·refine rr 1 ?_;refine l1 ((z.bring 0 rfl).box) 4 ?_;refine rr 4 ?_;refine rn<|rt ?_;cases hm;exact⟨_,.cons (.tmp rfl) .nil,rfl,(z.taken 0)⟩
     ·refine rr 6 ?_;refine rn<|rt ?_;cases hm;exact⟨_,.cons (.tmp rfl) .nil,rfl,(z.taken 0)⟩
    ·refine rr 12 ?_;refine rn<|rt ?_;cases hm;exact⟨_,.cons (.tmp rfl) .nil,rfl,(z.taken 0)⟩
   ·refine rr 17 ?_;refine rn<|rt ?_;cases hm;exact⟨_,.cons (.tmp rfl) .nil,rfl,(z.taken 0)⟩

theorem zc6:Enters Tryz.prog 144:=⟨_,_,Tryz.func144,rfl,by kernel_rfl⟩
def z1w (fuel:Nat) (x0:D.Cell):Option (Bool):=((z3q fuel x0).bind fun h=>some (!h))

theorem z5q {W w:World}(hE:Ext W w){H:List Value}{x0:D.Cell}(L:ty83.ro W H x0){fuel:Nat}{r:Bool}(hm:z1w fuel x0=some r):
  Calls Tryz.prog 144 ⟨[.agg ⟨H⟩]⟩ w (Ret fun v w8=>v=.bool r∧St w w8 []):=by
 obtain⟨A1,k2,A4,k5,e7,h3,h6⟩:=z4 L;subst e7;refine into Tryz.func144 6 _ ?_;unfold z1w at hm;have hS:=St.start w;refine sq<|rg<|nw hS (fun O Z M h=>?_);refine rr 1 ?_;refine rn<|sq<|rg<|lN ((h.bring 0 rfl).box) ?_;obtain⟨X,G,hm⟩:=bS hm;refine ca zc5 (z6Q (hE.trans h.ext) L G) (fun Y a0 o=>?_);obtain⟨rfl,y⟩:=o;have z:=h.join y;refine rr 2 ?_;refine rn<|rt ?_;cases hm;exact⟨_,.cons (.tmp rfl) .nil,rfl,(z.taken 0)⟩

theorem z9x:Enters Tryz.prog 147:=⟨_,_,Tryz.func147,rfl,by kernel_rfl⟩
def z4O (fuel:Nat) (h:(List D.Word)):Option (List D.Word):=some h
def z4P (fuel:Nat) (x0:D.Memory) (h:Int × (List D.Word)):Option (Rd (Int × (List D.Word)) ((List D.Word)) ((List D.Word))):=(if(decide (h.1<(x0.Cells.length:Int)))=true then((idx x0.Cells h.1).bind fun o=>(if decide ((h.2.length:Int)+(o.Words.length:Int)≤4294967296)=true then some (.next (w64 (h.1+1),(h.2++o.Words))) else none)) else some (.brk h.2))
def z2a (fuel:Nat) (x0:D.Memory):Option ((List D.Word)):=((iter (z4P fuel x0) fuel (0,([x0.Root]:(List D.Word)))).bind fun o=>aft o (z4O fuel))

theorem z56 {W w:World}(hE:Ext W w){r0:Addr}{p0:List Value}{x0:D.Memory}(B0:ty33.ro W p0 x0) (q0:At W r0 p0){fuel:Nat}{r:(List D.Word)}(hm:z2a fuel x0=some r):
  Calls Tryz.prog 147 ⟨[.pointer (some r0)]⟩ w (Ret fun v w8=>∃ A0 k0,v=sl A0 r k0∧St w w8 [ow ty81 A0 r k0]):=by
 obtain⟨A1,k2,A4,k5,e7,h3,h6⟩:=zS B0;subst e7;refine into Tryz.func147 26 _ ?_;unfold z2a at hm;have hS:=St.start w;refine sq<|rg<|rr 1 ?_;refine rn<|sq<|rg<|rr 3 ?_;refine lN (At.sub (At.ext (hE.trans hS.ext) q0) 2 2) ?_;refine ns (hS.flatEls (U:=ty30) (els:=[.int .i64 x0.Root.Tag,.int .i64 x0.Root.At]) (ys:=[x0.Root]) ⟨[.int .i64 x0.Root.Tag,.int .i64 x0.Root.At],_,[],[],rfl,rfl,(z61 (c:=x0.Root) rfl),⟨rfl,rfl⟩⟩) (fun t0 D0 R0 J0 y=>?_);refine rr 1 ?_;refine rn<|sq<|sq<|rg<|rr 3 ?_;refine l1 (At.ext (hE.trans y.ext) q0) 0 ?_;refine rr 2 ?_;refine rn ?_;obtain⟨F0,f0,hm⟩:=bS hm;refine ct (fun(Y:(List D.Word)) F w9=>∃ L O,F0=.inl Y∧St w w9 [ow ty81 L Y O]∧F=[(3,sl L Y O)]) ?_ ?_
 ·rintro Y F S0 ⟨L,O,g0,Z,rfl⟩;subst g0;rw [z3] at hm;unfold z4O at hm;refine sq<|rg<|rr 2 ?_;refine rn<|rt ?_;cases hm;exact⟨_,.cons (.tmp rfl) .nil,L,O,rfl,Z⟩
 ·refine bk<|wk [3,14,15,16] ?_;refine it (fun(X:Int × (List D.Word)) F w9=>∃ H M,St w w9 [ow ty81 H X.2 M]∧F=[(3,sl H X.2 M),(14,sl A1 x0.Cells k2),(15,.int .i64 (x0.Cells.length:Int)),(16,.int .i64 X.1)]) f0 ⟨t0,D0,y,rfl⟩ ?_;rintro X F T0 _ P0 ⟨H,M,o,rfl⟩ h i0;unfold z4P at h;refine sq<|rg<|rr 1 ?_;refine rn<|sq<|ci h (fun h=>?_) (fun h=>?_)
  ·refine sp<|sq<|bk<|sq<|rg ?_;obtain⟨Y0,o0,h⟩:=bS h;refine ix (hE.trans o.ext) h3 o0 (fun Q0 y0 d0 j0=>?_);obtain⟨G0,N0,H0,O0,v0,M0,C0⟩:=z4 j0;subst v0;refine lN (At.ext (hE.trans o.ext) d0) ?_;refine nw o (fun L0 U0 K0 a0=>?_);have b0:=a0.bring 0 rfl;refine so (A:=[]) b0 0 (fun V0 z=>?_);refine rn<|rg<|rr 2 ?_;refine l1 ((z.bring 0 rfl).box) 4 ?_;have G:=z.bring 1 rfl;obtain⟨e0,h⟩:=iS h;refine ap (Flat.map (Flat.pair Flat.int (Flat.pair Flat.int Flat.unit))) G (ty81.ext (hE.trans G.ext) C0) e0 (fun u0 E0 X0 c0=>?_);refine rr 1 ?_;refine rn<|rg<|rr 2 ?_;refine rn ?_;cases h;exact⟨_,_,rfl,⟨u0,E0,(c0.taken 1),rfl⟩,rfl⟩
  ·refine xt ?_;cases h;exact⟨_,_,⟨H,M,i0,o,rfl⟩,rfl⟩

theorem zbO:Enters Tryz.prog 180:=⟨_,_,Tryz.func180,rfl,by kernel_rfl⟩
def zP (fuel:Nat) (t2:Unit):Option Int:=some (-1)
def z6 (fuel:Nat) (x0:(List D.Word)) (x1:D.Word→Option Bool) (s1:Int):Option (Rd (Int) (Unit) (Int)):=(if(decide (s1<(x0.length:Int)))=true then((idx x0 s1).bind fun o=>((x1 o).bind fun h=>(if h=true then some (.ret s1) else some (.next (w64 (s1+1)))))) else some (.brk ()))
def zx (fuel:Nat) (x0:(List D.Word)) (x1:D.Word→Option Bool):Option (Int):=((iter (z6 fuel x0 x1) fuel 0).bind fun o=>aft o (zP fuel))

theorem z3C {W w:World}(hE:Ext W w){L:Option Addr}{c0:Nat}{x0:(List D.Word)}{f1_:Nat}{u1_:List Value}{x1:D.Word→Option Bool}(i0:ty81.ro W [sl L x0 c0] x0) (d0:Enters Tryz.prog f1_∧∀ {w9:World},Ext W w9→∀ {cz0:List Value}{z0:D.Word}{y9:Bool},ty30.ro w9 cz0 z0→x1 z0=some y9→Calls Tryz.prog f1_ ⟨[.agg ⟨cz0⟩]++u1_⟩ w9 (Ret fun v w8=>v=.bool y9∧St w9 w8 [])){fuel:Nat}{r:Int}(hm:zx fuel x0 x1=some r):
  Calls Tryz.prog 180 ⟨[sl L x0 c0,.func (.func f1_) #[] ⟨u1_⟩]⟩ w (Ret fun v w8=>v=.int .i64 r∧St w w8 []):=by
 refine into Tryz.func180 19 _ ?_;unfold zx at hm;have hS:=St.start w;refine sq<|rg<|rr 1 ?_;refine rn<|sq<|sq<|rg<|rr 3 ?_;refine rn ?_;obtain⟨j0,Y,hm⟩:=bS hm;refine ct (fun(t2:Unit) F w9=>j0=.inl t2∧Ext w w9∧St w w9 []∧F=[]) ?_ ?_
 ·rintro t2 F w7 ⟨Z,k0,O,rfl⟩;subst Z;rw [z3] at hm;unfold zP at hm;refine sq<|rg<|rr 1 ?_;refine rn<|rt ?_;cases hm;exact⟨_,.cons (.tmp rfl) .nil,rfl,O⟩
 ·refine bk<|wk [0,1,7,8] ?_;refine it (fun(s1:Int) F w9=>Ext w w9∧St w w9 []∧F=[(0,sl L x0 c0),(1,.func (.func f1_) #[] ⟨u1_⟩),(7,.int .i64 (x0.length:Int)),(8,.int .i64 s1)]) Y ⟨(Ext.refl _),hS,rfl⟩ ?_;rintro s1 F t0 _ o0 ⟨e0,o,rfl⟩ h G;unfold z6 at h;refine sq<|rg<|rr 1 ?_;refine rn<|sq<|ci h (fun h=>?_) (fun h=>?_)
  ·refine sp<|sq<|bk<|sq<|rg<|rr 2 ?_;refine rn<|sq<|rg<|rr 3 ?_;obtain⟨v0,a0,h⟩:=bS h;refine ix (hE.trans o.ext) i0 a0 (fun p0 g0 X H=>?_);have f0:=z1h H;subst f0;refine lN (At.ext (hE.trans o.ext) X) ?_;obtain⟨q0,b0,h⟩:=bS h;refine ca d0.1 (d0.2 (hE.trans o.ext) (ty30.ext (hE.trans o.ext) H) b0) (fun r0 u0 M=>?_);obtain⟨rfl,y⟩:=M;have z:=o.join y;refine rn<|ci h (fun h=>?_) (fun h=>?_)
   ·refine sq<|rg<|rr 2 ?_;refine rn<|rt ?_;cases h;cases G;have hm:some _=some _:=hm;cases hm;exact⟨_,.cons (.tmp rfl) .nil,rfl,z⟩
   ·refine sp<|rg<|rr 2 ?_;refine rn ?_;cases h;exact⟨_,_,rfl,⟨(e0.trans y.ext),z,rfl⟩,rfl⟩
  ·refine xt ?_;cases h;exact⟨_,_,⟨G,e0,o,rfl⟩,rfl⟩

theorem zc4:Enters Tryz.prog 146:=⟨_,_,Tryz.func146,rfl,by kernel_rfl⟩
def z9 (fuel:Nat) (x0:(List D.Word)) (x1:D.Word→Option Bool):Option (Bool):=((zx fuel x0 x1).bind fun r1=>some (decide (r1≥0)))

theorem z3d {W w:World}(hE:Ext W w){h:Option Addr}{o:Nat}{x0:(List D.Word)}{f1_:Nat}{u1_:List Value}{x1:D.Word→Option Bool}(y:ty81.ro W [sl h x0 o] x0) (z:Enters Tryz.prog f1_∧∀ {w9:World},Ext W w9→∀ {cz0:List Value}{z0:D.Word}{y9:Bool},ty30.ro w9 cz0 z0→x1 z0=some y9→Calls Tryz.prog f1_ ⟨[.agg ⟨cz0⟩]++u1_⟩ w9 (Ret fun v w8=>v=.bool y9∧St w9 w8 [])){fuel:Nat}{r:Bool}(hm:z9 fuel x0 x1=some r):
  Calls Tryz.prog 146 ⟨[sl h x0 o,.func (.func f1_) #[] ⟨u1_⟩]⟩ w (Ret fun v w8=>v=.bool r∧St w w8 []):=by
 refine into Tryz.func146 9 _ ?_;unfold z9 at hm;have hS:=St.start w;refine sq<|rg<|rr 1 ?_;refine rn<|sq<|rg<|rr 2 ?_;obtain⟨r1,M,hm⟩:=bS hm;refine ca zbO (z3C (hE.trans hS.ext) y z M) (fun v3 w4 G=>?_);obtain⟨rfl,H⟩:=G;have L:=hS.join H;refine rr 2 ?_;refine rn<|rt ?_;cases hm;exact⟨_,.cons (.tmp rfl) .nil,rfl,L⟩

theorem z6D:Enters Tryz.prog 181:=⟨_,_,Tryz.func181,rfl,by kernel_rfl⟩
def zG (fuel:Nat) (x0:D.Memory) (x1:Int):Option (Bool):=(if(decide (x1≥0))=true then some (decide (x1<(x0.Cells.length:Int))) else some false)

theorem z2b {W w:World}(hE:Ext W w){o:Addr}{h:List Value}{x0:D.Memory}{x1:Int}(z:ty33.ro W h x0) (y:At W o h){fuel:Nat}{r:Bool}(hm:zG fuel x0 x1=some r):
  Calls Tryz.prog 181 ⟨[.pointer (some o),.int .i64 x1]⟩ w (Ret fun v w8=>v=.bool r∧St w w8 []):=by
 obtain⟨A1,k2,A4,k5,e7,h3,h6⟩:=zS z;subst e7;refine into Tryz.func181 16 _ ?_;unfold zG at hm;have hS:=St.start w;refine sq<|rg<|rr 1 ?_;refine rn<|sq<|rg<|rr 3 ?_;refine rb 7 hm (fun hm=>?_) (fun hm=>?_)
 ·refine rr 4 ?_;refine l1 (At.ext (hE.trans hS.ext) y) 0 ?_;refine rr 4 ?_;refine rn<|rt ?_;cases hm;exact⟨_,.cons (.tmp rfl) .nil,rfl,hS⟩
 ·refine rr 9 ?_;refine rn<|rt ?_;cases hm;exact⟨_,.cons (.tmp rfl) .nil,rfl,hS⟩

theorem zc2:Enters Tryz.prog 149:=⟨_,_,Tryz.func149,rfl,by kernel_rfl⟩
def z1m (fuel:Nat) (x0:D.Memory) (x1:D.Word):Option (Bool):=((zG fuel x0 x1.At).bind fun o=>(if(!o)=true then some false else((idx x0.Cells x1.At).bind fun h=>(if(x1.Tag == 1)=true then((zd fuel h).bind fun y=>(if y=true then some true else(if(x1.Tag == 2)=true then((zc fuel h).bind fun z=>some z) else some false))) else(if(x1.Tag == 2)=true then((zc fuel h).bind fun G=>some G) else some false)))))

theorem z5R {W w:World}(hE:Ext W w){C0:Addr}{v0:List Value}{x0:D.Memory}{y0:List Value}{x1:D.Word}(B0:ty33.ro W v0 x0) (A0:At W C0 v0) (G0:ty30.ro W y0 x1){fuel:Nat}{r:Bool}(hm:z1m fuel x0 x1=some r):
  Calls Tryz.prog 149 ⟨[.pointer (some C0),.agg ⟨y0⟩]⟩ w (Ret fun v w8=>v=.bool r∧St w w8 []):=by
 obtain⟨A1,k2,A4,k5,e7,h3,h6⟩:=zS B0;subst e7;have D0:=z1h G0;subst D0;refine into Tryz.func149 35 _ ?_;unfold z1m at hm;have hS:=St.start w;refine sq<|rg<|nw hS (fun M0 d1 K0 G=>?_);refine rr 1 ?_;refine rn<|sq<|sq<|rg<|rr 2 ?_;refine l1 ((G.bring 0 rfl).box) 1 ?_;obtain⟨R0,o0,hm⟩:=bS hm;refine ca z6D (z2b (hE.trans G.ext) B0 A0 o0) (fun V0 e1 M=>?_);obtain⟨rfl,O⟩:=M;have y:=G.join O;refine rr 1 ?_;refine rn<|ci hm (fun hm=>?_) (fun hm=>?_)
 ·refine sq<|rg<|rr 1 ?_;refine rn<|rt ?_;cases hm;exact⟨_,.cons (.tmp rfl) .nil,rfl,(y.taken 0)⟩
 ·refine sp<|sq<|dn 512 mixed 10 [([],1023),([0],1022),([1],1021),([2],1019),([],1023),([4],1007),([3,5],983),([6],959),([],1023),([8,7,0,1,2,3,4,5,6,7,8],639)] y.ext (fun h=>?_);have d0:=y.step (Ext.draw _);refine dr 6 h [0,1,2,4] ?_;refine dw [3,13,15] ?_;refine dl h 3 (At.ext (hE.trans y.ext) A0) 0 ?_;refine dl h 5 ((y.bring 0 rfl).box) 1 ?_;obtain⟨u0,p0,hm⟩:=bS hm;refine dx (hE.trans y.ext) h 6 h3 p0 (fun Q0 F0 j0 k0=>?_);obtain⟨H0,O0,J0,P0,E0,H,L⟩:=z4 k0;subst E0;refine dL h 7 (At.ext (hE.trans y.ext) j0) ?_;refine o1 h 8 (mw h d0 (fun N0 g1 L0 e0=>?_));have f0:=e0.bring 0 rfl;refine o1 h 9 (ms (A:=[]) f0 h 0 (fun i1 o=>?_));refine dd h ?_;refine sq<|rg<|rr 1 ?_;refine l1 ((o.bring 1 rfl).box) 0 ?_;refine rr 2 ?_;refine rb 22 hm (fun hm=>?_) (fun hm=>?_)
  ·refine lN ((o.bring 0 rfl).box) ?_;obtain⟨S0,q0,hm⟩:=bS hm;refine ca z6j (zT (hE.trans o.ext) (z4z u0 H L) q0) (fun X0 j1 X=>?_);obtain⟨rfl,Y⟩:=X;have z:=o.join Y;refine rr 2 ?_;refine rb 26 hm (fun hm=>?_) (fun hm=>?_)
   ·refine rr 9 ?_;refine rn<|rt ?_;cases hm;exact⟨_,.cons (.tmp rfl) .nil,rfl,(z.taken 0)⟩
   ·refine rr 1 ?_;refine l1 ((z.bring 1 rfl).box) 0 ?_;refine rr 2 ?_;refine rb 30 hm (fun hm=>?_) (fun hm=>?_)
    ·refine lN ((z.bring 0 rfl).box) ?_;obtain⟨T0,r0,hm⟩:=bS hm;refine ca z6d (z1p (hE.trans z.ext) (z4z u0 H L) r0) (fun Y0 k1 Z=>?_);obtain⟨rfl,a0⟩:=Z;have g0:=z.join a0;refine rr 3 ?_;refine rn<|rt ?_;cases hm;exact⟨_,.cons (.tmp rfl) .nil,rfl,(g0.taken 0)⟩
    ·refine rr 5 ?_;refine rn<|rt ?_;cases hm;exact⟨_,.cons (.tmp rfl) .nil,rfl,(z.taken 0)⟩
  ·refine rr 5 ?_;refine l1 ((o.bring 1 rfl).box) 0 ?_;refine rr 2 ?_;refine rb 30 hm (fun hm=>?_) (fun hm=>?_)
   ·refine lN ((o.bring 0 rfl).box) ?_;obtain⟨U0,t0,hm⟩:=bS hm;refine ca z6d (z1p (hE.trans o.ext) (z4z u0 H L) t0) (fun a1 m1 b0=>?_);obtain⟨rfl,c0⟩:=b0;have i0:=o.join c0;refine rr 3 ?_;refine rn<|rt ?_;cases hm;exact⟨_,.cons (.tmp rfl) .nil,rfl,(i0.taken 0)⟩
   ·refine rr 5 ?_;refine rn<|rt ?_;cases hm;exact⟨_,.cons (.tmp rfl) .nil,rfl,(o.taken 0)⟩

theorem zc3:Enters Tryz.prog 148:=⟨_,_,Tryz.func148,rfl,by kernel_rfl⟩
def z1v (fuel:Nat) (x0:D.Word) (x1:D.Memory):Option (Bool):=((z1m fuel x1 x0).bind fun h=>some (!h))

theorem z5p {W w:World}(hE:Ext W w){H:List Value}{x0:D.Word}{X Y:Addr}{L:List Value}{x1:D.Memory}(M:ty30.ro W H x0) (f1_:At W X [.pointer (some Y)]) (O:ty33.ro W L x1) (a0:At W Y L){fuel:Nat}{r:Bool}(hm:z1v fuel x0 x1=some r):
  Calls Tryz.prog 148 ⟨[.agg ⟨H⟩,.pointer (some X)]⟩ w (Ret fun v w8=>v=.bool r∧St w w8 []):=by
 have e1:=z1h M;subst e1;obtain⟨A2,k3,A5,k6,Z,h4,h7⟩:=zS O;subst Z;refine into Tryz.func148 8 _ ?_;unfold z1v at hm;have hS:=St.start w;refine sq<|rg<|nw hS (fun c0 f0 b0 h=>?_);refine rr 1 ?_;refine rn<|sq<|rg<|l1 (At.ext (hE.trans h.ext) f1_) 0 ?_;refine lN ((h.bring 0 rfl).box) ?_;obtain⟨d0,G,hm⟩:=bS hm;refine ca zc2 (z5R (hE.trans h.ext) O a0 M G) (fun e0 g0 o=>?_);obtain⟨rfl,y⟩:=o;have z:=h.join y;refine rr 2 ?_;refine rn<|rt ?_;cases hm;exact⟨_,.cons (.tmp rfl) .nil,rfl,(z.taken 0)⟩

theorem zbN:Enters Tryz.prog 182:=⟨_,_,Tryz.func182,rfl,by kernel_rfl⟩
def zQ (fuel:Nat) (t2:Unit):Option Int:=some (-1)
def z7 (fuel:Nat) (x0:(List D.Pair)) (x1:D.Pair→Option Bool) (s1:Int):Option (Rd (Int) (Unit) (Int)):=(if(decide (s1<(x0.length:Int)))=true then((idx x0 s1).bind fun o=>((x1 o).bind fun h=>(if h=true then some (.ret s1) else some (.next (w64 (s1+1)))))) else some (.brk ()))
def zy (fuel:Nat) (x0:(List D.Pair)) (x1:D.Pair→Option Bool):Option (Int):=((iter (z7 fuel x0 x1) fuel 0).bind fun o=>aft o (zQ fuel))

theorem z3D {W w:World}(hE:Ext W w){L:Option Addr}{c0:Nat}{x0:(List D.Pair)}{f1_:Nat}{u1_:List Value}{x1:D.Pair→Option Bool}(i0:ty31.ro W [sl L x0 c0] x0) (d0:Enters Tryz.prog f1_∧∀ {w9:World},Ext W w9→∀ {cz0:List Value}{z0:D.Pair}{y9:Bool},ty87.ro w9 cz0 z0→x1 z0=some y9→Calls Tryz.prog f1_ ⟨[.agg ⟨cz0⟩]++u1_⟩ w9 (Ret fun v w8=>v=.bool y9∧St w9 w8 [])){fuel:Nat}{r:Int}(hm:zy fuel x0 x1=some r):
  Calls Tryz.prog 182 ⟨[sl L x0 c0,.func (.func f1_) #[] ⟨u1_⟩]⟩ w (Ret fun v w8=>v=.int .i64 r∧St w w8 []):=by
 refine into Tryz.func182 19 _ ?_;unfold zy at hm;have hS:=St.start w;refine sq<|rg<|rr 1 ?_;refine rn<|sq<|sq<|rg<|rr 3 ?_;refine rn ?_;obtain⟨j0,Y,hm⟩:=bS hm;refine ct (fun(t2:Unit) F w9=>j0=.inl t2∧Ext w w9∧St w w9 []∧F=[]) ?_ ?_
 ·rintro t2 F w7 ⟨Z,k0,O,rfl⟩;subst Z;rw [z3] at hm;unfold zQ at hm;refine sq<|rg<|rr 1 ?_;refine rn<|rt ?_;cases hm;exact⟨_,.cons (.tmp rfl) .nil,rfl,O⟩
 ·refine bk<|wk [0,1,7,8] ?_;refine it (fun(s1:Int) F w9=>Ext w w9∧St w w9 []∧F=[(0,sl L x0 c0),(1,.func (.func f1_) #[] ⟨u1_⟩),(7,.int .i64 (x0.length:Int)),(8,.int .i64 s1)]) Y ⟨(Ext.refl _),hS,rfl⟩ ?_;rintro s1 F t0 _ o0 ⟨e0,o,rfl⟩ h G;unfold z7 at h;refine sq<|rg<|rr 1 ?_;refine rn<|sq<|ci h (fun h=>?_) (fun h=>?_)
  ·refine sp<|sq<|bk<|sq<|rg<|rr 2 ?_;refine rn<|sq<|rg<|rr 3 ?_;obtain⟨v0,a0,h⟩:=bS h;refine ix (hE.trans o.ext) i0 a0 (fun p0 g0 X H=>?_);have f0:=z3b H;subst f0;refine lN (At.ext (hE.trans o.ext) X) ?_;obtain⟨q0,b0,h⟩:=bS h;refine ca d0.1 (d0.2 (hE.trans o.ext) (ty87.ext (hE.trans o.ext) H) b0) (fun r0 u0 M=>?_);obtain⟨rfl,y⟩:=M;have z:=o.join y;refine rn<|ci h (fun h=>?_) (fun h=>?_)
   ·refine sq<|rg<|rr 2 ?_;refine rn<|rt ?_;cases h;cases G;have hm:some _=some _:=hm;cases hm;exact⟨_,.cons (.tmp rfl) .nil,rfl,z⟩
   ·refine sp<|rg<|rr 2 ?_;refine rn ?_;cases h;exact⟨_,_,rfl,⟨(e0.trans y.ext),z,rfl⟩,rfl⟩
  ·refine xt ?_;cases h;exact⟨_,_,⟨G,e0,o,rfl⟩,rfl⟩

theorem zc1:Enters Tryz.prog 150:=⟨_,_,Tryz.func150,rfl,by kernel_rfl⟩
def za (fuel:Nat) (x0:(List D.Pair)) (x1:D.Pair→Option Bool):Option (Bool):=((zy fuel x0 x1).bind fun r1=>some (decide (r1≥0)))

theorem z3e {W w:World}(hE:Ext W w){h:Option Addr}{o:Nat}{x0:(List D.Pair)}{f1_:Nat}{u1_:List Value}{x1:D.Pair→Option Bool}(y:ty31.ro W [sl h x0 o] x0) (z:Enters Tryz.prog f1_∧∀ {w9:World},Ext W w9→∀ {cz0:List Value}{z0:D.Pair}{y9:Bool},ty87.ro w9 cz0 z0→x1 z0=some y9→Calls Tryz.prog f1_ ⟨[.agg ⟨cz0⟩]++u1_⟩ w9 (Ret fun v w8=>v=.bool y9∧St w9 w8 [])){fuel:Nat}{r:Bool}(hm:za fuel x0 x1=some r):
  Calls Tryz.prog 150 ⟨[sl h x0 o,.func (.func f1_) #[] ⟨u1_⟩]⟩ w (Ret fun v w8=>v=.bool r∧St w w8 []):=by
 refine into Tryz.func150 9 _ ?_;unfold za at hm;have hS:=St.start w;refine sq<|rg<|rr 1 ?_;refine rn<|sq<|rg<|rr 2 ?_;obtain⟨r1,M,hm⟩:=bS hm;refine ca zbN (z3D (hE.trans hS.ext) y z M) (fun v3 w4 G=>?_);obtain⟨rfl,H⟩:=G;have L:=hS.join H;refine rr 2 ?_;refine rn<|rt ?_;cases hm;exact⟨_,.cons (.tmp rfl) .nil,rfl,L⟩

theorem zbZ:Enters Tryz.prog 152:=⟨_,_,Tryz.func152,rfl,by kernel_rfl⟩
def z1f (fuel:Nat) (x0:D.Memory) (x1:D.Pair):Option (Bool):=(if(decide (x1.A<x1.B))=true then((zG fuel x0 x1.A).bind fun h=>(if h=true then((zG fuel x0 x1.B).bind fun o=>(if o=true then((idx x0.Cells x1.A).bind fun G=>((zd fuel G).bind fun y=>(if y=true then((idx x0.Cells x1.B).bind fun H=>((zd fuel H).bind fun z=>some z)) else some false))) else some false)) else some false)) else some false)

theorem z5D {W w:World}(hE:Ext W w){y0:Addr}{u0:List Value}{x0:D.Memory}{v0:List Value}{x1:D.Pair}(b0:ty33.ro W u0 x0) (a0:At W y0 u0) (F0:ty87.ro W v0 x1){fuel:Nat}{r:Bool}(hm:z1f fuel x0 x1=some r):
  Calls Tryz.prog 152 ⟨[.pointer (some y0),.agg ⟨v0⟩]⟩ w (Ret fun v w8=>v=.bool r∧St w w8 []):=by
 obtain⟨A1,k2,A4,k5,e7,h3,h6⟩:=zS b0;subst e7;have A0:=z3b F0;subst A0;refine into Tryz.func152 44 _ ?_;unfold z1f at hm;have hS:=St.start w;refine sq<|rg<|nw hS (fun M0 m1 L0 o=>?_);refine rr 1 ?_;refine rn<|sq<|dn 0 mixed 40 [([],1099511627775),([0],1099511627774),([],1099511627775),([2],1099511627771),([1,3],1099511627765),([4],1099511627759),([5],1099511627743),([5],1099511627743),([7,5],1099511627615),([6,8,5,5],1099511627423),([5,9],1099511627231),([10,9],1099511626751),([11],1099511625727),([11],1099511625727),([13,11],1099511617535),([12,14,11,11],1099511605247),([11,15],1099511592959),([16,15],1099511562239),([17],1099511496703),([18,17],1099511234559),([19,17],1099510972415),([20,17],1099510448127),([17],1099511496703),([22,17],1099507302399),([21,23,17],1099501010943),([24,17],1099494719487),([25,17,17],1099477942271),([17,26],1099444387839),([27,26],1099377410047),([28],1099243192319),([29,28],1098706321407),([30,28],1098169450495),([31,28],1097095708671),([28],1099243192319),([33,28],1090653257727),([32,34,28],1077768355839),([35,28],1064883453951),([36,28,28],1030523715583),([28,37],961804238847),([38,37,0,1,2,3,4,5,6,7,8,9,10,11,12,13,14,15,16,17,18,19,20,21,22,23,24,25,26,27,28,29,30,31,32,33,34,35,36,37,38],824633720831)] o.ext (fun h=>?_);have y:=o.step (Ext.draw _);refine dr 38 h [0,2] ?_;refine dl h 1 ((o.bring 0 rfl).box) 0 ?_;refine dl h 3 ((o.bring 0 rfl).box) 1 ?_;refine dr 34 h [4,5] ?_;refine dw [0,3,4,10] ?_;refine db 10 hm (fun hm=>?_) (fun hm=>?_)
 ·refine dr 32 h [6,7] ?_;refine dl h 8 ((o.bring 0 rfl).box) 0 ?_;obtain⟨Y0,k0,hm⟩:=bS hm;refine o1 h 9 (mc h z6D (z2b (hE.trans y.ext) b0 a0 k0) (fun g1 n1 c0=>?_));obtain⟨rfl,L⟩:=c0;refine⟨L.ext,?_⟩;have z:=y.join L;refine dr 28 h [10,11] ?_;refine dw [0,3,4,16] ?_;refine db 16 hm (fun hm=>?_) (fun hm=>?_)
  ·refine dr 26 h [12,13] ?_;refine dl h 14 ((o.bring 0 rfl).box) 1 ?_;obtain⟨a1,o0,hm⟩:=bS hm;refine o1 h 15 (mc h z6D (z2b (hE.trans z.ext) b0 a0 o0) (fun i1 p1 d0=>?_));obtain⟨rfl,M⟩:=d0;refine⟨M.ext,?_⟩;have G:=z.join M;refine dr 22 h [16,17] ?_;refine dw [0,3,4,22] ?_;refine db 22 hm (fun hm=>?_) (fun hm=>?_)
   ·refine dr 18 h [18,19,20,22] ?_;refine dl h 21 (At.ext (hE.trans o.ext) a0) 0 ?_;refine dl h 23 ((o.bring 0 rfl).box) 0 ?_;obtain⟨v1,p0,hm⟩:=bS hm;refine dx (hE.trans o.ext) h 24 h3 p0 (fun V0 D0 i0 Y=>?_);obtain⟨G0,R0,H0,S0,B0,N0,O0⟩:=z4 Y;subst B0;refine dL h 25 (At.ext (hE.trans o.ext) i0) ?_;obtain⟨d1,q0,hm⟩:=bS hm;refine o1 h 26 (mc h z6j (zT (hE.trans G.ext) Y q0) (fun j1 t1 e0=>?_));obtain⟨rfl,O⟩:=e0;refine⟨O.ext,?_⟩;have H:=G.join O;refine dr 11 h [27,28] ?_;refine dw [0,3,4,33] ?_;refine db 33 hm (fun hm=>?_) (fun hm=>?_)
    ·refine dr 7 h [29,30,31,33] ?_;refine dl h 32 (At.ext (hE.trans o.ext) a0) 0 ?_;refine dl h 34 ((o.bring 0 rfl).box) 1 ?_;obtain⟨y1,r0,hm⟩:=bS hm;refine dx (hE.trans o.ext) h 35 h3 r0 (fun X0 E0 j0 Z=>?_);obtain⟨J0,T0,K0,U0,C0,P0,Q0⟩:=z4 Z;subst C0;refine dL h 36 (At.ext (hE.trans o.ext) j0) ?_;obtain⟨e1,t0,hm⟩:=bS hm;refine o1 h 37 (mc h z6j (zT (hE.trans H.ext) Z t0) (fun k1 u1 f0=>?_));obtain⟨rfl,X⟩:=f0;refine⟨X.ext,?_⟩;have g0:=H.join X;refine dr 0 h [38,39] ?_;refine dw [4] ?_;refine dd h ?_;refine rt ?_;cases hm;exact⟨_,.cons (.tmp rfl) .nil,rfl,(g0.taken 0)⟩
    ·refine dr 0 h [29,30,31,32,33,34,35,36,37,38,39] ?_;refine dw [4] ?_;refine dd h ?_;refine rt ?_;cases hm;exact⟨_,.cons (.tmp rfl) .nil,rfl,(H.taken 0)⟩
   ·refine dr 0 h [18,19,20,21,22,23,24,25,26,27,28,29,30,31,32,33,34,35,36,37,38,39] ?_;refine dw [4] ?_;refine dd h ?_;refine rt ?_;cases hm;exact⟨_,.cons (.tmp rfl) .nil,rfl,(G.taken 0)⟩
  ·refine dr 0 h [12,13,14,15,16,17,18,19,20,21,22,23,24,25,26,27,28,29,30,31,32,33,34,35,36,37,38,39] ?_;refine dw [4] ?_;refine dd h ?_;refine rt ?_;cases hm;exact⟨_,.cons (.tmp rfl) .nil,rfl,(z.taken 0)⟩
 ·refine dr 0 h [6,7,8,9,10,11,12,13,14,15,16,17,18,19,20,21,22,23,24,25,26,27,28,29,30,31,32,33,34,35,36,37,38,39] ?_;refine dw [4] ?_;refine dd h ?_;refine rt ?_;cases hm;exact⟨_,.cons (.tmp rfl) .nil,rfl,(y.taken 0)⟩

theorem zc0:Enters Tryz.prog 151:=⟨_,_,Tryz.func151,rfl,by kernel_rfl⟩
def z1u (fuel:Nat) (x0:D.Pair) (x1:D.Memory):Option (Bool):=((z1f fuel x1 x0).bind fun h=>some (!h))

theorem z5o {W w:World}(hE:Ext W w){H:List Value}{x0:D.Pair}{X Y:Addr}{L:List Value}{x1:D.Memory}(M:ty87.ro W H x0) (f1_:At W X [.pointer (some Y)]) (O:ty33.ro W L x1) (a0:At W Y L){fuel:Nat}{r:Bool}(hm:z1u fuel x0 x1=some r):
  Calls Tryz.prog 151 ⟨[.agg ⟨H⟩,.pointer (some X)]⟩ w (Ret fun v w8=>v=.bool r∧St w w8 []):=by
 have e1:=z3b M;subst e1;obtain⟨A2,k3,A5,k6,Z,h4,h7⟩:=zS O;subst Z;refine into Tryz.func151 8 _ ?_;unfold z1u at hm;have hS:=St.start w;refine sq<|rg<|nw hS (fun c0 f0 b0 h=>?_);refine rr 1 ?_;refine rn<|sq<|rg<|l1 (At.ext (hE.trans h.ext) f1_) 0 ?_;refine lN ((h.bring 0 rfl).box) ?_;obtain⟨d0,G,hm⟩:=bS hm;refine ca zbZ (z5D (hE.trans h.ext) O a0 M G) (fun e0 g0 o=>?_);obtain⟨rfl,y⟩:=o;have z:=h.join y;refine rr 2 ?_;refine rn<|rt ?_;cases hm;exact⟨_,.cons (.tmp rfl) .nil,rfl,(z.taken 0)⟩

theorem zbY:Enters Tryz.prog 153:=⟨_,_,Tryz.func153,rfl,by kernel_rfl⟩
def z2T (fuel:Nat) (h:Unit):Option Bool:=some true
def zF (fuel:Nat) (o:(List Int)) (h:Int) (y:Int):Option (Rd (Int) (Unit) (Bool)):=((idx o h).bind fun z=>(if(z != y)=true then some (.ret false) else some (.next (w64 (h+1)))))
def zD (fuel:Nat) (y:(List Int)) (o:Int) (h:Int):Option (Rd (Int) (Unit) (Bool)):=zF fuel y o h
def zE (fuel:Nat) (y:(List Int)) (o:Int) (h:Bool):Option (Rd (Int) (Unit) (Bool)):=(if h=true then zD fuel y o 2 else zD fuel y o 1)
def zk (fuel:Nat) (x0:D.Memory) (y:(List Int)) (h:Int):Option (Rd (Int) (Unit) (Bool)):=(if(decide (h<(x0.Cells.length:Int)))=true then((idx x0.Cells h).bind fun z=>((zw fuel z).bind fun G=>(if G=true then zF fuel y h 0 else((zc fuel z).bind fun o=>(if o=true then zE fuel y h ((z.Words.length:Int) == 0) else zE fuel y h false))))) else some (.brk ()))
def z19 (fuel:Nat) (x0:D.Memory) (h:(List Int)):Option Bool:=((iter (zk fuel x0 h) fuel 0).bind fun o=>aft o (z2T fuel))
def zm (fuel:Nat) (x0:D.Memory) (o:Int × (List Int)):Option (Rd (Int × (List Int)) ((List Int)) (Bool)):=(if(decide (o.1<(x0.Redexes.length:Int)))=true then((idx x0.Redexes o.1).bind fun h=>((idx o.2 h.A).bind fun y=>(if decide (0≤h.A∧h.A.toNat<o.2.length)=true then((idx (o.2.set h.A.toNat (w64 (y+1))) h.B).bind fun z=>(if decide (0≤h.B∧h.B.toNat<(o.2.set h.A.toNat (w64 (y+1))).length)=true then some (.next (w64 (o.1+1),((o.2.set h.A.toNat (w64 (y+1))).set h.B.toNat (w64 (z+1))))) else none)) else none))) else some (.brk o.2))
def z1a (fuel:Nat) (x0:D.Memory) (h:(List Int)):Option Bool:=((iter (zm fuel x0) fuel (0,h)).bind fun o=>aft o (z19 fuel x0))
def zn (fuel:Nat) (x1:(List D.Word)) (z:(List D.Word)) (o:Int × (List Int)):Option (Rd (Int × (List Int)) ((List Int)) (Bool)):=(if(decide (o.1<((z++x1).length:Int)))=true then((idx (z++x1) o.1).bind fun h=>((idx o.2 h.At).bind fun y=>(if decide (0≤h.At∧h.At.toNat<o.2.length)=true then some (.next (w64 (o.1+1),(o.2.set h.At.toNat (w64 (y+1))))) else none))) else some (.brk o.2))
def zV (fuel:Nat) (x0:D.Memory) (x1:(List D.Word)):Option (Bool):=(if decide (0≤(x0.Cells.length:Int)∧(x0.Cells.length:Int)≤4294967296)=true then((z2a fuel x0).bind fun h=>(if decide ((h.length:Int)+(x1.length:Int)≤4294967296)=true then((iter (zn fuel x1 h) fuel (0,(List.replicate (x0.Cells.length:Int).toNat (0:Int)))).bind fun o=>aft o (z1a fuel x0)) else none)) else none)

theorem z58 {W w:World}(hE:Ext W w){u0:Addr}{F2:List Value}{x0:D.Memory}{D2:Option Addr}{P2:Nat}{x1:(List D.Word)}(M2:ty33.ro W F2 x0) (H1:At W u0 F2) (b3:ty81.ro W [sl D2 x1 P2] x1){fuel:Nat}{r:Bool}(hm:zV fuel x0 x1=some r):
  Calls Tryz.prog 153 ⟨[.pointer (some u0),sl D2 x1 P2]⟩ w (Ret fun v w8=>v=.bool r∧St w w8 []):=by
 obtain⟨A1,k2,A4,k5,e7,h3,h6⟩:=zS M2;subst e7;refine into Tryz.func153 89 _ ?_;unfold zV at hm;have hS:=St.start w;refine sq<|rg<|rr 1 ?_;refine rn<|sq<|rg<|rr 3 ?_;refine l1 (At.ext (hE.trans hS.ext) H1) 0 ?_;refine rr 1 ?_;obtain⟨W1,hm⟩:=iS hm;have hz16:=of_decide_eq_true W1;refine mS (U:=tInt) (0:Int) hS hz16 (fun _=>⟨rfl,rfl⟩) (fun z G W3 L3 G0=>?_);refine rr 1 ?_;refine rn<|sq<|sq<|rg<|rr 1 ?_;obtain⟨t2,n2,hm⟩:=bS hm;refine ca z9x (z56 (hE.trans G0.ext) M2 H1 n2) (fun U3 X3 L1=>?_);obtain⟨H3,O3,rfl,M1⟩:=L1;have P1:=G0.join M1;refine rr 1 ?_;have Q0:=P1.bring 0 rfl;obtain⟨X1,hm⟩:=iS hm;refine ap (Flat.map (Flat.pair Flat.int (Flat.pair Flat.int Flat.unit))) Q0 (ty81.ext (hE.trans Q0.ext) b3) X1 (fun E2 Q2 Y3 Q1=>?_);refine rr 2 ?_;refine rn ?_;obtain⟨f3,Y1,hm⟩:=bS hm;refine ct (fun(y2:(List Int)) F w9=>f3=.inl y2∧St w w9 [Own z8j [sl z (List.replicate (x0.Cells.length:Int).toNat (0:Int)) G] y2]∧F=[(0,.pointer (some u0)),(5,sl z (List.replicate (x0.Cells.length:Int).toNat (0:Int)) G)]) ?_ ?_
 ·rintro y2 F a4 ⟨e2,R0,rfl⟩;subst e2;rw [z3] at hm;unfold z1a at hm;refine sq<|sq<|rg<|rr 3 ?_;refine l1 (At.ext (hE.trans R0.ext) H1) 4 ?_;refine rr 2 ?_;refine rn ?_;obtain⟨g3,a2,hm⟩:=bS hm;refine ct (fun(e0:(List Int)) F w9=>g3=.inl e0∧St w w9 [Own z8j [sl z (List.replicate (x0.Cells.length:Int).toNat (0:Int)) G] e0]∧F=[(0,.pointer (some u0)),(5,sl z (List.replicate (x0.Cells.length:Int).toNat (0:Int)) G)]) ?_ ?_
  ·rintro e0 F b4 ⟨g2,S0,rfl⟩;subst g2;rw [z3] at hm;unfold z19 at hm;refine sq<|sq<|rg<|rr 3 ?_;refine l1 (At.ext (hE.trans S0.ext) H1) 0 ?_;refine rr 2 ?_;refine rn ?_;obtain⟨i3,d2,hm⟩:=bS hm;refine ct (fun(R2:Unit) F w9=>i3=.inl R2∧St w w9 []∧F=[]) ?_ ?_
   ·rintro R2 F c4 ⟨i2,R1,rfl⟩;subst i2;rw [z3] at hm;unfold z2T at hm;refine sq<|rg<|rr 1 ?_;refine rn<|rt ?_;cases hm;exact⟨_,.cons (.tmp rfl) .nil,rfl,R1⟩
   ·refine bk<|wk [5,63,64,65] ?_;refine it (fun(d0:Int) F w9=>St w w9 [Own z8j [sl z (List.replicate (x0.Cells.length:Int).toNat (0:Int)) G] e0]∧F=[(5,sl z (List.replicate (x0.Cells.length:Int).toNat (0:Int)) G),(63,sl A1 x0.Cells k2),(64,.int .i64 (x0.Cells.length:Int)),(65,.int .i64 d0)]) d2 ⟨S0,rfl⟩ ?_;rintro d0 F d4 _ r2 ⟨f0,rfl⟩ h j1;unfold zk at h;refine sq<|rg<|rr 1 ?_;refine rn<|sq<|ci h (fun h=>?_) (fun h=>?_)
    ·refine sp<|sq<|bk<|sq<|rg<|rr 1 ?_;obtain⟨C2,o2,h⟩:=bS h;refine ix (hE.trans f0.ext) h3 o2 (fun R3 W2 U1 j2=>?_);obtain⟨J3,P3,K3,Q3,V2,N2,O2⟩:=z4 j2;subst V2;refine lN (At.ext (hE.trans f0.ext) U1) ?_;refine nw f0 (fun N3 e4 M3 S1=>?_);refine rr 1 ?_;have T1:=S1.bring 0 rfl;refine so (A:=[]) T1 0 (fun f4 q0=>?_);refine rn<|sq<|rg<|rr 1 ?_;refine rn<|sq<|bk<|sq<|rg<|lN ((q0.bring 0 rfl).box) ?_;obtain⟨T3,p2,h⟩:=bS h;refine ca z7b (z3a (hE.trans q0.ext) (z4z C2 N2 O2) p2) (fun V3 S2 N1=>?_);obtain⟨rfl,O1⟩:=N1;have g0:=q0.join O1;refine rr 1 ?_;refine rn<|ct (fun(A2:Int) F w9=>zF fuel e0 d0 A2=some r2∧Ext S2 w9∧St w w9 [Own z8j [sl z (List.replicate (x0.Cells.length:Int).toNat (0:Int)) G] e0]∧F=[(5,sl z (List.replicate (x0.Cells.length:Int).toNat (0:Int)) G),(10,.int .i64 d0),(12,.int .i64 A2),(63,sl A1 x0.Cells k2),(64,.int .i64 (x0.Cells.length:Int)),(65,.int .i64 d0)]) ?_ ?_
     ·rintro A2 F g4 ⟨h,c3,r0,rfl⟩;unfold zF at h;refine sq<|rg<|rr 2 ?_;obtain⟨i4,q2,h⟩:=bS h;refine ix (Ext.refl _) ((r0.bring 0 rfl).own) q2 (fun S3 X2 V1 m2=>?_);cases m2;refine l1 V1 0 ?_;refine rr 2 ?_;refine rn<|ci h (fun h=>?_) (fun h=>?_)
      ·refine sq<|rg<|rr 1 ?_;refine rn<|rt ?_;cases h;cases j1;have hm:some _=some _:=hm;cases hm;exact⟨_,.cons (.tmp rfl) .nil,rfl,(r0.taken 0)⟩
      ·refine sp<|rg<|rr 2 ?_;refine rn ?_;cases h;exact⟨_,_,rfl,⟨r0,rfl⟩,rfl⟩
     ·refine ci h (fun h=>?_) (fun h=>?_)
      ·refine rg<|rr 1 ?_;refine rn ?_;exact⟨0,_,⟨h,(Ext.refl _),((g0.bring 1 rfl).taken 1),rfl⟩,rfl⟩
      ·refine sq<|ct (fun(t0:Bool) F w9=>zE fuel e0 d0 t0=some r2∧Ext S2 w9∧St w w9 [Own z8j [sl z (List.replicate (x0.Cells.length:Int).toNat (0:Int)) G] e0]∧F=[(5,sl z (List.replicate (x0.Cells.length:Int).toNat (0:Int)) G),(10,.int .i64 d0),(12,.int .i64 1),(63,sl A1 x0.Cells k2),(64,.int .i64 (x0.Cells.length:Int)),(65,.int .i64 d0),(73,.bool t0)]) ?_ ?_
       ·rintro t0 F B2 ⟨h,v0,j0,rfl⟩;unfold zE at h;refine ct (fun(i0:Int) F w9=>zD fuel e0 d0 i0=some r2∧Ext B2 w9∧St w w9 [Own z8j [sl z (List.replicate (x0.Cells.length:Int).toNat (0:Int)) G] e0]∧F=[(5,sl z (List.replicate (x0.Cells.length:Int).toNat (0:Int)) G),(10,.int .i64 d0),(12,.int .i64 i0),(63,sl A1 x0.Cells k2),(64,.int .i64 (x0.Cells.length:Int)),(65,.int .i64 d0)]) ?_ ?_
        ·rintro i0 F r3 ⟨h,y0,B0,rfl⟩;unfold zD at h;exact⟨i0,_,⟨h,(v0.trans y0),B0,rfl⟩,rfl⟩
        ·refine ci h (fun h=>?_) (fun h=>?_)
         ·refine rg<|rr 1 ?_;refine rn ?_;exact⟨2,_,⟨h,(Ext.refl _),j0,rfl⟩,rfl⟩
         ·refine sp ?_;exact⟨1,_,⟨h,(Ext.refl _),j0,rfl⟩,rfl⟩
       ·refine rg<|lN ((g0.bring 0 rfl).box) ?_;obtain⟨p3,u1,h⟩:=bS h;refine ca z6d (z1p (hE.trans g0.ext) (z4z C2 N2 O2) u1) (fun q3 s3 A0=>?_);obtain⟨rfl,L⟩:=A0;have M:=g0.join L;refine rr 1 ?_;refine rb 76 h (fun h=>?_) (fun h=>?_)
        ·refine rr 1 ?_;refine l1 ((M.bring 0 rfl).box) 4 ?_;refine rr 4 ?_;refine rn ?_;exact⟨((C2.Words.length:Int) == 0),_,⟨h,L.ext,((M.bring 1 rfl).taken 1),rfl⟩,rfl⟩
        ·refine rr 6 ?_;refine rn ?_;exact⟨false,_,⟨h,L.ext,((M.bring 1 rfl).taken 1),rfl⟩,rfl⟩
    ·refine xt ?_;cases h;exact⟨_,_,⟨j1,(f0.taken 0),rfl⟩,rfl⟩
  ·refine bk<|wk [0,5,39,40,41] ?_;refine it (fun(v2:Int × (List Int)) F w9=>St w w9 [Own z8j [sl z (List.replicate (x0.Cells.length:Int).toNat (0:Int)) G] v2.2]∧F=[(0,.pointer (some u0)),(5,sl z (List.replicate (x0.Cells.length:Int).toNat (0:Int)) G),(39,sl A4 x0.Redexes k5),(40,.int .i64 (x0.Redexes.length:Int)),(41,.int .i64 v2.1)]) a2 ⟨R0,rfl⟩ ?_;rintro v2 F t3 _ d3 ⟨H,rfl⟩ o g1;unfold zm at o;refine sq<|rg<|rr 1 ?_;refine rn<|sq<|ci o (fun o=>?_) (fun o=>?_)
   ·refine sp<|sq<|bk<|sq<|rg ?_;obtain⟨F3,v1,o⟩:=bS o;refine ix (hE.trans H.ext) h6 v1 (fun j3 G2 T0 k1=>?_);have J1:=z3b k1;subst J1;refine lN (At.ext (hE.trans H.ext) T0) ?_;refine nw H (fun Y2 u3 T2 C0=>?_);have D0:=C0.bring 0 rfl;refine so (A:=[]) D0 0 (fun v3 O=>?_);refine rn<|sq<|rg<|rr 2 ?_;refine l1 ((O.bring 0 rfl).box) 0 ?_;obtain⟨E1,y1,o⟩:=bS o;refine ix (Ext.refl _) ((O.bring 1 rfl).own) y1 (fun k3 H2 U0 m1=>?_);cases m1;refine l1 U0 0 ?_;refine rr 1 ?_;have k0:=O.bring 1 rfl;obtain⟨a1,o⟩:=iS o;have a0:=of_decide_eq_true a1;refine io k0 a0.1 a0.2 (fun q146 hq147=>?_);have E0:=k0.flat (T:=tInt) (cs:=[.int .i64 (w64 (E1+1))]) (x:=(w64 (E1+1))) ⟨rfl,rfl⟩;have F0:=E0.bring 1 rfl;refine se F0 a0.2 hq147 (fun y3 X=>?_);refine rn<|rg<|rr 2 ?_;refine l1 ((X.bring 1 rfl).box) 1 ?_;obtain⟨F1,B1,o⟩:=bS o;refine ix (Ext.refl _) ((X.bring 0 rfl).own) B1 (fun m3 J2 V0 n1=>?_);cases n1;refine l1 V0 0 ?_;refine rr 1 ?_;have o0:=X.bring 0 rfl;obtain⟨d1,o⟩:=iS o;have b0:=of_decide_eq_true d1;refine io o0 b0.1 b0.2 (fun q161 hq162=>?_);have H0:=o0.flat (T:=tInt) (cs:=[.int .i64 (w64 (F1+1))]) (x:=(w64 (F1+1))) ⟨rfl,rfl⟩;have J0:=H0.bring 1 rfl;refine se J0 b0.2 hq162 (fun A3 K0=>?_);refine rn<|rg<|rr 2 ?_;refine rn ?_;cases o;exact⟨_,_,rfl,⟨(K0.taken 1),rfl⟩,rfl⟩
   ·refine xt ?_;cases o;exact⟨_,_,⟨g1,H,rfl⟩,rfl⟩
 ·refine bk<|wk [0,5,22,23,24] ?_;refine it (fun(u2:Int × (List Int)) F w9=>St w w9 [ow ty81 E2 (t2++x1) Q2,Own z8j [sl z (List.replicate (x0.Cells.length:Int).toNat (0:Int)) G] u2.2]∧F=[(0,.pointer (some u0)),(5,sl z (List.replicate (x0.Cells.length:Int).toNat (0:Int)) G),(22,sl E2 (t2++x1) Q2),(23,.int .i64 ((t2++x1).length:Int)),(24,.int .i64 u2.1)]) Y1 ⟨Q1,rfl⟩ ?_;rintro u2 F B3 _ e3 ⟨Y,rfl⟩ y i1;unfold zn at y;refine sq<|rg<|rr 1 ?_;refine rn<|sq<|ci y (fun y=>?_) (fun y=>?_)
  ·refine sp<|sq<|bk<|sq<|rg ?_;obtain⟨G3,C1,y⟩:=bS y;refine ix (Ext.refl _) ((Y.bring 0 rfl).own) C1 (fun n3 K2 X0 p1=>?_);have K1:=z1h p1;subst K1;refine lN X0 ?_;refine nw Y (fun a3 C3 U2 L0=>?_);have M0:=L0.bring 0 rfl;refine so (A:=[]) M0 0 (fun D3 Z=>?_);refine rn<|rg<|rr 2 ?_;refine l1 ((Z.bring 0 rfl).box) 1 ?_;obtain⟨G1,D1,y⟩:=bS y;refine ix (Ext.refl _) ((Z.bring 2 rfl).own) D1 (fun o3 L2 Y0 t1=>?_);cases t1;refine l1 Y0 0 ?_;refine rr 1 ?_;have p0:=Z.bring 2 rfl;obtain⟨e1,y⟩:=iS y;have c0:=of_decide_eq_true e1;refine io p0 c0.1 c0.2 (fun q195 hq196=>?_);have N0:=p0.flat (T:=tInt) (cs:=[.int .i64 (w64 (G1+1))]) (x:=(w64 (G1+1))) ⟨rfl,rfl⟩;have O0:=N0.bring 1 rfl;refine se O0 c0.2 hq196 (fun E3 P0=>?_);refine rn<|rg<|rr 2 ?_;refine rn ?_;cases y;exact⟨_,_,rfl,⟨(((P0.bring 0 rfl).bring 2 rfl).taken 2),rfl⟩,rfl⟩
  ·refine xt ?_;cases y;exact⟨_,_,⟨i1,((Y.bring 1 rfl).taken 1),rfl⟩,rfl⟩

theorem zbR:Enters Tryz.prog 168:=⟨_,_,Tryz.func168,rfl,by kernel_rfl⟩
def z5y (fuel:Nat) (x0:Bool):Option (Int):=(if x0=true then some 1 else some 0)

theorem z8z {W w:World}(hE:Ext W w){x0:Bool}  {fuel:Nat}{r:Int}(hm:z5y fuel x0=some r):
  Calls Tryz.prog 168 ⟨[.bool x0]⟩ w (Ret fun v w8=>v=.int .i64 r∧St w w8 []):=by
 refine into Tryz.func168 4 _ ?_;unfold z5y at hm;have hS:=St.start w;refine sq<|rg<|rr 1 ?_;refine rn<|sq<|sq<|rg<|rr 1 ?_;refine rn<|ci hm (fun hm=>?_) (fun hm=>?_)
 ·refine sq<|rg<|rr 1 ?_;refine rn<|rt ?_;cases hm;exact⟨_,.cons (.tmp rfl) .nil,rfl,hS⟩
 ·refine sp<|sq<|rg<|rr 1 ?_;refine rn<|rt ?_;cases hm;exact⟨_,.cons (.tmp rfl) .nil,rfl,hS⟩

theorem zbX:Enters Tryz.prog 154:=⟨_,_,Tryz.func154,rfl,by kernel_rfl⟩
def z1W (fuel:Nat) (h:Int):Option Bool:=some (h == (-1))
def zN (fuel:Nat) (x0:D.Memory) (h:Int × Int) (o:Bool):Option (Rd (Int × Int) (Int) (Bool)):=(if o=true then some (.ret false) else((idx x0.Cells h.1).bind fun y=>some (.next (y.Value,w64 (h.2+1)))))
def z5 (fuel:Nat) (x0:D.Memory) (z:Int) (h:Int × Int):Option (Rd (Int × Int) (Int) (Bool)):=(if(decide (h.2<z))=true then((zG fuel x0 h.1).bind fun o=>(if(!o)=true then zN fuel x0 h true else((idx x0.Cells h.1).bind fun G=>((zw fuel G).bind fun y=>zN fuel x0 h (!y))))) else some (.brk h.1))
def z4N (fuel:Nat) (x0:D.Memory) (h:Int):Option Bool:=((iter (z5 fuel x0 h) fuel (x0.Free,0)).bind fun o=>aft o (z1W fuel))
def z1o (fuel:Nat) (x0:D.Memory) (h:Int × Int):Option (Rd (Int × Int) (Int) (Bool)):=(if(decide (h.2<(x0.Cells.length:Int)))=true then((idx x0.Cells h.2).bind fun z=>((zw fuel z).bind fun o=>((z5y fuel o).bind fun y=>some (.next (w64 (h.1+y),w64 (h.2+1)))))) else some (.brk h.1))
def z1T (fuel:Nat) (x0:D.Memory):Option (Bool):=((iter (z1o fuel x0) fuel (0,0)).bind fun o=>aft o (z4N fuel x0))

theorem z6c {W w:World}(hE:Ext W w){X:Addr}{V0:List Value}{x0:D.Memory}(X0:ty33.ro W V0 x0) (Z:At W X V0){fuel:Nat}{r:Bool}(hm:z1T fuel x0=some r):
  Calls Tryz.prog 154 ⟨[.pointer (some X)]⟩ w (Ret fun v w8=>v=.bool r∧St w w8 []):=by
 obtain⟨A1,k2,A4,k5,e7,h3,h6⟩:=zS X0;subst e7;refine into Tryz.func154 55 _ ?_;unfold z1T at hm;have hS:=St.start w;refine sq<|rg<|rr 1 ?_;refine rn<|sq<|rg<|rr 1 ?_;refine rn<|sq<|sq<|rg<|rr 3 ?_;refine l1 (At.ext (hE.trans hS.ext) Z) 0 ?_;refine rr 2 ?_;refine rn ?_;obtain⟨t1,F0,hm⟩:=bS hm;refine ct (fun(t0:Int) F w9=>t1=.inl t0∧St w w9 []∧F=[(0,.pointer (some X)),(3,.int .i64 t0)]) ?_ ?_
 ·rintro t0 F Y0 ⟨H0,k0,rfl⟩;subst H0;rw [z3] at hm;unfold z4N at hm;refine sq<|rg<|rr 3 ?_;refine l1 (At.ext (hE.trans k0.ext) Z) 1 ?_;refine rr 1 ?_;refine rn<|sq<|sq<|rg<|rr 2 ?_;refine rn ?_;obtain⟨u1,G0,hm⟩:=bS hm;refine ct (fun(T0:Int) F w9=>u1=.inl T0∧Ext Y0 w9∧St w w9 []∧F=[(6,.int .i64 T0)]) ?_ ?_
  ·rintro T0 F r2 ⟨J0,p1,A0,rfl⟩;subst J0;rw [z3] at hm;unfold z1W at hm;refine sq<|rg<|rr 3 ?_;refine rn<|rt ?_;cases hm;exact⟨_,.cons (.tmp rfl) .nil,rfl,A0⟩
  ·refine bk<|wk [0,6,26,27] ?_;refine it (fun(Y:Int × Int) F w9=>Ext Y0 w9∧St w w9 []∧F=[(0,.pointer (some X)),(6,.int .i64 Y.1),(26,.int .i64 t0),(27,.int .i64 Y.2)]) G0 ⟨(Ext.refl _),k0,rfl⟩ ?_;rintro Y F K1 _ v1 ⟨a0,O,rfl⟩ h o0;unfold z5 at h;refine sq<|rg<|rr 1 ?_;refine rn<|sq<|ci h (fun h=>?_) (fun h=>?_)
   ·refine sp<|sq<|bk<|sq<|sq<|ct (fun(U0:Bool) F w9=>zN fuel x0 Y U0=some v1∧Ext K1 w9∧St w w9 []∧F=[(0,.pointer (some X)),(6,.int .i64 Y.1),(26,.int .i64 t0),(27,.int .i64 Y.2),(43,.bool U0)]) ?_ ?_
    ·rintro U0 F t2 ⟨h,u0,G,rfl⟩;unfold zN at h;refine ci h (fun h=>?_) (fun h=>?_)
     ·refine sq<|rg<|rr 1 ?_;refine rn<|rt ?_;cases h;cases o0;have hm:some _=some _:=hm;cases hm;exact⟨_,.cons (.tmp rfl) .nil,rfl,G⟩
     ·refine sp<|rg<|rr 3 ?_;refine l1 (At.ext (hE.trans G.ext) Z) 0 ?_;refine rr 1 ?_;obtain⟨A2,N0,h⟩:=bS h;refine ix (hE.trans G.ext) h3 N0 (fun j2 i1 C0 L0=>?_);obtain⟨M1,X1,N1,Y1,d1,T1,U1⟩:=z4 L0;subst d1;refine rr 1 ?_;refine l1 (At.ext (hE.trans G.ext) C0) 2 ?_;refine rr 1 ?_;refine rn<|rg<|rr 2 ?_;refine rn ?_;cases h;exact⟨_,_,rfl,⟨(a0.trans u0),G,rfl⟩,rfl⟩
    ·refine rg<|rr 2 ?_;obtain⟨o2,O0,h⟩:=bS h;refine ca z6D (z2b (hE.trans O.ext) X0 Z O0) (fun p2 u2 v0=>?_);obtain⟨rfl,M⟩:=v0;have y:=O.join M;refine rr 2 ?_;refine rb 33 h (fun h=>?_) (fun h=>?_)
     ·refine rr 10 ?_;refine rn ?_;exact⟨true,_,⟨h,M.ext,y,rfl⟩,rfl⟩
     ·refine rr 3 ?_;refine l1 (At.ext (hE.trans y.ext) Z) 0 ?_;refine rr 1 ?_;obtain⟨B2,P0,h⟩:=bS h;refine ix (hE.trans y.ext) h3 P0 (fun m2 j1 D0 p0=>?_);obtain⟨O1,a2,P1,d2,e1,V1,W1⟩:=z4 p0;subst e1;refine lN (At.ext (hE.trans y.ext) D0) ?_;obtain⟨C1,Q0,h⟩:=bS h;refine ca z7b (z3a (hE.trans y.ext) p0 Q0) (fun q2 v2 y0=>?_);obtain⟨rfl,f0⟩:=y0;have B0:=y.join f0;refine rr 2 ?_;refine rn ?_;exact⟨!C1,_,⟨h,(M.ext.trans f0.ext),B0,rfl⟩,rfl⟩
   ·refine xt ?_;cases h;exact⟨_,_,⟨o0,a0,O,rfl⟩,rfl⟩
 ·refine bk<|wk [0,3,10,11,12] ?_;refine it (fun(S0:Int × Int) F w9=>St w w9 []∧F=[(0,.pointer (some X)),(3,.int .i64 S0.1),(10,sl A1 x0.Cells k2),(11,.int .i64 (x0.Cells.length:Int)),(12,.int .i64 S0.2)]) F0 ⟨hS,rfl⟩ ?_;rintro S0 F y2 _ i2 ⟨H,rfl⟩ o K0;unfold z1o at o;refine sq<|rg<|rr 1 ?_;refine rn<|sq<|ci o (fun o=>?_) (fun o=>?_)
  ·refine sp<|sq<|bk<|sq<|rg ?_;obtain⟨L1,R0,o⟩:=bS o;refine ix (hE.trans H.ext) h3 R0 (fun n2 k1 E0 M0=>?_);obtain⟨Q1,e2,R1,g2,g1,m1,n1⟩:=z4 M0;subst g1;refine lN (At.ext (hE.trans H.ext) E0) ?_;refine nw H (fun S1 F1 a1 g0=>?_);have i0:=g0.bring 0 rfl;refine so (A:=[]) i0 0 (fun G1 z=>?_);refine rn<|rg<|rr 1 ?_;refine lN ((z.bring 0 rfl).box) ?_;obtain⟨y1,q0,o⟩:=bS o;refine ca z7b (z3a (hE.trans z.ext) (z4z L1 m1 n1) q0) (fun D1 H1 b0=>?_);obtain⟨rfl,c0⟩:=b0;have L:=z.join c0;obtain⟨B1,r0,o⟩:=bS o;refine ca zbR (z8z (hE.trans L.ext)  r0) (fun E1 J1 d0=>?_);obtain⟨rfl,e0⟩:=d0;have j0:=L.join e0;refine rr 2 ?_;refine rn<|rg<|rr 2 ?_;refine rn ?_;cases o;exact⟨_,_,rfl,⟨(j0.taken 0),rfl⟩,rfl⟩
  ·refine xt ?_;cases o;exact⟨_,_,⟨K0,H,rfl⟩,rfl⟩

theorem zaa:Enters Tryz.prog 96:=⟨_,_,Tryz.func96,rfl,by kernel_rfl⟩
def z4x (fuel:Nat) (h:Unit):Option (D.Word × Bool):=some ((⟨0,0⟩:D.Word),false)
def z1g (fuel:Nat) (x0:D.Memory) (h:Int × Int × Int) (y:Bool):Option (Rd (Int × Int × Int) (Unit) (D.Word × Bool)):=(if y=true then some (.ret ((⟨h.2.1,h.2.2⟩:D.Word),true)) else((idx x0.Cells h.2.2).bind fun z=>((idx z.Words 0).bind fun o=>some (.next (w64 (h.1+1),o.Tag,o.At)))))
def zC (fuel:Nat) (x0:D.Memory) (h:Int × Int × Int):Option (Rd (Int × Int × Int) (Unit) (D.Word × Bool)):=(if(decide (h.1<(w64 ((x0.Cells.length:Int)+1))))=true then(if(h.2.1 == 1)=true then z1g fuel x0 h true else((idx x0.Cells h.2.2).bind fun o=>z1g fuel x0 h ((o.Words.length:Int) == 0))) else some (.brk ()))
def zU (fuel:Nat) (x0:D.Memory) (x1:D.Word):Option (D.Word × Bool):=((iter (zC fuel x0) fuel (0,x1.Tag,x1.At)).bind fun o=>aft o (z4x fuel))

theorem z4Q {W w:World}(hE:Ext W w){b0:Addr}{E0:List Value}{x0:D.Memory}{F0:List Value}{x1:D.Word}(P0:ty33.ro W E0 x0) (c0:At W b0 E0) (Q0:ty30.ro W F0 x1){fuel:Nat}{r:D.Word × Bool}(hm:zU fuel x0 x1=some r):
  Calls Tryz.prog 96 ⟨[.pointer (some b0),.agg ⟨F0⟩]⟩ w (Ret fun v w8=>v=.tuple ⟨[.agg ⟨[.int .i64 r.1.Tag,.int .i64 r.1.At]⟩,.bool r.2]⟩∧St w w8 []):=by
 obtain⟨A1,k2,A4,k5,e7,h3,h6⟩:=zS P0;subst e7;have H0:=z1h Q0;subst H0;refine into Tryz.func96 44 _ ?_;unfold zU at hm;have hS:=St.start w;refine sq<|rg<|nw hS (fun a0 C1 g1 d0=>?_);refine nw d0 (fun L D1 i1 M=>?_);refine rr 1 ?_;refine rn<|sq<|sq<|rg<|rr 3 ?_;refine l1 (At.ext (hE.trans M.ext) c0) 0 ?_;refine rr 3 ?_;refine rn ?_;obtain⟨T0,r0,hm⟩:=bS hm;refine ct (fun(G0:Unit) F w9=>T0=.inl G0∧St w w9 [Box L [.int .i64 0,.int .i64 0] 30]∧F=[(4,.pointer (some ⟨L,0,none⟩))]) ?_ ?_
 ·rintro G0 F E1 ⟨t0,e0,rfl⟩;subst t0;rw [z3] at hm;unfold z4x at hm;refine sq<|rg<|qt (qb) ?_;have f0:=e0.bring 0 rfl;refine so (A:=[]) f0 0 (fun F1 O=>?_);refine rr 1 ?_;refine rn<|rt ?_;cases hm;exact⟨_,.cons (ra ((O.bring 0 rfl).box)) (.cons (.tmp rfl) .nil),rfl,(O.taken 0)⟩
 ·refine bk<|wk [0,3,4,11,12] ?_;refine it (fun(H:Int × Int × Int) F w9=>St w w9 [Box L [.int .i64 0,.int .i64 0] 30,Box a0 [.int .i64 H.2.1,.int .i64 H.2.2] 30]∧F=[(0,.pointer (some b0)),(3,.pointer (some ⟨a0,0,none⟩)),(4,.pointer (some ⟨L,0,none⟩)),(11,.int .i64 (w64 ((x0.Cells.length:Int)+1))),(12,.int .i64 H.1)]) r0 ⟨M,rfl⟩ ?_;rintro H F V0 _ U0 ⟨G,rfl⟩ h Z;unfold zC at h;refine sq<|rg<|rr 1 ?_;refine rn<|sq<|ci h (fun h=>?_) (fun h=>?_)
  ·refine sp<|sq<|bk<|sq<|sq<|ct (fun(D0:Bool) F w9=>z1g fuel x0 H D0=some U0∧Ext V0 w9∧St w w9 [Box L [.int .i64 0,.int .i64 0] 30,Box a0 [.int .i64 H.2.1,.int .i64 H.2.2] 30]∧F=[(0,.pointer (some b0)),(3,.pointer (some ⟨a0,0,none⟩)),(4,.pointer (some ⟨L,0,none⟩)),(11,.int .i64 (w64 ((x0.Cells.length:Int)+1))),(12,.int .i64 H.1),(29,.bool D0)]) ?_ ?_
   ·rintro D0 F G1 ⟨h,S0,z,rfl⟩;unfold z1g at h;refine ci h (fun h=>?_) (fun h=>?_)
    ·refine sq<|rg<|lN ((z.bring 1 rfl).box) ?_;have g0:=z.bring 0 rfl;refine so (A:=[]) g0 0 (fun H1 X=>?_);refine rr 1 ?_;refine rn<|rt ?_;cases h;cases Z;have hm:some _=some _:=hm;cases hm;exact⟨_,.cons (ra ((X.bring 0 rfl).box)) (.cons (.tmp rfl) .nil),rfl,(X.taken 0)⟩
    ·refine sp<|dn 2048 mixed 12 [([],4095),([0],4094),([1],4093),([2],4091),([],4095),([4],4079),([3,5],4055),([6],4031),([7],3967),([8],3839),([9],3583),([10,0,1,2,3,4,5,6,7,8,9,10],3071)] z.ext (fun y=>?_);have i0:=z.step (Ext.draw _);refine dr 8 y [0,1,2,4] ?_;refine dl y 3 (At.ext (hE.trans z.ext) c0) 0 ?_;refine dl y 5 ((z.bring 1 rfl).box) 1 ?_;obtain⟨K1,A0,h⟩:=bS h;refine dx (hE.trans z.ext) y 6 h3 A0 (fun v1 M0 o0 u0=>?_);obtain⟨Y0,n1,a1,p1,J0,j1,R0⟩:=z4 u0;subst J0;refine dr 4 y [7] ?_;refine dw [0,3,4,11,12,38] ?_;refine dl y 8 (At.ext (hE.trans z.ext) o0) 4 ?_;obtain⟨L1,B0,h⟩:=bS h;refine dx (hE.trans z.ext) y 9 R0 B0 (fun y1 N0 p0 v0=>?_);have K0:=z1h v0;subst K0;refine dL y 10 (At.ext (hE.trans z.ext) p0) ?_;have j0:=i0.bring 1 rfl;refine o1 y 11 (ms (A:=[]) j0 y 0 (fun J1 k0=>?_));refine dd y ?_;refine rg<|rr 2 ?_;refine rn ?_;cases h;exact⟨_,_,rfl,⟨((k0.bring 0 rfl).bring 1 rfl),rfl⟩,rfl⟩
   ·refine dn 0 mixed 16 [([],65535),([0],65534),([1],65533),([2],65531),([3],65527),([4,3],65511),([5,3],65495),([6,3],65463),([3],65527),([8,3],65271),([7,9,3],64887),([10,3],64503),([11,3],63479),([12,3],61431),([13,3],57335),([3,14],49143)] G.ext (fun o=>?_);have Y:=G.step (Ext.draw _);refine dr 15 o [0] ?_;refine dl o 1 ((G.bring 1 rfl).box) 0 ?_;refine dr 12 o [2,3] ?_;refine db 17 h (fun h=>?_) (fun h=>?_)
    ·refine dr 0 o [4,5,6,7,8,9,10,11,12,13,14,15] ?_;refine dw [0,3,4,11,12,29] ?_;refine dd o ?_;exact⟨true,_,⟨h,(Ext.draw _),Y,rfl⟩,rfl⟩
    ·refine dr 8 o [4,5,6,8] ?_;refine dw [0,3,4,11,12,17,20,22] ?_;refine dl o 7 (At.ext (hE.trans G.ext) c0) 0 ?_;refine dl o 9 ((G.bring 1 rfl).box) 1 ?_;obtain⟨X0,C0,h⟩:=bS h;refine dx (hE.trans G.ext) o 10 h3 C0 (fun B1 O0 q0 y0=>?_);obtain⟨d1,t1,e1,u1,L0,k1,m1⟩:=z4 y0;subst L0;refine dr 4 o [11] ?_;refine dl o 12 (At.ext (hE.trans G.ext) q0) 4 ?_;refine dr 0 o [13,14,15] ?_;refine dw [0,3,4,11,12,29] ?_;refine dd o ?_;exact⟨((X0.Words.length:Int) == 0),_,⟨h,(Ext.draw _),Y,rfl⟩,rfl⟩
  ·refine xt ?_;cases h;exact⟨_,_,⟨Z,(G.taken 1),rfl⟩,rfl⟩

theorem zcN:Enters Tryz.prog 79:=⟨_,_,Tryz.func79,rfl,by kernel_rfl⟩
def z4b (fuel:Nat) (h:Unit):Option Bool:=some true
def z14 (fuel:Nat) (h:Int) (o:Unit):Option (Rd (Int) (Unit) (Bool)):=some (.next (w64 (h+1)))
def zK (fuel:Nat) (x0:D.Memory) (h:Int):Option (Rd (Int) (Unit) (Bool)):=(if(decide (h<(x0.Cells.length:Int)))=true then((idx x0.Cells h).bind fun z=>((zc fuel z).bind fun o=>(if o=true then((zU fuel x0 (⟨2,h⟩:D.Word)).bind fun y=>(if(!y.2)=true then some (.ret false) else z14 fuel h ())) else z14 fuel h ()))) else some (.brk ()))
def z15 (fuel:Nat) (x0:D.Memory) (h:Bool):Option Bool:=(if h=true then some false else((iter (zK fuel x0) fuel 0).bind fun o=>aft o (z4b fuel)))
def zJ (fuel:Nat) (x0:D.Memory) (x1:(List D.Word)) (y:Bool):Option Bool:=(if y=true then some false else((zV fuel x0 x1).bind fun h=>(if(!h)=true then z15 fuel x0 true else((z1T fuel x0).bind fun o=>z15 fuel x0 (!o)))))
def zp (fuel:Nat) (x0:D.Memory) (x1:(List D.Word)) (G:Bool):Option Bool:=(if G=true then some false else((zb fuel x0.Cells (fun y0=>z1w fuel y0)).bind fun o=>(if o=true then zJ fuel x0 x1 true else((z2a fuel x0).bind fun h=>(if decide ((h.length:Int)+(x1.length:Int)≤4294967296)=true then((z9 fuel (h++x1) (fun y0=>z1v fuel y0 x0)).bind fun y=>(if y=true then zJ fuel x0 x1 true else((za fuel x0.Redexes (fun y0=>z1u fuel y0 x0)).bind fun z=>zJ fuel x0 x1 z))) else none)))))
def z1n (fuel:Nat) (x0:D.Memory) (x1:(List D.Word)):Option (Bool):=(if(decide ((x0.Cells.length:Int)<1))=true then zp fuel x0 x1 true else(if(decide ((x0.Cells.length:Int)>1500))=true then zp fuel x0 x1 true else zp fuel x0 x1 (decide ((x0.Redexes.length:Int)>(x0.Cells.length:Int)))))

theorem z5S {W w:World}(hE:Ext W w){k0:Addr}{E1:List Value}{x0:D.Memory}{N0:Option Addr}{O0:Nat}{x1:(List D.Word)}(g0:ty33.ro W E1 x0) (L:At W k0 E1) (F1:ty81.ro W [sl N0 x1 O0] x1){fuel:Nat}{r:Bool}(hm:z1n fuel x0 x1=some r):
  Calls Tryz.prog 79 ⟨[.pointer (some k0),sl N0 x1 O0]⟩ w (Ret fun v w8=>v=.bool r∧St w w8 []):=by
 obtain⟨A1,k2,A4,k5,e7,h3,h6⟩:=zS g0;subst e7;refine into Tryz.func79 88 _ ?_;unfold z1n at hm;have hS:=St.start w;refine sq<|rg<|nw hS (fun Y j2 v2 z=>?_);refine rr 1 ?_;refine rn<|sq<|sq<|ct (fun(B1:Bool) F w9=>zp fuel x0 x1 B1=some r∧Ext j2 w9∧St w w9 [Box Y [.pointer (some k0)] 71]∧F=[(1,sl N0 x1 O0),(2,.pointer (some ⟨Y,0,none⟩)),(35,.bool B1)]) ?_ ?_
 ·rintro B1 F O2 ⟨hm,P1,X,rfl⟩;unfold zp at hm;refine ci hm (fun hm=>?_) (fun hm=>?_)
  ·refine sq<|rg<|rr 1 ?_;refine rn<|rt ?_;cases hm;exact⟨_,.cons (.tmp rfl) .nil,rfl,(X.taken 0)⟩
  ·refine sp<|sq<|sq<|ct (fun(C1:Bool) F w9=>zJ fuel x0 x1 C1=some r∧St w w9 [Box Y [.pointer (some k0)] 71]∧F=[(1,sl N0 x1 O0),(2,.pointer (some ⟨Y,0,none⟩)),(56,.bool C1)]) ?_ ?_
   ·rintro C1 F q2 ⟨hm,Z,rfl⟩;unfold zJ at hm;refine ci hm (fun hm=>?_) (fun hm=>?_)
    ·refine sq<|rg<|rr 1 ?_;refine rn<|rt ?_;cases hm;exact⟨_,.cons (.tmp rfl) .nil,rfl,(Z.taken 0)⟩
    ·refine sp<|sq<|sq<|ct (fun(D1:Bool) F w9=>z15 fuel x0 D1=some r∧Ext q2 w9∧St w w9 [Box Y [.pointer (some k0)] 71]∧F=[(2,.pointer (some ⟨Y,0,none⟩)),(65,.bool D1)]) ?_ ?_
     ·rintro D1 F P2 ⟨hm,Q1,a0,rfl⟩;unfold z15 at hm;refine ci hm (fun hm=>?_) (fun hm=>?_)
      ·refine sq<|rg<|rr 1 ?_;refine rn<|rt ?_;cases hm;exact⟨_,.cons (.tmp rfl) .nil,rfl,(a0.taken 0)⟩
      ·refine sp<|sq<|sq<|rg<|l1 ((a0.bring 0 rfl).box) 0 ?_;refine rr 2 ?_;refine l1 (At.ext (hE.trans a0.ext) L) 0 ?_;refine rr 2 ?_;refine rn ?_;obtain⟨T1,j1,hm⟩:=bS hm;refine ct (fun(G1:Unit) F w9=>T1=.inl G1∧St w w9 []∧F=[]) ?_ ?_
       ·rintro G1 F Q2 ⟨k1,V0,rfl⟩;subst k1;rw [z3] at hm;unfold z4b at hm;refine sq<|rg<|rr 1 ?_;refine rn<|rt ?_;cases hm;exact⟨_,.cons (.tmp rfl) .nil,rfl,V0⟩
       ·refine bk<|wk [2,69,70,71] ?_;refine it (fun(M0:Int) F w9=>St w w9 [Box Y [.pointer (some k0)] 71]∧F=[(2,.pointer (some ⟨Y,0,none⟩)),(69,sl A1 x0.Cells k2),(70,.int .i64 (x0.Cells.length:Int)),(71,.int .i64 M0)]) j1 ⟨a0,rfl⟩ ?_;rintro M0 F R2 _ U1 ⟨b0,rfl⟩ o F0;unfold zK at o;refine sq<|rg<|rr 1 ?_;refine rn<|sq<|ci o (fun o=>?_) (fun o=>?_)
        ·refine sp<|sq<|bk<|sq<|rg<|rr 1 ?_;obtain⟨r2,n1,o⟩:=bS o;refine ix (hE.trans b0.ext) h3 n1 (fun F2 M1 i1 m1=>?_);obtain⟨t2,D2,u2,E2,L1,N1,O1⟩:=z4 m1;subst L1;refine lN (At.ext (hE.trans b0.ext) i1) ?_;refine nw b0 (fun B2 S2 y2 X0=>?_);refine rr 1 ?_;have Y0:=X0.bring 0 rfl;refine so (A:=[]) Y0 0 (fun T2 j0=>?_);refine rn<|sq<|rg<|lN ((j0.bring 0 rfl).box) ?_;obtain⟨G2,p1,o⟩:=bS o;refine ca z6d (z1p (hE.trans j0.ext) (z4z r2 N1 O1) p1) (fun K2 U2 P0=>?_);obtain⟨rfl,Q0⟩:=P0;have c0:=j0.join Q0;refine rn<|ct (fun(H1:Unit) F w9=>z14 fuel M0 H1=some U1∧St w w9 [Box Y [.pointer (some k0)] 71]∧F=[(2,.pointer (some ⟨Y,0,none⟩)),(69,sl A1 x0.Cells k2),(70,.int .i64 (x0.Cells.length:Int)),(71,.int .i64 M0)]) ?_ ?_
         ·rintro H1 F V2 ⟨o,a1,rfl⟩;unfold z14 at o;refine rg<|rr 2 ?_;refine rn ?_;cases o;exact⟨_,_,rfl,⟨a1,rfl⟩,rfl⟩
         ·refine ci o (fun o=>?_) (fun o=>?_)
          ·refine sq<|rg<|l1 ((c0.bring 1 rfl).box) 0 ?_;refine rr 1 ?_;refine qt (qb) ?_;obtain⟨H2,t1,o⟩:=bS o;refine ca zaa (z4Q (hE.trans c0.ext) g0 L (z4A (⟨2,M0⟩:D.Word)) t1) (fun L2 W2 R0=>?_);obtain⟨rfl,S0⟩:=R0;have d1:=c0.join S0;refine rr 3 ?_;refine nw d1 (fun C2 X2 A2 e1=>?_);have g1:=e1.bring 0 rfl;refine so (A:=[]) g1 0 (fun Y2 D0=>?_);refine rr 1 ?_;refine rn<|sq<|rg<|rr 2 ?_;refine rn<|ci o (fun o=>?_) (fun o=>?_)
           ·refine sq<|rg<|rr 1 ?_;refine rn<|rt ?_;cases o;cases F0;have hm:some _=some _:=hm;cases hm;exact⟨_,.cons (.tmp rfl) .nil,rfl,(D0.taken 0)⟩
           ·refine sp ?_;exact⟨(),_,⟨o,((D0.bring 2 rfl).taken 1),rfl⟩,rfl⟩
          ·refine sp ?_;exact⟨(),_,⟨o,((c0.bring 1 rfl).taken 1),rfl⟩,rfl⟩
        ·refine xt ?_;cases o;exact⟨_,_,⟨F0,(b0.taken 0),rfl⟩,rfl⟩
     ·refine rg<|l1 ((Z.bring 0 rfl).box) 0 ?_;refine rr 1 ?_;obtain⟨J2,u1,hm⟩:=bS hm;refine ca zbY (z58 (hE.trans Z.ext) g0 L F1 u1) (fun M2 a3 T0=>?_);obtain⟨rfl,i0⟩:=T0;have d0:=Z.join i0;refine rr 2 ?_;refine rb 61 hm (fun hm=>?_) (fun hm=>?_)
      ·refine rr 4 ?_;refine rn ?_;exact⟨true,_,⟨hm,i0.ext,d0,rfl⟩,rfl⟩
      ·refine l1 ((d0.bring 0 rfl).box) 0 ?_;obtain⟨Y1,v1,hm⟩:=bS hm;refine ca zbX (z6c (hE.trans d0.ext) g0 L v1) (fun N2 b3 U0=>?_);obtain⟨rfl,e0⟩:=U0;have A0:=d0.join e0;refine rr 2 ?_;refine rn ?_;exact⟨!Y1,_,⟨hm,(i0.ext.trans e0.ext),A0,rfl⟩,rfl⟩
   ·refine rg<|l1 ((X.bring 0 rfl).box) 0 ?_;refine rr 2 ?_;refine l1 (At.ext (hE.trans X.ext) L) 0 ?_;obtain⟨V1,G0,hm⟩:=bS hm;refine ca zc7 (z3f (hE.trans X.ext) h3 ⟨zc6,fun e9=>(fun M L0=>z5q (Ext.refl _) M L0)⟩ G0) (fun a2 i2 o0=>?_);obtain⟨rfl,p0⟩:=o0;have H:=X.join p0;refine rr 1 ?_;refine rb 41 hm (fun hm=>?_) (fun hm=>?_)
    ·refine rr 15 ?_;refine rn ?_;exact⟨true,_,⟨hm,H,rfl⟩,rfl⟩
    ·refine l1 ((H.bring 0 rfl).box) 0 ?_;obtain⟨W1,H0,hm⟩:=bS hm;refine ca z9x (z56 (hE.trans H.ext) g0 L H0) (fun d2 m2 q0=>?_);obtain⟨J1,R1,rfl,r0⟩:=q0;have B0:=H.join r0;refine rr 1 ?_;have f0:=B0.bring 0 rfl;obtain⟨E0,hm⟩:=iS hm;refine ap (Flat.map (Flat.pair Flat.int (Flat.pair Flat.int Flat.unit))) f0 (ty81.ext (hE.trans f0.ext) F1) E0 (fun K1 S1 n2 G=>?_);refine rr 1 ?_;obtain⟨X1,J0,hm⟩:=bS hm;refine ca zc4 (z3d (Ext.refl _) ((G.bring 0 rfl).own) ⟨zc3,fun e9=>(fun M L0=>z5p (Ext.refl _) M (At.ext e9 ((G.bring 1 rfl).box)) (ty33.ext e9 (ty33.ext (hE.trans G.ext) g0)) (At.ext e9 (At.ext (hE.trans G.ext) L)) L0)⟩ J0) (fun e2 o2 t0=>?_);obtain⟨rfl,u0⟩:=t0;have y:=G.join u0;refine rr 2 ?_;refine rb 49 hm (fun hm=>?_) (fun hm=>?_)
     ·refine rr 7 ?_;refine rn ?_;exact⟨true,_,⟨hm,((y.bring 1 rfl).taken 1),rfl⟩,rfl⟩
     ·refine l1 ((y.bring 1 rfl).box) 0 ?_;refine rr 2 ?_;refine l1 (At.ext (hE.trans y.ext) L) 4 ?_;refine rr 1 ?_;obtain⟨y1,K0,hm⟩:=bS hm;refine ca zc1 (z3e (Ext.refl _) (ty31.ext (hE.trans y.ext) h6) ⟨zc0,fun e9=>(fun M L0=>z5o (Ext.refl _) M (At.ext e9 ((y.bring 1 rfl).box)) (ty33.ext e9 (ty33.ext (hE.trans y.ext) g0)) (At.ext e9 (At.ext (hE.trans y.ext) L)) L0)⟩ K0) (fun g2 p2 v0=>?_);obtain⟨rfl,y0⟩:=v0;have C0:=y.join y0;refine rr 1 ?_;refine rn ?_;exact⟨y1,_,⟨hm,((C0.bring 1 rfl).taken 1),rfl⟩,rfl⟩
 ·refine dn 0 mixed 27 [([],134217727),([0],134217726),([1],134217725),([2],134217723),([3],134217719),([4],134217711),([5],134217695),([6],134217663),([7,6],134217535),([8,6],134217407),([9,6],134217151),([10,6],134216639),([11,6],134215615),([6,12],134213567),([13,6],134209535),([14],134201343),([15,14],134168575),([16,14],134135807),([17,14],134070271),([18,14],133939199),([14],134201343),([20,14],133152767),([21,14],132104191),([22,14],130007039),([23,14],125812735),([19,24,14],116899839),([14,25],100646911)] z.ext (fun h=>?_);have O:=z.step (Ext.draw _);refine dl h 0 ((z.bring 0 rfl).box) 0 ?_;refine dr 24 h [1,2] ?_;refine dl h 3 (At.ext (hE.trans z.ext) L) 0 ?_;refine dr 20 h [4,5,6] ?_;refine dw [1,2,15] ?_;refine db 15 hm (fun hm=>?_) (fun hm=>?_)
  ·refine dr 0 h [7,8,9,10,11,12,13,14,15,16,17,18,19,20,21,22,23,24,25,26] ?_;refine dw [1,2,35] ?_;refine dd h ?_;exact⟨true,_,⟨hm,(Ext.draw _),O,rfl⟩,rfl⟩
  ·refine dl h 7 ((z.bring 0 rfl).box) 0 ?_;refine dr 17 h [8,9] ?_;refine dl h 10 (At.ext (hE.trans z.ext) L) 0 ?_;refine dr 12 h [11,12,13,14] ?_;refine dw [1,2,23] ?_;refine db 23 hm (fun hm=>?_) (fun hm=>?_)
   ·refine dr 0 h [15,16,17,18,19,20,21,22,23,24,25,26] ?_;refine dw [1,2,35] ?_;refine dd h ?_;exact⟨true,_,⟨hm,(Ext.draw _),O,rfl⟩,rfl⟩
   ·refine dl h 15 ((z.bring 0 rfl).box) 0 ?_;refine dr 9 h [16,17] ?_;refine dl h 18 (At.ext (hE.trans z.ext) L) 4 ?_;refine dr 7 h [19] ?_;refine dl h 20 ((z.bring 0 rfl).box) 0 ?_;refine dr 4 h [21,22] ?_;refine dw [1,2,23,28,31] ?_;refine dl h 23 (At.ext (hE.trans z.ext) L) 0 ?_;refine dr 0 h [24,25,26] ?_;refine dw [1,2,35] ?_;refine dd h ?_;exact⟨decide ((x0.Redexes.length:Int)>(x0.Cells.length:Int)),_,⟨hm,(Ext.draw _),O,rfl⟩,rfl⟩

theorem zd1:Enters Tryz.prog 38:=⟨_,_,Tryz.func38,rfl,by kernel_rfl⟩
def z2u (fuel:Nat) (x0:D.Memory):Option (Bool):=((z1n fuel x0 ([]:(List D.Word))).bind fun h=>some h)

theorem z6q {W w:World}(hE:Ext W w){H:List Value}{x0:D.Memory}(L:ty33.ro W H x0){fuel:Nat}{r:Bool}(hm:z2u fuel x0=some r):
  Calls Tryz.prog 38 ⟨[.agg ⟨H⟩]⟩ w (Ret fun v w8=>v=.bool r∧St w w8 []):=by
 obtain⟨A1,k2,A4,k5,e7,h3,h6⟩:=zS L;subst e7;refine into Tryz.func38 4 _ ?_;unfold z2u at hm;have hS:=St.start w;refine sq<|rg<|nw hS (fun O Z M h=>?_);refine rr 1 ?_;refine rn<|sq<|rg ?_;obtain⟨X,G,hm⟩:=bS hm;refine ca zcN (z5S (Ext.refl _) (ty33.ext (hE.trans h.ext) L) ((h.bring 0 rfl).box) (show ty81.ro _ [.slice none ([]:(List D.Word)).length 0] [] from slNil ty30 30 _) G) (fun Y a0 o=>?_);obtain⟨rfl,y⟩:=o;have z:=h.join y;refine rr 1 ?_;refine rn<|rt ?_;cases hm;exact⟨_,.cons (.tmp rfl) .nil,rfl,(z.taken 0)⟩

theorem z5Y:Enters Tryz.prog 90:=⟨_,_,Tryz.func90,rfl,by kernel_rfl⟩
def zB (fuel:Nat) (x0:D.Cell):Option (Bool):=((zg fuel x0.Kind 2 12).bind fun h=>some h)

theorem z1i {W w:World}(hE:Ext W w){H:Addr}{G:List Value}{x0:D.Cell}(M:ty83.ro W G x0) (L:At W H G){fuel:Nat}{r:Bool}(hm:zB fuel x0=some r):
  Calls Tryz.prog 90 ⟨[.pointer (some H)]⟩ w (Ret fun v w8=>v=.bool r∧St w w8 []):=by
 obtain⟨A1,k2,A4,k5,e7,h3,h6⟩:=z4 M;subst e7;refine into Tryz.func90 8 _ ?_;unfold zB at hm;have hS:=St.start w;refine sq<|rg<|rr 1 ?_;refine rn<|sq<|rg<|rr 3 ?_;refine l1 (At.ext (hE.trans hS.ext) L) 0 ?_;obtain⟨O,z,hm⟩:=bS hm;refine ca z2c (zj (hE.trans hS.ext)  z) (fun X Y h=>?_);obtain⟨rfl,o⟩:=h;have y:=hS.join o;refine rr 1 ?_;refine rn<|rt ?_;cases hm;exact⟨_,.cons (.tmp rfl) .nil,rfl,y⟩

theorem zbQ:Enters Tryz.prog 172:=⟨_,_,Tryz.func172,rfl,by kernel_rfl⟩
def z5u (fuel:Nat) (h:(Int × Int × Int × (List Int) × (List D.Port))) (o:(List D.Port)):Option D.Agent:=some (⟨h.1,h.2.1,h.2.2.1,h.2.2.2.1,o⟩:D.Agent)
def z2k (fuel:Nat) (x0:D.Cell) (h:Int × (List D.Port)):Option (Rd (Int × (List D.Port)) ((List D.Port)) (D.Agent)):=(if(decide (h.1<(x0.Words.length:Int)))=true then(if decide ((h.2.length:Int)+(([(⟨0,0⟩:D.Port)]:(List D.Port)).length:Int)≤4294967296)=true then some (.next (w64 (h.1+1),(h.2++([(⟨0,0⟩:D.Port)]:(List D.Port))))) else none) else some (.brk h.2))
def z3y (fuel:Nat) (x0:D.Cell) (h:(Int × Int × Int × (List Int) × (List D.Port))):Option D.Agent:=((iter (z2k fuel x0) fuel (0,h.2.2.2.2)).bind fun o=>aft o (z5u fuel h))
def z3J (fuel:Nat) (x0:D.Cell):Option (D.Agent):=z3y fuel x0 (x0.Kind,x0.Level,x0.Value,x0.Data,([(⟨0,0⟩:D.Port)]:(List D.Port)))

theorem z72 {W w:World}(hE:Ext W w){o0:Addr}{O0:List Value}{x0:D.Cell}(U0:ty83.ro W O0 x0) (X:At W o0 O0){fuel:Nat}{r:D.Agent}(hm:z3J fuel x0=some r):
  Calls Tryz.prog 172 ⟨[.pointer (some o0)]⟩ w (Ret fun v w8=>∃ A0 k0 A1 k1,v=.agg ⟨[.int .i64 r.Kind,.int .i64 r.Level,.int .i64 r.Value,sl A0 r.Data k0,sl A1 r.Ports k1]⟩∧St w w8 [ow z3x A1 r.Ports k1]∧ty80.ro W [sl A0 r.Data k0] r.Data):=by
 obtain⟨A1,k2,A4,k5,e7,h3,h6⟩:=z4 U0;subst e7;refine into Tryz.func172 40 _ ?_;unfold z3J at hm;have hS:=St.start w;refine sq<|rg<|nw hS (fun M y1 g1 z=>?_);refine rn<|sq<|ct (fun(o:(Int × Int × Int × (List Int) × (List D.Port))) F w9=>∃ H L O d0 g0,z3y fuel x0 o=some r∧ty80.ro W [sl L o.2.2.2.1 O] o.2.2.2.1∧St w w9 [Box H [.int .i64 o.1,.int .i64 o.2.1,.int .i64 o.2.2.1,sl L o.2.2.2.1 O,sl d0 o.2.2.2.2 g0] 148,ow z3x d0 o.2.2.2.2 g0,Box M [.int .i64 0,.int .i64 0,.int .i64 0,.slice none 0 0,.slice none 0 0] 148]∧F=[(0,.pointer (some o0)),(2,.pointer (some ⟨M,0,none⟩)),(3,.pointer (some ⟨H,0,none⟩))]) ?_ ?_
 ·rintro o F B1 ⟨H,L,O,d0,g0,hm,V0,r0,rfl⟩;unfold z3y at hm;refine sq<|sq<|rg<|rr 1 ?_;refine rn ?_;obtain⟨d1,L0,hm⟩:=bS hm;refine ct (fun(q0:(List D.Port)) F w9=>∃ f0 j0,d1=.inl q0∧St w w9 [Box H [.int .i64 o.1,.int .i64 o.2.1,.int .i64 o.2.2.1,sl L o.2.2.2.1 O,sl f0 q0 j0] 148,ow z3x f0 q0 j0,Box M [.int .i64 0,.int .i64 0,.int .i64 0,.slice none 0 0,.slice none 0 0] 148]∧F=[(2,.pointer (some ⟨M,0,none⟩)),(3,.pointer (some ⟨H,0,none⟩))]) ?_ ?_
  ·rintro q0 F C1 ⟨f0,j0,M0,Z,rfl⟩;subst M0;rw [z3] at hm;unfold z5u at hm;refine sq<|rg<|lN ((Z.bring 0 rfl).box) ?_;have t0:=Z.bring 2 rfl;refine so (A:=[]) t0 0 (fun D1 a0=>?_);refine rn<|rt ?_;cases hm;exact⟨_,.cons (ra ((a0.bring 0 rfl).box)) .nil,L,O,f0,j0,rfl,((a0.bring 2 rfl).taken 1),V0⟩
  ·refine bk<|wk [0,2,3,4] ?_;refine it (fun(p0:Int × (List D.Port)) F w9=>∃ e0 i0,St w w9 [Box H [.int .i64 o.1,.int .i64 o.2.1,.int .i64 o.2.2.1,sl L o.2.2.2.1 O,sl e0 p0.2 i0] 148,ow z3x e0 p0.2 i0,Box M [.int .i64 0,.int .i64 0,.int .i64 0,.slice none 0 0,.slice none 0 0] 148]∧F=[(0,.pointer (some o0)),(2,.pointer (some ⟨M,0,none⟩)),(3,.pointer (some ⟨H,0,none⟩)),(4,.int .i64 p0.1)]) L0 ⟨d0,g0,r0,rfl⟩ ?_;rintro p0 F E1 _ v1 ⟨e0,i0,G,rfl⟩ y N0;unfold z2k at y;refine sq<|sq<|rg<|rr 4 ?_;refine l1 (At.ext (hE.trans G.ext) X) 4 ?_;refine rr 2 ?_;refine rn<|ci y (fun y=>?_) (fun y=>?_)
   ·refine sp<|sq<|bk<|rg<|rr 1 ?_;refine l1 ((G.bring 0 rfl).box) 4 ?_;refine qt (qb) ?_;refine ns (G.flatEls (U:=z3c) (els:=[.int .i64 0,.int .i64 0]) (ys:=[(⟨0,0⟩:D.Port)]) ⟨[.int .i64 0,.int .i64 0],_,[],[],rfl,rfl,(z3t (c:=(⟨0,0⟩:D.Port)) rfl),⟨rfl,rfl⟩⟩) (fun e1 u1 F1 i1 u0=>?_);have b0:=u0.bring 2 rfl;obtain⟨K0,y⟩:=iS y;refine ap (Flat.map (Flat.pair Flat.int (Flat.pair Flat.int Flat.unit))) b0 ((b0.bring 1 rfl).own) K0 (fun P0 X0 G1 v0=>?_);refine rr 1 ?_;have y0:=v0.bring 2 rfl;refine so (A:=[]) y0 4 (fun H1 B0=>?_);refine rn<|rg<|rr 3 ?_;refine rn ?_;cases y;exact⟨_,_,rfl,⟨P0,X0,(B0.sel [0,1,3]),rfl⟩,rfl⟩
   ·refine xt ?_;cases y;exact⟨_,_,⟨e0,i0,N0,G,rfl⟩,rfl⟩
 ·refine dn 1048576 mixed 21 [([],2097151),([0],2097150),([1],2097149),([2],2097147),([],2097151),([4],2097135),([5],2097119),([6],2097087),([],2097151),([8],2096895),([9],2096639),([10],2096127),([],2097151),([12],2093055),([13],2088959),([14],2080767),([],2097151),([16],2031615),([3,7,11,15,17],1931127),([],2097151),([19,18,0,1,2,3,4,5,6,7,8,9,10,11,12,13,14,15,16,17,18,19],1310719)] z.ext (fun h=>?_);have c0:=z.step (Ext.draw _);refine dr 9 h [0,1,2,4,5,6,8,9,10,12,13,14] ?_;refine dw [0,2,7,11,15,19] ?_;refine dl h 3 (At.ext (hE.trans z.ext) X) 0 ?_;refine dl h 7 (At.ext (hE.trans z.ext) X) 1 ?_;refine dl h 11 (At.ext (hE.trans z.ext) X) 2 ?_;refine dl h 15 (At.ext (hE.trans z.ext) X) 3 ?_;refine dp h 16 rfl (fun _=>qb) ?_;refine da h [17,19] (by simp) ?_;intro t1 hi76;simp only [List.mem_cons,List.not_mem_nil,or_false] at hi76
  rcases hi76 with rfl | rfl
  ·refine mn (c0.flatEls (U:=z3c) (els:=[.int .i64 0,.int .i64 0]) (ys:=[(⟨0,0⟩:D.Port)]) ⟨[.int .i64 0,.int .i64 0],_,[],[],rfl,rfl,(z3t (c:=(⟨0,0⟩:D.Port)) rfl),⟨rfl,rfl⟩⟩) h (fun Q0 Y0 J1 j1 C0=>?_);refine dp h 18 rfl (fun _=>qb) ?_;refine o1 h 19 (mw h C0 (fun S0 K1 m1 D0=>?_));have E0:=D0.bring 0 rfl;refine o1 h 20 (ms (A:=[]) E0 h 0 (fun L1 F0=>?_));refine dd h ?_;exact⟨(x0.Kind,x0.Level,x0.Value,x0.Data,([(⟨0,0⟩:D.Port)]:(List D.Port))),_,⟨S0,A1,k2,Q0,Y0,hm,h3,F0,rfl⟩,rfl⟩
  ·refine mw h c0 (fun T0 M1 n1 G0=>?_);refine o1 h 17 (mn (G0.flatEls (U:=z3c) (els:=[.int .i64 0,.int .i64 0]) (ys:=[(⟨0,0⟩:D.Port)]) ⟨[.int .i64 0,.int .i64 0],_,[],[],rfl,rfl,(z3t (c:=(⟨0,0⟩:D.Port)) rfl),⟨rfl,rfl⟩⟩) h (fun R0 a1 N1 p1 H0=>?_));refine dp h 18 rfl (fun _=>qb) ?_;have J0:=H0.bring 1 rfl;refine o1 h 20 (ms (A:=[]) J0 h 0 (fun O1 Y=>?_));refine dd h ?_;exact⟨(x0.Kind,x0.Level,x0.Value,x0.Data,([(⟨0,0⟩:D.Port)]:(List D.Port))),_,⟨T0,A1,k2,R0,a1,hm,h3,Y,rfl⟩,rfl⟩

theorem zce:Enters Tryz.prog 134:=⟨_,_,Tryz.func134,rfl,by kernel_rfl⟩
def z4f (fuel:Nat) (x0:D.Cell) (x1:Int):Option (Bool):=(if(x0.Kind == 0)=true then(if(x0.Level == 0)=true then(if((x0.Data.length:Int) == 0)=true then(if((x0.Words.length:Int) == 0)=true then((zg fuel x0.Value (-1) (w64 (x1 - 1))).bind fun o=>some o) else some false) else some false) else some false) else(if(x0.Kind == 13)=true then(if(x0.Level == 0)=true then(if(x0.Value == 0)=true then(if((x0.Data.length:Int) == 0)=true then some (decide ((x0.Words.length:Int)<2)) else some false) else some false) else some false) else((zB fuel x0).bind fun y=>(if y=true then((z3J fuel x0).bind fun h=>((z3K fuel (⟨h.Kind,h.Level,h.Value,h.Data,h.Ports⟩:D.Agent)).bind fun z=>some z)) else some false))))

theorem z7p {W w:World}(hE:Ext W w){p0:Addr}{o0:List Value}{x0:D.Cell}{x1:Int}(G:ty83.ro W o0 x0) (h:At W p0 o0){fuel:Nat}{r:Bool}(hm:z4f fuel x0 x1=some r):
  Calls Tryz.prog 134 ⟨[.pointer (some p0),.int .i64 x1]⟩ w (Ret fun v w8=>v=.bool r∧St w w8 []):=by
 obtain⟨A1,k2,A4,k5,e7,h3,h6⟩:=z4 G;subst e7;refine into Tryz.func134 82 _ ?_;unfold z4f at hm;have hS:=St.start w;refine sq<|rg<|rr 1 ?_;refine rn<|sq<|bk<|sq<|rg<|rr 3 ?_;refine l1 (At.ext (hE.trans hS.ext) h) 0 ?_;refine rr 2 ?_;refine rn<|ci hm (fun hm=>?_) (fun hm=>?_)
 ·refine sq<|rg<|rr 3 ?_;refine l1 (At.ext (hE.trans hS.ext) h) 1 ?_;refine rr 2 ?_;refine rb 17 hm (fun hm=>?_) (fun hm=>?_)
  ·refine rr 3 ?_;refine l1 (At.ext (hE.trans hS.ext) h) 3 ?_;refine rr 4 ?_;refine rb 25 hm (fun hm=>?_) (fun hm=>?_)
   ·refine rr 3 ?_;refine l1 (At.ext (hE.trans hS.ext) h) 4 ?_;refine rr 4 ?_;refine rb 33 hm (fun hm=>?_) (fun hm=>?_)
    ·refine rr 3 ?_;refine l1 (At.ext (hE.trans hS.ext) h) 2 ?_;refine rr 2 ?_;obtain⟨B0,g0,hm⟩:=bS hm;refine ca z2c (zj (hE.trans hS.ext)  g0) (fun E0 J0 H=>?_);obtain⟨rfl,L⟩:=H;have b0:=hS.join L;refine rr 2 ?_;refine rn<|rt ?_;cases hm;exact⟨_,.cons (.tmp rfl) .nil,rfl,b0⟩
    ·refine rr 9 ?_;refine rn<|rt ?_;cases hm;exact⟨_,.cons (.tmp rfl) .nil,rfl,hS⟩
   ·refine rr 17 ?_;refine rn<|rt ?_;cases hm;exact⟨_,.cons (.tmp rfl) .nil,rfl,hS⟩
  ·refine rr 25 ?_;refine rn<|rt ?_;cases hm;exact⟨_,.cons (.tmp rfl) .nil,rfl,hS⟩
 ·refine sq<|rg<|rr 3 ?_;refine l1 (At.ext (hE.trans hS.ext) h) 0 ?_;refine rr 2 ?_;refine rn<|ci hm (fun hm=>?_) (fun hm=>?_)
  ·refine sq<|rg<|rr 3 ?_;refine l1 (At.ext (hE.trans hS.ext) h) 1 ?_;refine rr 2 ?_;refine rb 53 hm (fun hm=>?_) (fun hm=>?_)
   ·refine rr 3 ?_;refine l1 (At.ext (hE.trans hS.ext) h) 2 ?_;refine rr 3 ?_;refine rb 60 hm (fun hm=>?_) (fun hm=>?_)
    ·refine rr 3 ?_;refine l1 (At.ext (hE.trans hS.ext) h) 3 ?_;refine rr 4 ?_;refine rb 68 hm (fun hm=>?_) (fun hm=>?_)
     ·refine rr 3 ?_;refine l1 (At.ext (hE.trans hS.ext) h) 4 ?_;refine rr 4 ?_;refine rn<|rt ?_;cases hm;exact⟨_,.cons (.tmp rfl) .nil,rfl,hS⟩
     ·refine rr 8 ?_;refine rn<|rt ?_;cases hm;exact⟨_,.cons (.tmp rfl) .nil,rfl,hS⟩
    ·refine rr 16 ?_;refine rn<|rt ?_;cases hm;exact⟨_,.cons (.tmp rfl) .nil,rfl,hS⟩
   ·refine rr 23 ?_;refine rn<|rt ?_;cases hm;exact⟨_,.cons (.tmp rfl) .nil,rfl,hS⟩
  ·refine sq<|rg<|rr 1 ?_;obtain⟨C0,i0,hm⟩:=bS hm;refine ca z5Y (z1i (hE.trans hS.ext) G h i0) (fun F0 K0 M=>?_);obtain⟨rfl,O⟩:=M;have y:=hS.join O;refine rr 1 ?_;refine rn<|ci hm (fun hm=>?_) (fun hm=>?_)
   ·refine sq<|rg<|rr 1 ?_;obtain⟨z,j0,hm⟩:=bS hm;refine ca zbQ (z72 (hE.trans y.ext) G h j0) (fun G0 L0 X=>?_);obtain⟨r0,y0,t0,A0,rfl,Y,q0⟩:=X;have c0:=y.join Y;refine nw c0 (fun v0 M0 u0 d0=>?_);have e0:=d0.bring 0 rfl;refine so (A:=[]) e0 0 (fun N0 o=>?_);refine rn<|sq<|rg ?_;obtain⟨D0,k0,hm⟩:=bS hm;refine ca zbU (z73 (Ext.refl _) (z88 (⟨z.Kind,z.Level,z.Value,z.Data,z.Ports⟩:D.Agent) (ty80.ext (hE.trans o.ext) q0) ((o.bring 1 rfl).own)) ((o.bring 0 rfl).box) k0) (fun H0 O0 Z=>?_);obtain⟨rfl,a0⟩:=Z;have f0:=o.join a0;refine rr 1 ?_;refine rn<|rt ?_;cases hm;exact⟨_,.cons (.tmp rfl) .nil,rfl,(f0.taken 0)⟩
   ·refine sp<|sq<|rg<|rr 1 ?_;refine rn<|rt ?_;cases hm;exact⟨_,.cons (.tmp rfl) .nil,rfl,y⟩

theorem zcd:Enters Tryz.prog 135:=⟨_,_,Tryz.func135,rfl,by kernel_rfl⟩
def z4C (fuel:Nat) (h:(List D.Word)):Option (List D.Word):=some h
def z2g (fuel:Nat) (x0:D.Memory) (h:Int × (List D.Word)):Option (Rd (Int × (List D.Word)) ((List D.Word)) ((List D.Word))):=(if(decide (h.1<(x0.Cells.length:Int)))=true then((idx x0.Cells h.1).bind fun o=>(if decide ((h.2.length:Int)+(o.Words.length:Int)≤4294967296)=true then some (.next (w64 (h.1+1),(h.2++o.Words))) else none)) else some (.brk h.2))
def z3G (fuel:Nat) (x0:D.Memory):Option ((List D.Word)):=((iter (z2g fuel x0) fuel (0,([x0.Root]:(List D.Word)))).bind fun o=>aft o (z4C fuel))

theorem z70 {W w:World}(hE:Ext W w){j0:Addr}{o0:List Value}{x0:D.Memory}(u0:ty33.ro W o0 x0) (X:At W j0 o0){fuel:Nat}{r:(List D.Word)}(hm:z3G fuel x0=some r):
  Calls Tryz.prog 135 ⟨[.pointer (some j0)]⟩ w (Ret fun v w8=>∃ A0 k0,v=sl A0 r k0∧St w w8 [ow ty81 A0 r k0]):=by
 obtain⟨A1,k2,A4,k5,e7,h3,h6⟩:=zS u0;subst e7;refine into Tryz.func135 30 _ ?_;unfold z3G at hm;have hS:=St.start w;refine sq<|rg<|rr 1 ?_;refine rn<|sq<|rg<|rr 3 ?_;refine lN (At.sub (At.ext (hE.trans hS.ext) X) 2 2) ?_;refine ns (hS.flatEls (U:=ty30) (els:=[.int .i64 x0.Root.Tag,.int .i64 x0.Root.At]) (ys:=[x0.Root]) ⟨[.int .i64 x0.Root.Tag,.int .i64 x0.Root.At],_,[],[],rfl,rfl,(z61 (c:=x0.Root) rfl),⟨rfl,rfl⟩⟩) (fun p0 y0 M0 F0 Y=>?_);refine rr 1 ?_;refine rn<|sq<|sq<|rg<|rr 1 ?_;refine rn ?_;obtain⟨C0,d0,hm⟩:=bS hm;refine ct (fun(O:(List D.Word)) F w9=>∃ G L,C0=.inl O∧St w w9 [ow ty81 G O L]∧F=[(3,sl G O L)]) ?_ ?_
 ·rintro O F N0 ⟨G,L,e0,Z,rfl⟩;subst e0;rw [z3] at hm;unfold z4C at hm;refine sq<|rg<|rr 2 ?_;refine rn<|rt ?_;cases hm;exact⟨_,.cons (.tmp rfl) .nil,G,L,rfl,Z⟩
 ·refine bk<|wk [0,3,4] ?_;refine it (fun(M:Int × (List D.Word)) F w9=>∃ z H,St w w9 [ow ty81 z M.2 H]∧F=[(0,.pointer (some j0)),(3,sl z M.2 H),(4,.int .i64 M.1)]) d0 ⟨p0,y0,Y,rfl⟩ ?_;rintro M F O0 _ K0 ⟨z,H,o,rfl⟩ h f0;unfold z2g at h;refine sq<|sq<|rg<|rr 4 ?_;refine l1 (At.ext (hE.trans o.ext) X) 0 ?_;refine rr 2 ?_;refine rn<|ci h (fun h=>?_) (fun h=>?_)
  ·refine sp<|sq<|bk<|rg<|rr 4 ?_;refine l1 (At.ext (hE.trans o.ext) X) 0 ?_;refine rr 1 ?_;obtain⟨Q0,i0,h⟩:=bS h;refine ix (hE.trans o.ext) h3 i0 (fun L0 t0 b0 g0=>?_);obtain⟨D0,H0,E0,J0,r0,G0,v0⟩:=z4 g0;subst r0;refine rr 1 ?_;refine l1 (At.ext (hE.trans o.ext) b0) 4 ?_;have y:=o.bring 0 rfl;obtain⟨c0,h⟩:=iS h;refine ap (Flat.map (Flat.pair Flat.int (Flat.pair Flat.int Flat.unit))) y (ty81.ext (hE.trans y.ext) v0) c0 (fun q0 B0 P0 a0=>?_);refine rr 1 ?_;refine rn<|rg<|rr 3 ?_;refine rn ?_;cases h;exact⟨_,_,rfl,⟨q0,B0,a0,rfl⟩,rfl⟩
  ·refine xt ?_;cases h;exact⟨_,_,⟨z,H,f0,o,rfl⟩,rfl⟩

theorem zcc:Enters Tryz.prog 136:=⟨_,_,Tryz.func136,rfl,by kernel_rfl⟩
def z4d (fuel:Nat) (x0:D.Memory) (x1:D.Word):Option (Bool):=((zg fuel x1.At 0 (w64 ((x0.Cells.length:Int) - 1))).bind fun o=>(if(!o)=true then some false else((idx x0.Cells x1.At).bind fun h=>(if(x1.Tag == 1)=true then((zB fuel h).bind fun y=>(if y=true then some true else(if(x1.Tag == 2)=true then some (h.Kind == 13) else some false))) else(if(x1.Tag == 2)=true then some (h.Kind == 13) else some false)))))

theorem z7n {W w:World}(hE:Ext W w){i0:Addr}{e0:List Value}{x0:D.Memory}{f0:List Value}{x1:D.Word}(p0:ty33.ro W e0 x0) (g0:At W i0 e0) (q0:ty30.ro W f0 x1){fuel:Nat}{r:Bool}(hm:z4d fuel x0 x1=some r):
  Calls Tryz.prog 136 ⟨[.pointer (some i0),.agg ⟨f0⟩]⟩ w (Ret fun v w8=>v=.bool r∧St w w8 []):=by
 obtain⟨A1,k2,A4,k5,e7,h3,h6⟩:=zS p0;subst e7;have j0:=z1h q0;subst j0;refine into Tryz.func136 42 _ ?_;unfold z4d at hm;have hS:=St.start w;refine sq<|rg<|nw hS (fun v0 J0 u0 H=>?_);refine rr 1 ?_;refine rn<|sq<|sq<|dn 0 mixed 10 [([],1023),([0],1022),([],1023),([2],1019),([3],1015),([4],1007),([5],991),([6],959),([1,7],893),([8],767)] H.ext (fun h=>?_);have O:=H.step (Ext.draw _);refine dr 6 h [0,2,3,4] ?_;refine dl h 1 ((H.bring 0 rfl).box) 1 ?_;refine dl h 5 (At.ext (hE.trans H.ext) g0) 0 ?_;refine dr 2 h [6,7] ?_;refine dw [0,3,7,13] ?_;obtain⟨E0,b0,hm⟩:=bS hm;refine o1 h 8 (mc h z2c (zj (hE.trans O.ext)  b0) (fun G0 K0 Y=>?_));obtain⟨rfl,M⟩:=Y;refine⟨M.ext,?_⟩;have y:=O.join M;refine dr 0 h [9] ?_;refine dd h ?_;refine ci hm (fun hm=>?_) (fun hm=>?_)
 ·refine sq<|rg<|rr 1 ?_;refine rn<|rt ?_;cases hm;exact⟨_,.cons (.tmp rfl) .nil,rfl,(y.taken 0)⟩
 ·refine sp<|sq<|dn 0 mixed 8 [([],255),([0],254),([1],253),([2],251),([],255),([4],239),([3,5],215),([6,0,1,2,3,4,5,6],191)] y.ext (fun z=>?_);have o:=y.step (Ext.draw _);refine dr 4 z [0,1,2,4] ?_;refine dw [3,18,20] ?_;refine dl z 3 (At.ext (hE.trans y.ext) g0) 0 ?_;refine dl z 5 ((y.bring 0 rfl).box) 1 ?_;obtain⟨M0,c0,hm⟩:=bS hm;refine dx (hE.trans y.ext) z 6 h3 c0 (fun D0 o0 L X=>?_);obtain⟨r0,B0,t0,C0,k0,y0,A0⟩:=z4 X;subst k0;refine dr 0 z [7] ?_;refine dd z ?_;refine sq<|rg<|rr 1 ?_;refine l1 ((o.bring 0 rfl).box) 0 ?_;refine rr 2 ?_;refine rb 26 hm (fun hm=>?_) (fun hm=>?_)
  ·refine rr 1 ?_;obtain⟨F0,d0,hm⟩:=bS hm;refine ca z5Y (z1i (hE.trans o.ext) X L d0) (fun H0 L0 Z=>?_);obtain⟨rfl,a0⟩:=Z;have G:=o.join a0;refine rr 2 ?_;refine rb 30 hm (fun hm=>?_) (fun hm=>?_)
   ·refine rr 12 ?_;refine rn<|rt ?_;cases hm;exact⟨_,.cons (.tmp rfl) .nil,rfl,(G.taken 0)⟩
   ·refine rr 1 ?_;refine l1 ((G.bring 0 rfl).box) 0 ?_;refine rr 2 ?_;refine rb 34 hm (fun hm=>?_) (fun hm=>?_)
    ·refine rr 3 ?_;refine l1 (At.ext (hE.trans G.ext) L) 0 ?_;refine rr 4 ?_;refine rn<|rt ?_;cases hm;exact⟨_,.cons (.tmp rfl) .nil,rfl,(G.taken 0)⟩
    ·refine rr 8 ?_;refine rn<|rt ?_;cases hm;exact⟨_,.cons (.tmp rfl) .nil,rfl,(G.taken 0)⟩
  ·refine rr 5 ?_;refine l1 ((o.bring 0 rfl).box) 0 ?_;refine rr 2 ?_;refine rb 34 hm (fun hm=>?_) (fun hm=>?_)
   ·refine rr 3 ?_;refine l1 (At.ext (hE.trans o.ext) L) 0 ?_;refine rr 4 ?_;refine rn<|rt ?_;cases hm;exact⟨_,.cons (.tmp rfl) .nil,rfl,(o.taken 0)⟩
   ·refine rr 8 ?_;refine rn<|rt ?_;cases hm;exact⟨_,.cons (.tmp rfl) .nil,rfl,(o.taken 0)⟩

theorem zac:Enters Tryz.prog 91:=⟨_,_,Tryz.func91,rfl,by kernel_rfl⟩
def z51 (fuel:Nat) (h:Int × Int):Option (D.Word × Bool):=some ((⟨h.1,h.2⟩:D.Word),false)
def z1G (fuel:Nat) (x0:D.Memory) (h:Int × Int × Int) (y:Bool):Option (Rd (Int × Int × Int) (Int × Int) (D.Word × Bool)):=(if y=true then some (.ret ((⟨h.2.1,h.2.2⟩:D.Word),true)) else((idx x0.Cells h.2.2).bind fun z=>((idx z.Words 0).bind fun o=>some (.next (w64 (h.1 - 1),o.Tag,o.At)))))
def z1s (fuel:Nat) (x0:D.Memory) (h:Int × Int × Int):Option (Rd (Int × Int × Int) (Int × Int) (D.Word × Bool)):=(if(decide (h.1≥0))=true then(if(h.2.1 != 2)=true then z1G fuel x0 h true else((idx x0.Cells h.2.2).bind fun o=>z1G fuel x0 h ((o.Words.length:Int) == 0))) else some (.brk (h.2.1,h.2.2)))
def z1A (fuel:Nat) (x0:D.Memory) (x1:D.Word):Option (D.Word × Bool):=((iter (z1s fuel x0) fuel ((x0.Cells.length:Int),x1.Tag,x1.At)).bind fun o=>aft o (z51 fuel))

theorem z5r {W w:World}(hE:Ext W w){c0:Addr}{F0:List Value}{x0:D.Memory}{G0:List Value}{x1:D.Word}(P0:ty33.ro W F0 x0) (e0:At W c0 F0) (Q0:ty30.ro W G0 x1){fuel:Nat}{r:D.Word × Bool}(hm:z1A fuel x0 x1=some r):
  Calls Tryz.prog 91 ⟨[.pointer (some c0),.agg ⟨G0⟩]⟩ w (Ret fun v w8=>v=.tuple ⟨[.agg ⟨[.int .i64 r.1.Tag,.int .i64 r.1.At]⟩,.bool r.2]⟩∧St w w8 []):=by
 obtain⟨A1,k2,A4,k5,e7,h3,h6⟩:=zS P0;subst e7;have H0:=z1h Q0;subst H0;refine into Tryz.func91 45 _ ?_;unfold z1A at hm;have hS:=St.start w;refine sq<|rg<|nw hS (fun L C1 g1 f0=>?_);refine nw f0 (fun M D1 i1 O=>?_);refine rr 1 ?_;refine rn<|sq<|sq<|rg<|rr 3 ?_;refine l1 (At.ext (hE.trans O.ext) e0) 0 ?_;refine rr 2 ?_;refine rn ?_;obtain⟨T0,t0,hm⟩:=bS hm;refine ct (fun(d0:Int × Int) F w9=>T0=.inl d0∧St w w9 [Box M [.int .i64 0,.int .i64 0] 30,Box L [.int .i64 d0.1,.int .i64 d0.2] 30]∧F=[(3,.pointer (some ⟨L,0,none⟩)),(4,.pointer (some ⟨M,0,none⟩))]) ?_ ?_
 ·rintro d0 F E1 ⟨u0,X,rfl⟩;subst u0;rw [z3] at hm;unfold z51 at hm;refine sq<|rg<|lN ((X.bring 1 rfl).box) ?_;have g0:=X.bring 0 rfl;refine so (A:=[]) g0 0 (fun F1 Y=>?_);refine rr 1 ?_;refine rn<|rt ?_;cases hm;exact⟨_,.cons (ra ((Y.bring 0 rfl).box)) (.cons (.tmp rfl) .nil),rfl,(Y.taken 0)⟩
 ·refine bk<|wk [0,3,4,6] ?_;refine it (fun(H:Int × Int × Int) F w9=>St w w9 [Box M [.int .i64 0,.int .i64 0] 30,Box L [.int .i64 H.2.1,.int .i64 H.2.2] 30]∧F=[(0,.pointer (some c0)),(3,.pointer (some ⟨L,0,none⟩)),(4,.pointer (some ⟨M,0,none⟩)),(6,.int .i64 H.1)]) t0 ⟨O,rfl⟩ ?_;rintro H F V0 _ U0 ⟨G,rfl⟩ h b0;unfold z1s at h;refine sq<|sq<|rg<|rr 2 ?_;refine rn<|ci h (fun h=>?_) (fun h=>?_)
  ·refine sp<|sq<|bk<|sq<|sq<|ct (fun(E0:Bool) F w9=>z1G fuel x0 H E0=some U0∧Ext V0 w9∧St w w9 [Box M [.int .i64 0,.int .i64 0] 30,Box L [.int .i64 H.2.1,.int .i64 H.2.2] 30]∧F=[(0,.pointer (some c0)),(3,.pointer (some ⟨L,0,none⟩)),(4,.pointer (some ⟨M,0,none⟩)),(6,.int .i64 H.1),(31,.bool E0)]) ?_ ?_
   ·rintro E0 F G1 ⟨h,S0,z,rfl⟩;unfold z1G at h;refine ci h (fun h=>?_) (fun h=>?_)
    ·refine sq<|rg<|lN ((z.bring 1 rfl).box) ?_;have i0:=z.bring 0 rfl;refine so (A:=[]) i0 0 (fun H1 Z=>?_);refine rr 1 ?_;refine rn<|rt ?_;cases h;cases b0;have hm:some _=some _:=hm;cases hm;exact⟨_,.cons (ra ((Z.bring 0 rfl).box)) (.cons (.tmp rfl) .nil),rfl,(Z.taken 0)⟩
    ·refine sp<|dn 2048 mixed 12 [([],4095),([0],4094),([1],4093),([2],4091),([],4095),([4],4079),([3,5],4055),([6],4031),([7],3967),([8],3839),([9],3583),([10,0,1,2,3,4,5,6,7,8,9,10],3071)] z.ext (fun y=>?_);have j0:=z.step (Ext.draw _);refine dr 8 y [0,1,2,4] ?_;refine dl y 3 (At.ext (hE.trans z.ext) e0) 0 ?_;refine dl y 5 ((z.bring 1 rfl).box) 1 ?_;obtain⟨K1,B0,h⟩:=bS h;refine dx (hE.trans z.ext) y 6 h3 B0 (fun v1 M0 p0 v0=>?_);obtain⟨Y0,n1,a1,p1,J0,j1,R0⟩:=z4 v0;subst J0;refine dr 4 y [7] ?_;refine dw [0,3,4,6,40] ?_;refine dl y 8 (At.ext (hE.trans z.ext) p0) 4 ?_;obtain⟨L1,C0,h⟩:=bS h;refine dx (hE.trans z.ext) y 9 R0 C0 (fun y1 N0 q0 y0=>?_);have K0:=z1h y0;subst K0;refine dL y 10 (At.ext (hE.trans z.ext) q0) ?_;have k0:=j0.bring 1 rfl;refine o1 y 11 (ms (A:=[]) k0 y 0 (fun J1 o0=>?_));refine dd y ?_;refine rg<|rr 3 ?_;refine rn ?_;cases h;exact⟨_,_,rfl,⟨((o0.bring 0 rfl).bring 1 rfl),rfl⟩,rfl⟩
   ·refine dn 0 mixed 16 [([],65535),([0],65534),([1],65533),([2],65531),([3],65527),([4,3],65511),([5,3],65495),([6,3],65463),([3],65527),([8,3],65271),([7,9,3],64887),([10,3],64503),([11,3],63479),([12,3],61431),([13,3],57335),([3,14],49143)] G.ext (fun o=>?_);have a0:=G.step (Ext.draw _);refine dr 15 o [0] ?_;refine dl o 1 ((G.bring 1 rfl).box) 0 ?_;refine dr 12 o [2,3] ?_;refine db 19 h (fun h=>?_) (fun h=>?_)
    ·refine dr 0 o [4,5,6,7,8,9,10,11,12,13,14,15] ?_;refine dw [0,3,4,6,31] ?_;refine dd o ?_;exact⟨true,_,⟨h,(Ext.draw _),a0,rfl⟩,rfl⟩
    ·refine dr 8 o [4,5,6,8] ?_;refine dw [0,3,4,6,19,22,24] ?_;refine dl o 7 (At.ext (hE.trans G.ext) e0) 0 ?_;refine dl o 9 ((G.bring 1 rfl).box) 1 ?_;obtain⟨X0,D0,h⟩:=bS h;refine dx (hE.trans G.ext) o 10 h3 D0 (fun B1 O0 r0 A0=>?_);obtain⟨d1,t1,e1,u1,L0,k1,m1⟩:=z4 A0;subst L0;refine dr 4 o [11] ?_;refine dl o 12 (At.ext (hE.trans G.ext) r0) 4 ?_;refine dr 0 o [13,14,15] ?_;refine dw [0,3,4,6,31] ?_;refine dd o ?_;exact⟨((X0.Words.length:Int) == 0),_,⟨h,(Ext.draw _),a0,rfl⟩,rfl⟩
  ·refine xt ?_;cases h;exact⟨_,_,⟨b0,G,rfl⟩,rfl⟩

theorem zcb:Enters Tryz.prog 137:=⟨_,_,Tryz.func137,rfl,by kernel_rfl⟩
def z2i (fuel:Nat) (h:Int):Option Bool:=some (h == (-1))
def z1j (fuel:Nat) (x0:D.Memory) (h:Int × Int) (o:Bool):Option (Rd (Int × Int) (Int) (Bool)):=(if o=true then some (.ret false) else((idx x0.Cells h.2).bind fun y=>some (.next (w64 (h.1 - 1),y.Value))))
def zr (fuel:Nat) (x0:D.Memory) (h:Int × Int):Option (Rd (Int × Int) (Int) (Bool)):=(if(decide (h.1>0))=true then((zg fuel h.2 0 (w64 ((x0.Cells.length:Int) - 1))).bind fun o=>(if(!o)=true then z1j fuel x0 h true else((idx x0.Cells h.2).bind fun y=>z1j fuel x0 h (y.Kind != 0)))) else some (.brk h.2))
def z5t (fuel:Nat) (x0:D.Memory) (h:Int):Option Bool:=((iter (zr fuel x0) fuel (h,x0.Free)).bind fun o=>aft o (z2i fuel))
def z2h (fuel:Nat) (h:Int × Int) (o:Int):Option (Rd (Int × Int) (Int) (Bool)):=some (.next (o,w64 (h.2+1)))
def z2j (fuel:Nat) (x0:D.Memory) (h:Int × Int):Option (Rd (Int × Int) (Int) (Bool)):=(if(decide (h.2<(x0.Cells.length:Int)))=true then((idx x0.Cells h.2).bind fun o=>(if(o.Kind == 0)=true then z2h fuel h (w64 (h.1+1)) else z2h fuel h h.1)) else some (.brk h.1))
def z3H (fuel:Nat) (x0:D.Memory):Option (Bool):=((iter (z2j fuel x0) fuel (0,0)).bind fun o=>aft o (z5t fuel x0))

theorem z71 {W w:World}(hE:Ext W w){M:Addr}{K0:List Value}{x0:D.Memory}(S0:ty33.ro W K0 x0) (X:At W M K0){fuel:Nat}{r:Bool}(hm:z3H fuel x0=some r):
  Calls Tryz.prog 137 ⟨[.pointer (some M)]⟩ w (Ret fun v w8=>v=.bool r∧St w w8 []):=by
 obtain⟨A1,k2,A4,k5,e7,h3,h6⟩:=zS S0;subst e7;refine into Tryz.func137 64 _ ?_;unfold z3H at hm;have hS:=St.start w;refine sq<|rg<|rr 1 ?_;refine rn<|sq<|rg<|rr 1 ?_;refine rn<|sq<|sq<|rg<|rr 1 ?_;refine rn ?_;obtain⟨V0,p0,hm⟩:=bS hm;refine ct (fun(F0:Int) F w9=>V0=.inl F0∧Ext w w9∧St w w9 []∧F=[(0,.pointer (some M)),(3,.int .i64 F0)]) ?_ ?_
 ·rintro F0 F L0 ⟨r0,T0,b0,rfl⟩;subst r0;rw [z3] at hm;unfold z5t at hm;refine sq<|rg<|rr 3 ?_;refine l1 (At.ext (hE.trans b0.ext) X) 1 ?_;refine rr 1 ?_;refine rn<|sq ?_;obtain⟨X0,q0,hm⟩:=bS hm;refine ct (fun(G0:Int) F w9=>X0=.inl G0∧Ext L0 w9∧St w w9 []∧F=[(5,.int .i64 G0)]) ?_ ?_
  ·rintro G0 F P1 ⟨t0,U0,g0,rfl⟩;subst t0;rw [z3] at hm;unfold z2i at hm;refine sq<|rg<|rr 3 ?_;refine rn<|rt ?_;cases hm;exact⟨_,.cons (.tmp rfl) .nil,rfl,g0⟩
  ·refine bk<|wk [0,3,5] ?_;refine it (fun(Y:Int × Int) F w9=>Ext L0 w9∧St w w9 []∧F=[(0,.pointer (some M)),(3,.int .i64 Y.1),(5,.int .i64 Y.2)]) q0 ⟨(Ext.refl _),b0,rfl⟩ ?_;rintro Y F d1 _ Y0 ⟨a0,H,rfl⟩ h c0;unfold zr at h;refine sq<|sq<|rg<|rr 2 ?_;refine rn<|ci h (fun h=>?_) (fun h=>?_)
   ·refine sp<|sq<|bk<|sq<|sq<|ct (fun(H0:Bool) F w9=>z1j fuel x0 Y H0=some Y0∧Ext d1 w9∧St w w9 []∧F=[(0,.pointer (some M)),(3,.int .i64 Y.1),(5,.int .i64 Y.2),(53,.bool H0)]) ?_ ?_
    ·rintro H0 F Q1 ⟨h,d0,z,rfl⟩;unfold z1j at h;refine ci h (fun h=>?_) (fun h=>?_)
     ·refine sq<|rg<|rr 1 ?_;refine rn<|rt ?_;cases h;cases c0;have hm:some _=some _:=hm;cases hm;exact⟨_,.cons (.tmp rfl) .nil,rfl,z⟩
     ·refine sp<|rg<|rr 3 ?_;refine l1 (At.ext (hE.trans z.ext) X) 0 ?_;refine rr 1 ?_;obtain⟨T1,B0,h⟩:=bS h;refine ix (hE.trans z.ext) h3 B0 (fun K1 P0 j0 v0=>?_);obtain⟨i1,D1,j1,E1,M0,t1,u1⟩:=z4 v0;subst M0;refine rr 1 ?_;refine l1 (At.ext (hE.trans z.ext) j0) 2 ?_;refine rr 1 ?_;refine rn<|rg<|rr 3 ?_;refine rn ?_;cases h;exact⟨_,_,rfl,⟨(a0.trans d0),z,rfl⟩,rfl⟩
    ·refine rg<|rr 4 ?_;refine l1 (At.ext (hE.trans H.ext) X) 0 ?_;refine rr 2 ?_;obtain⟨N1,C0,h⟩:=bS h;refine ca z2c (zj (hE.trans H.ext)  C0) (fun O1 R1 f0=>?_);obtain⟨rfl,L⟩:=f0;have G:=H.join L;refine rr 2 ?_;refine rb 43 h (fun h=>?_) (fun h=>?_)
     ·refine rr 10 ?_;refine rn ?_;exact⟨true,_,⟨h,L.ext,G,rfl⟩,rfl⟩
     ·refine rr 3 ?_;refine l1 (At.ext (hE.trans G.ext) X) 0 ?_;refine rr 1 ?_;obtain⟨g1,D0,h⟩:=bS h;refine ix (hE.trans G.ext) h3 D0 (fun L1 Q0 k0 y0=>?_);obtain⟨k1,F1,m1,G1,N0,v1,y1⟩:=z4 y0;subst N0;refine rr 1 ?_;refine l1 (At.ext (hE.trans G.ext) k0) 0 ?_;refine rr 2 ?_;refine rn ?_;exact⟨(g1.Kind != 0),_,⟨h,L.ext,G,rfl⟩,rfl⟩
   ·refine xt ?_;cases h;exact⟨_,_,⟨c0,a0,H,rfl⟩,rfl⟩
 ·refine bk<|wk [0,3,4] ?_;refine it (fun(O:Int × Int) F w9=>Ext w w9∧St w w9 []∧F=[(0,.pointer (some M)),(3,.int .i64 O.1),(4,.int .i64 O.2)]) p0 ⟨(Ext.refl _),hS,rfl⟩ ?_;rintro O F e1 _ a1 ⟨Z,y,rfl⟩ o u0;unfold z2j at o;refine sq<|sq<|rg<|rr 4 ?_;refine l1 (At.ext (hE.trans y.ext) X) 0 ?_;refine rr 2 ?_;refine rn<|ci o (fun o=>?_) (fun o=>?_)
  ·refine sp<|sq<|bk<|sq<|rg<|rr 3 ?_;refine l1 (At.ext (hE.trans y.ext) X) 0 ?_;refine rr 1 ?_;obtain⟨U1,E0,o⟩:=bS o;refine ix (hE.trans y.ext) h3 E0 (fun M1 R0 o0 A0=>?_);obtain⟨n1,H1,p1,J1,O0,B1,C1⟩:=z4 A0;subst O0;refine rr 1 ?_;refine l1 (At.ext (hE.trans y.ext) o0) 0 ?_;refine rr 1 ?_;refine rn<|ct (fun(J0:Int) F w9=>z2h fuel O J0=some a1∧Ext e1 w9∧St w w9 []∧F=[(0,.pointer (some M)),(3,.int .i64 J0),(4,.int .i64 O.2)]) ?_ ?_
   ·rintro J0 F S1 ⟨o,e0,i0,rfl⟩;unfold z2h at o;refine rg<|rr 3 ?_;refine rn ?_;cases o;exact⟨_,_,rfl,⟨(Z.trans e0),i0,rfl⟩,rfl⟩
   ·refine ci o (fun o=>?_) (fun o=>?_)
    ·refine rg<|rr 3 ?_;refine rn ?_;exact⟨w64 (O.1+1),_,⟨o,(Ext.refl _),y,rfl⟩,rfl⟩
    ·refine sp ?_;exact⟨O.1,_,⟨o,(Ext.refl _),y,rfl⟩,rfl⟩
  ·refine xt ?_;cases o;exact⟨_,_,⟨u0,Z,y,rfl⟩,rfl⟩

end Go.E


