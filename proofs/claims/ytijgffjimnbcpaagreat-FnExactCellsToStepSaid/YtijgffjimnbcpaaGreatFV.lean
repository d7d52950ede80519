/- Models of functions and proofs that the code runs as they say (written by program). Conditions: the model gives a value. -/
import Derived.Test.YtijgffjimnbcpaaGreatFN
import Derived.Test.YtijgffjimnbcpaaGreatMixed
namespace Go.E
open Go.RowKit Go.Proofs
set_option linter.unusedVariables false
set_option linter.unusedSimpArgs false
set_option maxHeartbeats 2000000
set_option maxRecDepth 100000

theorem zet:Enters Tryz.prog 179:=⟨_,_,Tryz.func179,rfl,by kernel_rfl⟩
def z12 (fuel:Nat) (t2:Unit):Option Int:=some (-1)
def zc (fuel:Nat) (x0:(List D.Cell)) (x1:D.Cell→Option Bool) (s1:Int):Option (Rd (Int) (Unit) (Int)):=(if(decide (s1<(x0.length:Int)))=true then((idx x0 s1).bind fun h=>((x1 h).bind fun d=>(if d=true then some (.ret s1) else some (.next (w64 (s1+1)))))) else some (.brk ()))
def zJ (fuel:Nat) (x0:(List D.Cell)) (x1:D.Cell→Option Bool):Option (Int):=((iter (zc fuel x0 x1) fuel 0).bind fun o=>aft o (z12 fuel))

theorem z4x {W w:World}(hE:Ext W w){G:Option Addr}{Y:Nat}{x0:(List D.Cell)}{f1_:Nat}{u1_:List Value}{x1:D.Cell→Option Bool}(e0:ty29.ro W [sl G x0 Y] x0) (Z:Enters Tryz.prog f1_∧∀ {w9:World},Ext W w9→∀ {cz0:List Value}{z0:D.Cell}{y9:Bool},ty83.ro w9 cz0 z0→x1 z0=some y9→Calls Tryz.prog f1_ ⟨[.agg ⟨cz0⟩]++u1_⟩ w9 (Ret fun v w8=>v=.bool y9∧St w9 w8 [])){fuel:Nat}{r:Int}(hm:zJ fuel x0 x1=some r):
  Calls Tryz.prog 179 ⟨[sl G x0 Y,.func (.func f1_) #[] ⟨u1_⟩]⟩ w (Ret fun v w8=>v=.int .i64 r∧St w w8 []):=by
 refine into Tryz.func179 19 _ ?_;unfold zJ at hm;have hS:=St.start w;refine sq<|rg<|rr 1 ?_;refine rn<|sq<|sq<|rg<|rr 3 ?_;refine rn ?_;obtain⟨f0,O,hm⟩:=bS hm;refine ct (fun(t2:Unit) F w9=>f0=.inl t2∧Ext w w9∧St w w9 []∧F=[]) ?_ ?_
 ·rintro t2 F w7 ⟨S,o0,L,rfl⟩;subst S;rw [zi] at hm;unfold z12 at hm;refine sq<|rg<|rr 1 ?_;refine rn<|rt ?_;cases hm;exact⟨_,.cons (.tmp rfl) .nil,rfl,L⟩
 ·refine bk<|wk [0,1,7,8] ?_;refine it (fun(s1:Int) F w9=>Ext w w9∧St w w9 []∧F=[(0,sl G x0 Y),(1,.func (.func f1_) #[] ⟨u1_⟩),(7,.int .i64 (x0.length:Int)),(8,.int .i64 s1)]) O ⟨(Ext.refl _),hS,rfl⟩ ?_;rintro s1 F y0 _ r0 ⟨a0,h,rfl⟩ d y;unfold zc at d;refine sq<|rg<|rr 1 ?_;refine rn<|sq<|ci d (fun d=>?_) (fun d=>?_)
  ·refine sp<|sq<|bk<|sq<|rg<|rr 2 ?_;refine rn<|sq<|rg<|rr 3 ?_;obtain⟨B0,V,d⟩:=bS d;refine ix (hE.trans h.ext) e0 V (fun t0 d0 M z=>?_);obtain⟨g0,p0,i0,q0,b0,j0,k0⟩:=z4 z;subst b0;refine lN (At.ext (hE.trans h.ext) M) ?_;obtain⟨u0,X,d⟩:=bS d;refine ca Z.1 (Z.2 (hE.trans h.ext) (ty83.ext (hE.trans h.ext) z) X) (fun v0 A0 H=>?_);obtain⟨rfl,o⟩:=H;have u:=h.join o;refine rn<|ci d (fun d=>?_) (fun d=>?_)
   ·refine sq<|rg<|rr 2 ?_;refine rn<|rt ?_;cases d;cases y;have hm:some _=some _:=hm;cases hm;exact⟨_,.cons (.tmp rfl) .nil,rfl,u⟩
   ·refine sp<|rg<|rr 2 ?_;refine rn ?_;cases d;exact⟨_,_,rfl,⟨(a0.trans o.ext),u,rfl⟩,rfl⟩
  ·refine xt ?_;cases d;exact⟨_,_,⟨y,a0,h,rfl⟩,rfl⟩

theorem zeQ:Enters Tryz.prog 143:=⟨_,_,Tryz.func143,rfl,by kernel_rfl⟩
def zg (fuel:Nat) (x0:(List D.Cell)) (x1:D.Cell→Option Bool):Option (Bool):=((zJ fuel x0 x1).bind fun r1=>some (decide (r1≥0)))

theorem z47 {W w:World}(hE:Ext W w){d:Option Addr}{h:Nat}{x0:(List D.Cell)}{f1_:Nat}{u1_:List Value}{x1:D.Cell→Option Bool}(o:ty29.ro W [sl d x0 h] x0) (u:Enters Tryz.prog f1_∧∀ {w9:World},Ext W w9→∀ {cz0:List Value}{z0:D.Cell}{y9:Bool},ty83.ro w9 cz0 z0→x1 z0=some y9→Calls Tryz.prog f1_ ⟨[.agg ⟨cz0⟩]++u1_⟩ w9 (Ret fun v w8=>v=.bool y9∧St w9 w8 [])){fuel:Nat}{r:Bool}(hm:zg fuel x0 x1=some r):
  Calls Tryz.prog 143 ⟨[sl d x0 h,.func (.func f1_) #[] ⟨u1_⟩]⟩ w (Ret fun v w8=>v=.bool r∧St w w8 []):=by
 refine into Tryz.func143 9 _ ?_;unfold zg at hm;have hS:=St.start w;refine sq<|rg<|rr 1 ?_;refine rn<|sq<|rg<|rr 2 ?_;obtain⟨r1,H,hm⟩:=bS hm;refine ca zet (z4x (hE.trans hS.ext) o u H) (fun v3 w4 y=>?_);obtain⟨rfl,z⟩:=y;have G:=hS.join z;refine rr 2 ?_;refine rn<|rt ?_;cases hm;exact⟨_,.cons (.tmp rfl) .nil,rfl,G⟩

theorem z9f:Enters Tryz.prog 94:=⟨_,_,Tryz.func94,rfl,by kernel_rfl⟩
def zE (fuel:Nat) (x0:D.Cell):Option (Bool):=(if(decide (x0.Kind≥2))=true then some (decide (x0.Kind≤12)) else some false)

theorem z1Y {W w:World}(hE:Ext W w){h:List Value}{x0:D.Cell}(o:ty83.ro W h x0){fuel:Nat}{r:Bool}(hm:zE fuel x0=some r):
  Calls Tryz.prog 94 ⟨[.agg ⟨h⟩]⟩ w (Ret fun v w8=>v=.bool r∧St w w8 []):=by
 obtain⟨A1,k2,A4,k5,e7,h3,h6⟩:=z4 o;subst e7;refine into Tryz.func94 11 _ ?_;unfold zE at hm;have hS:=St.start w;refine sq<|rg<|nw hS (fun y z u d=>?_);refine rr 1 ?_;refine rn<|sq<|rg<|rr 1 ?_;refine l1 ((d.bring 0 rfl).box) 0 ?_;refine rr 2 ?_;refine rb 6 hm (fun hm=>?_) (fun hm=>?_)
 ·refine rr 1 ?_;refine l1 ((d.bring 0 rfl).box) 0 ?_;refine rr 3 ?_;refine rn<|rt ?_;cases hm;exact⟨_,.cons (.tmp rfl) .nil,rfl,(d.taken 0)⟩
 ·refine rr 5 ?_;refine rn<|rt ?_;cases hm;exact⟨_,.cons (.tmp rfl) .nil,rfl,(d.taken 0)⟩

theorem z7Q:Enters Tryz.prog 155:=⟨_,_,Tryz.func155,rfl,by kernel_rfl⟩
def zh (fuel:Nat) (x0:D.Cell):Option (Bool):=some (x0.Kind == 13)

theorem z1x {W w:World}(hE:Ext W w){h:List Value}{x0:D.Cell}(o:ty83.ro W h x0){fuel:Nat}{r:Bool}(hm:zh fuel x0=some r):
  Calls Tryz.prog 155 ⟨[.agg ⟨h⟩]⟩ w (Ret fun v w8=>v=.bool r∧St w w8 []):=by
 obtain⟨A1,k2,A4,k5,e7,h3,h6⟩:=z4 o;subst e7;refine into Tryz.func155 6 _ ?_;unfold zh at hm;have hS:=St.start w;refine sq<|rg<|nw hS (fun y z u d=>?_);refine rr 1 ?_;refine rn<|sq<|rg<|rr 1 ?_;refine l1 ((d.bring 0 rfl).box) 0 ?_;refine rr 2 ?_;refine rn<|rt ?_;cases hm;exact⟨_,.cons (.tmp rfl) .nil,rfl,(d.taken 0)⟩

theorem z9g:Enters Tryz.prog 41:=⟨_,_,Tryz.func41,rfl,by kernel_rfl⟩
def zD (fuel:Nat) (x0:D.Cell):Option (Bool):=some (x0.Kind == 0)

theorem z41 {W w:World}(hE:Ext W w){h:List Value}{x0:D.Cell}(o:ty83.ro W h x0){fuel:Nat}{r:Bool}(hm:zD fuel x0=some r):
  Calls Tryz.prog 41 ⟨[.agg ⟨h⟩]⟩ w (Ret fun v w8=>v=.bool r∧St w w8 []):=by
 obtain⟨A1,k2,A4,k5,e7,h3,h6⟩:=z4 o;subst e7;refine into Tryz.func41 6 _ ?_;unfold zD at hm;have hS:=St.start w;refine sq<|rg<|nw hS (fun y z u d=>?_);refine rr 1 ?_;refine rn<|sq<|rg<|rr 1 ?_;refine l1 ((d.bring 0 rfl).box) 0 ?_;refine rr 2 ?_;refine rn<|rt ?_;cases hm;exact⟨_,.cons (.tmp rfl) .nil,rfl,(d.taken 0)⟩

theorem zeO:Enters Tryz.prog 145:=⟨_,_,Tryz.func145,rfl,by kernel_rfl⟩
def z4b (fuel:Nat) (x0:D.Cell):Option (Bool):=((zE fuel x0).bind fun d=>(if d=true then(if decide (0≤(w64 ((x0.Words.length:Int)+1))∧(w64 ((x0.Words.length:Int)+1))≤4294967296)=true then((z1k fuel (⟨x0.Kind,x0.Level,x0.Value,x0.Data,(List.replicate (w64 ((x0.Words.length:Int)+1)).toNat (⟨(0:Int),(0:Int)⟩:D.Port))⟩:D.Agent)).bind fun h=>some h) else none) else((zh fuel x0).bind fun o=>(if o=true then(if(x0.Level == 0)=true then(if(x0.Value == 0)=true then(if((x0.Data.length:Int) == 0)=true then some (decide ((x0.Words.length:Int)≤1)) else some false) else some false) else some false) else((zD fuel x0).bind fun u=>(if u=true then(if(x0.Level == 0)=true then(if((x0.Data.length:Int) == 0)=true then some ((x0.Words.length:Int) == 0) else some false) else some false) else some false))))))

theorem z8Q {W w:World}(hE:Ext W w){i0:List Value}{x0:D.Cell}(H:ty83.ro W i0 x0){fuel:Nat}{r:Bool}(hm:z4b fuel x0=some r):
  Calls Tryz.prog 145 ⟨[.agg ⟨i0⟩]⟩ w (Ret fun v w8=>v=.bool r∧St w w8 []):=by
 obtain⟨A1,k2,A4,k5,e7,h3,h6⟩:=z4 H;subst e7;refine into Tryz.func145 63 _ ?_;unfold z4b at hm;have hS:=St.start w;refine sq<|rg<|nw hS (fun p0 D0 k0 y=>?_);refine rr 1 ?_;refine rn<|sq<|bk<|sq<|rg<|lN ((y.bring 0 rfl).box) ?_;obtain⟨r0,d0,hm⟩:=bS hm;refine ca z9f (z1Y (hE.trans y.ext) H d0) (fun y0 E0 L=>?_);obtain⟨rfl,M⟩:=L;have o:=y.join M;refine rr 1 ?_;refine rn<|ci hm (fun hm=>?_) (fun hm=>?_)
 ·refine sq<|dn 0 mixed 16 [([],65535),([0],65534),([],65535),([2],65531),([],65535),([4],65519),([],65535),([6],65471),([],65535),([8],65279),([9],65023),([10],64511),([11,11],63487),([1,3,5,7,12],61269),([13],57343),([14,14,0,1,2,3,4,5,6,7,8,9,10,11,12,13,14],49151)] o.ext (fun d=>?_);have Z:=o.step (Ext.draw _);refine dr 11 d [0,2,4,6,8] ?_;refine dl d 1 ((o.bring 0 rfl).box) 0 ?_;refine dl d 3 ((o.bring 0 rfl).box) 1 ?_;refine dl d 5 ((o.bring 0 rfl).box) 2 ?_;refine dl d 7 ((o.bring 0 rfl).box) 3 ?_;refine dl d 9 ((o.bring 0 rfl).box) 4 ?_;refine dr 4 d [10,11] ?_;refine dw [2,7,9,11,13,17] ?_;obtain⟨b0,hm⟩:=iS hm;have hz29:=of_decide_eq_true b0;refine o1 d 12 (mk (U:=z4s) (⟨(0:Int),(0:Int)⟩:D.Port) Z d hz29 (fun _=>(z4f (c:=(⟨(0:Int),(0:Int)⟩:D.Port)) rfl)) (fun j0 q0 F0 o0 z=>?_));refine dp d 13 rfl (fun _=>qb) ?_;obtain⟨t0,e0,hm⟩:=bS hm;refine o1 d 14 (mc d zbV (z6W (Ext.refl _) (z6x (⟨x0.Kind,x0.Level,x0.Value,x0.Data,(List.replicate (w64 ((x0.Words.length:Int)+1)).toNat (⟨(0:Int),(0:Int)⟩:D.Port))⟩:D.Agent) (ty80.ext (hE.trans z.ext) h3) ((z.bring 0 rfl).own)) e0) (fun A0 G0 O=>?_));obtain⟨rfl,G⟩:=O;refine⟨G.ext,?_⟩;have a0:=z.join G;refine dr 0 d [15] ?_;refine dw [2] ?_;refine dd d ?_;refine rt ?_;cases hm;exact⟨_,.cons (.tmp rfl) .nil,rfl,(a0.taken 0)⟩
 ·refine sq<|rg<|lN ((o.bring 0 rfl).box) ?_;obtain⟨u0,f0,hm⟩:=bS hm;refine ca z7Q (z1x (hE.trans o.ext) H f0) (fun B0 H0 S=>?_);obtain⟨rfl,V⟩:=S;have h:=o.join V;refine rr 1 ?_;refine rn<|ci hm (fun hm=>?_) (fun hm=>?_)
  ·refine sq<|rg<|rr 1 ?_;refine l1 ((h.bring 0 rfl).box) 1 ?_;refine rr 2 ?_;refine rb 27 hm (fun hm=>?_) (fun hm=>?_)
   ·refine rr 1 ?_;refine l1 ((h.bring 0 rfl).box) 2 ?_;refine rr 3 ?_;refine rb 32 hm (fun hm=>?_) (fun hm=>?_)
    ·refine rr 1 ?_;refine l1 ((h.bring 0 rfl).box) 3 ?_;refine rr 4 ?_;refine rb 38 hm (fun hm=>?_) (fun hm=>?_)
     ·refine rr 1 ?_;refine l1 ((h.bring 0 rfl).box) 4 ?_;refine rr 4 ?_;refine rn<|rt ?_;cases hm;exact⟨_,.cons (.tmp rfl) .nil,rfl,(h.taken 0)⟩
     ·refine rr 6 ?_;refine rn<|rt ?_;cases hm;exact⟨_,.cons (.tmp rfl) .nil,rfl,(h.taken 0)⟩
    ·refine rr 12 ?_;refine rn<|rt ?_;cases hm;exact⟨_,.cons (.tmp rfl) .nil,rfl,(h.taken 0)⟩
   ·refine rr 17 ?_;refine rn<|rt ?_;cases hm;exact⟨_,.cons (.tmp rfl) .nil,rfl,(h.taken 0)⟩
  ·refine sp<|sq<|rg<|lN ((h.bring 0 rfl).box) ?_;obtain⟨v0,g0,hm⟩:=bS hm;refine ca z9g (z41 (hE.trans h.ext) H g0) (fun C0 J0 X=>?_);obtain⟨rfl,Y⟩:=X;have u:=h.join Y;refine rr 1 ?_;refine rb 46 hm (fun hm=>?_) (fun hm=>?_)
   ·refine rr 1 ?_;refine l1 ((u.bring 0 rfl).box) 1 ?_;refine rr 3 ?_;refine rb 51 hm (fun hm=>?_) (fun hm=>?_)
    ·refine rr 1 ?_;refine l1 ((u.bring 0 rfl).box) 3 ?_;refine rr 4 ?_;refine rb 57 hm (fun hm=>?_) (fun hm=>?_)
     ·refine rr 1 ?_;refine l1 ((u.bring 0 rfl).box) 4 ?_;refine rr 4 ?_;refine rn<|rt ?_;cases hm;exact⟨_,.cons (.tmp rfl) .nil,rfl,(u.taken 0)⟩
     ·refine rr 6 ?_;refine rn<|rt ?_;cases hm;exact⟨_,.cons (.tmp rfl) .nil,rfl,(u.taken 0)⟩
    ·refine rr 12 ?_;refine rn<|rt ?_;cases hm;exact⟨_,.cons (.tmp rfl) .nil,rfl,(u.taken 0)⟩
   ·refine rr 17 ?_;refine rn<|rt ?_;cases hm;exact⟨_,.cons (.tmp rfl) .nil,rfl,(u.taken 0)⟩

theorem zeP:Enters Tryz.prog 144:=⟨_,_,Tryz.func144,rfl,by kernel_rfl⟩
def z1F (fuel:Nat) (x0:D.Cell):Option (Bool):=((z4b fuel x0).bind fun d=>some (!d))

theorem z6H {W w:World}(hE:Ext W w){z:List Value}{x0:D.Cell}(G:ty83.ro W z x0){fuel:Nat}{r:Bool}(hm:z1F fuel x0=some r):
  Calls Tryz.prog 144 ⟨[.agg ⟨z⟩]⟩ w (Ret fun v w8=>v=.bool r∧St w w8 []):=by
 obtain⟨A1,k2,A4,k5,e7,h3,h6⟩:=z4 G;subst e7;refine into Tryz.func144 6 _ ?_;unfold z1F at hm;have hS:=St.start w;refine sq<|rg<|nw hS (fun L S H d=>?_);refine rr 1 ?_;refine rn<|sq<|rg<|lN ((d.bring 0 rfl).box) ?_;obtain⟨M,y,hm⟩:=bS hm;refine ca zeO (z8Q (hE.trans d.ext) G y) (fun O V h=>?_);obtain⟨rfl,o⟩:=h;have u:=d.join o;refine rr 2 ?_;refine rn<|rt ?_;cases hm;exact⟨_,.cons (.tmp rfl) .nil,rfl,(u.taken 0)⟩

theorem zbZ:Enters Tryz.prog 147:=⟨_,_,Tryz.func147,rfl,by kernel_rfl⟩
def z66 (fuel:Nat) (d:(List D.Word)):Option (List D.Word):=some d
def z67 (fuel:Nat) (x0:D.Memory) (d:Int × (List D.Word)):Option (Rd (Int × (List D.Word)) ((List D.Word)) ((List D.Word))):=(if(decide (d.1<(x0.Cells.length:Int)))=true then((idx x0.Cells d.1).bind fun h=>(if decide ((d.2.length:Int)+(h.Words.length:Int)≤4294967296)=true then some (.next (w64 (d.1+1),(d.2++h.Words))) else none)) else some (.brk d.2))
def z2N (fuel:Nat) (x0:D.Memory):Option ((List D.Word)):=((iter (z67 fuel x0) fuel (0,([x0.Root]:(List D.Word)))).bind fun o=>aft o (z66 fuel))

theorem z6u {W w:World}(hE:Ext W w){o0:Addr}{i0:List Value}{x0:D.Memory}(u0:ty33.ro W i0 x0) (j0:At W o0 i0){fuel:Nat}{r:(List D.Word)}(hm:z2N fuel x0=some r):
  Calls Tryz.prog 147 ⟨[.pointer (some o0)]⟩ w (Ret fun v w8=>∃ A0 k0,v=sl A0 r k0∧St w w8 [ow ty81 A0 r k0]):=by
 obtain⟨A1,k2,A4,k5,e7,h3,h6⟩:=zp u0;subst e7;refine into Tryz.func147 26 _ ?_;unfold z2N at hm;have hS:=St.start w;refine sq<|rg<|rr 1 ?_;refine rn<|sq<|rg<|rr 3 ?_;refine lN (At.sub (At.ext (hE.trans hS.ext) j0) 2 2) ?_;refine ns (hS.flatEls (U:=ty30) (els:=[.int .i64 x0.Root.Tag,.int .i64 x0.Root.At]) (ys:=[x0.Root]) ⟨[.int .i64 x0.Root.Tag,.int .i64 x0.Root.At],_,[],[],rfl,rfl,(z8c (c:=x0.Root) rfl),⟨rfl,rfl⟩⟩) (fun p0 y0 O0 F0 o=>?_);refine rr 1 ?_;refine rn<|sq<|sq<|rg<|rr 3 ?_;refine l1 (At.ext (hE.trans o.ext) j0) 0 ?_;refine rr 2 ?_;refine rn ?_;obtain⟨C0,b0,hm⟩:=bS hm;refine ct (fun(O:(List D.Word)) F w9=>∃ G L,C0=.inl O∧St w w9 [ow ty81 G O L]∧F=[(3,sl G O L)]) ?_ ?_
 ·rintro O F P0 ⟨G,L,d0,S,rfl⟩;subst d0;rw [zi] at hm;unfold z66 at hm;refine sq<|rg<|rr 2 ?_;refine rn<|rt ?_;cases hm;exact⟨_,.cons (.tmp rfl) .nil,G,L,rfl,S⟩
 ·refine bk<|wk [3,14,15,16] ?_;refine it (fun(M:Int × (List D.Word)) F w9=>∃ z H,St w w9 [ow ty81 z M.2 H]∧F=[(3,sl z M.2 H),(14,sl A1 x0.Cells k2),(15,.int .i64 (x0.Cells.length:Int)),(16,.int .i64 M.1)]) b0 ⟨p0,y0,o,rfl⟩ ?_;rintro M F Q0 _ M0 ⟨z,H,h,rfl⟩ d e0;unfold z67 at d;refine sq<|rg<|rr 1 ?_;refine rn<|sq<|ci d (fun d=>?_) (fun d=>?_)
  ·refine sp<|sq<|bk<|sq<|rg ?_;obtain⟨U0,g0,d⟩:=bS d;refine ix (hE.trans h.ext) h3 g0 (fun N0 t0 Z f0=>?_);obtain⟨D0,K0,E0,L0,r0,J0,v0⟩:=z4 f0;subst r0;refine lN (At.ext (hE.trans h.ext) Z) ?_;refine nw h (fun H0 R0 G0 V=>?_);have X:=V.bring 0 rfl;refine so (A:=[]) X 0 (fun S0 u=>?_);refine rn<|rg<|rr 2 ?_;refine l1 ((u.bring 0 rfl).box) 4 ?_;have y:=u.bring 1 rfl;obtain⟨a0,d⟩:=iS d;refine ap (Flat.map (Flat.pair Flat.int (Flat.pair Flat.int Flat.unit))) y (ty81.ext (hE.trans y.ext) v0) a0 (fun q0 B0 T0 Y=>?_);refine rr 1 ?_;refine rn<|rg<|rr 2 ?_;refine rn ?_;cases d;exact⟨_,_,rfl,⟨q0,B0,(Y.taken 1),rfl⟩,rfl⟩
  ·refine xt ?_;cases d;exact⟨_,_,⟨z,H,e0,h,rfl⟩,rfl⟩

theorem zes:Enters Tryz.prog 180:=⟨_,_,Tryz.func180,rfl,by kernel_rfl⟩
def zZ (fuel:Nat) (t2:Unit):Option Int:=some (-1)
def z9 (fuel:Nat) (x0:(List D.Word)) (x1:D.Word→Option Bool) (s1:Int):Option (Rd (Int) (Unit) (Int)):=(if(decide (s1<(x0.length:Int)))=true then((idx x0 s1).bind fun h=>((x1 h).bind fun d=>(if d=true then some (.ret s1) else some (.next (w64 (s1+1)))))) else some (.brk ()))
def zF (fuel:Nat) (x0:(List D.Word)) (x1:D.Word→Option Bool):Option (Int):=((iter (z9 fuel x0 x1) fuel 0).bind fun o=>aft o (zZ fuel))

theorem z4u {W w:World}(hE:Ext W w){G:Option Addr}{Y:Nat}{x0:(List D.Word)}{f1_:Nat}{u1_:List Value}{x1:D.Word→Option Bool}(e0:ty81.ro W [sl G x0 Y] x0) (Z:Enters Tryz.prog f1_∧∀ {w9:World},Ext W w9→∀ {cz0:List Value}{z0:D.Word}{y9:Bool},ty30.ro w9 cz0 z0→x1 z0=some y9→Calls Tryz.prog f1_ ⟨[.agg ⟨cz0⟩]++u1_⟩ w9 (Ret fun v w8=>v=.bool y9∧St w9 w8 [])){fuel:Nat}{r:Int}(hm:zF fuel x0 x1=some r):
  Calls Tryz.prog 180 ⟨[sl G x0 Y,.func (.func f1_) #[] ⟨u1_⟩]⟩ w (Ret fun v w8=>v=.int .i64 r∧St w w8 []):=by
 refine into Tryz.func180 19 _ ?_;unfold zF at hm;have hS:=St.start w;refine sq<|rg<|rr 1 ?_;refine rn<|sq<|sq<|rg<|rr 3 ?_;refine rn ?_;obtain⟨f0,O,hm⟩:=bS hm;refine ct (fun(t2:Unit) F w9=>f0=.inl t2∧Ext w w9∧St w w9 []∧F=[]) ?_ ?_
 ·rintro t2 F w7 ⟨S,g0,L,rfl⟩;subst S;rw [zi] at hm;unfold zZ at hm;refine sq<|rg<|rr 1 ?_;refine rn<|rt ?_;cases hm;exact⟨_,.cons (.tmp rfl) .nil,rfl,L⟩
 ·refine bk<|wk [0,1,7,8] ?_;refine it (fun(s1:Int) F w9=>Ext w w9∧St w w9 []∧F=[(0,sl G x0 Y),(1,.func (.func f1_) #[] ⟨u1_⟩),(7,.int .i64 (x0.length:Int)),(8,.int .i64 s1)]) O ⟨(Ext.refl _),hS,rfl⟩ ?_;rintro s1 F p0 _ i0 ⟨a0,h,rfl⟩ d y;unfold z9 at d;refine sq<|rg<|rr 1 ?_;refine rn<|sq<|ci d (fun d=>?_) (fun d=>?_)
  ·refine sp<|sq<|bk<|sq<|rg<|rr 2 ?_;refine rn<|sq<|rg<|rr 3 ?_;obtain⟨r0,V,d⟩:=bS d;refine ix (hE.trans h.ext) e0 V (fun j0 d0 M z=>?_);have b0:=z21 z;subst b0;refine lN (At.ext (hE.trans h.ext) M) ?_;obtain⟨k0,X,d⟩:=bS d;refine ca Z.1 (Z.2 (hE.trans h.ext) (ty30.ext (hE.trans h.ext) z) X) (fun o0 q0 H=>?_);obtain⟨rfl,o⟩:=H;have u:=h.join o;refine rn<|ci d (fun d=>?_) (fun d=>?_)
   ·refine sq<|rg<|rr 2 ?_;refine rn<|rt ?_;cases d;cases y;have hm:some _=some _:=hm;cases hm;exact⟨_,.cons (.tmp rfl) .nil,rfl,u⟩
   ·refine sp<|rg<|rr 2 ?_;refine rn ?_;cases d;exact⟨_,_,rfl,⟨(a0.trans o.ext),u,rfl⟩,rfl⟩
  ·refine xt ?_;cases d;exact⟨_,_,⟨y,a0,h,rfl⟩,rfl⟩

theorem zeN:Enters Tryz.prog 146:=⟨_,_,Tryz.func146,rfl,by kernel_rfl⟩
def zd (fuel:Nat) (x0:(List D.Word)) (x1:D.Word→Option Bool):Option (Bool):=((zF fuel x0 x1).bind fun r1=>some (decide (r1≥0)))

theorem z44 {W w:World}(hE:Ext W w){d:Option Addr}{h:Nat}{x0:(List D.Word)}{f1_:Nat}{u1_:List Value}{x1:D.Word→Option Bool}(o:ty81.ro W [sl d x0 h] x0) (u:Enters Tryz.prog f1_∧∀ {w9:World},Ext W w9→∀ {cz0:List Value}{z0:D.Word}{y9:Bool},ty30.ro w9 cz0 z0→x1 z0=some y9→Calls Tryz.prog f1_ ⟨[.agg ⟨cz0⟩]++u1_⟩ w9 (Ret fun v w8=>v=.bool y9∧St w9 w8 [])){fuel:Nat}{r:Bool}(hm:zd fuel x0 x1=some r):
  Calls Tryz.prog 146 ⟨[sl d x0 h,.func (.func f1_) #[] ⟨u1_⟩]⟩ w (Ret fun v w8=>v=.bool r∧St w w8 []):=by
 refine into Tryz.func146 9 _ ?_;unfold zd at hm;have hS:=St.start w;refine sq<|rg<|rr 1 ?_;refine rn<|sq<|rg<|rr 2 ?_;obtain⟨r1,H,hm⟩:=bS hm;refine ca zes (z4u (hE.trans hS.ext) o u H) (fun v3 w4 y=>?_);obtain⟨rfl,z⟩:=y;have G:=hS.join z;refine rr 2 ?_;refine rn<|rt ?_;cases hm;exact⟨_,.cons (.tmp rfl) .nil,rfl,G⟩

theorem z8E:Enters Tryz.prog 181:=⟨_,_,Tryz.func181,rfl,by kernel_rfl⟩
def zQ (fuel:Nat) (x0:D.Memory) (x1:Int):Option (Bool):=(if(decide (x1≥0))=true then some (decide (x1<(x0.Cells.length:Int))) else some false)

theorem z2Q {W w:World}(hE:Ext W w){h:Addr}{d:List Value}{x0:D.Memory}{x1:Int}(u:ty33.ro W d x0) (o:At W h d){fuel:Nat}{r:Bool}(hm:zQ fuel x0 x1=some r):
  Calls Tryz.prog 181 ⟨[.pointer (some h),.int .i64 x1]⟩ w (Ret fun v w8=>v=.bool r∧St w w8 []):=by
 obtain⟨A1,k2,A4,k5,e7,h3,h6⟩:=zp u;subst e7;refine into Tryz.func181 16 _ ?_;unfold zQ at hm;have hS:=St.start w;refine sq<|rg<|rr 1 ?_;refine rn<|sq<|rg<|rr 3 ?_;refine rb 7 hm (fun hm=>?_) (fun hm=>?_)
 ·refine rr 4 ?_;refine l1 (At.ext (hE.trans hS.ext) o) 0 ?_;refine rr 4 ?_;refine rn<|rt ?_;cases hm;exact⟨_,.cons (.tmp rfl) .nil,rfl,hS⟩
 ·refine rr 9 ?_;refine rn<|rt ?_;cases hm;exact⟨_,.cons (.tmp rfl) .nil,rfl,hS⟩

theorem zeL:Enters Tryz.prog 149:=⟨_,_,Tryz.func149,rfl,by kernel_rfl⟩
def z1u (fuel:Nat) (x0:D.Memory) (x1:D.Word):Option (Bool):=((zQ fuel x0 x1.At).bind fun h=>(if(!h)=true then some false else((idx x0.Cells x1.At).bind fun d=>(if(x1.Tag == 1)=true then((zE fuel d).bind fun o=>(if o=true then some true else(if(x1.Tag == 2)=true then((zh fuel d).bind fun u=>some u) else some false))) else(if(x1.Tag == 2)=true then((zh fuel d).bind fun y=>some y) else some false)))))

theorem z7g {W w:World}(hE:Ext W w){y0:Addr}{r0:List Value}{x0:D.Memory}{t0:List Value}{x1:D.Word}(v0:ty33.ro W r0 x0) (u0:At W y0 r0) (D0:ty30.ro W t0 x1){fuel:Nat}{r:Bool}(hm:z1u fuel x0 x1=some r):
  Calls Tryz.prog 149 ⟨[.pointer (some y0),.agg ⟨t0⟩]⟩ w (Ret fun v w8=>v=.bool r∧St w w8 []):=by
 obtain⟨A1,k2,A4,k5,e7,h3,h6⟩:=zp v0;subst e7;have A0:=z21 D0;subst A0;refine into Tryz.func149 35 _ ?_;unfold z1u at hm;have hS:=St.start w;refine sq<|rg<|nw hS (fun J0 X0 G0 y=>?_);refine rr 1 ?_;refine rn<|sq<|sq<|rg<|rr 2 ?_;refine l1 ((y.bring 0 rfl).box) 1 ?_;obtain⟨O0,i0,hm⟩:=bS hm;refine ca z8E (z2Q (hE.trans y.ext) v0 u0 i0) (fun S0 Y0 H=>?_);obtain⟨rfl,L⟩:=H;have o:=y.join L;refine rr 1 ?_;refine rn<|ci hm (fun hm=>?_) (fun hm=>?_)
 ·refine sq<|rg<|rr 1 ?_;refine rn<|rt ?_;cases hm;exact⟨_,.cons (.tmp rfl) .nil,rfl,(o.taken 0)⟩
 ·refine sp<|sq<|dn 512 mixed 10 [([],1023),([0],1022),([1],1021),([2],1019),([],1023),([4],1007),([3,5],983),([6],959),([],1023),([8,7,0,1,2,3,4,5,6,7,8],639)] o.ext (fun d=>?_);have Z:=o.step (Ext.draw _);refine dr 6 d [0,1,2,4] ?_;refine dw [3,13,15] ?_;refine dl d 3 (At.ext (hE.trans o.ext) u0) 0 ?_;refine dl d 5 ((o.bring 0 rfl).box) 1 ?_;obtain⟨q0,j0,hm⟩:=bS hm;refine dx (hE.trans o.ext) d 6 h3 j0 (fun N0 C0 f0 g0=>?_);obtain⟨E0,L0,F0,M0,B0,z,G⟩:=z4 g0;subst B0;refine dL d 7 (At.ext (hE.trans o.ext) f0) ?_;refine o1 d 8 (mw d Z (fun K0 a1 H0 a0=>?_));have b0:=a0.bring 0 rfl;refine o1 d 9 (ms (A:=[]) b0 d 0 (fun b1 h=>?_));refine dd d ?_;refine sq<|rg<|rr 1 ?_;refine l1 ((h.bring 1 rfl).box) 0 ?_;refine rr 2 ?_;refine rb 22 hm (fun hm=>?_) (fun hm=>?_)
  ·refine lN ((h.bring 0 rfl).box) ?_;obtain⟨P0,k0,hm⟩:=bS hm;refine ca z9f (z1Y (hE.trans h.ext) (z6y q0 z G) k0) (fun T0 d1 M=>?_);obtain⟨rfl,O⟩:=M;have u:=h.join O;refine rr 2 ?_;refine rb 26 hm (fun hm=>?_) (fun hm=>?_)
   ·refine rr 9 ?_;refine rn<|rt ?_;cases hm;exact⟨_,.cons (.tmp rfl) .nil,rfl,(u.taken 0)⟩
   ·refine rr 1 ?_;refine l1 ((u.bring 1 rfl).box) 0 ?_;refine rr 2 ?_;refine rb 30 hm (fun hm=>?_) (fun hm=>?_)
    ·refine lN ((u.bring 0 rfl).box) ?_;obtain⟨Q0,o0,hm⟩:=bS hm;refine ca z7Q (z1x (hE.trans u.ext) (z6y q0 z G) o0) (fun U0 e1 S=>?_);obtain⟨rfl,V⟩:=S;have d0:=u.join V;refine rr 3 ?_;refine rn<|rt ?_;cases hm;exact⟨_,.cons (.tmp rfl) .nil,rfl,(d0.taken 0)⟩
    ·refine rr 5 ?_;refine rn<|rt ?_;cases hm;exact⟨_,.cons (.tmp rfl) .nil,rfl,(u.taken 0)⟩
  ·refine rr 5 ?_;refine l1 ((h.bring 1 rfl).box) 0 ?_;refine rr 2 ?_;refine rb 30 hm (fun hm=>?_) (fun hm=>?_)
   ·refine lN ((h.bring 0 rfl).box) ?_;obtain⟨R0,p0,hm⟩:=bS hm;refine ca z7Q (z1x (hE.trans h.ext) (z6y q0 z G) p0) (fun V0 f1 X=>?_);obtain⟨rfl,Y⟩:=X;have e0:=h.join Y;refine rr 3 ?_;refine rn<|rt ?_;cases hm;exact⟨_,.cons (.tmp rfl) .nil,rfl,(e0.taken 0)⟩
   ·refine rr 5 ?_;refine rn<|rt ?_;cases hm;exact⟨_,.cons (.tmp rfl) .nil,rfl,(h.taken 0)⟩

theorem zeM:Enters Tryz.prog 148:=⟨_,_,Tryz.func148,rfl,by kernel_rfl⟩
def z1E (fuel:Nat) (x0:D.Word) (x1:D.Memory):Option (Bool):=((z1u fuel x1 x0).bind fun d=>some (!d))

theorem z6G {W w:World}(hE:Ext W w){z:List Value}{x0:D.Word}{M O:Addr}{G:List Value}{x1:D.Memory}(H:ty30.ro W z x0) (f1_:At W M [.pointer (some O)]) (L:ty33.ro W G x1) (V:At W O G){fuel:Nat}{r:Bool}(hm:z1E fuel x0 x1=some r):
  Calls Tryz.prog 148 ⟨[.agg ⟨z⟩,.pointer (some M)]⟩ w (Ret fun v w8=>v=.bool r∧St w w8 []):=by
 have e1:=z21 H;subst e1;obtain⟨A2,k3,A5,k6,S,h4,h7⟩:=zp L;subst S;refine into Tryz.func148 8 _ ?_;unfold z1E at hm;have hS:=St.start w;refine sq<|rg<|nw hS (fun Y b0 X d=>?_);refine rr 1 ?_;refine rn<|sq<|rg<|l1 (At.ext (hE.trans d.ext) f1_) 0 ?_;refine lN ((d.bring 0 rfl).box) ?_;obtain⟨Z,y,hm⟩:=bS hm;refine ca zeL (z7g (hE.trans d.ext) L V H y) (fun a0 d0 h=>?_);obtain⟨rfl,o⟩:=h;have u:=d.join o;refine rr 2 ?_;refine rn<|rt ?_;cases hm;exact⟨_,.cons (.tmp rfl) .nil,rfl,(u.taken 0)⟩

theorem zer:Enters Tryz.prog 182:=⟨_,_,Tryz.func182,rfl,by kernel_rfl⟩
def z11 (fuel:Nat) (t2:Unit):Option Int:=some (-1)
def zb (fuel:Nat) (x0:(List D.Pair)) (x1:D.Pair→Option Bool) (s1:Int):Option (Rd (Int) (Unit) (Int)):=(if(decide (s1<(x0.length:Int)))=true then((idx x0 s1).bind fun h=>((x1 h).bind fun d=>(if d=true then some (.ret s1) else some (.next (w64 (s1+1)))))) else some (.brk ()))
def zH (fuel:Nat) (x0:(List D.Pair)) (x1:D.Pair→Option Bool):Option (Int):=((iter (zb fuel x0 x1) fuel 0).bind fun o=>aft o (z11 fuel))

theorem z4w {W w:World}(hE:Ext W w){G:Option Addr}{Y:Nat}{x0:(List D.Pair)}{f1_:Nat}{u1_:List Value}{x1:D.Pair→Option Bool}(e0:ty31.ro W [sl G x0 Y] x0) (Z:Enters Tryz.prog f1_∧∀ {w9:World},Ext W w9→∀ {cz0:List Value}{z0:D.Pair}{y9:Bool},ty87.ro w9 cz0 z0→x1 z0=some y9→Calls Tryz.prog f1_ ⟨[.agg ⟨cz0⟩]++u1_⟩ w9 (Ret fun v w8=>v=.bool y9∧St w9 w8 [])){fuel:Nat}{r:Int}(hm:zH fuel x0 x1=some r):
  Calls Tryz.prog 182 ⟨[sl G x0 Y,.func (.func f1_) #[] ⟨u1_⟩]⟩ w (Ret fun v w8=>v=.int .i64 r∧St w w8 []):=by
 refine into Tryz.func182 19 _ ?_;unfold zH at hm;have hS:=St.start w;refine sq<|rg<|rr 1 ?_;refine rn<|sq<|sq<|rg<|rr 3 ?_;refine rn ?_;obtain⟨f0,O,hm⟩:=bS hm;refine ct (fun(t2:Unit) F w9=>f0=.inl t2∧Ext w w9∧St w w9 []∧F=[]) ?_ ?_
 ·rintro t2 F w7 ⟨S,g0,L,rfl⟩;subst S;rw [zi] at hm;unfold z11 at hm;refine sq<|rg<|rr 1 ?_;refine rn<|rt ?_;cases hm;exact⟨_,.cons (.tmp rfl) .nil,rfl,L⟩
 ·refine bk<|wk [0,1,7,8] ?_;refine it (fun(s1:Int) F w9=>Ext w w9∧St w w9 []∧F=[(0,sl G x0 Y),(1,.func (.func f1_) #[] ⟨u1_⟩),(7,.int .i64 (x0.length:Int)),(8,.int .i64 s1)]) O ⟨(Ext.refl _),hS,rfl⟩ ?_;rintro s1 F p0 _ i0 ⟨a0,h,rfl⟩ d y;unfold zb at d;refine sq<|rg<|rr 1 ?_;refine rn<|sq<|ci d (fun d=>?_) (fun d=>?_)
  ·refine sp<|sq<|bk<|sq<|rg<|rr 2 ?_;refine rn<|sq<|rg<|rr 3 ?_;obtain⟨r0,V,d⟩:=bS d;refine ix (hE.trans h.ext) e0 V (fun j0 d0 M z=>?_);have b0:=z1i z;subst b0;refine lN (At.ext (hE.trans h.ext) M) ?_;obtain⟨k0,X,d⟩:=bS d;refine ca Z.1 (Z.2 (hE.trans h.ext) (ty87.ext (hE.trans h.ext) z) X) (fun o0 q0 H=>?_);obtain⟨rfl,o⟩:=H;have u:=h.join o;refine rn<|ci d (fun d=>?_) (fun d=>?_)
   ·refine sq<|rg<|rr 2 ?_;refine rn<|rt ?_;cases d;cases y;have hm:some _=some _:=hm;cases hm;exact⟨_,.cons (.tmp rfl) .nil,rfl,u⟩
   ·refine sp<|rg<|rr 2 ?_;refine rn ?_;cases d;exact⟨_,_,rfl,⟨(a0.trans o.ext),u,rfl⟩,rfl⟩
  ·refine xt ?_;cases d;exact⟨_,_,⟨y,a0,h,rfl⟩,rfl⟩

theorem zeK:Enters Tryz.prog 150:=⟨_,_,Tryz.func150,rfl,by kernel_rfl⟩
def zf (fuel:Nat) (x0:(List D.Pair)) (x1:D.Pair→Option Bool):Option (Bool):=((zH fuel x0 x1).bind fun r1=>some (decide (r1≥0)))

theorem z46 {W w:World}(hE:Ext W w){d:Option Addr}{h:Nat}{x0:(List D.Pair)}{f1_:Nat}{u1_:List Value}{x1:D.Pair→Option Bool}(o:ty31.ro W [sl d x0 h] x0) (u:Enters Tryz.prog f1_∧∀ {w9:World},Ext W w9→∀ {cz0:List Value}{z0:D.Pair}{y9:Bool},ty87.ro w9 cz0 z0→x1 z0=some y9→Calls Tryz.prog f1_ ⟨[.agg ⟨cz0⟩]++u1_⟩ w9 (Ret fun v w8=>v=.bool y9∧St w9 w8 [])){fuel:Nat}{r:Bool}(hm:zf fuel x0 x1=some r):
  Calls Tryz.prog 150 ⟨[sl d x0 h,.func (.func f1_) #[] ⟨u1_⟩]⟩ w (Ret fun v w8=>v=.bool r∧St w w8 []):=by
 refine into Tryz.func150 9 _ ?_;unfold zf at hm;have hS:=St.start w;refine sq<|rg<|rr 1 ?_;refine rn<|sq<|rg<|rr 2 ?_;obtain⟨r1,H,hm⟩:=bS hm;refine ca zer (z4w (hE.trans hS.ext) o u H) (fun v3 w4 y=>?_);obtain⟨rfl,z⟩:=y;have G:=hS.join z;refine rr 2 ?_;refine rn<|rt ?_;cases hm;exact⟨_,.cons (.tmp rfl) .nil,rfl,G⟩

theorem zeH:Enters Tryz.prog 152:=⟨_,_,Tryz.func152,rfl,by kernel_rfl⟩
def z1o (fuel:Nat) (x0:D.Memory) (x1:D.Pair):Option (Bool):=(if(decide (x1.A<x1.B))=true then((zQ fuel x0 x1.A).bind fun d=>(if d=true then((zQ fuel x0 x1.B).bind fun h=>(if h=true then((idx x0.Cells x1.A).bind fun y=>((zE fuel y).bind fun o=>(if o=true then((idx x0.Cells x1.B).bind fun z=>((zE fuel z).bind fun u=>some u)) else some false))) else some false)) else some false)) else some false)

theorem z71 {W w:World}(hE:Ext W w){t0:Addr}{q0:List Value}{x0:D.Memory}{r0:List Value}{x1:D.Pair}(X:ty33.ro W q0 x0) (V:At W t0 q0) (C0:ty87.ro W r0 x1){fuel:Nat}{r:Bool}(hm:z1o fuel x0 x1=some r):
  Calls Tryz.prog 152 ⟨[.pointer (some t0),.agg ⟨r0⟩]⟩ w (Ret fun v w8=>v=.bool r∧St w w8 []):=by
 obtain⟨A1,k2,A4,k5,e7,h3,h6⟩:=zp X;subst e7;have u0:=z1i C0;subst u0;refine into Tryz.func152 44 _ ?_;unfold z1o at hm;have hS:=St.start w;refine sq<|rg<|nw hS (fun J0 f1 H0 h=>?_);refine rr 1 ?_;refine rn<|sq<|dn 0 mixed 40 [([],1099511627775),([0],1099511627774),([],1099511627775),([2],1099511627771),([1,3],1099511627765),([4],1099511627759),([5],1099511627743),([5],1099511627743),([7,5],1099511627615),([6,8,5,5],1099511627423),([5,9],1099511627231),([10,9],1099511626751),([11],1099511625727),([11],1099511625727),([13,11],1099511617535),([12,14,11,11],1099511605247),([11,15],1099511592959),([16,15],1099511562239),([17],1099511496703),([18,17],1099511234559),([19,17],1099510972415),([20,17],1099510448127),([17],1099511496703),([22,17],1099507302399),([21,23,17],1099501010943),([24,17],1099494719487),([25,17,17],1099477942271),([17,26],1099444387839),([27,26],1099377410047),([28],1099243192319),([29,28],1098706321407),([30,28],1098169450495),([31,28],1097095708671),([28],1099243192319),([33,28],1090653257727),([32,34,28],1077768355839),([35,28],1064883453951),([36,28,28],1030523715583),([28,37],961804238847),([38,37,0,1,2,3,4,5,6,7,8,9,10,11,12,13,14,15,16,17,18,19,20,21,22,23,24,25,26,27,28,29,30,31,32,33,34,35,36,37,38],824633720831)] h.ext (fun d=>?_);have o:=h.step (Ext.draw _);refine dr 38 d [0,2] ?_;refine dl d 1 ((h.bring 0 rfl).box) 0 ?_;refine dl d 3 ((h.bring 0 rfl).box) 1 ?_;refine dr 34 d [4,5] ?_;refine dw [0,3,4,10] ?_;refine db 10 hm (fun hm=>?_) (fun hm=>?_)
 ·refine dr 32 d [6,7] ?_;refine dl d 8 ((h.bring 0 rfl).box) 0 ?_;obtain⟨U0,g0,hm⟩:=bS hm;refine o1 d 9 (mc d z8E (z2Q (hE.trans o.ext) X V g0) (fun a1 g1 Y=>?_));obtain⟨rfl,G⟩:=Y;refine⟨G.ext,?_⟩;have u:=o.join G;refine dr 28 d [10,11] ?_;refine dw [0,3,4,16] ?_;refine db 16 hm (fun hm=>?_) (fun hm=>?_)
  ·refine dr 26 d [12,13] ?_;refine dl d 14 ((h.bring 0 rfl).box) 1 ?_;obtain⟨V0,i0,hm⟩:=bS hm;refine o1 d 15 (mc d z8E (z2Q (hE.trans u.ext) X V i0) (fun b1 i1 Z=>?_));obtain⟨rfl,H⟩:=Z;refine⟨H.ext,?_⟩;have y:=u.join H;refine dr 22 d [16,17] ?_;refine dw [0,3,4,22] ?_;refine db 22 hm (fun hm=>?_) (fun hm=>?_)
   ·refine dr 18 d [18,19,20,22] ?_;refine dl d 21 (At.ext (hE.trans h.ext) V) 0 ?_;refine dl d 23 ((h.bring 0 rfl).box) 0 ?_;obtain⟨n1,j0,hm⟩:=bS hm;refine dx (hE.trans h.ext) d 24 h3 j0 (fun S0 A0 e0 O=>?_);obtain⟨D0,O0,E0,P0,v0,K0,L0⟩:=z4 O;subst v0;refine dL d 25 (At.ext (hE.trans h.ext) e0) ?_;obtain⟨X0,k0,hm⟩:=bS hm;refine o1 d 26 (mc d z9f (z1Y (hE.trans y.ext) O k0) (fun d1 j1 a0=>?_));obtain⟨rfl,L⟩:=a0;refine⟨L.ext,?_⟩;have z:=y.join L;refine dr 11 d [27,28] ?_;refine dw [0,3,4,33] ?_;refine db 33 hm (fun hm=>?_) (fun hm=>?_)
    ·refine dr 7 d [29,30,31,33] ?_;refine dl d 32 (At.ext (hE.trans h.ext) V) 0 ?_;refine dl d 34 ((h.bring 0 rfl).box) 1 ?_;obtain⟨p1,o0,hm⟩:=bS hm;refine dx (hE.trans h.ext) d 35 h3 o0 (fun T0 B0 f0 S=>?_);obtain⟨F0,Q0,G0,R0,y0,M0,N0⟩:=z4 S;subst y0;refine dL d 36 (At.ext (hE.trans h.ext) f0) ?_;obtain⟨Y0,p0,hm⟩:=bS hm;refine o1 d 37 (mc d z9f (z1Y (hE.trans z.ext) S p0) (fun e1 m1 b0=>?_));obtain⟨rfl,M⟩:=b0;refine⟨M.ext,?_⟩;have d0:=z.join M;refine dr 0 d [38,39] ?_;refine dw [4] ?_;refine dd d ?_;refine rt ?_;cases hm;exact⟨_,.cons (.tmp rfl) .nil,rfl,(d0.taken 0)⟩
    ·refine dr 0 d [29,30,31,32,33,34,35,36,37,38,39] ?_;refine dw [4] ?_;refine dd d ?_;refine rt ?_;cases hm;exact⟨_,.cons (.tmp rfl) .nil,rfl,(z.taken 0)⟩
   ·refine dr 0 d [18,19,20,21,22,23,24,25,26,27,28,29,30,31,32,33,34,35,36,37,38,39] ?_;refine dw [4] ?_;refine dd d ?_;refine rt ?_;cases hm;exact⟨_,.cons (.tmp rfl) .nil,rfl,(y.taken 0)⟩
  ·refine dr 0 d [12,13,14,15,16,17,18,19,20,21,22,23,24,25,26,27,28,29,30,31,32,33,34,35,36,37,38,39] ?_;refine dw [4] ?_;refine dd d ?_;refine rt ?_;cases hm;exact⟨_,.cons (.tmp rfl) .nil,rfl,(u.taken 0)⟩
 ·refine dr 0 d [6,7,8,9,10,11,12,13,14,15,16,17,18,19,20,21,22,23,24,25,26,27,28,29,30,31,32,33,34,35,36,37,38,39] ?_;refine dw [4] ?_;refine dd d ?_;refine rt ?_;cases hm;exact⟨_,.cons (.tmp rfl) .nil,rfl,(o.taken 0)⟩

theorem zeJ:Enters Tryz.prog 151:=⟨_,_,Tryz.func151,rfl,by kernel_rfl⟩
def z1D (fuel:Nat) (x0:D.Pair) (x1:D.Memory):Option (Bool):=((z1o fuel x1 x0).bind fun d=>some (!d))

theorem z6F {W w:World}(hE:Ext W w){z:List Value}{x0:D.Pair}{M O:Addr}{G:List Value}{x1:D.Memory}(H:ty87.ro W z x0) (f1_:At W M [.pointer (some O)]) (L:ty33.ro W G x1) (V:At W O G){fuel:Nat}{r:Bool}(hm:z1D fuel x0 x1=some r):
  Calls Tryz.prog 151 ⟨[.agg ⟨z⟩,.pointer (some M)]⟩ w (Ret fun v w8=>v=.bool r∧St w w8 []):=by
 have e1:=z1i H;subst e1;obtain⟨A2,k3,A5,k6,S,h4,h7⟩:=zp L;subst S;refine into Tryz.func151 8 _ ?_;unfold z1D at hm;have hS:=St.start w;refine sq<|rg<|nw hS (fun Y b0 X d=>?_);refine rr 1 ?_;refine rn<|sq<|rg<|l1 (At.ext (hE.trans d.ext) f1_) 0 ?_;refine lN ((d.bring 0 rfl).box) ?_;obtain⟨Z,y,hm⟩:=bS hm;refine ca zeH (z71 (hE.trans d.ext) L V H y) (fun a0 d0 h=>?_);obtain⟨rfl,o⟩:=h;have u:=d.join o;refine rr 2 ?_;refine rn<|rt ?_;cases hm;exact⟨_,.cons (.tmp rfl) .nil,rfl,(u.taken 0)⟩

theorem zeG:Enters Tryz.prog 153:=⟨_,_,Tryz.func153,rfl,by kernel_rfl⟩
def z3W (fuel:Nat) (d:Unit):Option Bool:=some true
def zP (fuel:Nat) (h:(List Int)) (d:Int) (o:Int):Option (Rd (Int) (Unit) (Bool)):=((idx h d).bind fun u=>(if(u != o)=true then some (.ret false) else some (.next (w64 (d+1)))))
def zN (fuel:Nat) (o:(List Int)) (h:Int) (d:Int):Option (Rd (Int) (Unit) (Bool)):=zP fuel o h d
def zO (fuel:Nat) (o:(List Int)) (h:Int) (d:Bool):Option (Rd (Int) (Unit) (Bool)):=(if d=true then zN fuel o h 2 else zN fuel o h 1)
def zr (fuel:Nat) (x0:D.Memory) (o:(List Int)) (d:Int):Option (Rd (Int) (Unit) (Bool)):=(if(decide (d<(x0.Cells.length:Int)))=true then((idx x0.Cells d).bind fun u=>((zD fuel u).bind fun y=>(if y=true then zP fuel o d 0 else((zh fuel u).bind fun h=>(if h=true then zO fuel o d ((u.Words.length:Int) == 0) else zO fuel o d false))))) else some (.brk ()))
def z1g (fuel:Nat) (x0:D.Memory) (d:(List Int)):Option Bool:=((iter (zr fuel x0 d) fuel 0).bind fun o=>aft o (z3W fuel))
def zu (fuel:Nat) (x0:D.Memory) (h:Int × (List Int)):Option (Rd (Int × (List Int)) ((List Int)) (Bool)):=(if(decide (h.1<(x0.Redexes.length:Int)))=true then((idx x0.Redexes h.1).bind fun d=>((idx h.2 d.A).bind fun o=>(if decide (0≤d.A∧d.A.toNat<h.2.length)=true then((idx (h.2.set d.A.toNat (w64 (o+1))) d.B).bind fun u=>(if decide (0≤d.B∧d.B.toNat<(h.2.set d.A.toNat (w64 (o+1))).length)=true then some (.next (w64 (h.1+1),((h.2.set d.A.toNat (w64 (o+1))).set d.B.toNat (w64 (u+1))))) else none)) else none))) else some (.brk h.2))
def z1h (fuel:Nat) (x0:D.Memory) (d:(List Int)):Option Bool:=((iter (zu fuel x0) fuel (0,d)).bind fun o=>aft o (z1g fuel x0))
def zv (fuel:Nat) (x1:(List D.Word)) (u:(List D.Word)) (h:Int × (List Int)):Option (Rd (Int × (List Int)) ((List Int)) (Bool)):=(if(decide (h.1<((u++x1).length:Int)))=true then((idx (u++x1) h.1).bind fun d=>((idx h.2 d.At).bind fun o=>(if decide (0≤d.At∧d.At.toNat<h.2.length)=true then some (.next (w64 (h.1+1),(h.2.set d.At.toNat (w64 (o+1))))) else none))) else some (.brk h.2))
def z18 (fuel:Nat) (x0:D.Memory) (x1:(List D.Word)):Option (Bool):=(if decide (0≤(x0.Cells.length:Int)∧(x0.Cells.length:Int)≤4294967296)=true then((z2N fuel x0).bind fun d=>(if decide ((d.length:Int)+(x1.length:Int)≤4294967296)=true then((iter (zv fuel x1 d) fuel (0,(List.replicate (x0.Cells.length:Int).toNat (0:Int)))).bind fun o=>aft o (z1h fuel x0)) else none)) else none)

theorem z6w {W w:World}(hE:Ext W w){q0:Addr}{u2:List Value}{x0:D.Memory}{s2:Option Addr}{G2:Nat}{x1:(List D.Word)}(D2:ty33.ro W u2 x0) (C1:At W q0 u2) (S2:ty81.ro W [sl s2 x1 G2] x1){fuel:Nat}{r:Bool}(hm:z18 fuel x0 x1=some r):
  Calls Tryz.prog 153 ⟨[.pointer (some q0),sl s2 x1 G2]⟩ w (Ret fun v w8=>v=.bool r∧St w w8 []):=by
 obtain⟨A1,k2,A4,k5,e7,h3,h6⟩:=zp D2;subst e7;refine into Tryz.func153 89 _ ?_;unfold z18 at hm;have hS:=St.start w;refine sq<|rg<|rr 1 ?_;refine rn<|sq<|rg<|rr 3 ?_;refine l1 (At.ext (hE.trans hS.ext) C1) 0 ?_;refine rr 1 ?_;obtain⟨R1,hm⟩:=iS hm;have hz16:=of_decide_eq_true R1;refine mS (U:=tInt) (0:Int) hS hz16 (fun _=>⟨rfl,rfl⟩) (fun u y N3 B3 D0=>?_);refine rr 1 ?_;refine rn<|sq<|sq<|rg<|rr 1 ?_;obtain⟨j2,d2,hm⟩:=bS hm;refine ca zbZ (z6u (hE.trans D0.ext) D2 C1 d2) (fun L3 O3 F1=>?_);obtain⟨x3,E3,rfl,G1⟩:=F1;have K1:=D0.join G1;refine rr 1 ?_;have N0:=K1.bring 0 rfl;obtain⟨S1,hm⟩:=iS hm;refine ap (Flat.map (Flat.pair Flat.int (Flat.pair Flat.int Flat.unit))) N0 (ty81.ext (hE.trans N0.ext) S2) S1 (fun t2 H2 P3 L1=>?_);refine rr 2 ?_;refine rn ?_;obtain⟨W2,T1,hm⟩:=bS hm;refine ct (fun(o2:(List Int)) F w9=>W2=.inl o2∧St w w9 [Own zas [sl u (List.replicate (x0.Cells.length:Int).toNat (0:Int)) y] o2]∧F=[(0,.pointer (some q0)),(5,sl u (List.replicate (x0.Cells.length:Int).toNat (0:Int)) y)]) ?_ ?_
 ·rintro o2 F Q3 ⟨W1,O0,rfl⟩;subst W1;rw [zi] at hm;unfold z1h at hm;refine sq<|sq<|rg<|rr 3 ?_;refine l1 (At.ext (hE.trans O0.ext) C1) 4 ?_;refine rr 2 ?_;refine rn ?_;obtain⟨X2,U1,hm⟩:=bS hm;refine ct (fun(a0:(List Int)) F w9=>X2=.inl a0∧St w w9 [Own zas [sl u (List.replicate (x0.Cells.length:Int).toNat (0:Int)) y] a0]∧F=[(0,.pointer (some q0)),(5,sl u (List.replicate (x0.Cells.length:Int).toNat (0:Int)) y)]) ?_ ?_
  ·rintro a0 F R3 ⟨X1,P0,rfl⟩;subst X1;rw [zi] at hm;unfold z1g at hm;refine sq<|sq<|rg<|rr 3 ?_;refine l1 (At.ext (hE.trans P0.ext) C1) 0 ?_;refine rr 2 ?_;refine rn ?_;obtain⟨Y2,V1,hm⟩:=bS hm;refine ct (fun(J2:Unit) F w9=>Y2=.inl J2∧St w w9 []∧F=[]) ?_ ?_
   ·rintro J2 F S3 ⟨Y1,M1,rfl⟩;subst Y1;rw [zi] at hm;unfold z3W at hm;refine sq<|rg<|rr 1 ?_;refine rn<|rt ?_;cases hm;exact⟨_,.cons (.tmp rfl) .nil,rfl,M1⟩
   ·refine bk<|wk [5,63,64,65] ?_;refine it (fun(Z:Int) F w9=>St w w9 [Own zas [sl u (List.replicate (x0.Cells.length:Int).toNat (0:Int)) y] a0]∧F=[(5,sl u (List.replicate (x0.Cells.length:Int).toNat (0:Int)) y),(63,sl A1 x0.Cells k2),(64,.int .i64 (x0.Cells.length:Int)),(65,.int .i64 Z)]) V1 ⟨P0,rfl⟩ ?_;rintro Z F T3 _ i2 ⟨b0,rfl⟩ d d1;unfold zr at d;refine sq<|rg<|rr 1 ?_;refine rn<|sq<|ci d (fun d=>?_) (fun d=>?_)
    ·refine sp<|sq<|bk<|sq<|rg<|rr 1 ?_;obtain⟨r2,e2,d⟩:=bS d;refine ix (hE.trans b0.ext) h3 e2 (fun H3 O2 P1 a2=>?_);obtain⟨y3,F3,A3,G3,N2,E2,F2⟩:=z4 a2;subst N2;refine lN (At.ext (hE.trans b0.ext) P1) ?_;refine nw b0 (fun D3 U3 C3 N1=>?_);refine rr 1 ?_;have O1:=N1.bring 0 rfl;refine so (A:=[]) O1 0 (fun V3 k0=>?_);refine rn<|sq<|rg<|rr 1 ?_;refine rn<|sq<|bk<|sq<|rg<|lN ((k0.bring 0 rfl).box) ?_;obtain⟨K3,f2,d⟩:=bS d;refine ca z9g (z41 (hE.trans k0.ext) (z6y r2 E2 F2) f2) (fun M3 K2 H1=>?_);obtain⟨rfl,J1⟩:=H1;have d0:=k0.join J1;refine rr 1 ?_;refine rn<|ct (fun(p2:Int) F w9=>zP fuel a0 Z p2=some i2∧Ext K2 w9∧St w w9 [Own zas [sl u (List.replicate (x0.Cells.length:Int).toNat (0:Int)) y] a0]∧F=[(5,sl u (List.replicate (x0.Cells.length:Int).toNat (0:Int)) y),(10,.int .i64 Z),(12,.int .i64 p2),(63,sl A1 x0.Cells k2),(64,.int .i64 (x0.Cells.length:Int)),(65,.int .i64 Z)]) ?_ ?_
     ·rintro p2 F W3 ⟨d,T2,o0,rfl⟩;unfold zP at d;refine sq<|rg<|rr 2 ?_;obtain⟨X3,g2,d⟩:=bS d;refine ix (Ext.refl _) ((o0.bring 0 rfl).own) g2 (fun J3 P2 Q1 b2=>?_);cases b2;refine l1 Q1 0 ?_;refine rr 2 ?_;refine rn<|ci d (fun d=>?_) (fun d=>?_)
      ·refine sq<|rg<|rr 1 ?_;refine rn<|rt ?_;cases d;cases d1;have hm:some _=some _:=hm;cases hm;exact⟨_,.cons (.tmp rfl) .nil,rfl,(o0.taken 0)⟩
      ·refine sp<|rg<|rr 2 ?_;refine rn ?_;cases d;exact⟨_,_,rfl,⟨o0,rfl⟩,rfl⟩
     ·refine ci d (fun d=>?_) (fun d=>?_)
      ·refine rg<|rr 1 ?_;refine rn ?_;exact⟨0,_,⟨d,(Ext.refl _),((d0.bring 1 rfl).taken 1),rfl⟩,rfl⟩
      ·refine sq<|ct (fun(p0:Bool) F w9=>zO fuel a0 Z p0=some i2∧Ext K2 w9∧St w w9 [Own zas [sl u (List.replicate (x0.Cells.length:Int).toNat (0:Int)) y] a0]∧F=[(5,sl u (List.replicate (x0.Cells.length:Int).toNat (0:Int)) y),(10,.int .i64 Z),(12,.int .i64 1),(63,sl A1 x0.Cells k2),(64,.int .i64 (x0.Cells.length:Int)),(65,.int .i64 Z),(73,.bool p0)]) ?_ ?_
       ·rintro p0 F q2 ⟨d,r0,f0,rfl⟩;unfold zO at d;refine ct (fun(e0:Int) F w9=>zN fuel a0 Z e0=some i2∧Ext q2 w9∧St w w9 [Own zas [sl u (List.replicate (x0.Cells.length:Int).toNat (0:Int)) y] a0]∧F=[(5,sl u (List.replicate (x0.Cells.length:Int).toNat (0:Int)) y),(10,.int .i64 Z),(12,.int .i64 e0),(63,sl A1 x0.Cells k2),(64,.int .i64 (x0.Cells.length:Int)),(65,.int .i64 Z)]) ?_ ?_
        ·rintro e0 F i3 ⟨d,t0,v0,rfl⟩;unfold zN at d;exact⟨e0,_,⟨d,(r0.trans t0),v0,rfl⟩,rfl⟩
        ·refine ci d (fun d=>?_) (fun d=>?_)
         ·refine rg<|rr 1 ?_;refine rn ?_;exact⟨2,_,⟨d,(Ext.refl _),f0,rfl⟩,rfl⟩
         ·refine sp ?_;exact⟨1,_,⟨d,(Ext.refl _),f0,rfl⟩,rfl⟩
       ·refine rg<|lN ((d0.bring 0 rfl).box) ?_;obtain⟨f3,m1,d⟩:=bS d;refine ca z7Q (z1x (hE.trans d0.ext) (z6y r2 E2 F2) m1) (fun g3 j3 u0=>?_);obtain⟨rfl,G⟩:=u0;have H:=d0.join G;refine rr 1 ?_;refine rb 76 d (fun d=>?_) (fun d=>?_)
        ·refine rr 1 ?_;refine l1 ((H.bring 0 rfl).box) 4 ?_;refine rr 4 ?_;refine rn ?_;exact⟨((r2.Words.length:Int) == 0),_,⟨d,G.ext,((H.bring 1 rfl).taken 1),rfl⟩,rfl⟩
        ·refine rr 6 ?_;refine rn ?_;exact⟨false,_,⟨d,G.ext,((H.bring 1 rfl).taken 1),rfl⟩,rfl⟩
    ·refine xt ?_;cases d;exact⟨_,_,⟨d1,(b0.taken 0),rfl⟩,rfl⟩
  ·refine bk<|wk [0,5,39,40,41] ?_;refine it (fun(n2:Int × (List Int)) F w9=>St w w9 [Own zas [sl u (List.replicate (x0.Cells.length:Int).toNat (0:Int)) y] n2.2]∧F=[(0,.pointer (some q0)),(5,sl u (List.replicate (x0.Cells.length:Int).toNat (0:Int)) y),(39,sl A4 x0.Redexes k5),(40,.int .i64 (x0.Redexes.length:Int)),(41,.int .i64 n2.1)]) U1 ⟨O0,rfl⟩ ?_;rintro n2 F k3 _ U2 ⟨z,rfl⟩ h a1;unfold zu at h;refine sq<|rg<|rr 1 ?_;refine rn<|sq<|ci h (fun h=>?_) (fun h=>?_)
   ·refine sp<|sq<|bk<|sq<|rg ?_;obtain⟨u3,n1,h⟩:=bS h;refine ix (hE.trans z.ext) h6 n1 (fun a3 v2 Q0 e1=>?_);have D1:=z1i e1;subst D1;refine lN (At.ext (hE.trans z.ext) Q0) ?_;refine nw z (fun Q2 m3 L2 y0=>?_);have A0:=y0.bring 0 rfl;refine so (A:=[]) A0 0 (fun n3 L=>?_);refine rn<|sq<|rg<|rr 2 ?_;refine l1 ((L.bring 0 rfl).box) 0 ?_;obtain⟨v1,p1,h⟩:=bS h;refine ix (Ext.refl _) ((L.bring 1 rfl).own) p1 (fun b3 y2 R0 f1=>?_);cases f1;refine l1 R0 0 ?_;refine rr 1 ?_;have g0:=L.bring 1 rfl;obtain⟨V0,h⟩:=iS h;have V:=of_decide_eq_true V0;refine io g0 V.1 V.2 (fun q146 hq147=>?_);have B0:=g0.flat (T:=tInt) (cs:=[.int .i64 (w64 (v1+1))]) (x:=(w64 (v1+1))) ⟨rfl,rfl⟩;have C0:=B0.bring 1 rfl;refine se C0 V.2 hq147 (fun o3 M=>?_);refine rn<|rg<|rr 2 ?_;refine l1 ((M.bring 1 rfl).box) 1 ?_;obtain⟨y1,s1,h⟩:=bS h;refine ix (Ext.refl _) ((M.bring 0 rfl).own) s1 (fun c3 A2 S0 g1=>?_);cases g1;refine l1 S0 0 ?_;refine rr 1 ?_;have i0:=M.bring 0 rfl;obtain⟨X0,h⟩:=iS h;have X:=of_decide_eq_true X0;refine io i0 X.1 X.2 (fun q161 hq162=>?_);have E0:=i0.flat (T:=tInt) (cs:=[.int .i64 (w64 (y1+1))]) (x:=(w64 (y1+1))) ⟨rfl,rfl⟩;have F0:=E0.bring 1 rfl;refine se F0 X.2 hq162 (fun p3 G0=>?_);refine rn<|rg<|rr 2 ?_;refine rn ?_;cases h;exact⟨_,_,rfl,⟨(G0.taken 1),rfl⟩,rfl⟩
   ·refine xt ?_;cases h;exact⟨_,_,⟨a1,z,rfl⟩,rfl⟩
 ·refine bk<|wk [0,5,22,23,24] ?_;refine it (fun(m2:Int × (List Int)) F w9=>St w w9 [ow ty81 t2 (j2++x1) H2,Own zas [sl u (List.replicate (x0.Cells.length:Int).toNat (0:Int)) y] m2.2]∧F=[(0,.pointer (some q0)),(5,sl u (List.replicate (x0.Cells.length:Int).toNat (0:Int)) y),(22,sl t2 (j2++x1) H2),(23,.int .i64 ((j2++x1).length:Int)),(24,.int .i64 m2.1)]) T1 ⟨L1,rfl⟩ ?_;rintro m2 F q3 _ V2 ⟨O,rfl⟩ o b1;unfold zv at o;refine sq<|rg<|rr 1 ?_;refine rn<|sq<|ci o (fun o=>?_) (fun o=>?_)
  ·refine sp<|sq<|bk<|sq<|rg ?_;obtain⟨v3,t1,o⟩:=bS o;refine ix (Ext.refl _) ((O.bring 0 rfl).own) t1 (fun d3 B2 T0 i1=>?_);have E1:=z21 i1;subst E1;refine lN T0 ?_;refine nw O (fun R2 r3 M2 H0=>?_);have J0:=H0.bring 0 rfl;refine so (A:=[]) J0 0 (fun s3 S=>?_);refine rn<|rg<|rr 2 ?_;refine l1 ((S.bring 0 rfl).box) 1 ?_;obtain⟨B1,u1,o⟩:=bS o;refine ix (Ext.refl _) ((S.bring 2 rfl).own) u1 (fun e3 C2 U0 j1=>?_);cases j1;refine l1 U0 0 ?_;refine rr 1 ?_;have j0:=S.bring 2 rfl;obtain⟨Y0,o⟩:=iS o;have Y:=of_decide_eq_true Y0;refine io j0 Y.1 Y.2 (fun q195 hq196=>?_);have K0:=j0.flat (T:=tInt) (cs:=[.int .i64 (w64 (B1+1))]) (x:=(w64 (B1+1))) ⟨rfl,rfl⟩;have L0:=K0.bring 1 rfl;refine se L0 Y.2 hq196 (fun t3 M0=>?_);refine rn<|rg<|rr 2 ?_;refine rn ?_;cases o;exact⟨_,_,rfl,⟨(((M0.bring 0 rfl).bring 2 rfl).taken 2),rfl⟩,rfl⟩
  ·refine xt ?_;cases o;exact⟨_,_,⟨b1,((O.bring 1 rfl).taken 1),rfl⟩,rfl⟩

theorem zey:Enters Tryz.prog 168:=⟨_,_,Tryz.func168,rfl,by kernel_rfl⟩
def z6U (fuel:Nat) (x0:Bool):Option (Int):=(if x0=true then some 1 else some 0)

theorem zaE {W w:World}(hE:Ext W w){x0:Bool}  {fuel:Nat}{r:Int}(hm:z6U fuel x0=some r):
  Calls Tryz.prog 168 ⟨[.bool x0]⟩ w (Ret fun v w8=>v=.int .i64 r∧St w w8 []):=by
 refine into Tryz.func168 4 _ ?_;unfold z6U at hm;have hS:=St.start w;refine sq<|rg<|rr 1 ?_;refine rn<|sq<|sq<|rg<|rr 1 ?_;refine rn<|ci hm (fun hm=>?_) (fun hm=>?_)
 ·refine sq<|rg<|rr 1 ?_;refine rn<|rt ?_;cases hm;exact⟨_,.cons (.tmp rfl) .nil,rfl,hS⟩
 ·refine sp<|sq<|rg<|rr 1 ?_;refine rn<|rt ?_;cases hm;exact⟨_,.cons (.tmp rfl) .nil,rfl,hS⟩

theorem zeF:Enters Tryz.prog 154:=⟨_,_,Tryz.func154,rfl,by kernel_rfl⟩
def z2o (fuel:Nat) (d:Int):Option Bool:=some (d == (-1))
def zU (fuel:Nat) (x0:D.Memory) (d:Int × Int) (h:Bool):Option (Rd (Int × Int) (Int) (Bool)):=(if h=true then some (.ret false) else((idx x0.Cells d.1).bind fun o=>some (.next (o.Value,w64 (d.2+1)))))
def z8 (fuel:Nat) (x0:D.Memory) (u:Int) (d:Int × Int):Option (Rd (Int × Int) (Int) (Bool)):=(if(decide (d.2<u))=true then((zQ fuel x0 d.1).bind fun h=>(if(!h)=true then zU fuel x0 d true else((idx x0.Cells d.1).bind fun y=>((zD fuel y).bind fun o=>zU fuel x0 d (!o))))) else some (.brk d.1))
def z63 (fuel:Nat) (x0:D.Memory) (d:Int):Option Bool:=((iter (z8 fuel x0 d) fuel (x0.Free,0)).bind fun o=>aft o (z2o fuel))
def z1w (fuel:Nat) (x0:D.Memory) (d:Int × Int):Option (Rd (Int × Int) (Int) (Bool)):=(if(decide (d.2<(x0.Cells.length:Int)))=true then((idx x0.Cells d.2).bind fun u=>((zD fuel u).bind fun h=>((z6U fuel h).bind fun o=>some (.next (w64 (d.1+o),w64 (d.2+1)))))) else some (.brk d.1))
def z2k (fuel:Nat) (x0:D.Memory):Option (Bool):=((iter (z1w fuel x0) fuel (0,0)).bind fun o=>aft o (z63 fuel x0))

theorem z7O {W w:World}(hE:Ext W w){M:Addr}{S0:List Value}{x0:D.Memory}(T0:ty33.ro W S0 x0) (S:At W M S0){fuel:Nat}{r:Bool}(hm:z2k fuel x0=some r):
  Calls Tryz.prog 154 ⟨[.pointer (some M)]⟩ w (Ret fun v w8=>v=.bool r∧St w w8 []):=by
 obtain⟨A1,k2,A4,k5,e7,h3,h6⟩:=zp T0;subst e7;refine into Tryz.func154 55 _ ?_;unfold z2k at hm;have hS:=St.start w;refine sq<|rg<|rr 1 ?_;refine rn<|sq<|rg<|rr 1 ?_;refine rn<|sq<|sq<|rg<|rr 3 ?_;refine l1 (At.ext (hE.trans hS.ext) S) 0 ?_;refine rr 2 ?_;refine rn ?_;obtain⟨j1,C0,hm⟩:=bS hm;refine ct (fun(p0:Int) F w9=>j1=.inl p0∧St w w9 []∧F=[(0,.pointer (some M)),(3,.int .i64 p0)]) ?_ ?_
 ·rintro p0 F U0 ⟨E0,g0,rfl⟩;subst E0;rw [zi] at hm;unfold z63 at hm;refine sq<|rg<|rr 3 ?_;refine l1 (At.ext (hE.trans g0.ext) S) 1 ?_;refine rr 1 ?_;refine rn<|sq<|sq<|rg<|rr 2 ?_;refine rn ?_;obtain⟨m1,D0,hm⟩:=bS hm;refine ct (fun(Q0:Int) F w9=>m1=.inl Q0∧Ext U0 w9∧St w w9 []∧F=[(6,.int .i64 Q0)]) ?_ ?_
  ·rintro Q0 F i2 ⟨F0,i1,u0,rfl⟩;subst F0;rw [zi] at hm;unfold z2o at hm;refine sq<|rg<|rr 3 ?_;refine rn<|rt ?_;cases hm;exact⟨_,.cons (.tmp rfl) .nil,rfl,u0⟩
  ·refine bk<|wk [0,6,26,27] ?_;refine it (fun(O:Int × Int) F w9=>Ext U0 w9∧St w w9 []∧F=[(0,.pointer (some M)),(6,.int .i64 O.1),(26,.int .i64 p0),(27,.int .i64 O.2)]) D0 ⟨(Ext.refl _),g0,rfl⟩ ?_;rintro O F E1 _ n1 ⟨V,L,rfl⟩ d i0;unfold z8 at d;refine sq<|rg<|rr 1 ?_;refine rn<|sq<|ci d (fun d=>?_) (fun d=>?_)
   ·refine sp<|sq<|bk<|sq<|sq<|ct (fun(R0:Bool) F w9=>zU fuel x0 O R0=some n1∧Ext E1 w9∧St w w9 []∧F=[(0,.pointer (some M)),(6,.int .i64 O.1),(26,.int .i64 p0),(27,.int .i64 O.2),(43,.bool R0)]) ?_ ?_
    ·rintro R0 F j2 ⟨d,q0,y,rfl⟩;unfold zU at d;refine ci d (fun d=>?_) (fun d=>?_)
     ·refine sq<|rg<|rr 1 ?_;refine rn<|rt ?_;cases d;cases i0;have hm:some _=some _:=hm;cases hm;exact⟨_,.cons (.tmp rfl) .nil,rfl,y⟩
     ·refine sp<|rg<|rr 3 ?_;refine l1 (At.ext (hE.trans y.ext) S) 0 ?_;refine rr 1 ?_;obtain⟨p2,K0,d⟩:=bS d;refine ix (hE.trans y.ext) h3 K0 (fun a2 b1 y0 H0=>?_);obtain⟨G1,S1,H1,T1,X0,O1,P1⟩:=z4 H0;subst X0;refine rr 1 ?_;refine l1 (At.ext (hE.trans y.ext) y0) 2 ?_;refine rr 1 ?_;refine rn<|rg<|rr 2 ?_;refine rn ?_;cases d;exact⟨_,_,rfl,⟨(V.trans q0),y,rfl⟩,rfl⟩
    ·refine rg<|rr 2 ?_;obtain⟨e2,L0,d⟩:=bS d;refine ca z8E (z2Q (hE.trans L.ext) T0 S L0) (fun f2 m2 r0=>?_);obtain⟨rfl,H⟩:=r0;have o:=L.join H;refine rr 2 ?_;refine rb 33 d (fun d=>?_) (fun d=>?_)
     ·refine rr 10 ?_;refine rn ?_;exact⟨true,_,⟨d,H.ext,o,rfl⟩,rfl⟩
     ·refine rr 3 ?_;refine l1 (At.ext (hE.trans o.ext) S) 0 ?_;refine rr 1 ?_;obtain⟨q2,M0,d⟩:=bS d;refine ix (hE.trans o.ext) h3 M0 (fun b2 d1 A0 j0=>?_);obtain⟨J1,U1,K1,V1,Y0,Q1,R1⟩:=z4 j0;subst Y0;refine lN (At.ext (hE.trans o.ext) A0) ?_;obtain⟨t1,N0,d⟩:=bS d;refine ca z9g (z41 (hE.trans o.ext) j0 N0) (fun g2 n2 t0=>?_);obtain⟨rfl,b0⟩:=t0;have v0:=o.join b0;refine rr 2 ?_;refine rn ?_;exact⟨!t1,_,⟨d,(H.ext.trans b0.ext),v0,rfl⟩,rfl⟩
   ·refine xt ?_;cases d;exact⟨_,_,⟨i0,V,L,rfl⟩,rfl⟩
 ·refine bk<|wk [0,3,10,11,12] ?_;refine it (fun(P0:Int × Int) F w9=>St w w9 []∧F=[(0,.pointer (some M)),(3,.int .i64 P0.1),(10,sl A1 x0.Cells k2),(11,.int .i64 (x0.Cells.length:Int)),(12,.int .i64 P0.2)]) C0 ⟨hS,rfl⟩ ?_;rintro P0 F o2 _ Y1 ⟨z,rfl⟩ h G0;unfold z1w at h;refine sq<|rg<|rr 1 ?_;refine rn<|sq<|ci h (fun h=>?_) (fun h=>?_)
  ·refine sp<|sq<|bk<|sq<|rg ?_;obtain⟨F1,O0,h⟩:=bS h;refine ix (hE.trans z.ext) h3 O0 (fun d2 e1 B0 J0=>?_);obtain⟨L1,W1,M1,X1,a1,f1,g1⟩:=z4 J0;subst a1;refine lN (At.ext (hE.trans z.ext) B0) ?_;refine nw z (fun N1 y1 V0 d0=>?_);have e0:=d0.bring 0 rfl;refine so (A:=[]) e0 0 (fun B1 u=>?_);refine rn<|rg<|rr 1 ?_;refine lN ((u.bring 0 rfl).box) ?_;obtain⟨p1,k0,h⟩:=bS h;refine ca z9g (z41 (hE.trans u.ext) (z6y F1 f1 g1) k0) (fun u1 C1 X=>?_);obtain⟨rfl,Y⟩:=X;have G:=u.join Y;obtain⟨s1,o0,h⟩:=bS h;refine ca zey (zaE (hE.trans G.ext)  o0) (fun v1 D1 Z=>?_);obtain⟨rfl,a0⟩:=Z;have f0:=G.join a0;refine rr 2 ?_;refine rn<|rg<|rr 2 ?_;refine rn ?_;cases h;exact⟨_,_,rfl,⟨(f0.taken 0),rfl⟩,rfl⟩
  ·refine xt ?_;cases h;exact⟨_,_,⟨G0,z,rfl⟩,rfl⟩

theorem zfO:Enters Tryz.prog 96:=⟨_,_,Tryz.func96,rfl,by kernel_rfl⟩
def z5L (fuel:Nat) (d:Unit):Option (D.Word × Bool):=some ((⟨0,0⟩:D.Word),false)
def z1p (fuel:Nat) (x0:D.Memory) (d:Int × Int × Int) (o:Bool):Option (Rd (Int × Int × Int) (Unit) (D.Word × Bool)):=(if o=true then some (.ret ((⟨d.2.1,d.2.2⟩:D.Word),true)) else((idx x0.Cells d.2.2).bind fun u=>((idx u.Words 0).bind fun h=>some (.next (w64 (d.1+1),h.Tag,h.At)))))
def zK (fuel:Nat) (x0:D.Memory) (d:Int × Int × Int):Option (Rd (Int × Int × Int) (Unit) (D.Word × Bool)):=(if(decide (d.1<(w64 ((x0.Cells.length:Int)+1))))=true then(if(d.2.1 == 1)=true then z1p fuel x0 d true else((idx x0.Cells d.2.2).bind fun h=>z1p fuel x0 d ((h.Words.length:Int) == 0))) else some (.brk ()))
def z1Q (fuel:Nat) (x0:D.Memory) (x1:D.Word):Option (D.Word × Bool):=((iter (zK fuel x0) fuel (0,x1.Tag,x1.At)).bind fun o=>aft o (z5L fuel))

theorem z7y {W w:World}(hE:Ext W w){X:Addr}{B0:List Value}{x0:D.Memory}{C0:List Value}{x1:D.Word}(M0:ty33.ro W B0 x0) (Y:At W X B0) (N0:ty30.ro W C0 x1){fuel:Nat}{r:D.Word × Bool}(hm:z1Q fuel x0 x1=some r):
  Calls Tryz.prog 96 ⟨[.pointer (some X),.agg ⟨C0⟩]⟩ w (Ret fun v w8=>v=.tuple ⟨[.agg ⟨[.int .i64 r.1.Tag,.int .i64 r.1.At]⟩,.bool r.2]⟩∧St w w8 []):=by
 obtain⟨A1,k2,A4,k5,e7,h3,h6⟩:=zp M0;subst e7;have E0:=z21 N0;subst E0;refine into Tryz.func96 44 _ ?_;unfold z1Q at hm;have hS:=St.start w;refine sq<|rg<|nw hS (fun V t1 a1 Z=>?_);refine nw Z (fun G u1 b1 H=>?_);refine rr 1 ?_;refine rn<|sq<|sq<|rg<|rr 3 ?_;refine l1 (At.ext (hE.trans H.ext) Y) 0 ?_;refine rr 3 ?_;refine rn ?_;obtain⟨Q0,o0,hm⟩:=bS hm;refine ct (fun(D0:Unit) F w9=>Q0=.inl D0∧St w w9 [Box G [.int .i64 0,.int .i64 0] 30]∧F=[(4,.pointer (some ⟨G,0,none⟩))]) ?_ ?_
 ·rintro D0 F v1 ⟨p0,a0,rfl⟩;subst p0;rw [zi] at hm;unfold z5L at hm;refine sq<|rg<|qt (qb) ?_;have b0:=a0.bring 0 rfl;refine so (A:=[]) b0 0 (fun y1 L=>?_);refine rr 1 ?_;refine rn<|rt ?_;cases hm;exact⟨_,.cons (ra ((L.bring 0 rfl).box)) (.cons (.tmp rfl) .nil),rfl,(L.taken 0)⟩
 ·refine bk<|wk [0,3,4,11,12] ?_;refine it (fun(z:Int × Int × Int) F w9=>St w w9 [Box G [.int .i64 0,.int .i64 0] 30,Box V [.int .i64 z.2.1,.int .i64 z.2.2] 30]∧F=[(0,.pointer (some X)),(3,.pointer (some ⟨V,0,none⟩)),(4,.pointer (some ⟨G,0,none⟩)),(11,.int .i64 (w64 ((x0.Cells.length:Int)+1))),(12,.int .i64 z.1)]) o0 ⟨H,rfl⟩ ?_;rintro z F S0 _ R0 ⟨y,rfl⟩ d S;unfold zK at d;refine sq<|rg<|rr 1 ?_;refine rn<|sq<|ci d (fun d=>?_) (fun d=>?_)
  ·refine sp<|sq<|bk<|sq<|sq<|ct (fun(A0:Bool) F w9=>z1p fuel x0 z A0=some R0∧Ext S0 w9∧St w w9 [Box G [.int .i64 0,.int .i64 0] 30,Box V [.int .i64 z.2.1,.int .i64 z.2.2] 30]∧F=[(0,.pointer (some X)),(3,.pointer (some ⟨V,0,none⟩)),(4,.pointer (some ⟨G,0,none⟩)),(11,.int .i64 (w64 ((x0.Cells.length:Int)+1))),(12,.int .i64 z.1),(29,.bool A0)]) ?_ ?_
   ·rintro A0 F B1 ⟨d,P0,u,rfl⟩;unfold z1p at d;refine ci d (fun d=>?_) (fun d=>?_)
    ·refine sq<|rg<|lN ((u.bring 1 rfl).box) ?_;have d0:=u.bring 0 rfl;refine so (A:=[]) d0 0 (fun C1 M=>?_);refine rr 1 ?_;refine rn<|rt ?_;cases d;cases S;have hm:some _=some _:=hm;cases hm;exact⟨_,.cons (ra ((M.bring 0 rfl).box)) (.cons (.tmp rfl) .nil),rfl,(M.taken 0)⟩
    ·refine sp<|dn 2048 mixed 12 [([],4095),([0],4094),([1],4093),([2],4091),([],4095),([4],4079),([3,5],4055),([6],4031),([7],3967),([8],3839),([9],3583),([10,0,1,2,3,4,5,6,7,8,9,10],3071)] u.ext (fun o=>?_);have e0:=u.step (Ext.draw _);refine dr 8 o [0,1,2,4] ?_;refine dl o 3 (At.ext (hE.trans u.ext) Y) 0 ?_;refine dl o 5 ((u.bring 1 rfl).box) 1 ?_;obtain⟨E1,u0,d⟩:=bS d;refine dx (hE.trans u.ext) o 6 h3 u0 (fun n1 J0 i0 q0=>?_);obtain⟨U0,g1,V0,i1,F0,d1,O0⟩:=z4 q0;subst F0;refine dr 4 o [7] ?_;refine dw [0,3,4,11,12,38] ?_;refine dl o 8 (At.ext (hE.trans u.ext) i0) 4 ?_;obtain⟨F1,v0,d⟩:=bS d;refine dx (hE.trans u.ext) o 9 O0 v0 (fun p1 K0 j0 r0=>?_);have G0:=z21 r0;subst G0;refine dL o 10 (At.ext (hE.trans u.ext) j0) ?_;have f0:=e0.bring 1 rfl;refine o1 o 11 (ms (A:=[]) f0 o 0 (fun D1 g0=>?_));refine dd o ?_;refine rg<|rr 2 ?_;refine rn ?_;cases d;exact⟨_,_,rfl,⟨((g0.bring 0 rfl).bring 1 rfl),rfl⟩,rfl⟩
   ·refine dn 0 mixed 16 [([],65535),([0],65534),([1],65533),([2],65531),([3],65527),([4,3],65511),([5,3],65495),([6,3],65463),([3],65527),([8,3],65271),([7,9,3],64887),([10,3],64503),([11,3],63479),([12,3],61431),([13,3],57335),([3,14],49143)] y.ext (fun h=>?_);have O:=y.step (Ext.draw _);refine dr 15 h [0] ?_;refine dl h 1 ((y.bring 1 rfl).box) 0 ?_;refine dr 12 h [2,3] ?_;refine db 17 d (fun d=>?_) (fun d=>?_)
    ·refine dr 0 h [4,5,6,7,8,9,10,11,12,13,14,15] ?_;refine dw [0,3,4,11,12,29] ?_;refine dd h ?_;exact⟨true,_,⟨d,(Ext.draw _),O,rfl⟩,rfl⟩
    ·refine dr 8 h [4,5,6,8] ?_;refine dw [0,3,4,11,12,17,20,22] ?_;refine dl h 7 (At.ext (hE.trans y.ext) Y) 0 ?_;refine dl h 9 ((y.bring 1 rfl).box) 1 ?_;obtain⟨T0,y0,d⟩:=bS d;refine dx (hE.trans y.ext) h 10 h3 y0 (fun s1 L0 k0 t0=>?_);obtain⟨X0,j1,Y0,m1,H0,e1,f1⟩:=z4 t0;subst H0;refine dr 4 h [11] ?_;refine dl h 12 (At.ext (hE.trans y.ext) k0) 4 ?_;refine dr 0 h [13,14,15] ?_;refine dw [0,3,4,11,12,29] ?_;refine dd h ?_;exact⟨((T0.Words.length:Int) == 0),_,⟨d,(Ext.draw _),O,rfl⟩,rfl⟩
  ·refine xt ?_;cases d;exact⟨_,_,⟨S,(y.taken 1),rfl⟩,rfl⟩

theorem zfT:Enters Tryz.prog 79:=⟨_,_,Tryz.func79,rfl,by kernel_rfl⟩
def z54 (fuel:Nat) (d:Unit):Option Bool:=some true
def z1b (fuel:Nat) (d:Int) (h:Unit):Option (Rd (Int) (Unit) (Bool)):=some (.next (w64 (d+1)))
def zT (fuel:Nat) (x0:D.Memory) (d:Int):Option (Rd (Int) (Unit) (Bool)):=(if(decide (d<(x0.Cells.length:Int)))=true then((idx x0.Cells d).bind fun u=>((zh fuel u).bind fun h=>(if h=true then((z1Q fuel x0 (⟨2,d⟩:D.Word)).bind fun o=>(if(!o.2)=true then some (.ret false) else z1b fuel d ())) else z1b fuel d ()))) else some (.brk ()))
def z1c (fuel:Nat) (x0:D.Memory) (d:Bool):Option Bool:=(if d=true then some false else((iter (zT fuel x0) fuel 0).bind fun o=>aft o (z54 fuel)))
def zS (fuel:Nat) (x0:D.Memory) (x1:(List D.Word)) (o:Bool):Option Bool:=(if o=true then some false else((z18 fuel x0 x1).bind fun d=>(if(!d)=true then z1c fuel x0 true else((z2k fuel x0).bind fun h=>z1c fuel x0 (!h)))))
def zx (fuel:Nat) (x0:D.Memory) (x1:(List D.Word)) (y:Bool):Option Bool:=(if y=true then some false else((zg fuel x0.Cells (fun y0=>z1F fuel y0)).bind fun h=>(if h=true then zS fuel x0 x1 true else((z2N fuel x0).bind fun d=>(if decide ((d.length:Int)+(x1.length:Int)≤4294967296)=true then((zd fuel (d++x1) (fun y0=>z1E fuel y0 x0)).bind fun o=>(if o=true then zS fuel x0 x1 true else((zf fuel x0.Redexes (fun y0=>z1D fuel y0 x0)).bind fun u=>zS fuel x0 x1 u))) else none)))))
def z1v (fuel:Nat) (x0:D.Memory) (x1:(List D.Word)):Option (Bool):=(if(decide ((x0.Cells.length:Int)<1))=true then zx fuel x0 x1 true else(if(decide ((x0.Cells.length:Int)>1500))=true then zx fuel x0 x1 true else zx fuel x0 x1 (decide ((x0.Redexes.length:Int)>(x0.Cells.length:Int)))))

theorem z7h {W w:World}(hE:Ext W w){g0:Addr}{v1:List Value}{x0:D.Memory}{K0:Option Addr}{L0:Nat}{x1:(List D.Word)}(d0:ty33.ro W v1 x0) (G:At W g0 v1) (y1:ty81.ro W [sl K0 x1 L0] x1){fuel:Nat}{r:Bool}(hm:z1v fuel x0 x1=some r):
  Calls Tryz.prog 79 ⟨[.pointer (some g0),sl K0 x1 L0]⟩ w (Ret fun v w8=>v=.bool r∧St w w8 []):=by
 obtain⟨A1,k2,A4,k5,e7,h3,h6⟩:=zp d0;subst e7;refine into Tryz.func79 88 _ ?_;unfold z1v at hm;have hS:=St.start w;refine sq<|rg<|nw hS (fun O a2 n2 u=>?_);refine rr 1 ?_;refine rn<|sq<|sq<|ct (fun(s1:Bool) F w9=>zx fuel x0 x1 s1=some r∧Ext a2 w9∧St w w9 [Box O [.pointer (some g0)] 71]∧F=[(1,sl K0 x1 L0),(2,.pointer (some ⟨O,0,none⟩)),(35,.bool s1)]) ?_ ?_
 ·rintro s1 F F2 ⟨hm,K1,M,rfl⟩;unfold zx at hm;refine ci hm (fun hm=>?_) (fun hm=>?_)
  ·refine sq<|rg<|rr 1 ?_;refine rn<|rt ?_;cases hm;exact⟨_,.cons (.tmp rfl) .nil,rfl,(M.taken 0)⟩
  ·refine sp<|sq<|sq<|ct (fun(t1:Bool) F w9=>zS fuel x0 x1 t1=some r∧St w w9 [Box O [.pointer (some g0)] 71]∧F=[(1,sl K0 x1 L0),(2,.pointer (some ⟨O,0,none⟩)),(56,.bool t1)]) ?_ ?_
   ·rintro t1 F g2 ⟨hm,S,rfl⟩;unfold zS at hm;refine ci hm (fun hm=>?_) (fun hm=>?_)
    ·refine sq<|rg<|rr 1 ?_;refine rn<|rt ?_;cases hm;exact⟨_,.cons (.tmp rfl) .nil,rfl,(S.taken 0)⟩
    ·refine sp<|sq<|sq<|ct (fun(u1:Bool) F w9=>z1c fuel x0 u1=some r∧Ext g2 w9∧St w w9 [Box O [.pointer (some g0)] 71]∧F=[(2,.pointer (some ⟨O,0,none⟩)),(65,.bool u1)]) ?_ ?_
     ·rintro u1 F G2 ⟨hm,L1,V,rfl⟩;unfold z1c at hm;refine ci hm (fun hm=>?_) (fun hm=>?_)
      ·refine sq<|rg<|rr 1 ?_;refine rn<|rt ?_;cases hm;exact⟨_,.cons (.tmp rfl) .nil,rfl,(V.taken 0)⟩
      ·refine sp<|sq<|sq<|rg<|l1 ((V.bring 0 rfl).box) 0 ?_;refine rr 2 ?_;refine l1 (At.ext (hE.trans V.ext) G) 0 ?_;refine rr 2 ?_;refine rn ?_;obtain⟨O1,d1,hm⟩:=bS hm;refine ct (fun(B1:Unit) F w9=>O1=.inl B1∧St w w9 []∧F=[]) ?_ ?_
       ·rintro B1 F H2 ⟨e1,S0,rfl⟩;subst e1;rw [zi] at hm;unfold z54 at hm;refine sq<|rg<|rr 1 ?_;refine rn<|rt ?_;cases hm;exact⟨_,.cons (.tmp rfl) .nil,rfl,S0⟩
       ·refine bk<|wk [2,69,70,71] ?_;refine it (fun(J0:Int) F w9=>St w w9 [Box O [.pointer (some g0)] 71]∧F=[(2,.pointer (some ⟨O,0,none⟩)),(69,sl A1 x0.Cells k2),(70,.int .i64 (x0.Cells.length:Int)),(71,.int .i64 J0)]) d1 ⟨V,rfl⟩ ?_;rintro J0 F J2 _ P1 ⟨X,rfl⟩ h C0;unfold zT at h;refine sq<|rg<|rr 1 ?_;refine rn<|sq<|ci h (fun h=>?_) (fun h=>?_)
        ·refine sp<|sq<|bk<|sq<|rg<|rr 1 ?_;obtain⟨i2,g1,h⟩:=bS h;refine ix (hE.trans X.ext) h3 g1 (fun u2 G1 b1 f1=>?_);obtain⟨j2,s2,m2,t2,F1,H1,J1⟩:=z4 f1;subst F1;refine lN (At.ext (hE.trans X.ext) b1) ?_;refine nw X (fun q2 K2 o2 T0=>?_);refine rr 1 ?_;have U0:=T0.bring 0 rfl;refine so (A:=[]) U0 0 (fun L2 f0=>?_);refine rn<|sq<|rg<|lN ((f0.bring 0 rfl).box) ?_;obtain⟨v2,i1,h⟩:=bS h;refine ca z7Q (z1x (hE.trans f0.ext) (z6y i2 H1 J1) i1) (fun B2 M2 M0=>?_);obtain⟨rfl,N0⟩:=M0;have Y:=f0.join N0;refine rn<|ct (fun(C1:Unit) F w9=>z1b fuel J0 C1=some P1∧St w w9 [Box O [.pointer (some g0)] 71]∧F=[(2,.pointer (some ⟨O,0,none⟩)),(69,sl A1 x0.Cells k2),(70,.int .i64 (x0.Cells.length:Int)),(71,.int .i64 J0)]) ?_ ?_
         ·rintro C1 F N2 ⟨h,V0,rfl⟩;unfold z1b at h;refine rg<|rr 2 ?_;refine rn ?_;cases h;exact⟨_,_,rfl,⟨V0,rfl⟩,rfl⟩
         ·refine ci h (fun h=>?_) (fun h=>?_)
          ·refine sq<|rg<|l1 ((Y.bring 1 rfl).box) 0 ?_;refine rr 1 ?_;refine qt (qb) ?_;obtain⟨y2,j1,h⟩:=bS h;refine ca zfO (z7y (hE.trans Y.ext) d0 G (z72 (⟨2,J0⟩:D.Word)) j1) (fun C2 O2 O0=>?_);obtain⟨rfl,P0⟩:=O0;have X0:=Y.join P0;refine rr 3 ?_;refine nw X0 (fun r2 P2 p2 Y0=>?_);have a1:=Y0.bring 0 rfl;refine so (A:=[]) a1 0 (fun Q2 A0=>?_);refine rr 1 ?_;refine rn<|sq<|rg<|rr 2 ?_;refine rn<|ci h (fun h=>?_) (fun h=>?_)
           ·refine sq<|rg<|rr 1 ?_;refine rn<|rt ?_;cases h;cases C0;have hm:some _=some _:=hm;cases hm;exact⟨_,.cons (.tmp rfl) .nil,rfl,(A0.taken 0)⟩
           ·refine sp ?_;exact⟨(),_,⟨h,((A0.bring 2 rfl).taken 1),rfl⟩,rfl⟩
          ·refine sp ?_;exact⟨(),_,⟨h,((Y.bring 1 rfl).taken 1),rfl⟩,rfl⟩
        ·refine xt ?_;cases h;exact⟨_,_,⟨C0,(X.taken 0),rfl⟩,rfl⟩
     ·refine rg<|l1 ((S.bring 0 rfl).box) 0 ?_;refine rr 1 ?_;obtain⟨A2,m1,hm⟩:=bS hm;refine ca zeG (z6w (hE.trans S.ext) d0 G y1 m1) (fun D2 R2 Q0=>?_);obtain⟨rfl,e0⟩:=Q0;have Z:=S.join e0;refine rr 2 ?_;refine rb 61 hm (fun hm=>?_) (fun hm=>?_)
      ·refine rr 4 ?_;refine rn ?_;exact⟨true,_,⟨hm,e0.ext,Z,rfl⟩,rfl⟩
      ·refine l1 ((Z.bring 0 rfl).box) 0 ?_;obtain⟨T1,n1,hm⟩:=bS hm;refine ca zeF (z7O (hE.trans Z.ext) d0 G n1) (fun E2 S2 R0=>?_);obtain⟨rfl,a0⟩:=R0;have u0:=Z.join a0;refine rr 2 ?_;refine rn ?_;exact⟨!T1,_,⟨hm,(e0.ext.trans a0.ext),u0,rfl⟩,rfl⟩
   ·refine rg<|l1 ((M.bring 0 rfl).box) 0 ?_;refine rr 2 ?_;refine l1 (At.ext (hE.trans M.ext) G) 0 ?_;obtain⟨Q1,D0,hm⟩:=bS hm;refine ca zeQ (z47 (hE.trans M.ext) h3 ⟨zeP,fun e9=>(fun H H0=>z6H (Ext.refl _) H H0)⟩ D0) (fun U1 Y1 i0=>?_);obtain⟨rfl,j0⟩:=i0;have z:=M.join j0;refine rr 1 ?_;refine rb 41 hm (fun hm=>?_) (fun hm=>?_)
    ·refine rr 15 ?_;refine rn ?_;exact⟨true,_,⟨hm,z,rfl⟩,rfl⟩
    ·refine l1 ((z.bring 0 rfl).box) 0 ?_;obtain⟨R1,E0,hm⟩:=bS hm;refine ca zbZ (z6u (hE.trans z.ext) d0 G E0) (fun V1 b2 k0=>?_);obtain⟨D1,M1,rfl,o0⟩:=k0;have v0:=z.join o0;refine rr 1 ?_;have b0:=v0.bring 0 rfl;obtain⟨B0,hm⟩:=iS hm;refine ap (Flat.map (Flat.pair Flat.int (Flat.pair Flat.int Flat.unit))) b0 (ty81.ext (hE.trans b0.ext) y1) B0 (fun E1 N1 d2 y=>?_);refine rr 1 ?_;obtain⟨S1,F0,hm⟩:=bS hm;refine ca zeN (z44 (Ext.refl _) ((y.bring 0 rfl).own) ⟨zeM,fun e9=>(fun H H0=>z6G (Ext.refl _) H (At.ext e9 ((y.bring 1 rfl).box)) (ty33.ext e9 (ty33.ext (hE.trans y.ext) d0)) (At.ext e9 (At.ext (hE.trans y.ext) G)) H0)⟩ F0) (fun W1 e2 p0=>?_);obtain⟨rfl,q0⟩:=p0;have o:=y.join q0;refine rr 2 ?_;refine rb 49 hm (fun hm=>?_) (fun hm=>?_)
     ·refine rr 7 ?_;refine rn ?_;exact⟨true,_,⟨hm,((o.bring 1 rfl).taken 1),rfl⟩,rfl⟩
     ·refine l1 ((o.bring 1 rfl).box) 0 ?_;refine rr 2 ?_;refine l1 (At.ext (hE.trans o.ext) G) 4 ?_;refine rr 1 ?_;obtain⟨p1,G0,hm⟩:=bS hm;refine ca zeK (z46 (Ext.refl _) (ty31.ext (hE.trans o.ext) h6) ⟨zeJ,fun e9=>(fun H H0=>z6F (Ext.refl _) H (At.ext e9 ((o.bring 1 rfl).box)) (ty33.ext e9 (ty33.ext (hE.trans o.ext) d0)) (At.ext e9 (At.ext (hE.trans o.ext) G)) H0)⟩ G0) (fun X1 f2 r0=>?_);obtain⟨rfl,t0⟩:=r0;have y0:=o.join t0;refine rr 1 ?_;refine rn ?_;exact⟨p1,_,⟨hm,((y0.bring 1 rfl).taken 1),rfl⟩,rfl⟩
 ·refine dn 0 mixed 27 [([],134217727),([0],134217726),([1],134217725),([2],134217723),([3],134217719),([4],134217711),([5],134217695),([6],134217663),([7,6],134217535),([8,6],134217407),([9,6],134217151),([10,6],134216639),([11,6],134215615),([6,12],134213567),([13,6],134209535),([14],134201343),([15,14],134168575),([16,14],134135807),([17,14],134070271),([18,14],133939199),([14],134201343),([20,14],133152767),([21,14],132104191),([22,14],130007039),([23,14],125812735),([19,24,14],116899839),([14,25],100646911)] u.ext (fun d=>?_);have L:=u.step (Ext.draw _);refine dl d 0 ((u.bring 0 rfl).box) 0 ?_;refine dr 24 d [1,2] ?_;refine dl d 3 (At.ext (hE.trans u.ext) G) 0 ?_;refine dr 20 d [4,5,6] ?_;refine dw [1,2,15] ?_;refine db 15 hm (fun hm=>?_) (fun hm=>?_)
  ·refine dr 0 d [7,8,9,10,11,12,13,14,15,16,17,18,19,20,21,22,23,24,25,26] ?_;refine dw [1,2,35] ?_;refine dd d ?_;exact⟨true,_,⟨hm,(Ext.draw _),L,rfl⟩,rfl⟩
  ·refine dl d 7 ((u.bring 0 rfl).box) 0 ?_;refine dr 17 d [8,9] ?_;refine dl d 10 (At.ext (hE.trans u.ext) G) 0 ?_;refine dr 12 d [11,12,13,14] ?_;refine dw [1,2,23] ?_;refine db 23 hm (fun hm=>?_) (fun hm=>?_)
   ·refine dr 0 d [15,16,17,18,19,20,21,22,23,24,25,26] ?_;refine dw [1,2,35] ?_;refine dd d ?_;exact⟨true,_,⟨hm,(Ext.draw _),L,rfl⟩,rfl⟩
   ·refine dl d 15 ((u.bring 0 rfl).box) 0 ?_;refine dr 9 d [16,17] ?_;refine dl d 18 (At.ext (hE.trans u.ext) G) 4 ?_;refine dr 7 d [19] ?_;refine dl d 20 ((u.bring 0 rfl).box) 0 ?_;refine dr 4 d [21,22] ?_;refine dw [1,2,23,28,31] ?_;refine dl d 23 (At.ext (hE.trans u.ext) G) 0 ?_;refine dr 0 d [24,25,26] ?_;refine dw [1,2,35] ?_;refine dd d ?_;exact⟨decide ((x0.Redexes.length:Int)>(x0.Cells.length:Int)),_,⟨hm,(Ext.draw _),L,rfl⟩,rfl⟩

theorem zgb:Enters Tryz.prog 38:=⟨_,_,Tryz.func38,rfl,by kernel_rfl⟩
def z3e (fuel:Nat) (x0:D.Memory):Option (Bool):=((z1v fuel x0 ([]:(List D.Word))).bind fun d=>some d)

theorem z85 {W w:World}(hE:Ext W w){z:List Value}{x0:D.Memory}(G:ty33.ro W z x0){fuel:Nat}{r:Bool}(hm:z3e fuel x0=some r):
  Calls Tryz.prog 38 ⟨[.agg ⟨z⟩]⟩ w (Ret fun v w8=>v=.bool r∧St w w8 []):=by
 obtain⟨A1,k2,A4,k5,e7,h3,h6⟩:=zp G;subst e7;refine into Tryz.func38 4 _ ?_;unfold z3e at hm;have hS:=St.start w;refine sq<|rg<|nw hS (fun L S H d=>?_);refine rr 1 ?_;refine rn<|sq<|rg ?_;obtain⟨M,y,hm⟩:=bS hm;refine ca zfT (z7h (Ext.refl _) (ty33.ext (hE.trans d.ext) G) ((d.bring 0 rfl).box) (show ty81.ro _ [.slice none ([]:(List D.Word)).length 0] [] from slNil ty30 30 _) y) (fun O V h=>?_);obtain⟨rfl,o⟩:=h;have u:=d.join o;refine rr 1 ?_;refine rn<|rt ?_;cases hm;exact⟨_,.cons (.tmp rfl) .nil,rfl,(u.taken 0)⟩

theorem z8z:Enters Tryz.prog 90:=⟨_,_,Tryz.func90,rfl,by kernel_rfl⟩
def z19 (fuel:Nat) (x0:D.Cell):Option (Bool):=((z5 fuel x0.Kind 2 12).bind fun d=>some d)

theorem z2T {W w:World}(hE:Ext W w){z:Addr}{y:List Value}{x0:D.Cell}(H:ty83.ro W y x0) (G:At W z y){fuel:Nat}{r:Bool}(hm:z19 fuel x0=some r):
  Calls Tryz.prog 90 ⟨[.pointer (some z)]⟩ w (Ret fun v w8=>v=.bool r∧St w w8 []):=by
 obtain⟨A1,k2,A4,k5,e7,h3,h6⟩:=z4 H;subst e7;refine into Tryz.func90 8 _ ?_;unfold z19 at hm;have hS:=St.start w;refine sq<|rg<|rr 1 ?_;refine rn<|sq<|rg<|rr 3 ?_;refine l1 (At.ext (hE.trans hS.ext) G) 0 ?_;obtain⟨L,u,hm⟩:=bS hm;refine ca z1y (z7 (hE.trans hS.ext)  u) (fun M O d=>?_);obtain⟨rfl,h⟩:=d;have o:=hS.join h;refine rr 1 ?_;refine rn<|rt ?_;cases hm;exact⟨_,.cons (.tmp rfl) .nil,rfl,o⟩

theorem z7P:Enters Tryz.prog 172:=⟨_,_,Tryz.func172,rfl,by kernel_rfl⟩
def z6N (fuel:Nat) (d:(Int × Int × Int × (List Int) × (List D.Port))) (h:(List D.Port)):Option D.Agent:=some (⟨d.1,d.2.1,d.2.2.1,d.2.2.2.1,h⟩:D.Agent)
def z2Z (fuel:Nat) (x0:D.Cell) (d:Int × (List D.Port)):Option (Rd (Int × (List D.Port)) ((List D.Port)) (D.Agent)):=(if(decide (d.1<(x0.Words.length:Int)))=true then(if decide ((d.2.length:Int)+(([(⟨0,0⟩:D.Port)]:(List D.Port)).length:Int)≤4294967296)=true then some (.next (w64 (d.1+1),(d.2++([(⟨0,0⟩:D.Port)]:(List D.Port))))) else none) else some (.brk d.2))
def z4k (fuel:Nat) (x0:D.Cell) (d:(Int × Int × Int × (List Int) × (List D.Port))):Option D.Agent:=((iter (z2Z fuel x0) fuel (0,d.2.2.2.2)).bind fun o=>aft o (z6N fuel d))
def z2D (fuel:Nat) (x0:D.Cell):Option (D.Agent):=z4k fuel x0 (x0.Kind,x0.Level,x0.Value,x0.Data,([(⟨0,0⟩:D.Port)]:(List D.Port)))

theorem z43 {W w:World}(hE:Ext W w){g0:Addr}{L0:List Value}{x0:D.Cell}(R0:ty83.ro W L0 x0) (M:At W g0 L0){fuel:Nat}{r:D.Agent}(hm:z2D fuel x0=some r):
  Calls Tryz.prog 172 ⟨[.pointer (some g0)]⟩ w (Ret fun v w8=>∃ A0 k0 A1 k1,v=.agg ⟨[.int .i64 r.Kind,.int .i64 r.Level,.int .i64 r.Value,sl A0 r.Data k0,sl A1 r.Ports k1]⟩∧St w w8 [ow z2R A1 r.Ports k1]∧ty80.ro W [sl A0 r.Data k0] r.Data):=by
 obtain⟨A1,k2,A4,k5,e7,h3,h6⟩:=z4 R0;subst e7;refine into Tryz.func172 40 _ ?_;unfold z2D at hm;have hS:=St.start w;refine sq<|rg<|nw hS (fun H n1 a1 u=>?_);refine rn<|sq<|ct (fun(h:(Int × Int × Int × (List Int) × (List D.Port))) F w9=>∃ z G L Z d0,z4k fuel x0 h=some r∧ty80.ro W [sl G h.2.2.2.1 L] h.2.2.2.1∧St w w9 [Box z [.int .i64 h.1,.int .i64 h.2.1,.int .i64 h.2.2.1,sl G h.2.2.2.1 L,sl Z h.2.2.2.2 d0] 148,ow z2R Z h.2.2.2.2 d0,Box H [.int .i64 0,.int .i64 0,.int .i64 0,.slice none 0 0,.slice none 0 0] 148]∧F=[(0,.pointer (some g0)),(2,.pointer (some ⟨H,0,none⟩)),(3,.pointer (some ⟨z,0,none⟩))]) ?_ ?_
 ·rintro h F p1 ⟨z,G,L,Z,d0,hm,S0,o0,rfl⟩;unfold z4k at hm;refine sq<|sq<|rg<|rr 1 ?_;refine rn ?_;obtain⟨X0,H0,hm⟩:=bS hm;refine ct (fun(j0:(List D.Port)) F w9=>∃ b0 f0,X0=.inl j0∧St w w9 [Box z [.int .i64 h.1,.int .i64 h.2.1,.int .i64 h.2.2.1,sl G h.2.2.2.1 L,sl b0 j0 f0] 148,ow z2R b0 j0 f0,Box H [.int .i64 0,.int .i64 0,.int .i64 0,.slice none 0 0,.slice none 0 0] 148]∧F=[(2,.pointer (some ⟨H,0,none⟩)),(3,.pointer (some ⟨z,0,none⟩))]) ?_ ?_
  ·rintro j0 F s1 ⟨b0,f0,J0,S,rfl⟩;subst J0;rw [zi] at hm;unfold z6N at hm;refine sq<|rg<|lN ((S.bring 0 rfl).box) ?_;have p0:=S.bring 2 rfl;refine so (A:=[]) p0 0 (fun t1 V=>?_);refine rn<|rt ?_;cases hm;exact⟨_,.cons (ra ((V.bring 0 rfl).box)) .nil,G,L,b0,f0,rfl,((V.bring 2 rfl).taken 1),S0⟩
  ·refine bk<|wk [0,2,3,4] ?_;refine it (fun(i0:Int × (List D.Port)) F w9=>∃ a0 e0,St w w9 [Box z [.int .i64 h.1,.int .i64 h.2.1,.int .i64 h.2.2.1,sl G h.2.2.2.1 L,sl a0 i0.2 e0] 148,ow z2R a0 i0.2 e0,Box H [.int .i64 0,.int .i64 0,.int .i64 0,.slice none 0 0,.slice none 0 0] 148]∧F=[(0,.pointer (some g0)),(2,.pointer (some ⟨H,0,none⟩)),(3,.pointer (some ⟨z,0,none⟩)),(4,.int .i64 i0.1)]) H0 ⟨Z,d0,o0,rfl⟩ ?_;rintro i0 F u1 _ m1 ⟨a0,e0,y,rfl⟩ o K0;unfold z2Z at o;refine sq<|sq<|rg<|rr 4 ?_;refine l1 (At.ext (hE.trans y.ext) M) 4 ?_;refine rr 2 ?_;refine rn<|ci o (fun o=>?_) (fun o=>?_)
   ·refine sp<|sq<|bk<|rg<|rr 1 ?_;refine l1 ((y.bring 0 rfl).box) 4 ?_;refine qt (qb) ?_;refine ns (y.flatEls (U:=z4s) (els:=[.int .i64 0,.int .i64 0]) (ys:=[(⟨0,0⟩:D.Port)]) ⟨[.int .i64 0,.int .i64 0],_,[],[],rfl,rfl,(z4f (c:=(⟨0,0⟩:D.Port)) rfl),⟨rfl,rfl⟩⟩) (fun Y0 j1 v1 b1 q0=>?_);have X:=q0.bring 2 rfl;obtain⟨G0,o⟩:=iS o;refine ap (Flat.map (Flat.pair Flat.int (Flat.pair Flat.int Flat.unit))) X ((X.bring 1 rfl).own) G0 (fun M0 T0 y1 r0=>?_);refine rr 1 ?_;have t0:=r0.bring 2 rfl;refine so (A:=[]) t0 4 (fun B1 u0=>?_);refine rn<|rg<|rr 3 ?_;refine rn ?_;cases o;exact⟨_,_,rfl,⟨M0,T0,(u0.sel [0,1,3]),rfl⟩,rfl⟩
   ·refine xt ?_;cases o;exact⟨_,_,⟨a0,e0,K0,y,rfl⟩,rfl⟩
 ·refine dn 1048576 mixed 21 [([],2097151),([0],2097150),([1],2097149),([2],2097147),([],2097151),([4],2097135),([5],2097119),([6],2097087),([],2097151),([8],2096895),([9],2096639),([10],2096127),([],2097151),([12],2093055),([13],2088959),([14],2080767),([],2097151),([16],2031615),([3,7,11,15,17],1931127),([],2097151),([19,18,0,1,2,3,4,5,6,7,8,9,10,11,12,13,14,15,16,17,18,19],1310719)] u.ext (fun d=>?_);have Y:=u.step (Ext.draw _);refine dr 9 d [0,1,2,4,5,6,8,9,10,12,13,14] ?_;refine dw [0,2,7,11,15,19] ?_;refine dl d 3 (At.ext (hE.trans u.ext) M) 0 ?_;refine dl d 7 (At.ext (hE.trans u.ext) M) 1 ?_;refine dl d 11 (At.ext (hE.trans u.ext) M) 2 ?_;refine dl d 15 (At.ext (hE.trans u.ext) M) 3 ?_;refine dp d 16 rfl (fun _=>qb) ?_;refine da d [17,19] (by simp) ?_;intro i1 hi76;simp only [List.mem_cons,List.not_mem_nil,or_false] at hi76
  rcases hi76 with rfl | rfl
  ·refine mn (Y.flatEls (U:=z4s) (els:=[.int .i64 0,.int .i64 0]) (ys:=[(⟨0,0⟩:D.Port)]) ⟨[.int .i64 0,.int .i64 0],_,[],[],rfl,rfl,(z4f (c:=(⟨0,0⟩:D.Port)) rfl),⟨rfl,rfl⟩⟩) d (fun N0 U0 C1 d1 v0=>?_);refine dp d 18 rfl (fun _=>qb) ?_;refine o1 d 19 (mw d v0 (fun P0 D1 e1 y0=>?_));have B0:=y0.bring 0 rfl;refine o1 d 20 (ms (A:=[]) B0 d 0 (fun E1 C0=>?_));refine dd d ?_;exact⟨(x0.Kind,x0.Level,x0.Value,x0.Data,([(⟨0,0⟩:D.Port)]:(List D.Port))),_,⟨P0,A1,k2,N0,U0,hm,h3,C0,rfl⟩,rfl⟩
  ·refine mw d Y (fun Q0 F1 f1 D0=>?_);refine o1 d 17 (mn (D0.flatEls (U:=z4s) (els:=[.int .i64 0,.int .i64 0]) (ys:=[(⟨0,0⟩:D.Port)]) ⟨[.int .i64 0,.int .i64 0],_,[],[],rfl,rfl,(z4f (c:=(⟨0,0⟩:D.Port)) rfl),⟨rfl,rfl⟩⟩) d (fun O0 V0 G1 g1 E0=>?_));refine dp d 18 rfl (fun _=>qb) ?_;have F0:=E0.bring 1 rfl;refine o1 d 20 (ms (A:=[]) F0 d 0 (fun H1 O=>?_));refine dd d ?_;exact⟨(x0.Kind,x0.Level,x0.Value,x0.Data,([(⟨0,0⟩:D.Port)]:(List D.Port))),_,⟨Q0,A1,k2,O0,V0,hm,h3,O,rfl⟩,rfl⟩

theorem zeW:Enters Tryz.prog 134:=⟨_,_,Tryz.func134,rfl,by kernel_rfl⟩
def z5c (fuel:Nat) (x0:D.Cell) (x1:Int):Option (Bool):=(if(x0.Kind == 0)=true then(if(x0.Level == 0)=true then(if((x0.Data.length:Int) == 0)=true then(if((x0.Words.length:Int) == 0)=true then((z5 fuel x0.Value (-1) (w64 (x1 - 1))).bind fun h=>some h) else some false) else some false) else some false) else(if(x0.Kind == 13)=true then(if(x0.Level == 0)=true then(if(x0.Value == 0)=true then(if((x0.Data.length:Int) == 0)=true then some (decide ((x0.Words.length:Int)<2)) else some false) else some false) else some false) else((z19 fuel x0).bind fun o=>(if o=true then((z2D fuel x0).bind fun d=>((z1M fuel (⟨d.Kind,d.Level,d.Value,d.Data,d.Ports⟩:D.Agent)).bind fun u=>some u)) else some false))))

theorem z9u {W w:World}(hE:Ext W w){j0:Addr}{i0:List Value}{x0:D.Cell}{x1:Int}(y:ty83.ro W i0 x0) (d:At W j0 i0){fuel:Nat}{r:Bool}(hm:z5c fuel x0 x1=some r):
  Calls Tryz.prog 134 ⟨[.pointer (some j0),.int .i64 x1]⟩ w (Ret fun v w8=>v=.bool r∧St w w8 []):=by
 obtain⟨A1,k2,A4,k5,e7,h3,h6⟩:=z4 y;subst e7;refine into Tryz.func134 82 _ ?_;unfold z5c at hm;have hS:=St.start w;refine sq<|rg<|rr 1 ?_;refine rn<|sq<|bk<|sq<|rg<|rr 3 ?_;refine l1 (At.ext (hE.trans hS.ext) d) 0 ?_;refine rr 2 ?_;refine rn<|ci hm (fun hm=>?_) (fun hm=>?_)
 ·refine sq<|rg<|rr 3 ?_;refine l1 (At.ext (hE.trans hS.ext) d) 1 ?_;refine rr 2 ?_;refine rb 17 hm (fun hm=>?_) (fun hm=>?_)
  ·refine rr 3 ?_;refine l1 (At.ext (hE.trans hS.ext) d) 3 ?_;refine rr 4 ?_;refine rb 25 hm (fun hm=>?_) (fun hm=>?_)
   ·refine rr 3 ?_;refine l1 (At.ext (hE.trans hS.ext) d) 4 ?_;refine rr 4 ?_;refine rb 33 hm (fun hm=>?_) (fun hm=>?_)
    ·refine rr 3 ?_;refine l1 (At.ext (hE.trans hS.ext) d) 2 ?_;refine rr 2 ?_;obtain⟨v0,d0,hm⟩:=bS hm;refine ca z1y (z7 (hE.trans hS.ext)  d0) (fun B0 F0 z=>?_);obtain⟨rfl,G⟩:=z;have X:=hS.join G;refine rr 2 ?_;refine rn<|rt ?_;cases hm;exact⟨_,.cons (.tmp rfl) .nil,rfl,X⟩
    ·refine rr 9 ?_;refine rn<|rt ?_;cases hm;exact⟨_,.cons (.tmp rfl) .nil,rfl,hS⟩
   ·refine rr 17 ?_;refine rn<|rt ?_;cases hm;exact⟨_,.cons (.tmp rfl) .nil,rfl,hS⟩
  ·refine rr 25 ?_;refine rn<|rt ?_;cases hm;exact⟨_,.cons (.tmp rfl) .nil,rfl,hS⟩
 ·refine sq<|rg<|rr 3 ?_;refine l1 (At.ext (hE.trans hS.ext) d) 0 ?_;refine rr 2 ?_;refine rn<|ci hm (fun hm=>?_) (fun hm=>?_)
  ·refine sq<|rg<|rr 3 ?_;refine l1 (At.ext (hE.trans hS.ext) d) 1 ?_;refine rr 2 ?_;refine rb 53 hm (fun hm=>?_) (fun hm=>?_)
   ·refine rr 3 ?_;refine l1 (At.ext (hE.trans hS.ext) d) 2 ?_;refine rr 3 ?_;refine rb 60 hm (fun hm=>?_) (fun hm=>?_)
    ·refine rr 3 ?_;refine l1 (At.ext (hE.trans hS.ext) d) 3 ?_;refine rr 4 ?_;refine rb 68 hm (fun hm=>?_) (fun hm=>?_)
     ·refine rr 3 ?_;refine l1 (At.ext (hE.trans hS.ext) d) 4 ?_;refine rr 4 ?_;refine rn<|rt ?_;cases hm;exact⟨_,.cons (.tmp rfl) .nil,rfl,hS⟩
     ·refine rr 8 ?_;refine rn<|rt ?_;cases hm;exact⟨_,.cons (.tmp rfl) .nil,rfl,hS⟩
    ·refine rr 16 ?_;refine rn<|rt ?_;cases hm;exact⟨_,.cons (.tmp rfl) .nil,rfl,hS⟩
   ·refine rr 23 ?_;refine rn<|rt ?_;cases hm;exact⟨_,.cons (.tmp rfl) .nil,rfl,hS⟩
  ·refine sq<|rg<|rr 1 ?_;obtain⟨y0,e0,hm⟩:=bS hm;refine ca z8z (z2T (hE.trans hS.ext) y d e0) (fun C0 G0 H=>?_);obtain⟨rfl,L⟩:=H;have o:=hS.join L;refine rr 1 ?_;refine rn<|ci hm (fun hm=>?_) (fun hm=>?_)
   ·refine sq<|rg<|rr 1 ?_;obtain⟨u,f0,hm⟩:=bS hm;refine ca z7P (z43 (hE.trans o.ext) y d f0) (fun D0 H0 M=>?_);obtain⟨o0,t0,p0,u0,rfl,O,k0⟩:=M;have Y:=o.join O;refine nw Y (fun r0 J0 q0 Z=>?_);have a0:=Z.bring 0 rfl;refine so (A:=[]) a0 0 (fun K0 h=>?_);refine rn<|sq<|rg ?_;obtain⟨A0,g0,hm⟩:=bS hm;refine ca zbX (z7q (Ext.refl _) (z6x (⟨u.Kind,u.Level,u.Value,u.Data,u.Ports⟩:D.Agent) (ty80.ext (hE.trans h.ext) k0) ((h.bring 1 rfl).own)) ((h.bring 0 rfl).box) g0) (fun E0 L0 S=>?_);obtain⟨rfl,V⟩:=S;have b0:=h.join V;refine rr 1 ?_;refine rn<|rt ?_;cases hm;exact⟨_,.cons (.tmp rfl) .nil,rfl,(b0.taken 0)⟩
   ·refine sp<|sq<|rg<|rr 1 ?_;refine rn<|rt ?_;cases hm;exact⟨_,.cons (.tmp rfl) .nil,rfl,o⟩

theorem zeV:Enters Tryz.prog 135:=⟨_,_,Tryz.func135,rfl,by kernel_rfl⟩
def z5Q (fuel:Nat) (d:(List D.Word)):Option (List D.Word):=some d
def z2V (fuel:Nat) (x0:D.Memory) (d:Int × (List D.Word)):Option (Rd (Int × (List D.Word)) ((List D.Word)) ((List D.Word))):=(if(decide (d.1<(x0.Cells.length:Int)))=true then((idx x0.Cells d.1).bind fun h=>(if decide ((d.2.length:Int)+(h.Words.length:Int)≤4294967296)=true then some (.next (w64 (d.1+1),(d.2++h.Words))) else none)) else some (.brk d.2))
def z4z (fuel:Nat) (x0:D.Memory):Option ((List D.Word)):=((iter (z2V fuel x0) fuel (0,([x0.Root]:(List D.Word)))).bind fun o=>aft o (z5Q fuel))

theorem z96 {W w:World}(hE:Ext W w){f0:Addr}{g0:List Value}{x0:D.Memory}(q0:ty33.ro W g0 x0) (M:At W f0 g0){fuel:Nat}{r:(List D.Word)}(hm:z4z fuel x0=some r):
  Calls Tryz.prog 135 ⟨[.pointer (some f0)]⟩ w (Ret fun v w8=>∃ A0 k0,v=sl A0 r k0∧St w w8 [ow ty81 A0 r k0]):=by
 obtain⟨A1,k2,A4,k5,e7,h3,h6⟩:=zp q0;subst e7;refine into Tryz.func135 30 _ ?_;unfold z4z at hm;have hS:=St.start w;refine sq<|rg<|rr 1 ?_;refine rn<|sq<|rg<|rr 3 ?_;refine lN (At.sub (At.ext (hE.trans hS.ext) M) 2 2) ?_;refine ns (hS.flatEls (U:=ty30) (els:=[.int .i64 x0.Root.Tag,.int .i64 x0.Root.At]) (ys:=[x0.Root]) ⟨[.int .i64 x0.Root.Tag,.int .i64 x0.Root.At],_,[],[],rfl,rfl,(z8c (c:=x0.Root) rfl),⟨rfl,rfl⟩⟩) (fun i0 t0 J0 C0 O=>?_);refine rr 1 ?_;refine rn<|sq<|sq<|rg<|rr 1 ?_;refine rn ?_;obtain⟨v0,Z,hm⟩:=bS hm;refine ct (fun(L:(List D.Word)) F w9=>∃ y G,v0=.inl L∧St w w9 [ow ty81 y L G]∧F=[(3,sl y L G)]) ?_ ?_
 ·rintro L F K0 ⟨y,G,a0,S,rfl⟩;subst a0;rw [zi] at hm;unfold z5Q at hm;refine sq<|rg<|rr 2 ?_;refine rn<|rt ?_;cases hm;exact⟨_,.cons (.tmp rfl) .nil,y,G,rfl,S⟩
 ·refine bk<|wk [0,3,4] ?_;refine it (fun(H:Int × (List D.Word)) F w9=>∃ u z,St w w9 [ow ty81 u H.2 z]∧F=[(0,.pointer (some f0)),(3,sl u H.2 z),(4,.int .i64 H.1)]) Z ⟨i0,t0,O,rfl⟩ ?_;rintro H F L0 _ G0 ⟨u,z,h,rfl⟩ d b0;unfold z2V at d;refine sq<|sq<|rg<|rr 4 ?_;refine l1 (At.ext (hE.trans h.ext) M) 0 ?_;refine rr 2 ?_;refine rn<|ci d (fun d=>?_) (fun d=>?_)
  ·refine sp<|sq<|bk<|rg<|rr 4 ?_;refine l1 (At.ext (hE.trans h.ext) M) 0 ?_;refine rr 1 ?_;obtain⟨N0,e0,d⟩:=bS d;refine ix (hE.trans h.ext) h3 e0 (fun H0 p0 X d0=>?_);obtain⟨y0,E0,B0,F0,o0,D0,r0⟩:=z4 d0;subst o0;refine rr 1 ?_;refine l1 (At.ext (hE.trans h.ext) X) 4 ?_;have o:=h.bring 0 rfl;obtain⟨Y,d⟩:=iS d;refine ap (Flat.map (Flat.pair Flat.int (Flat.pair Flat.int Flat.unit))) o (ty81.ext (hE.trans o.ext) r0) Y (fun j0 u0 M0 V=>?_);refine rr 1 ?_;refine rn<|rg<|rr 3 ?_;refine rn ?_;cases d;exact⟨_,_,rfl,⟨j0,u0,V,rfl⟩,rfl⟩
  ·refine xt ?_;cases d;exact⟨_,_,⟨u,z,b0,h,rfl⟩,rfl⟩

theorem zeU:Enters Tryz.prog 136:=⟨_,_,Tryz.func136,rfl,by kernel_rfl⟩
def z59 (fuel:Nat) (x0:D.Memory) (x1:D.Word):Option (Bool):=((z5 fuel x1.At 0 (w64 ((x0.Cells.length:Int) - 1))).bind fun h=>(if(!h)=true then some false else((idx x0.Cells x1.At).bind fun d=>(if(x1.Tag == 1)=true then((z19 fuel d).bind fun o=>(if o=true then some true else(if(x1.Tag == 2)=true then some (d.Kind == 13) else some false))) else(if(x1.Tag == 2)=true then some (d.Kind == 13) else some false)))))

theorem z9r {W w:World}(hE:Ext W w){e0:Addr}{a0:List Value}{x0:D.Memory}{b0:List Value}{x1:D.Word}(j0:ty33.ro W a0 x0) (d0:At W e0 a0) (k0:ty30.ro W b0 x1){fuel:Nat}{r:Bool}(hm:z59 fuel x0 x1=some r):
  Calls Tryz.prog 136 ⟨[.pointer (some e0),.agg ⟨b0⟩]⟩ w (Ret fun v w8=>v=.bool r∧St w w8 []):=by
 obtain⟨A1,k2,A4,k5,e7,h3,h6⟩:=zp j0;subst e7;have f0:=z21 k0;subst f0;refine into Tryz.func136 42 _ ?_;unfold z59 at hm;have hS:=St.start w;refine sq<|rg<|nw hS (fun r0 F0 q0 z=>?_);refine rr 1 ?_;refine rn<|sq<|sq<|dn 0 mixed 10 [([],1023),([0],1022),([],1023),([2],1019),([3],1015),([4],1007),([5],991),([6],959),([1,7],893),([8],767)] z.ext (fun d=>?_);have L:=z.step (Ext.draw _);refine dr 6 d [0,2,3,4] ?_;refine dl d 1 ((z.bring 0 rfl).box) 1 ?_;refine dl d 5 (At.ext (hE.trans z.ext) d0) 0 ?_;refine dr 2 d [6,7] ?_;refine dw [0,3,7,13] ?_;obtain⟨B0,X,hm⟩:=bS hm;refine o1 d 8 (mc d z1y (z7 (hE.trans L.ext)  X) (fun D0 G0 O=>?_));obtain⟨rfl,H⟩:=O;refine⟨H.ext,?_⟩;have o:=L.join H;refine dr 0 d [9] ?_;refine dd d ?_;refine ci hm (fun hm=>?_) (fun hm=>?_)
 ·refine sq<|rg<|rr 1 ?_;refine rn<|rt ?_;cases hm;exact⟨_,.cons (.tmp rfl) .nil,rfl,(o.taken 0)⟩
 ·refine sp<|sq<|dn 0 mixed 8 [([],255),([0],254),([1],253),([2],251),([],255),([4],239),([3,5],215),([6,0,1,2,3,4,5,6],191)] o.ext (fun u=>?_);have h:=o.step (Ext.draw _);refine dr 4 u [0,1,2,4] ?_;refine dw [3,18,20] ?_;refine dl u 3 (At.ext (hE.trans o.ext) d0) 0 ?_;refine dl u 5 ((o.bring 0 rfl).box) 1 ?_;obtain⟨J0,Y,hm⟩:=bS hm;refine dx (hE.trans o.ext) u 6 h3 Y (fun A0 i0 G M=>?_);obtain⟨o0,v0,p0,y0,g0,t0,u0⟩:=z4 M;subst g0;refine dr 0 u [7] ?_;refine dd u ?_;refine sq<|rg<|rr 1 ?_;refine l1 ((h.bring 0 rfl).box) 0 ?_;refine rr 2 ?_;refine rb 26 hm (fun hm=>?_) (fun hm=>?_)
  ·refine rr 1 ?_;obtain⟨C0,Z,hm⟩:=bS hm;refine ca z8z (z2T (hE.trans h.ext) M G Z) (fun E0 H0 S=>?_);obtain⟨rfl,V⟩:=S;have y:=h.join V;refine rr 2 ?_;refine rb 30 hm (fun hm=>?_) (fun hm=>?_)
   ·refine rr 12 ?_;refine rn<|rt ?_;cases hm;exact⟨_,.cons (.tmp rfl) .nil,rfl,(y.taken 0)⟩
   ·refine rr 1 ?_;refine l1 ((y.bring 0 rfl).box) 0 ?_;refine rr 2 ?_;refine rb 34 hm (fun hm=>?_) (fun hm=>?_)
    ·refine rr 3 ?_;refine l1 (At.ext (hE.trans y.ext) G) 0 ?_;refine rr 4 ?_;refine rn<|rt ?_;cases hm;exact⟨_,.cons (.tmp rfl) .nil,rfl,(y.taken 0)⟩
    ·refine rr 8 ?_;refine rn<|rt ?_;cases hm;exact⟨_,.cons (.tmp rfl) .nil,rfl,(y.taken 0)⟩
  ·refine rr 5 ?_;refine l1 ((h.bring 0 rfl).box) 0 ?_;refine rr 2 ?_;refine rb 34 hm (fun hm=>?_) (fun hm=>?_)
   ·refine rr 3 ?_;refine l1 (At.ext (hE.trans h.ext) G) 0 ?_;refine rr 4 ?_;refine rn<|rt ?_;cases hm;exact⟨_,.cons (.tmp rfl) .nil,rfl,(h.taken 0)⟩
   ·refine rr 8 ?_;refine rn<|rt ?_;cases hm;exact⟨_,.cons (.tmp rfl) .nil,rfl,(h.taken 0)⟩

theorem zfP:Enters Tryz.prog 91:=⟨_,_,Tryz.func91,rfl,by kernel_rfl⟩
def z6s (fuel:Nat) (d:Int × Int):Option (D.Word × Bool):=some ((⟨d.1,d.2⟩:D.Word),false)
def z22 (fuel:Nat) (x0:D.Memory) (d:Int × Int × Int) (o:Bool):Option (Rd (Int × Int × Int) (Int × Int) (D.Word × Bool)):=(if o=true then some (.ret ((⟨d.2.1,d.2.2⟩:D.Word),true)) else((idx x0.Cells d.2.2).bind fun u=>((idx u.Words 0).bind fun h=>some (.next (w64 (d.1 - 1),h.Tag,h.At)))))
def z1z (fuel:Nat) (x0:D.Memory) (d:Int × Int × Int):Option (Rd (Int × Int × Int) (Int × Int) (D.Word × Bool)):=(if(decide (d.1≥0))=true then(if(d.2.1 != 2)=true then z22 fuel x0 d true else((idx x0.Cells d.2.2).bind fun h=>z22 fuel x0 d ((h.Words.length:Int) == 0))) else some (.brk (d.2.1,d.2.2)))
def z3u (fuel:Nat) (x0:D.Memory) (x1:D.Word):Option (D.Word × Bool):=((iter (z1z fuel x0) fuel ((x0.Cells.length:Int),x1.Tag,x1.At)).bind fun o=>aft o (z6s fuel))

theorem z8h {W w:World}(hE:Ext W w){Y:Addr}{C0:List Value}{x0:D.Memory}{D0:List Value}{x1:D.Word}(M0:ty33.ro W C0 x0) (a0:At W Y C0) (N0:ty30.ro W D0 x1){fuel:Nat}{r:D.Word × Bool}(hm:z3u fuel x0 x1=some r):
  Calls Tryz.prog 91 ⟨[.pointer (some Y),.agg ⟨D0⟩]⟩ w (Ret fun v w8=>v=.tuple ⟨[.agg ⟨[.int .i64 r.1.Tag,.int .i64 r.1.At]⟩,.bool r.2]⟩∧St w w8 []):=by
 obtain⟨A1,k2,A4,k5,e7,h3,h6⟩:=zp M0;subst e7;have E0:=z21 N0;subst E0;refine into Tryz.func91 45 _ ?_;unfold z3u at hm;have hS:=St.start w;refine sq<|rg<|nw hS (fun G t1 a1 b0=>?_);refine nw b0 (fun H u1 b1 L=>?_);refine rr 1 ?_;refine rn<|sq<|sq<|rg<|rr 3 ?_;refine l1 (At.ext (hE.trans L.ext) a0) 0 ?_;refine rr 2 ?_;refine rn ?_;obtain⟨Q0,p0,hm⟩:=bS hm;refine ct (fun(Z:Int × Int) F w9=>Q0=.inl Z∧St w w9 [Box H [.int .i64 0,.int .i64 0] 30,Box G [.int .i64 Z.1,.int .i64 Z.2] 30]∧F=[(3,.pointer (some ⟨G,0,none⟩)),(4,.pointer (some ⟨H,0,none⟩))]) ?_ ?_
 ·rintro Z F v1 ⟨q0,M,rfl⟩;subst q0;rw [zi] at hm;unfold z6s at hm;refine sq<|rg<|lN ((M.bring 1 rfl).box) ?_;have d0:=M.bring 0 rfl;refine so (A:=[]) d0 0 (fun y1 O=>?_);refine rr 1 ?_;refine rn<|rt ?_;cases hm;exact⟨_,.cons (ra ((O.bring 0 rfl).box)) (.cons (.tmp rfl) .nil),rfl,(O.taken 0)⟩
 ·refine bk<|wk [0,3,4,6] ?_;refine it (fun(z:Int × Int × Int) F w9=>St w w9 [Box H [.int .i64 0,.int .i64 0] 30,Box G [.int .i64 z.2.1,.int .i64 z.2.2] 30]∧F=[(0,.pointer (some Y)),(3,.pointer (some ⟨G,0,none⟩)),(4,.pointer (some ⟨H,0,none⟩)),(6,.int .i64 z.1)]) p0 ⟨L,rfl⟩ ?_;rintro z F S0 _ R0 ⟨y,rfl⟩ d X;unfold z1z at d;refine sq<|sq<|rg<|rr 2 ?_;refine rn<|ci d (fun d=>?_) (fun d=>?_)
  ·refine sp<|sq<|bk<|sq<|sq<|ct (fun(B0:Bool) F w9=>z22 fuel x0 z B0=some R0∧Ext S0 w9∧St w w9 [Box H [.int .i64 0,.int .i64 0] 30,Box G [.int .i64 z.2.1,.int .i64 z.2.2] 30]∧F=[(0,.pointer (some Y)),(3,.pointer (some ⟨G,0,none⟩)),(4,.pointer (some ⟨H,0,none⟩)),(6,.int .i64 z.1),(31,.bool B0)]) ?_ ?_
   ·rintro B0 F B1 ⟨d,P0,u,rfl⟩;unfold z22 at d;refine ci d (fun d=>?_) (fun d=>?_)
    ·refine sq<|rg<|lN ((u.bring 1 rfl).box) ?_;have e0:=u.bring 0 rfl;refine so (A:=[]) e0 0 (fun C1 S=>?_);refine rr 1 ?_;refine rn<|rt ?_;cases d;cases X;have hm:some _=some _:=hm;cases hm;exact⟨_,.cons (ra ((S.bring 0 rfl).box)) (.cons (.tmp rfl) .nil),rfl,(S.taken 0)⟩
    ·refine sp<|dn 2048 mixed 12 [([],4095),([0],4094),([1],4093),([2],4091),([],4095),([4],4079),([3,5],4055),([6],4031),([7],3967),([8],3839),([9],3583),([10,0,1,2,3,4,5,6,7,8,9,10],3071)] u.ext (fun o=>?_);have f0:=u.step (Ext.draw _);refine dr 8 o [0,1,2,4] ?_;refine dl o 3 (At.ext (hE.trans u.ext) a0) 0 ?_;refine dl o 5 ((u.bring 1 rfl).box) 1 ?_;obtain⟨E1,v0,d⟩:=bS d;refine dx (hE.trans u.ext) o 6 h3 v0 (fun n1 J0 j0 r0=>?_);obtain⟨U0,g1,V0,i1,F0,d1,O0⟩:=z4 r0;subst F0;refine dr 4 o [7] ?_;refine dw [0,3,4,6,40] ?_;refine dl o 8 (At.ext (hE.trans u.ext) j0) 4 ?_;obtain⟨F1,y0,d⟩:=bS d;refine dx (hE.trans u.ext) o 9 O0 y0 (fun p1 K0 k0 t0=>?_);have G0:=z21 t0;subst G0;refine dL o 10 (At.ext (hE.trans u.ext) k0) ?_;have g0:=f0.bring 1 rfl;refine o1 o 11 (ms (A:=[]) g0 o 0 (fun D1 i0=>?_));refine dd o ?_;refine rg<|rr 3 ?_;refine rn ?_;cases d;exact⟨_,_,rfl,⟨((i0.bring 0 rfl).bring 1 rfl),rfl⟩,rfl⟩
   ·refine dn 0 mixed 16 [([],65535),([0],65534),([1],65533),([2],65531),([3],65527),([4,3],65511),([5,3],65495),([6,3],65463),([3],65527),([8,3],65271),([7,9,3],64887),([10,3],64503),([11,3],63479),([12,3],61431),([13,3],57335),([3,14],49143)] y.ext (fun h=>?_);have V:=y.step (Ext.draw _);refine dr 15 h [0] ?_;refine dl h 1 ((y.bring 1 rfl).box) 0 ?_;refine dr 12 h [2,3] ?_;refine db 19 d (fun d=>?_) (fun d=>?_)
    ·refine dr 0 h [4,5,6,7,8,9,10,11,12,13,14,15] ?_;refine dw [0,3,4,6,31] ?_;refine dd h ?_;exact⟨true,_,⟨d,(Ext.draw _),V,rfl⟩,rfl⟩
    ·refine dr 8 h [4,5,6,8] ?_;refine dw [0,3,4,6,19,22,24] ?_;refine dl h 7 (At.ext (hE.trans y.ext) a0) 0 ?_;refine dl h 9 ((y.bring 1 rfl).box) 1 ?_;obtain⟨T0,A0,d⟩:=bS d;refine dx (hE.trans y.ext) h 10 h3 A0 (fun s1 L0 o0 u0=>?_);obtain⟨X0,j1,Y0,m1,H0,e1,f1⟩:=z4 u0;subst H0;refine dr 4 h [11] ?_;refine dl h 12 (At.ext (hE.trans y.ext) o0) 4 ?_;refine dr 0 h [13,14,15] ?_;refine dw [0,3,4,6,31] ?_;refine dd h ?_;exact⟨((T0.Words.length:Int) == 0),_,⟨d,(Ext.draw _),V,rfl⟩,rfl⟩
  ·refine xt ?_;cases d;exact⟨_,_,⟨X,y,rfl⟩,rfl⟩

theorem zeT:Enters Tryz.prog 137:=⟨_,_,Tryz.func137,rfl,by kernel_rfl⟩
def z2X (fuel:Nat) (d:Int):Option Bool:=some (d == (-1))
def z1r (fuel:Nat) (x0:D.Memory) (d:Int × Int) (h:Bool):Option (Rd (Int × Int) (Int) (Bool)):=(if h=true then some (.ret false) else((idx x0.Cells d.2).bind fun o=>some (.next (w64 (d.1 - 1),o.Value))))
def zA (fuel:Nat) (x0:D.Memory) (d:Int × Int):Option (Rd (Int × Int) (Int) (Bool)):=(if(decide (d.1>0))=true then((z5 fuel d.2 0 (w64 ((x0.Cells.length:Int) - 1))).bind fun h=>(if(!h)=true then z1r fuel x0 d true else((idx x0.Cells d.2).bind fun o=>z1r fuel x0 d (o.Kind != 0)))) else some (.brk d.2))
def z6M (fuel:Nat) (x0:D.Memory) (d:Int):Option Bool:=((iter (zA fuel x0) fuel (d,x0.Free)).bind fun o=>aft o (z2X fuel))
def z2W (fuel:Nat) (d:Int × Int) (h:Int):Option (Rd (Int × Int) (Int) (Bool)):=some (.next (h,w64 (d.2+1)))
def z2Y (fuel:Nat) (x0:D.Memory) (d:Int × Int):Option (Rd (Int × Int) (Int) (Bool)):=(if(decide (d.2<(x0.Cells.length:Int)))=true then((idx x0.Cells d.2).bind fun h=>(if(h.Kind == 0)=true then z2W fuel d (w64 (d.1+1)) else z2W fuel d d.1)) else some (.brk d.1))
def z4A (fuel:Nat) (x0:D.Memory):Option (Bool):=((iter (z2Y fuel x0) fuel (0,0)).bind fun o=>aft o (z6M fuel x0))

theorem z97 {W w:World}(hE:Ext W w){H:Addr}{G0:List Value}{x0:D.Memory}(P0:ty33.ro W G0 x0) (M:At W H G0){fuel:Nat}{r:Bool}(hm:z4A fuel x0=some r):
  Calls Tryz.prog 137 ⟨[.pointer (some H)]⟩ w (Ret fun v w8=>v=.bool r∧St w w8 []):=by
 obtain⟨A1,k2,A4,k5,e7,h3,h6⟩:=zp P0;subst e7;refine into Tryz.func137 64 _ ?_;unfold z4A at hm;have hS:=St.start w;refine sq<|rg<|rr 1 ?_;refine rn<|sq<|rg<|rr 1 ?_;refine rn<|sq<|sq<|rg<|rr 1 ?_;refine rn ?_;obtain⟨S0,j0,hm⟩:=bS hm;refine ct (fun(C0:Int) F w9=>S0=.inl C0∧Ext w w9∧St w w9 []∧F=[(0,.pointer (some H)),(3,.int .i64 C0)]) ?_ ?_
 ·rintro C0 F H0 ⟨o0,Q0,X,rfl⟩;subst o0;rw [zi] at hm;unfold z6M at hm;refine sq<|rg<|rr 3 ?_;refine l1 (At.ext (hE.trans X.ext) M) 1 ?_;refine rr 1 ?_;refine rn<|sq ?_;obtain⟨T0,k0,hm⟩:=bS hm;refine ct (fun(D0:Int) F w9=>T0=.inl D0∧Ext H0 w9∧St w w9 []∧F=[(5,.int .i64 D0)]) ?_ ?_
  ·rintro D0 F K1 ⟨p0,R0,d0,rfl⟩;subst p0;rw [zi] at hm;unfold z2X at hm;refine sq<|rg<|rr 3 ?_;refine rn<|rt ?_;cases hm;exact⟨_,.cons (.tmp rfl) .nil,rfl,d0⟩
  ·refine bk<|wk [0,3,5] ?_;refine it (fun(O:Int × Int) F w9=>Ext H0 w9∧St w w9 []∧F=[(0,.pointer (some H)),(3,.int .i64 O.1),(5,.int .i64 O.2)]) k0 ⟨(Ext.refl _),X,rfl⟩ ?_;rintro O F X0 _ U0 ⟨V,z,rfl⟩ d Y;unfold zA at d;refine sq<|sq<|rg<|rr 2 ?_;refine rn<|ci d (fun d=>?_) (fun d=>?_)
   ·refine sp<|sq<|bk<|sq<|sq<|ct (fun(E0:Bool) F w9=>z1r fuel x0 O E0=some U0∧Ext X0 w9∧St w w9 []∧F=[(0,.pointer (some H)),(3,.int .i64 O.1),(5,.int .i64 O.2),(53,.bool E0)]) ?_ ?_
    ·rintro E0 F L1 ⟨d,Z,u,rfl⟩;unfold z1r at d;refine ci d (fun d=>?_) (fun d=>?_)
     ·refine sq<|rg<|rr 1 ?_;refine rn<|rt ?_;cases d;cases Y;have hm:some _=some _:=hm;cases hm;exact⟨_,.cons (.tmp rfl) .nil,rfl,u⟩
     ·refine sp<|rg<|rr 3 ?_;refine l1 (At.ext (hE.trans u.ext) M) 0 ?_;refine rr 1 ?_;obtain⟨O1,v0,d⟩:=bS d;refine ix (hE.trans u.ext) h3 v0 (fun E1 M0 f0 r0=>?_);obtain⟨b1,u1,d1,v1,J0,j1,m1⟩:=z4 r0;subst J0;refine rr 1 ?_;refine l1 (At.ext (hE.trans u.ext) f0) 2 ?_;refine rr 1 ?_;refine rn<|rg<|rr 3 ?_;refine rn ?_;cases d;exact⟨_,_,rfl,⟨(V.trans Z),u,rfl⟩,rfl⟩
    ·refine rg<|rr 4 ?_;refine l1 (At.ext (hE.trans z.ext) M) 0 ?_;refine rr 2 ?_;obtain⟨H1,y0,d⟩:=bS d;refine ca z1y (z7 (hE.trans z.ext)  y0) (fun J1 M1 b0=>?_);obtain⟨rfl,G⟩:=b0;have y:=z.join G;refine rr 2 ?_;refine rb 43 d (fun d=>?_) (fun d=>?_)
     ·refine rr 10 ?_;refine rn ?_;exact⟨true,_,⟨d,G.ext,y,rfl⟩,rfl⟩
     ·refine rr 3 ?_;refine l1 (At.ext (hE.trans y.ext) M) 0 ?_;refine rr 1 ?_;obtain⟨a1,A0,d⟩:=bS d;refine ix (hE.trans y.ext) h3 A0 (fun F1 N0 g0 t0=>?_);obtain⟨e1,y1,f1,B1,K0,n1,p1⟩:=z4 t0;subst K0;refine rr 1 ?_;refine l1 (At.ext (hE.trans y.ext) g0) 0 ?_;refine rr 2 ?_;refine rn ?_;exact⟨(a1.Kind != 0),_,⟨d,G.ext,y,rfl⟩,rfl⟩
   ·refine xt ?_;cases d;exact⟨_,_,⟨Y,V,z,rfl⟩,rfl⟩
 ·refine bk<|wk [0,3,4] ?_;refine it (fun(L:Int × Int) F w9=>Ext w w9∧St w w9 []∧F=[(0,.pointer (some H)),(3,.int .i64 L.1),(4,.int .i64 L.2)]) j0 ⟨(Ext.refl _),hS,rfl⟩ ?_;rintro L F Y0 _ V0 ⟨S,o,rfl⟩ h q0;unfold z2Y at h;refine sq<|sq<|rg<|rr 4 ?_;refine l1 (At.ext (hE.trans o.ext) M) 0 ?_;refine rr 2 ?_;refine rn<|ci h (fun h=>?_) (fun h=>?_)
  ·refine sp<|sq<|bk<|sq<|rg<|rr 3 ?_;refine l1 (At.ext (hE.trans o.ext) M) 0 ?_;refine rr 1 ?_;obtain⟨P1,B0,h⟩:=bS h;refine ix (hE.trans o.ext) h3 B0 (fun G1 O0 i0 u0=>?_);obtain⟨g1,C1,i1,D1,L0,s1,t1⟩:=z4 u0;subst L0;refine rr 1 ?_;refine l1 (At.ext (hE.trans o.ext) i0) 0 ?_;refine rr 1 ?_;refine rn<|ct (fun(F0:Int) F w9=>z2W fuel L F0=some V0∧Ext Y0 w9∧St w w9 []∧F=[(0,.pointer (some H)),(3,.int .i64 F0),(4,.int .i64 L.2)]) ?_ ?_
   ·rintro F0 F N1 ⟨h,a0,e0,rfl⟩;unfold z2W at h;refine rg<|rr 3 ?_;refine rn ?_;cases h;exact⟨_,_,rfl,⟨(S.trans a0),e0,rfl⟩,rfl⟩
   ·refine ci h (fun h=>?_) (fun h=>?_)
    ·refine rg<|rr 3 ?_;refine rn ?_;exact⟨w64 (L.1+1),_,⟨h,(Ext.refl _),o,rfl⟩,rfl⟩
    ·refine sp ?_;exact⟨L.1,_,⟨h,(Ext.refl _),o,rfl⟩,rfl⟩
  ·refine xt ?_;cases h;exact⟨_,_,⟨q0,S,o,rfl⟩,rfl⟩

end Go.E


