/- Models of functions and proofs that the code runs as they say (written by program). Conditions: the model gives a value. -/
import Derived.Test.YtijgffjimnbcpaaGreatHU
import Derived.Test.YtijgffjimnbcpaaGreatSzDefs
import Derived.Test.YtijgffjimnbcpaaGreatFA
import Derived.Test.YtijgffjimnbcpaaGreatFN
import Derived.Test.YtijgffjimnbcpaaGreatFV
import Derived.Test.YtijgffjimnbcpaaGreatFVb
namespace Go.E
open Go.RowKit Go.Proofs
set_option linter.unusedVariables false
set_option linter.unusedSimpArgs false
set_option maxHeartbeats 2000000
set_option maxRecDepth 100000

theorem zbW:Enters Tryz.prog 157:=⟨_,_,Tryz.func157,rfl,by kernel_rfl⟩
def z5M (fuel:Nat) (t2:Unit):Option Bool:=some true
def z46 (fuel:Nat) (x0:(List D.Word)) (x1:(List D.Word)) (s1:Int):Option (Rd (Int) (Unit) (Bool)):=(if(decide (s1<(x0.length:Int)))=true then((idx x0 s1).bind fun o=>((idx x1 s1).bind fun y=>((z47 fuel o y).bind fun h=>(if(!h)=true then some (.ret false) else some (.next (w64 (s1+1))))))) else some (.brk ()))
def z4o (fuel:Nat) (x0:(List D.Word)) (x1:(List D.Word)):Option (Bool):=(if((x0.length:Int) != (x1.length:Int))=true then some false else((iter (z46 fuel x0 x1) fuel 0).bind fun o=>aft o (z5M fuel)))

theorem laws_eqWordS_ok {W w:World}(hE:Ext W w){X:Option Addr}{j0:Nat}{x0:(List D.Word)}{Y:Option Addr}{k0:Nat}{x1:(List D.Word)}(u0:ty81.ro W [sl X x0 j0] x0) (v0:ty81.ro W [sl Y x1 k0] x1){fuel:Nat}{r:Bool}(hm:z4o fuel x0 x1=some r):
    Calls Tryz.prog 157 ⟨[sl X x0 j0,sl Y x1 k0]⟩ w (Ret fun v w8=>v=.bool r∧St w w8 []):=by
  refine into Tryz.func157 27 _ ?_;unfold z4o at hm;have hS:=St.start w;refine sq<|rg<|rr 1 ?_;refine rn<|sq<|sq<|rg<|rr 5 ?_;refine rn<|ci hm (fun hm=>?_) (fun hm=>?_)
  · refine sq<|rg<|rr 1 ?_;refine rn<|rt ?_;cases hm;exact⟨_,.cons (.tmp rfl) .nil,rfl,hS⟩
  · refine sp<|sq<|sq<|rg<|rr 1 ?_;refine rn ?_;obtain⟨y0,d0,hm⟩:=bS hm;refine ct (fun(t2:Unit) F w9=>y0=.inl t2∧Ext w w9∧St w w9 []∧F=[]) ?_ ?_
    · rintro t2 F w7 ⟨e0,A0,a0,rfl⟩;subst e0;rw [z3] at hm;unfold z5M at hm;refine sq<|rg<|rr 1 ?_;refine rn<|rt ?_;cases hm;exact⟨_,.cons (.tmp rfl) .nil,rfl,a0⟩
    · refine bk<|wk [0,1,5] ?_;refine it (fun(s1:Int) F w9=>Ext w w9∧St w w9 []∧F=[(0,sl X x0 j0),(1,sl Y x1 k0),(5,.int .i64 s1)]) d0 ⟨(Ext.refl _),hS,rfl⟩ ?_;rintro s1 F G0 _ B0 ⟨o0,y,rfl⟩ h L;unfold z46 at h;refine sq<|sq<|rg<|rr 4 ?_;refine rn<|ci h (fun h=>?_) (fun h=>?_)
      · refine sp<|sq<|bk<|sq<|dn 0 mixed 10 [([],1023),([],1023),([0,1],1020),([2],1019),([],1023),([],1023),([4,5],975),([6],959),([3,7],887),([8],767)] y.ext (fun o=>?_);have G:=y.step (Ext.draw _);refine dr 6 o [0,1,4,5] ?_;obtain⟨J0,f0,h⟩:=bS h;refine dx (hE.trans y.ext) o 2 u0 f0 (fun C0 r0 b0 M=>?_);have p0:=z1h M;subst p0;refine dL o 3 (At.ext (hE.trans y.ext) b0) ?_;obtain⟨K0,g0,h⟩:=bS h;refine dx (hE.trans y.ext) o 6 v0 g0 (fun D0 t0 c0 O=>?_);have q0:=z1h O;subst q0;refine dL o 7 (At.ext (hE.trans y.ext) c0) ?_;obtain⟨E0,i0,h⟩:=bS h;refine o1 o 8 (mc o zag (laws_eqWord_ok (hE.trans G.ext) M O i0) (fun F0 H0 Z=>?_));obtain⟨rfl,z⟩:=Z;refine⟨z.ext,?_⟩;have H:=G.join z;refine dr 0 o [9] ?_;refine dw [0,1,5,26] ?_;refine dd o ?_;refine ci h (fun h=>?_) (fun h=>?_)
        · refine sq<|rg<|rr 1 ?_;refine rn<|rt ?_;cases h;cases L;have hm:some _=some _:=hm;cases hm;exact⟨_,.cons (.tmp rfl) .nil,rfl,H⟩
        · refine sp<|rg<|rr 3 ?_;refine rn ?_;cases h;exact⟨_,_,rfl,⟨((o0.trans (Ext.draw _)).trans z.ext),H,rfl⟩,rfl⟩
      · refine xt ?_;cases h;exact⟨_,_,⟨L,o0,y,rfl⟩,rfl⟩

theorem zcM:Enters Tryz.prog 83:=⟨_,_,Tryz.func83,rfl,by kernel_rfl⟩
def z4K (fuel:Nat) (x0:D.Cell) (x1:D.Cell):Option (Bool):=(if(x0.Kind != x1.Kind)=true then some false else(if(x0.Level != x1.Level)=true then some false else(if(x0.Value != x1.Value)=true then some false else((z2Q fuel x0.Data x1.Data).bind fun h=>(if(!h)=true then some false else((z4o fuel x0.Words x1.Words).bind fun o=>(if(!o)=true then some false else some true)))))))

theorem laws_eqCell_ok {W w:World}(hE:Ext W w){Y:List Value}{x0:D.Cell}{Z:List Value}{x1:D.Cell}(b0:ty83.ro W Y x0) (e0:ty83.ro W Z x1){fuel:Nat}{r:Bool}(hm:z4K fuel x0 x1=some r):
    Calls Tryz.prog 83 ⟨[.agg ⟨Y⟩,.agg ⟨Z⟩]⟩ w (Ret fun v w8=>v=.bool r∧St w w8 []):=by
  obtain⟨A1,k2,A4,k5,e7,h3,h6⟩:=z4 b0;subst e7;obtain⟨f0,p0,g0,q0,a0,c0,d0⟩:=z4 e0;subst a0;refine into Tryz.func83 32 _ ?_;unfold z4K at hm;have hS:=St.start w;refine sq<|rg<|nw hS (fun k0 y0 i0 M=>?_);refine nw M (fun o0 A0 j0 h=>?_);refine rr 1 ?_;refine rn<|sq<|sq<|rg<|rr 1 ?_;refine l1 ((h.bring 1 rfl).box) 0 ?_;refine rr 1 ?_;refine l1 ((h.bring 0 rfl).box) 0 ?_;refine rr 1 ?_;refine rn<|ci hm (fun hm=>?_) (fun hm=>?_)
  · refine sq<|rg<|rr 1 ?_;refine rn<|rt ?_;cases hm;exact⟨_,.cons (.tmp rfl) .nil,rfl,(h.taken 0)⟩
  · refine sp<|sq<|sq<|rg<|rr 1 ?_;refine l1 ((h.bring 1 rfl).box) 1 ?_;refine rr 1 ?_;refine l1 ((h.bring 0 rfl).box) 1 ?_;refine rr 1 ?_;refine rn<|ci hm (fun hm=>?_) (fun hm=>?_)
    · refine sq<|rg<|rr 1 ?_;refine rn<|rt ?_;cases hm;exact⟨_,.cons (.tmp rfl) .nil,rfl,(h.taken 0)⟩
    · refine sp<|sq<|sq<|rg<|rr 1 ?_;refine l1 ((h.bring 1 rfl).box) 2 ?_;refine rr 1 ?_;refine l1 ((h.bring 0 rfl).box) 2 ?_;refine rr 1 ?_;refine rn<|ci hm (fun hm=>?_) (fun hm=>?_)
      · refine sq<|rg<|rr 1 ?_;refine rn<|rt ?_;cases hm;exact⟨_,.cons (.tmp rfl) .nil,rfl,(h.taken 0)⟩
      · refine sp<|sq<|sq<|rg<|rr 1 ?_;refine l1 ((h.bring 1 rfl).box) 3 ?_;refine rr 1 ?_;refine l1 ((h.bring 0 rfl).box) 3 ?_;obtain⟨r0,O,hm⟩:=bS hm;refine ca z9w (laws_eqInt64S_ok (hE.trans h.ext) h3 c0 O) (fun u0 B0 z=>?_);obtain⟨rfl,G⟩:=z;have o:=h.join G;refine rr 1 ?_;refine rn<|ci hm (fun hm=>?_) (fun hm=>?_)
        · refine sq<|rg<|rr 1 ?_;refine rn<|rt ?_;cases hm;exact⟨_,.cons (.tmp rfl) .nil,rfl,(o.taken 0)⟩
        · refine sp<|sq<|sq<|rg<|rr 1 ?_;refine l1 ((o.bring 1 rfl).box) 4 ?_;refine rr 1 ?_;refine l1 ((o.bring 0 rfl).box) 4 ?_;obtain⟨t0,X,hm⟩:=bS hm;refine ca zbW (laws_eqWordS_ok (hE.trans o.ext) h6 d0 X) (fun v0 C0 H=>?_);obtain⟨rfl,L⟩:=H;have y:=o.join L;refine rr 1 ?_;refine rn<|ci hm (fun hm=>?_) (fun hm=>?_)
          · refine sq<|rg<|rr 1 ?_;refine rn<|rt ?_;cases hm;exact⟨_,.cons (.tmp rfl) .nil,rfl,(y.taken 0)⟩
          · refine sp<|sq<|rg<|rr 1 ?_;refine rn<|rt ?_;cases hm;exact⟨_,.cons (.tmp rfl) .nil,rfl,(y.taken 0)⟩

theorem zd0:Enters Tryz.prog 43:=⟨_,_,Tryz.func43,rfl,by kernel_rfl⟩
def z5P (fuel:Nat) (t2:Unit):Option Bool:=some true
def z4a (fuel:Nat) (x0:(List D.Cell)) (x1:(List D.Cell)) (s1:Int):Option (Rd (Int) (Unit) (Bool)):=(if(decide (s1<(x0.length:Int)))=true then((idx x0 s1).bind fun o=>((idx x1 s1).bind fun y=>((z4K fuel o y).bind fun h=>(if(!h)=true then some (.ret false) else some (.next (w64 (s1+1))))))) else some (.brk ()))
def z4r (fuel:Nat) (x0:(List D.Cell)) (x1:(List D.Cell)):Option (Bool):=(if((x0.length:Int) != (x1.length:Int))=true then some false else((iter (z4a fuel x0 x1) fuel 0).bind fun o=>aft o (z5P fuel)))

theorem laws_eqCellS_ok {W w:World}(hE:Ext W w){X:Option Addr}{j0:Nat}{x0:(List D.Cell)}{Y:Option Addr}{k0:Nat}{x1:(List D.Cell)}(u0:ty29.ro W [sl X x0 j0] x0) (v0:ty29.ro W [sl Y x1 k0] x1){fuel:Nat}{r:Bool}(hm:z4r fuel x0 x1=some r):
    Calls Tryz.prog 43 ⟨[sl X x0 j0,sl Y x1 k0]⟩ w (Ret fun v w8=>v=.bool r∧St w w8 []):=by
  refine into Tryz.func43 27 _ ?_;unfold z4r at hm;have hS:=St.start w;refine sq<|rg<|rr 1 ?_;refine rn<|sq<|sq<|rg<|rr 5 ?_;refine rn<|ci hm (fun hm=>?_) (fun hm=>?_)
  · refine sq<|rg<|rr 1 ?_;refine rn<|rt ?_;cases hm;exact⟨_,.cons (.tmp rfl) .nil,rfl,hS⟩
  · refine sp<|sq<|sq<|rg<|rr 1 ?_;refine rn ?_;obtain⟨y0,d0,hm⟩:=bS hm;refine ct (fun(t2:Unit) F w9=>y0=.inl t2∧Ext w w9∧St w w9 []∧F=[]) ?_ ?_
    · rintro t2 F w7 ⟨e0,J0,a0,rfl⟩;subst e0;rw [z3] at hm;unfold z5P at hm;refine sq<|rg<|rr 1 ?_;refine rn<|rt ?_;cases hm;exact⟨_,.cons (.tmp rfl) .nil,rfl,a0⟩
    · refine bk<|wk [0,1,5] ?_;refine it (fun(s1:Int) F w9=>Ext w w9∧St w w9 []∧F=[(0,sl X x0 j0),(1,sl Y x1 k0),(5,.int .i64 s1)]) d0 ⟨(Ext.refl _),hS,rfl⟩ ?_;rintro s1 F T0 _ O0 ⟨o0,y,rfl⟩ h L;unfold z4a at h;refine sq<|sq<|rg<|rr 4 ?_;refine rn<|ci h (fun h=>?_) (fun h=>?_)
      · refine sp<|sq<|bk<|sq<|dn 0 mixed 10 [([],1023),([],1023),([0,1],1020),([2],1019),([],1023),([],1023),([4,5],975),([6],959),([3,7],887),([8],767)] y.ext (fun o=>?_);have G:=y.step (Ext.draw _);refine dr 6 o [0,1,4,5] ?_;obtain⟨V0,f0,h⟩:=bS h;refine dx (hE.trans y.ext) o 2 u0 f0 (fun P0 r0 b0 M=>?_);obtain⟨A0,K0,B0,L0,p0,E0,F0⟩:=z4 M;subst p0;refine dL o 3 (At.ext (hE.trans y.ext) b0) ?_;obtain⟨X0,g0,h⟩:=bS h;refine dx (hE.trans y.ext) o 6 v0 g0 (fun Q0 t0 c0 O=>?_);obtain⟨C0,M0,D0,N0,q0,G0,H0⟩:=z4 O;subst q0;refine dL o 7 (At.ext (hE.trans y.ext) c0) ?_;obtain⟨R0,i0,h⟩:=bS h;refine o1 o 8 (mc o zcM (laws_eqCell_ok (hE.trans G.ext) M O i0) (fun S0 U0 Z=>?_));obtain⟨rfl,z⟩:=Z;refine⟨z.ext,?_⟩;have H:=G.join z;refine dr 0 o [9] ?_;refine dw [0,1,5,26] ?_;refine dd o ?_;refine ci h (fun h=>?_) (fun h=>?_)
        · refine sq<|rg<|rr 1 ?_;refine rn<|rt ?_;cases h;cases L;have hm:some _=some _:=hm;cases hm;exact⟨_,.cons (.tmp rfl) .nil,rfl,H⟩
        · refine sp<|rg<|rr 3 ?_;refine rn ?_;cases h;exact⟨_,_,rfl,⟨((o0.trans (Ext.draw _)).trans z.ext),H,rfl⟩,rfl⟩
      · refine xt ?_;cases h;exact⟨_,_,⟨L,o0,y,rfl⟩,rfl⟩

theorem zcL:Enters Tryz.prog 84:=⟨_,_,Tryz.func84,rfl,by kernel_rfl⟩
def z4J (fuel:Nat) (x0:D.Pair) (x1:D.Pair):Option (Bool):=(if(x0.A != x1.A)=true then some false else(if(x0.B != x1.B)=true then some false else some true))

theorem laws_eqPair_ok {W w:World}(hE:Ext W w){o:List Value}{x0:D.Pair}{y:List Value}{x1:D.Pair}(z:ty87.ro W o x0) (G:ty87.ro W y x1){fuel:Nat}{r:Bool}(hm:z4J fuel x0 x1=some r):
    Calls Tryz.prog 84 ⟨[.agg ⟨o⟩,.agg ⟨y⟩]⟩ w (Ret fun v w8=>v=.bool r∧St w w8 []):=by
  have e1:=z3b z;subst e1;have e2:=z3b G;subst e2;refine into Tryz.func84 15 _ ?_;unfold z4J at hm;have hS:=St.start w;refine sq<|rg<|nw hS (fun g3 w4 e5 H=>?_);refine nw H (fun g7 M L h=>?_);refine rr 1 ?_;refine rn<|sq<|sq<|rg<|rr 1 ?_;refine l1 ((h.bring 1 rfl).box) 0 ?_;refine rr 1 ?_;refine l1 ((h.bring 0 rfl).box) 0 ?_;refine rr 1 ?_;refine rn<|ci hm (fun hm=>?_) (fun hm=>?_)
  · refine sq<|rg<|rr 1 ?_;refine rn<|rt ?_;cases hm;exact⟨_,.cons (.tmp rfl) .nil,rfl,(h.taken 0)⟩
  · refine sp<|sq<|sq<|rg<|rr 1 ?_;refine l1 ((h.bring 1 rfl).box) 1 ?_;refine rr 1 ?_;refine l1 ((h.bring 0 rfl).box) 1 ?_;refine rr 1 ?_;refine rn<|ci hm (fun hm=>?_) (fun hm=>?_)
    · refine sq<|rg<|rr 1 ?_;refine rn<|rt ?_;cases hm;exact⟨_,.cons (.tmp rfl) .nil,rfl,(h.taken 0)⟩
    · refine sp<|sq<|rg<|rr 1 ?_;refine rn<|rt ?_;cases hm;exact⟨_,.cons (.tmp rfl) .nil,rfl,(h.taken 0)⟩

theorem zcZ:Enters Tryz.prog 45:=⟨_,_,Tryz.func45,rfl,by kernel_rfl⟩
def z5O (fuel:Nat) (t2:Unit):Option Bool:=some true
def z49 (fuel:Nat) (x0:(List D.Pair)) (x1:(List D.Pair)) (s1:Int):Option (Rd (Int) (Unit) (Bool)):=(if(decide (s1<(x0.length:Int)))=true then((idx x0 s1).bind fun o=>((idx x1 s1).bind fun y=>((z4J fuel o y).bind fun h=>(if(!h)=true then some (.ret false) else some (.next (w64 (s1+1))))))) else some (.brk ()))
def z4q (fuel:Nat) (x0:(List D.Pair)) (x1:(List D.Pair)):Option (Bool):=(if((x0.length:Int) != (x1.length:Int))=true then some false else((iter (z49 fuel x0 x1) fuel 0).bind fun o=>aft o (z5O fuel)))

theorem laws_eqPairS_ok {W w:World}(hE:Ext W w){X:Option Addr}{j0:Nat}{x0:(List D.Pair)}{Y:Option Addr}{k0:Nat}{x1:(List D.Pair)}(u0:ty31.ro W [sl X x0 j0] x0) (v0:ty31.ro W [sl Y x1 k0] x1){fuel:Nat}{r:Bool}(hm:z4q fuel x0 x1=some r):
    Calls Tryz.prog 45 ⟨[sl X x0 j0,sl Y x1 k0]⟩ w (Ret fun v w8=>v=.bool r∧St w w8 []):=by
  refine into Tryz.func45 27 _ ?_;unfold z4q at hm;have hS:=St.start w;refine sq<|rg<|rr 1 ?_;refine rn<|sq<|sq<|rg<|rr 5 ?_;refine rn<|ci hm (fun hm=>?_) (fun hm=>?_)
  · refine sq<|rg<|rr 1 ?_;refine rn<|rt ?_;cases hm;exact⟨_,.cons (.tmp rfl) .nil,rfl,hS⟩
  · refine sp<|sq<|sq<|rg<|rr 1 ?_;refine rn ?_;obtain⟨y0,d0,hm⟩:=bS hm;refine ct (fun(t2:Unit) F w9=>y0=.inl t2∧Ext w w9∧St w w9 []∧F=[]) ?_ ?_
    · rintro t2 F w7 ⟨e0,A0,a0,rfl⟩;subst e0;rw [z3] at hm;unfold z5O at hm;refine sq<|rg<|rr 1 ?_;refine rn<|rt ?_;cases hm;exact⟨_,.cons (.tmp rfl) .nil,rfl,a0⟩
    · refine bk<|wk [0,1,5] ?_;refine it (fun(s1:Int) F w9=>Ext w w9∧St w w9 []∧F=[(0,sl X x0 j0),(1,sl Y x1 k0),(5,.int .i64 s1)]) d0 ⟨(Ext.refl _),hS,rfl⟩ ?_;rintro s1 F G0 _ B0 ⟨o0,y,rfl⟩ h L;unfold z49 at h;refine sq<|sq<|rg<|rr 4 ?_;refine rn<|ci h (fun h=>?_) (fun h=>?_)
      · refine sp<|sq<|bk<|sq<|dn 0 mixed 10 [([],1023),([],1023),([0,1],1020),([2],1019),([],1023),([],1023),([4,5],975),([6],959),([3,7],887),([8],767)] y.ext (fun o=>?_);have G:=y.step (Ext.draw _);refine dr 6 o [0,1,4,5] ?_;obtain⟨J0,f0,h⟩:=bS h;refine dx (hE.trans y.ext) o 2 u0 f0 (fun C0 r0 b0 M=>?_);have p0:=z3b M;subst p0;refine dL o 3 (At.ext (hE.trans y.ext) b0) ?_;obtain⟨K0,g0,h⟩:=bS h;refine dx (hE.trans y.ext) o 6 v0 g0 (fun D0 t0 c0 O=>?_);have q0:=z3b O;subst q0;refine dL o 7 (At.ext (hE.trans y.ext) c0) ?_;obtain⟨E0,i0,h⟩:=bS h;refine o1 o 8 (mc o zcL (laws_eqPair_ok (hE.trans G.ext) M O i0) (fun F0 H0 Z=>?_));obtain⟨rfl,z⟩:=Z;refine⟨z.ext,?_⟩;have H:=G.join z;refine dr 0 o [9] ?_;refine dw [0,1,5,26] ?_;refine dd o ?_;refine ci h (fun h=>?_) (fun h=>?_)
        · refine sq<|rg<|rr 1 ?_;refine rn<|rt ?_;cases h;cases L;have hm:some _=some _:=hm;cases hm;exact⟨_,.cons (.tmp rfl) .nil,rfl,H⟩
        · refine sp<|rg<|rr 3 ?_;refine rn ?_;cases h;exact⟨_,_,rfl,⟨((o0.trans (Ext.draw _)).trans z.ext),H,rfl⟩,rfl⟩
      · refine xt ?_;cases h;exact⟨_,_,⟨L,o0,y,rfl⟩,rfl⟩

theorem zda:Enters Tryz.prog 11:=⟨_,_,Tryz.func11,rfl,by kernel_rfl⟩
def z3R (fuel:Nat) (x0:D.Memory) (x1:D.Memory):Option (Bool):=((z4r fuel x0.Cells x1.Cells).bind fun h=>(if(!h)=true then some false else(if(x0.Free != x1.Free)=true then some false else((z47 fuel x0.Root x1.Root).bind fun o=>(if(!o)=true then some false else((z4q fuel x0.Redexes x1.Redexes).bind fun y=>(if(!y)=true then some false else some true)))))))

theorem laws_eqMemory_ok {W w:World}(hE:Ext W w){c0:List Value}{x0:D.Memory}{d0:List Value}{x1:D.Memory}(f0:ty33.ro W c0 x0) (j0:ty33.ro W d0 x1){fuel:Nat}{r:Bool}(hm:z3R fuel x0 x1=some r):
    Calls Tryz.prog 11 ⟨[.agg ⟨c0⟩,.agg ⟨d0⟩]⟩ w (Ret fun v w8=>v=.bool r∧St w w8 []):=by
  obtain⟨A1,k2,A4,k5,e7,h3,h6⟩:=zS f0;subst e7;obtain⟨k0,u0,o0,v0,e0,g0,i0⟩:=zS j0;subst e0;refine into Tryz.func11 28 _ ?_;unfold z3R at hm;have hS:=St.start w;refine sq<|rg<|nw hS (fun r0 F0 p0 Y=>?_);refine nw Y (fun t0 G0 q0 y=>?_);refine rr 1 ?_;refine rn<|sq<|sq<|rg<|rr 1 ?_;refine l1 ((y.bring 1 rfl).box) 0 ?_;refine rr 1 ?_;refine l1 ((y.bring 0 rfl).box) 0 ?_;obtain⟨y0,Z,hm⟩:=bS hm;refine ca zd0 (laws_eqCellS_ok (hE.trans y.ext) h3 g0 Z) (fun C0 H0 G=>?_);obtain⟨rfl,H⟩:=G;have h:=y.join H;refine rr 1 ?_;refine rn<|ci hm (fun hm=>?_) (fun hm=>?_)
  · refine sq<|rg<|rr 1 ?_;refine rn<|rt ?_;cases hm;exact⟨_,.cons (.tmp rfl) .nil,rfl,(h.taken 0)⟩
  · refine sp<|sq<|sq<|rg<|rr 1 ?_;refine l1 ((h.bring 1 rfl).box) 1 ?_;refine rr 1 ?_;refine l1 ((h.bring 0 rfl).box) 1 ?_;refine rr 1 ?_;refine rn<|ci hm (fun hm=>?_) (fun hm=>?_)
    · refine sq<|rg<|rr 1 ?_;refine rn<|rt ?_;cases hm;exact⟨_,.cons (.tmp rfl) .nil,rfl,(h.taken 0)⟩
    · refine sp<|sq<|sq<|rg<|rr 1 ?_;refine lN (At.sub ((h.bring 1 rfl).box) 2 2) ?_;refine rr 1 ?_;refine lN (At.sub ((h.bring 0 rfl).box) 2 2) ?_;obtain⟨A0,a0,hm⟩:=bS hm;refine ca zag (laws_eqWord_ok (hE.trans h.ext) (z4A x0.Root) (z4A x1.Root) a0) (fun D0 J0 L=>?_);obtain⟨rfl,M⟩:=L;have o:=h.join M;refine rr 1 ?_;refine rn<|ci hm (fun hm=>?_) (fun hm=>?_)
      · refine sq<|rg<|rr 1 ?_;refine rn<|rt ?_;cases hm;exact⟨_,.cons (.tmp rfl) .nil,rfl,(o.taken 0)⟩
      · refine sp<|sq<|sq<|rg<|rr 1 ?_;refine l1 ((o.bring 1 rfl).box) 4 ?_;refine rr 1 ?_;refine l1 ((o.bring 0 rfl).box) 4 ?_;obtain⟨B0,b0,hm⟩:=bS hm;refine ca zcZ (laws_eqPairS_ok (hE.trans o.ext) h6 i0 b0) (fun E0 K0 O=>?_);obtain⟨rfl,X⟩:=O;have z:=o.join X;refine rr 1 ?_;refine rn<|ci hm (fun hm=>?_) (fun hm=>?_)
        · refine sq<|rg<|rr 1 ?_;refine rn<|rt ?_;cases hm;exact⟨_,.cons (.tmp rfl) .nil,rfl,(z.taken 0)⟩
        · refine sp<|sq<|rg<|rr 1 ?_;refine rn<|rt ?_;cases hm;exact⟨_,.cons (.tmp rfl) .nil,rfl,(z.taken 0)⟩

theorem zae:Enters Tryz.prog 85:=⟨_,_,Tryz.func85,rfl,by kernel_rfl⟩
def z52 (fuel:Nat) (t2:Int × (List Int)):Option (Int × (List Int)):=some (t2.1,t2.2)
def z2y (fuel:Nat) (x0:(List Int)) (s1:Int × Int × (List Int)):Option (Rd (Int × Int × (List Int)) (Int × (List Int)) (Int × (List Int))):=(if(decide (s1.2.1<(x0.length:Int)))=true then(if decide (0≤s1.2.1∧s1.2.1.toNat<s1.2.2.length)=true then some (.next (w64 (s1.1+1),w64 (s1.2.1+1),(s1.2.2.set s1.2.1.toNat s1.1))) else none) else some (.brk (s1.1,s1.2.2)))
def z25 (fuel:Nat) (x0:(List Int)) (x1:Int):Option (Int × (List Int)):=((iter (z2y fuel x0) fuel (x1,0,x0)).bind fun o=>aft o (z52 fuel))

theorem laws_markInt64S_ok {W w:World}{RR:List Res}{y:Option Addr}{z:Nat}{x0:(List Int)}{x1:Int}(hS:St W w (ow ty80 y x0 z::RR)){fuel:Nat}{r:Int × (List Int)}(hm:z25 fuel x0 x1=some r):
    Calls Tryz.prog 85 ⟨[sl y x0 z,.int .i64 x1]⟩ w (Ret fun v w8=>v=.int .i64 r.1∧St W w8 (Own ty80 [sl y x0 z] r.2::RR)):=by
  refine into Tryz.func85 19 _ ?_;unfold z25 at hm;refine sq<|rg<|rr 1 ?_;refine rn<|sq<|sq<|rg<|rr 1 ?_;refine rn ?_;obtain⟨o5,b0,hm⟩:=bS hm;refine ct (fun(t2:Int × (List Int)) F w9=>o5=.inl t2∧St W w9 (Own ty80 [sl y x0 z] t2.2::RR)∧F=[(1,.int .i64 t2.1)]) ?_ ?_
  · rintro t2 F w4 ⟨Y,a0,rfl⟩;subst Y;rw [z3] at hm;unfold z52 at hm;refine sq<|rg<|rr 2 ?_;refine rn<|rt ?_;cases hm;exact⟨_,.cons (.tmp rfl) .nil,rfl,a0⟩
  · refine bk<|wk [0,1,5] ?_;refine it (fun(s1:Int × Int × (List Int)) F w9=>St W w9 (Own ty80 [sl y x0 z] s1.2.2::RR)∧F=[(0,sl y x0 z),(1,.int .i64 s1.1),(5,.int .i64 s1.2.1)]) b0 ⟨hS,rfl⟩ ?_;rintro s1 F d0 _ c0 ⟨G,rfl⟩ h Z;unfold z2y at h;refine sq<|sq<|rg<|rr 4 ?_;refine rn<|ci h (fun h=>?_) (fun h=>?_)
    · refine sp<|sq<|bk<|sq<|rg<|rr 3 ?_;have H:=G.bring 0 rfl;obtain⟨X,h⟩:=iS h;have o:=of_decide_eq_true X;refine io H o.1 o.2 (fun q19 hq20=>?_);have L:=H.flat (T:=tInt) (cs:=[.int .i64 s1.1]) (x:=s1.1) ⟨rfl,rfl⟩;have M:=L.bring 1 rfl;refine se M o.2 hq20 (fun e0 O=>?_);refine rn<|rg<|rr 3 ?_;refine rn<|rg<|rr 3 ?_;refine rn ?_;cases h;exact⟨_,_,rfl,⟨O,rfl⟩,rfl⟩
    · refine xt ?_;cases h;exact⟨_,_,⟨Z,G,rfl⟩,rfl⟩

theorem zcK:Enters Tryz.prog 86:=⟨_,_,Tryz.func86,rfl,by kernel_rfl⟩
def z5i (fuel:Nat) (t2:Int × (List D.Word)):Option (Int × (List D.Word)):=some (t2.1,t2.2)
def z31 (fuel:Nat) (x0:(List D.Word)) (s1:Int × Int × (List D.Word)):Option (Rd (Int × Int × (List D.Word)) (Int × (List D.Word)) (Int × (List D.Word))):=(if(decide (s1.2.1<(x0.length:Int)))=true then((idx s1.2.2 s1.2.1).bind fun h=>some (.next (w64 ((w64 (s1.1+1))+1),w64 (s1.2.1+1),(s1.2.2.set s1.2.1.toNat (⟨s1.1,w64 (s1.1+1)⟩:D.Word))))) else some (.brk (s1.1,s1.2.2)))
def z3k (fuel:Nat) (x0:(List D.Word)) (x1:Int):Option (Int × (List D.Word)):=((iter (z31 fuel x0) fuel (x1,0,x0)).bind fun o=>aft o (z5i fuel))

theorem laws_markWordS_ok {W w:World}{RR:List Res}{o:Option Addr}{y:Nat}{x0:(List D.Word)}{x1:Int}(hS:St W w (ow ty81 o x0 y::RR)){fuel:Nat}{r:Int × (List D.Word)}(hm:z3k fuel x0 x1=some r):
    Calls Tryz.prog 86 ⟨[sl o x0 y,.int .i64 x1]⟩ w (Ret fun v w8=>v=.int .i64 r.1∧St W w8 (Own ty81 [sl o x0 y] r.2::RR)):=by
  refine into Tryz.func86 27 _ ?_;unfold z3k at hm;refine sq<|rg<|rr 1 ?_;refine rn<|sq<|sq<|rg<|rr 1 ?_;refine rn ?_;obtain⟨o5,j0,hm⟩:=bS hm;refine ct (fun(t2:Int × (List D.Word)) F w9=>o5=.inl t2∧St W w9 (Own ty81 [sl o x0 y] t2.2::RR)∧F=[(1,.int .i64 t2.1)]) ?_ ?_
  · rintro t2 F w4 ⟨d0,i0,rfl⟩;subst d0;rw [z3] at hm;unfold z5i at hm;refine sq<|rg<|rr 2 ?_;refine rn<|rt ?_;cases hm;exact⟨_,.cons (.tmp rfl) .nil,rfl,i0⟩
  · refine bk<|wk [0,1,5] ?_;refine it (fun(s1:Int × Int × (List D.Word)) F w9=>St W w9 (Own ty81 [sl o x0 y] s1.2.2::RR)∧F=[(0,sl o x0 y),(1,.int .i64 s1.1),(5,.int .i64 s1.2.1)]) j0 ⟨hS,rfl⟩ ?_;rintro s1 F o0 _ k0 ⟨z,rfl⟩ h e0;unfold z31 at h;refine sq<|sq<|rg<|rr 4 ?_;refine rn<|ci h (fun h=>?_) (fun h=>?_)
    · refine sp<|sq<|bk<|sq<|rg<|rr 3 ?_;have L:=z.bring 0 rfl;obtain⟨r0,H,h⟩:=bS h;refine fo L H (fun q19 g0 hq21 M=>?_);obtain⟨f0,O⟩:=zaw (M.bring 1 rfl);subst f0;refine rr 1 ?_;have X:=O.bring 0 rfl;refine sh X hq21 0 (fun p0 G=>?_);refine rn<|sq<|rg<|rr 3 ?_;refine rn<|sq<|rg<|rr 3 ?_;refine ia (G.bring 0 rfl) (z1q H).1 (fun q28 hq29=>?_);refine rr 1 ?_;have Y:=G.bring 0 rfl;refine sh Y hq29 1 (fun q0 Z=>?_);refine rn<|rg<|rr 3 ?_;refine rn<|rg<|rr 3 ?_;refine rn ?_;have a0:=z87 (c:=(⟨s1.1,w64 (s1.1+1)⟩:D.Word)) (B:=_) Z;have b0:=a0.bring 1 rfl;have c0:=St.unfocusN b0;cases h;exact⟨_,_,rfl,⟨c0,rfl⟩,rfl⟩
    · refine xt ?_;cases h;exact⟨_,_,⟨e0,z,rfl⟩,rfl⟩

theorem zcY:Enters Tryz.prog 46:=⟨_,_,Tryz.func46,rfl,by kernel_rfl⟩
def z5m (fuel:Nat) (t2:Int × (List D.Cell)):Option (Int × (List D.Cell)):=some (t2.1,t2.2)
def z34 (fuel:Nat) (x0:(List D.Cell)) (s1:Int × Int × (List D.Cell)):Option (Rd (Int × Int × (List D.Cell)) (Int × (List D.Cell)) (Int × (List D.Cell))):=(if(decide (s1.2.1<(x0.length:Int)))=true then((idx s1.2.2 s1.2.1).bind fun y=>((z25 fuel y.Data (w64 ((w64 ((w64 (s1.1+1))+1))+1))).bind fun h=>((z3k fuel y.Words h.1).bind fun o=>some (.next (o.1,w64 (s1.2.1+1),(s1.2.2.set s1.2.1.toNat (⟨s1.1,w64 (s1.1+1),w64 ((w64 (s1.1+1))+1),h.2,o.2⟩:D.Cell))))))) else some (.brk (s1.1,s1.2.2)))
def z3o (fuel:Nat) (x0:(List D.Cell)) (x1:Int):Option (Int × (List D.Cell)):=((iter (z34 fuel x0) fuel (x1,0,x0)).bind fun o=>aft o (z5m fuel))

theorem laws_markCellS_ok {W w:World}{RR:List Res}{Z:Option Addr}{a0:Nat}{x0:(List D.Cell)}{x1:Int}(hS:St W w (ow ty29 Z x0 a0::RR)){fuel:Nat}{r:Int × (List D.Cell)}(hm:z3o fuel x0 x1=some r):
    Calls Tryz.prog 46 ⟨[sl Z x0 a0,.int .i64 x1]⟩ w (Ret fun v w8=>v=.int .i64 r.1∧St W w8 (Own ty29 [sl Z x0 a0] r.2::RR)):=by
  refine into Tryz.func46 48 _ ?_;unfold z3o at hm;refine sq<|rg<|rr 1 ?_;refine rn<|sq<|sq<|rg<|rr 1 ?_;refine rn ?_;obtain⟨o5,M0,hm⟩:=bS hm;refine ct (fun(t2:Int × (List D.Cell)) F w9=>o5=.inl t2∧St W w9 (Own ty29 [sl Z x0 a0] t2.2::RR)∧F=[(1,.int .i64 t2.1)]) ?_ ?_
  · rintro t2 F w4 ⟨E0,L0,rfl⟩;subst E0;rw [z3] at hm;unfold z5m at hm;refine sq<|rg<|rr 2 ?_;refine rn<|rt ?_;cases hm;exact⟨_,.cons (.tmp rfl) .nil,rfl,L0⟩
  · refine bk<|wk [0,1,5] ?_;refine it (fun(s1:Int × Int × (List D.Cell)) F w9=>St W w9 (Own ty29 [sl Z x0 a0] s1.2.2::RR)∧F=[(0,sl Z x0 a0),(1,.int .i64 s1.1),(5,.int .i64 s1.2.1)]) M0 ⟨hS,rfl⟩ ?_;rintro s1 F S0 _ P0 ⟨b0,rfl⟩ h F0;unfold z34 at h;refine sq<|sq<|rg<|rr 4 ?_;refine rn<|ci h (fun h=>?_) (fun h=>?_)
    · refine sp<|sq<|bk<|sq<|rg<|rr 3 ?_;have k0:=b0.bring 0 rfl;obtain⟨y,o,h⟩:=bS h;refine fo k0 o (fun q19 K0 hq21 o0=>?_);obtain⟨G,X,H,Y,J0,p0⟩:=zav (o0.bring 1 rfl);subst J0;refine rr 1 ?_;have q0:=p0.bring 2 rfl;refine sh q0 hq21 0 (fun T0 c0=>?_);refine rn<|sq<|rg<|rr 3 ?_;refine rn<|sq<|rg<|rr 3 ?_;refine ia (c0.bring 0 rfl) (z1q o).1 (fun q32 hq33=>?_);refine rr 1 ?_;have r0:=c0.bring 0 rfl;refine sh r0 hq33 1 (fun U0 d0=>?_);refine rn<|sq<|rg<|rr 3 ?_;refine rn<|sq<|rg<|rr 3 ?_;refine ia (d0.bring 0 rfl) (z1q o).1 (fun q37 hq38=>?_);refine rr 1 ?_;have t0:=d0.bring 0 rfl;refine sh t0 hq38 2 (fun V0 L=>?_);refine rn<|sq<|rg<|rr 3 ?_;refine rn<|sq<|rg<|rr 2 ?_;refine ia (L.bring 0 rfl) (z1q o).1 (fun q42 hq43=>?_);refine rr 1 ?_;refine l1 ((L.bring 0 rfl).hole_atN hq43) 3 ?_;refine rr 1 ?_;obtain⟨z,G0,h⟩:=bS h;refine ca zae (laws_markInt64S_ok (W:=W) (RR:=_) (x0:=y.Data) (x1:=w64 ((w64 ((w64 (s1.1+1))+1))+1)) (L.bring 1 rfl)  G0) (fun Q0 X0 i0=>?_);obtain⟨rfl,M⟩:=i0;refine rr 1 ?_;refine rn<|rg<|rr 2 ?_;refine ia (M.bring 1 rfl) (z1q o).1 (fun q50 hq51=>?_);refine rr 1 ?_;refine l1 ((M.bring 1 rfl).hole_atN hq51) 4 ?_;refine rr 1 ?_;obtain⟨g0,H0,h⟩:=bS h;refine ca zcK (laws_markWordS_ok (W:=W) (RR:=_) (x0:=y.Words) (x1:=z.1) (M.bring 2 rfl)  H0) (fun R0 Y0 j0=>?_);obtain⟨rfl,e0⟩:=j0;refine rr 1 ?_;refine rn<|rg<|rr 3 ?_;refine rn ?_;have hn58:=(e0.bring 1 rfl).lenEq;have u0:=(e0.bring 1 rfl).reLen hn58;have f0:=(u0.bring 2 rfl).reHole (es':=[.int .i64 s1.1,.int .i64 (w64 (s1.1+1)),.int .i64 (w64 ((w64 (s1.1+1))+1)),.slice G z.2.length X,.slice H y.Words.length Y]) (by show([.int .i64 s1.1,.int .i64 (w64 (s1.1+1)),.int .i64 (w64 ((w64 (s1.1+1))+1)),.slice G y.Data.length X,.slice H y.Words.length Y]:List Value)=[.int .i64 s1.1,.int .i64 (w64 (s1.1+1)),.int .i64 (w64 ((w64 (s1.1+1))+1)),.slice G z.2.length X,.slice H y.Words.length Y];first | (simp only [sl,hn58];done) | (simp only [sl,hn58];rfl));have hn61:=(f0.bring 2 rfl).lenEq;have v0:=(f0.bring 2 rfl).reLen hn61;have O:=(v0.bring 1 rfl).reHole (es':=[.int .i64 s1.1,.int .i64 (w64 (s1.1+1)),.int .i64 (w64 ((w64 (s1.1+1))+1)),.slice G z.2.length X,.slice H g0.2.length Y]) (by show([.int .i64 s1.1,.int .i64 (w64 (s1.1+1)),.int .i64 (w64 ((w64 (s1.1+1))+1)),.slice G z.2.length X,.slice H y.Words.length Y]:List Value)=[.int .i64 s1.1,.int .i64 (w64 (s1.1+1)),.int .i64 (w64 ((w64 (s1.1+1))+1)),.slice G z.2.length X,.slice H g0.2.length Y];first | (simp only [sl,hn61];done) | (simp only [sl,hn61];rfl));have N0:=(show ty80.ro _ [.slice G y.Data.length X] z.2 from(Eq.symm hn58) ▸ ((O.bring 2 rfl).own));have O0:=(show ty81.ro _ [.slice H y.Words.length Y] g0.2 from(Eq.symm hn61) ▸ ((O.bring 1 rfl).own));have y0:=O.bring 1 rfl;have A0:=y0.bring 2 rfl;have B0:=z86 (c:=(⟨s1.1,w64 (s1.1+1),w64 ((w64 (s1.1+1))+1),z.2,g0.2⟩:D.Cell)) (B:=_) A0;have C0:=B0.bring 1 rfl;have D0:=St.unfocusN C0;cases h;exact⟨_,_,rfl,⟨D0,rfl⟩,rfl⟩
    · refine xt ?_;cases h;exact⟨_,_,⟨F0,b0,rfl⟩,rfl⟩

theorem zcX:Enters Tryz.prog 47:=⟨_,_,Tryz.func47,rfl,by kernel_rfl⟩
def z5k (fuel:Nat) (t2:Int × (List D.Pair)):Option (Int × (List D.Pair)):=some (t2.1,t2.2)
def z33 (fuel:Nat) (x0:(List D.Pair)) (s1:Int × Int × (List D.Pair)):Option (Rd (Int × Int × (List D.Pair)) (Int × (List D.Pair)) (Int × (List D.Pair))):=(if(decide (s1.2.1<(x0.length:Int)))=true then((idx s1.2.2 s1.2.1).bind fun h=>some (.next (w64 ((w64 (s1.1+1))+1),w64 (s1.2.1+1),(s1.2.2.set s1.2.1.toNat (⟨s1.1,w64 (s1.1+1)⟩:D.Pair))))) else some (.brk (s1.1,s1.2.2)))
def z3n (fuel:Nat) (x0:(List D.Pair)) (x1:Int):Option (Int × (List D.Pair)):=((iter (z33 fuel x0) fuel (x1,0,x0)).bind fun o=>aft o (z5k fuel))

theorem laws_markPairS_ok {W w:World}{RR:List Res}{o:Option Addr}{y:Nat}{x0:(List D.Pair)}{x1:Int}(hS:St W w (ow ty31 o x0 y::RR)){fuel:Nat}{r:Int × (List D.Pair)}(hm:z3n fuel x0 x1=some r):
    Calls Tryz.prog 47 ⟨[sl o x0 y,.int .i64 x1]⟩ w (Ret fun v w8=>v=.int .i64 r.1∧St W w8 (Own ty31 [sl o x0 y] r.2::RR)):=by
  refine into Tryz.func47 27 _ ?_;unfold z3n at hm;refine sq<|rg<|rr 1 ?_;refine rn<|sq<|sq<|rg<|rr 1 ?_;refine rn ?_;obtain⟨o5,j0,hm⟩:=bS hm;refine ct (fun(t2:Int × (List D.Pair)) F w9=>o5=.inl t2∧St W w9 (Own ty31 [sl o x0 y] t2.2::RR)∧F=[(1,.int .i64 t2.1)]) ?_ ?_
  · rintro t2 F w4 ⟨d0,i0,rfl⟩;subst d0;rw [z3] at hm;unfold z5k at hm;refine sq<|rg<|rr 2 ?_;refine rn<|rt ?_;cases hm;exact⟨_,.cons (.tmp rfl) .nil,rfl,i0⟩
  · refine bk<|wk [0,1,5] ?_;refine it (fun(s1:Int × Int × (List D.Pair)) F w9=>St W w9 (Own ty31 [sl o x0 y] s1.2.2::RR)∧F=[(0,sl o x0 y),(1,.int .i64 s1.1),(5,.int .i64 s1.2.1)]) j0 ⟨hS,rfl⟩ ?_;rintro s1 F o0 _ k0 ⟨z,rfl⟩ h e0;unfold z33 at h;refine sq<|sq<|rg<|rr 4 ?_;refine rn<|ci h (fun h=>?_) (fun h=>?_)
    · refine sp<|sq<|bk<|sq<|rg<|rr 3 ?_;have L:=z.bring 0 rfl;obtain⟨r0,H,h⟩:=bS h;refine fo L H (fun q19 g0 hq21 M=>?_);obtain⟨f0,O⟩:=zau (M.bring 1 rfl);subst f0;refine rr 1 ?_;have X:=O.bring 0 rfl;refine sh X hq21 0 (fun p0 G=>?_);refine rn<|sq<|rg<|rr 3 ?_;refine rn<|sq<|rg<|rr 3 ?_;refine ia (G.bring 0 rfl) (z1q H).1 (fun q28 hq29=>?_);refine rr 1 ?_;have Y:=G.bring 0 rfl;refine sh Y hq29 1 (fun q0 Z=>?_);refine rn<|rg<|rr 3 ?_;refine rn<|rg<|rr 3 ?_;refine rn ?_;have a0:=z85 (c:=(⟨s1.1,w64 (s1.1+1)⟩:D.Pair)) (B:=_) Z;have b0:=a0.bring 1 rfl;have c0:=St.unfocusN b0;cases h;exact⟨_,_,rfl,⟨c0,rfl⟩,rfl⟩
    · refine xt ?_;cases h;exact⟨_,_,⟨e0,z,rfl⟩,rfl⟩

theorem zd9:Enters Tryz.prog 12:=⟨_,_,Tryz.func12,rfl,by kernel_rfl⟩
def z2M (fuel:Nat) (x0:D.Memory) (x1:Int):Option (Int × (List D.Cell) × (List D.Pair)):=((z3o fuel x0.Cells x1).bind fun r5=>((z3n fuel x0.Redexes r5.1).bind fun h=>some (h.1,r5.2,h.2)))

theorem laws_markMemory_ok {W w:World}{RR:List Res}{x0:D.Memory}{h:Option Addr}{y:Nat}{o:Option Addr}{z:Nat}{x1:Int}(hS:St W w (ow ty29 h x0.Cells y::ow ty31 o x0.Redexes z::RR)){fuel:Nat}{r:Int × (List D.Cell) × (List D.Pair)}(hm:z2M fuel x0 x1=some r):
    Calls Tryz.prog 12 ⟨[.agg ⟨[sl h x0.Cells y,.int .i64 x0.Free,.int .i64 x0.Root.Tag,.int .i64 x0.Root.At,sl o x0.Redexes z]⟩,.int .i64 x1]⟩ w (Ret fun v w8=>v=.int .i64 r.1∧St W w8 (Own ty29 [sl h x0.Cells y] r.2.1::Own ty31 [sl o x0.Redexes z] r.2.2::RR)):=by
  refine into Tryz.func12 14 _ ?_;unfold z2M at hm;refine sq<|rg<|nw hS (fun g1 w2 e3 X=>?_);refine rr 1 ?_;refine rn<|sq<|rg<|rr 1 ?_;refine l1 ((X.bring 0 rfl).box) 0 ?_;refine rr 1 ?_;obtain⟨r5,Y,hm⟩:=bS hm;refine ca zcY (laws_markCellS_ok (W:=W) (RR:=_) (x0:=x0.Cells) (x1:=x1) (X.bring 1 rfl)  Y) (fun v7 b0 H=>?_);obtain⟨rfl,G⟩:=H;refine rr 1 ?_;refine rn<|sq<|rg<|rr 1 ?_;refine l1 ((G.bring 1 rfl).box) 4 ?_;refine rr 1 ?_;obtain⟨Z,O,hm⟩:=bS hm;refine ca zcX (laws_markPairS_ok (W:=W) (RR:=_) (x0:=x0.Redexes) (x1:=r5.1) (G.bring 2 rfl)  O) (fun a0 c0 L=>?_);obtain⟨rfl,M⟩:=L;refine rr 1 ?_;refine rn<|sq<|rg<|rr 2 ?_;refine rn<|rt ?_;cases hm;exact⟨_,.cons (.tmp rfl) .nil,rfl,(M.selR [1,0] 3)⟩

theorem zci:Enters Tryz.prog 100:=⟨_,_,Tryz.func100,rfl,by kernel_rfl⟩
def z5j (fuel:Nat) (t2:Int × (List D.Port)):Option (Int × (List D.Port)):=some (t2.1,t2.2)
def z32 (fuel:Nat) (x0:(List D.Port)) (s1:Int × Int × (List D.Port)):Option (Rd (Int × Int × (List D.Port)) (Int × (List D.Port)) (Int × (List D.Port))):=(if(decide (s1.2.1<(x0.length:Int)))=true then((idx s1.2.2 s1.2.1).bind fun h=>some (.next (w64 ((w64 (s1.1+1))+1),w64 (s1.2.1+1),(s1.2.2.set s1.2.1.toNat (⟨s1.1,w64 (s1.1+1)⟩:D.Port))))) else some (.brk (s1.1,s1.2.2)))
def z3m (fuel:Nat) (x0:(List D.Port)) (x1:Int):Option (Int × (List D.Port)):=((iter (z32 fuel x0) fuel (x1,0,x0)).bind fun o=>aft o (z5j fuel))

theorem laws_markPortS_ok {W w:World}{RR:List Res}{o:Option Addr}{y:Nat}{x0:(List D.Port)}{x1:Int}(hS:St W w (ow z3x o x0 y::RR)){fuel:Nat}{r:Int × (List D.Port)}(hm:z3m fuel x0 x1=some r):
    Calls Tryz.prog 100 ⟨[sl o x0 y,.int .i64 x1]⟩ w (Ret fun v w8=>v=.int .i64 r.1∧St W w8 (Own z3x [sl o x0 y] r.2::RR)):=by
  refine into Tryz.func100 27 _ ?_;unfold z3m at hm;refine sq<|rg<|rr 1 ?_;refine rn<|sq<|sq<|rg<|rr 1 ?_;refine rn ?_;obtain⟨o5,j0,hm⟩:=bS hm;refine ct (fun(t2:Int × (List D.Port)) F w9=>o5=.inl t2∧St W w9 (Own z3x [sl o x0 y] t2.2::RR)∧F=[(1,.int .i64 t2.1)]) ?_ ?_
  · rintro t2 F w4 ⟨d0,i0,rfl⟩;subst d0;rw [z3] at hm;unfold z5j at hm;refine sq<|rg<|rr 2 ?_;refine rn<|rt ?_;cases hm;exact⟨_,.cons (.tmp rfl) .nil,rfl,i0⟩
  · refine bk<|wk [0,1,5] ?_;refine it (fun(s1:Int × Int × (List D.Port)) F w9=>St W w9 (Own z3x [sl o x0 y] s1.2.2::RR)∧F=[(0,sl o x0 y),(1,.int .i64 s1.1),(5,.int .i64 s1.2.1)]) j0 ⟨hS,rfl⟩ ?_;rintro s1 F o0 _ k0 ⟨z,rfl⟩ h e0;unfold z32 at h;refine sq<|sq<|rg<|rr 4 ?_;refine rn<|ci h (fun h=>?_) (fun h=>?_)
    · refine sp<|sq<|bk<|sq<|rg<|rr 3 ?_;have L:=z.bring 0 rfl;obtain⟨r0,H,h⟩:=bS h;refine fo L H (fun q19 g0 hq21 M=>?_);obtain⟨f0,O⟩:=z9K (M.bring 1 rfl);subst f0;refine rr 1 ?_;have X:=O.bring 0 rfl;refine sh X hq21 0 (fun p0 G=>?_);refine rn<|sq<|rg<|rr 3 ?_;refine rn<|sq<|rg<|rr 3 ?_;refine ia (G.bring 0 rfl) (z1q H).1 (fun q28 hq29=>?_);refine rr 1 ?_;have Y:=G.bring 0 rfl;refine sh Y hq29 1 (fun q0 Z=>?_);refine rn<|rg<|rr 3 ?_;refine rn<|rg<|rr 3 ?_;refine rn ?_;have a0:=z4R (c:=(⟨s1.1,w64 (s1.1+1)⟩:D.Port)) (B:=_) Z;have b0:=a0.bring 1 rfl;have c0:=St.unfocusN b0;cases h;exact⟨_,_,rfl,⟨c0,rfl⟩,rfl⟩
    · refine xt ?_;cases h;exact⟨_,_,⟨e0,z,rfl⟩,rfl⟩

theorem zcT:Enters Tryz.prog 53:=⟨_,_,Tryz.func53,rfl,by kernel_rfl⟩
def z53 (fuel:Nat) (t2:Int × (List D.Agent)):Option (Int × (List D.Agent)):=some (t2.1,t2.2)
def z2z (fuel:Nat) (x0:(List D.Agent)) (s1:Int × Int × (List D.Agent)):Option (Rd (Int × Int × (List D.Agent)) (Int × (List D.Agent)) (Int × (List D.Agent))):=(if(decide (s1.2.1<(x0.length:Int)))=true then((idx s1.2.2 s1.2.1).bind fun y=>((z25 fuel y.Data (w64 ((w64 ((w64 (s1.1+1))+1))+1))).bind fun h=>((z3m fuel y.Ports h.1).bind fun o=>some (.next (o.1,w64 (s1.2.1+1),(s1.2.2.set s1.2.1.toNat (⟨s1.1,w64 (s1.1+1),w64 ((w64 (s1.1+1))+1),h.2,o.2⟩:D.Agent))))))) else some (.brk (s1.1,s1.2.2)))
def z2N (fuel:Nat) (x0:(List D.Agent)) (x1:Int):Option (Int × (List D.Agent)):=((iter (z2z fuel x0) fuel (x1,0,x0)).bind fun o=>aft o (z53 fuel))

theorem laws_markAgentS_ok {W w:World}{RR:List Res}{Z:Option Addr}{a0:Nat}{x0:(List D.Agent)}{x1:Int}(hS:St W w (ow ty40 Z x0 a0::RR)){fuel:Nat}{r:Int × (List D.Agent)}(hm:z2N fuel x0 x1=some r):
    Calls Tryz.prog 53 ⟨[sl Z x0 a0,.int .i64 x1]⟩ w (Ret fun v w8=>v=.int .i64 r.1∧St W w8 (Own ty40 [sl Z x0 a0] r.2::RR)):=by
  refine into Tryz.func53 48 _ ?_;unfold z2N at hm;refine sq<|rg<|rr 1 ?_;refine rn<|sq<|sq<|rg<|rr 1 ?_;refine rn ?_;obtain⟨o5,M0,hm⟩:=bS hm;refine ct (fun(t2:Int × (List D.Agent)) F w9=>o5=.inl t2∧St W w9 (Own ty40 [sl Z x0 a0] t2.2::RR)∧F=[(1,.int .i64 t2.1)]) ?_ ?_
  · rintro t2 F w4 ⟨E0,L0,rfl⟩;subst E0;rw [z3] at hm;unfold z53 at hm;refine sq<|rg<|rr 2 ?_;refine rn<|rt ?_;cases hm;exact⟨_,.cons (.tmp rfl) .nil,rfl,L0⟩
  · refine bk<|wk [0,1,5] ?_;refine it (fun(s1:Int × Int × (List D.Agent)) F w9=>St W w9 (Own ty40 [sl Z x0 a0] s1.2.2::RR)∧F=[(0,sl Z x0 a0),(1,.int .i64 s1.1),(5,.int .i64 s1.2.1)]) M0 ⟨hS,rfl⟩ ?_;rintro s1 F S0 _ P0 ⟨b0,rfl⟩ h F0;unfold z2z at h;refine sq<|sq<|rg<|rr 4 ?_;refine rn<|ci h (fun h=>?_) (fun h=>?_)
    · refine sp<|sq<|bk<|sq<|rg<|rr 3 ?_;have k0:=b0.bring 0 rfl;obtain⟨y,o,h⟩:=bS h;refine fo k0 o (fun q19 K0 hq21 o0=>?_);obtain⟨G,X,H,Y,J0,p0⟩:=z5c (o0.bring 1 rfl);subst J0;refine rr 1 ?_;have q0:=p0.bring 2 rfl;refine sh q0 hq21 0 (fun T0 c0=>?_);refine rn<|sq<|rg<|rr 3 ?_;refine rn<|sq<|rg<|rr 3 ?_;refine ia (c0.bring 0 rfl) (z1q o).1 (fun q32 hq33=>?_);refine rr 1 ?_;have r0:=c0.bring 0 rfl;refine sh r0 hq33 1 (fun U0 d0=>?_);refine rn<|sq<|rg<|rr 3 ?_;refine rn<|sq<|rg<|rr 3 ?_;refine ia (d0.bring 0 rfl) (z1q o).1 (fun q37 hq38=>?_);refine rr 1 ?_;have t0:=d0.bring 0 rfl;refine sh t0 hq38 2 (fun V0 L=>?_);refine rn<|sq<|rg<|rr 3 ?_;refine rn<|sq<|rg<|rr 2 ?_;refine ia (L.bring 0 rfl) (z1q o).1 (fun q42 hq43=>?_);refine rr 1 ?_;refine l1 ((L.bring 0 rfl).hole_atN hq43) 3 ?_;refine rr 1 ?_;obtain⟨z,G0,h⟩:=bS h;refine ca zae (laws_markInt64S_ok (W:=W) (RR:=_) (x0:=y.Data) (x1:=w64 ((w64 ((w64 (s1.1+1))+1))+1)) (L.bring 1 rfl)  G0) (fun Q0 X0 i0=>?_);obtain⟨rfl,M⟩:=i0;refine rr 1 ?_;refine rn<|rg<|rr 2 ?_;refine ia (M.bring 1 rfl) (z1q o).1 (fun q50 hq51=>?_);refine rr 1 ?_;refine l1 ((M.bring 1 rfl).hole_atN hq51) 4 ?_;refine rr 1 ?_;obtain⟨g0,H0,h⟩:=bS h;refine ca zci (laws_markPortS_ok (W:=W) (RR:=_) (x0:=y.Ports) (x1:=z.1) (M.bring 2 rfl)  H0) (fun R0 Y0 j0=>?_);obtain⟨rfl,e0⟩:=j0;refine rr 1 ?_;refine rn<|rg<|rr 3 ?_;refine rn ?_;have hn58:=(e0.bring 1 rfl).lenEq;have u0:=(e0.bring 1 rfl).reLen hn58;have f0:=(u0.bring 2 rfl).reHole (es':=[.int .i64 s1.1,.int .i64 (w64 (s1.1+1)),.int .i64 (w64 ((w64 (s1.1+1))+1)),.slice G z.2.length X,.slice H y.Ports.length Y]) (by show([.int .i64 s1.1,.int .i64 (w64 (s1.1+1)),.int .i64 (w64 ((w64 (s1.1+1))+1)),.slice G y.Data.length X,.slice H y.Ports.length Y]:List Value)=[.int .i64 s1.1,.int .i64 (w64 (s1.1+1)),.int .i64 (w64 ((w64 (s1.1+1))+1)),.slice G z.2.length X,.slice H y.Ports.length Y];first | (simp only [sl,hn58];done) | (simp only [sl,hn58];rfl));have hn61:=(f0.bring 2 rfl).lenEq;have v0:=(f0.bring 2 rfl).reLen hn61;have O:=(v0.bring 1 rfl).reHole (es':=[.int .i64 s1.1,.int .i64 (w64 (s1.1+1)),.int .i64 (w64 ((w64 (s1.1+1))+1)),.slice G z.2.length X,.slice H g0.2.length Y]) (by show([.int .i64 s1.1,.int .i64 (w64 (s1.1+1)),.int .i64 (w64 ((w64 (s1.1+1))+1)),.slice G z.2.length X,.slice H y.Ports.length Y]:List Value)=[.int .i64 s1.1,.int .i64 (w64 (s1.1+1)),.int .i64 (w64 ((w64 (s1.1+1))+1)),.slice G z.2.length X,.slice H g0.2.length Y];first | (simp only [sl,hn61];done) | (simp only [sl,hn61];rfl));have N0:=(show ty80.ro _ [.slice G y.Data.length X] z.2 from(Eq.symm hn58) ▸ ((O.bring 2 rfl).own));have O0:=(show z3x.ro _ [.slice H y.Ports.length Y] g0.2 from(Eq.symm hn61) ▸ ((O.bring 1 rfl).own));have y0:=O.bring 1 rfl;have A0:=y0.bring 2 rfl;have B0:=z2W (c:=(⟨s1.1,w64 (s1.1+1),w64 ((w64 (s1.1+1))+1),z.2,g0.2⟩:D.Agent)) (B:=_) A0;have C0:=B0.bring 1 rfl;have D0:=St.unfocusN C0;cases h;exact⟨_,_,rfl,⟨D0,rfl⟩,rfl⟩
    · refine xt ?_;cases h;exact⟨_,_,⟨F0,b0,rfl⟩,rfl⟩

theorem zd7:Enters Tryz.prog 17:=⟨_,_,Tryz.func17,rfl,by kernel_rfl⟩
def z4n (fuel:Nat) (x0:D.Net) (x1:Int):Option (Int × (List D.Agent)):=((z2N fuel x0.Agents x1).bind fun r5=>some (r5.1,r5.2))

theorem laws_markNet_ok {W w:World}{RR:List Res}{x0:D.Net}{h:Option Addr}{o:Nat}{x1:Int}(hS:St W w (ow ty40 h x0.Agents o::RR)){fuel:Nat}{r:Int × (List D.Agent)}(hm:z4n fuel x0 x1=some r):
    Calls Tryz.prog 17 ⟨[.agg ⟨[sl h x0.Agents o]⟩,.int .i64 x1]⟩ w (Ret fun v w8=>v=.int .i64 r.1∧St W w8 (Own ty40 [sl h x0.Agents o] r.2::RR)):=by
  refine into Tryz.func17 10 _ ?_;unfold z4n at hm;refine sq<|rg<|nw hS (fun g1 w2 e3 G=>?_);refine rr 1 ?_;refine rn<|sq<|rg<|rr 1 ?_;refine l1 ((G.bring 0 rfl).box) 0 ?_;refine rr 1 ?_;obtain⟨r5,H,hm⟩:=bS hm;refine ca zcT (laws_markAgentS_ok (W:=W) (RR:=_) (x0:=x0.Agents) (x1:=x1) (G.bring 1 rfl)  H) (fun v7 L y=>?_);obtain⟨rfl,z⟩:=y;refine rr 1 ?_;refine rn<|sq<|rg<|rr 2 ?_;refine rn<|rt ?_;cases hm;exact⟨_,.cons (.tmp rfl) .nil,rfl,(z.bring 1 rfl).drop⟩

theorem zcJ:Enters Tryz.prog 87:=⟨_,_,Tryz.func87,rfl,by kernel_rfl⟩
def z54 (fuel:Nat) (t2:Int):Option Int:=some t2
def z1J (fuel:Nat) (x0:(List Int)) (s1:Int × Int):Option (Rd (Int × Int) (Int) (Int)):=(if(decide (s1.2<(x0.length:Int)))=true then((idx x0 s1.2).bind fun h=>(if(h != s1.1)=true then some (.ret (-1)) else some (.next (w64 (s1.1+1),w64 (s1.2+1))))) else some (.brk s1.1))
def z2O (fuel:Nat) (x0:(List Int)) (x1:Int):Option (Int):=((iter (z1J fuel x0) fuel (x1,0)).bind fun o=>aft o (z54 fuel))

theorem laws_heldInt64S_ok {W w:World}(hE:Ext W w){z:Option Addr}{Y:Nat}{x0:(List Int)}{x1:Int}(b0:ty80.ro W [sl z x0 Y] x0){fuel:Nat}{r:Int}(hm:z2O fuel x0 x1=some r):
    Calls Tryz.prog 87 ⟨[sl z x0 Y,.int .i64 x1]⟩ w (Ret fun v w8=>v=.int .i64 r∧St w w8 []):=by
  refine into Tryz.func87 21 _ ?_;unfold z2O at hm;have hS:=St.start w;refine sq<|rg<|rr 1 ?_;refine rn<|sq<|sq<|rg<|rr 1 ?_;refine rn ?_;obtain⟨c0,L,hm⟩:=bS hm;refine ct (fun(t2:Int) F w9=>c0=.inl t2∧Ext w w9∧St w w9 []∧F=[(1,.int .i64 t2)]) ?_ ?_
  · rintro t2 F w7 ⟨M,d0,G,rfl⟩;subst M;rw [z3] at hm;unfold z54 at hm;refine sq<|rg<|rr 2 ?_;refine rn<|rt ?_;cases hm;exact⟨_,.cons (.tmp rfl) .nil,rfl,G⟩
  · refine bk<|wk [0,1,5] ?_;refine it (fun(s1:Int × Int) F w9=>Ext w w9∧St w w9 []∧F=[(0,sl z x0 Y),(1,.int .i64 s1.1),(5,.int .i64 s1.2)]) L ⟨(Ext.refl _),hS,rfl⟩ ?_;rintro s1 F g0 _ e0 ⟨Z,o,rfl⟩ h y;unfold z1J at h;refine sq<|sq<|rg<|rr 4 ?_;refine rn<|ci h (fun h=>?_) (fun h=>?_)
    · refine sp<|sq<|bk<|sq<|sq<|rg<|rr 2 ?_;obtain⟨i0,X,h⟩:=bS h;refine ix (hE.trans o.ext) b0 X (fun f0 a0 H O=>?_);cases O;refine l1 (At.ext (hE.trans o.ext) H) 0 ?_;refine rr 2 ?_;refine rn<|ci h (fun h=>?_) (fun h=>?_)
      · refine sq<|rg<|rr 1 ?_;refine rn<|rt ?_;cases h;cases y;have hm:some _=some _:=hm;cases hm;exact⟨_,.cons (.tmp rfl) .nil,rfl,o⟩
      · refine sp<|rg<|rr 3 ?_;refine rn<|rg<|rr 3 ?_;refine rn ?_;cases h;exact⟨_,_,rfl,⟨Z,o,rfl⟩,rfl⟩
    · refine xt ?_;cases h;exact⟨_,_,⟨y,Z,o,rfl⟩,rfl⟩

theorem zch:Enters Tryz.prog 101:=⟨_,_,Tryz.func101,rfl,by kernel_rfl⟩
def z5n (fuel:Nat) (t2:Int):Option Int:=some t2
def z28 (fuel:Nat) (x0:(List D.Port)) (s1:Int × Int):Option (Rd (Int × Int) (Int) (Int)):=(if(decide (s1.2<(x0.length:Int)))=true then((idx x0 s1.2).bind fun h=>(if(h.Agent != s1.1)=true then some (.ret (-1)) else((idx x0 s1.2).bind fun o=>(if(o.Slot != (w64 (s1.1+1)))=true then some (.ret (-1)) else some (.next (w64 ((w64 (s1.1+1))+1),w64 (s1.2+1))))))) else some (.brk s1.1))
def z3p (fuel:Nat) (x0:(List D.Port)) (x1:Int):Option (Int):=((iter (z28 fuel x0) fuel (x1,0)).bind fun o=>aft o (z5n fuel))

theorem laws_heldPortS_ok {W w:World}(hE:Ext W w){z:Option Addr}{b0:Nat}{x0:(List D.Port)}{x1:Int}(c0:z3x.ro W [sl z x0 b0] x0){fuel:Nat}{r:Int}(hm:z3p fuel x0 x1=some r):
    Calls Tryz.prog 101 ⟨[sl z x0 b0,.int .i64 x1]⟩ w (Ret fun v w8=>v=.int .i64 r∧St w w8 []):=by
  refine into Tryz.func101 31 _ ?_;unfold z3p at hm;have hS:=St.start w;refine sq<|rg<|rr 1 ?_;refine rn<|sq<|sq<|rg<|rr 1 ?_;refine rn ?_;obtain⟨j0,M,hm⟩:=bS hm;refine ct (fun(t2:Int) F w9=>j0=.inl t2∧Ext w w9∧St w w9 []∧F=[(1,.int .i64 t2)]) ?_ ?_
  · rintro t2 F w7 ⟨O,k0,G,rfl⟩;subst O;rw [z3] at hm;unfold z5n at hm;refine sq<|rg<|rr 2 ?_;refine rn<|rt ?_;cases hm;exact⟨_,.cons (.tmp rfl) .nil,rfl,G⟩
  · refine bk<|wk [0,1,5] ?_;refine it (fun(s1:Int × Int) F w9=>Ext w w9∧St w w9 []∧F=[(0,sl z x0 b0),(1,.int .i64 s1.1),(5,.int .i64 s1.2)]) M ⟨(Ext.refl _),hS,rfl⟩ ?_;rintro s1 F r0 _ o0 ⟨d0,o,rfl⟩ h y;unfold z28 at h;refine sq<|sq<|rg<|rr 4 ?_;refine rn<|ci h (fun h=>?_) (fun h=>?_)
    · refine sp<|sq<|bk<|sq<|sq<|rg<|rr 2 ?_;obtain⟨t0,Z,h⟩:=bS h;refine ix (hE.trans o.ext) c0 Z (fun p0 g0 H X=>?_);have e0:=z1Z X;subst e0;refine rr 1 ?_;refine l1 (At.ext (hE.trans o.ext) H) 0 ?_;refine rr 2 ?_;refine rn<|ci h (fun h=>?_) (fun h=>?_)
      · refine sq<|rg<|rr 1 ?_;refine rn<|rt ?_;cases h;cases y;have hm:some _=some _:=hm;cases hm;exact⟨_,.cons (.tmp rfl) .nil,rfl,o⟩
      · refine sp<|sq<|rg<|rr 3 ?_;refine rn<|sq<|sq<|rg<|rr 2 ?_;obtain⟨u0,a0,h⟩:=bS h;refine ix (hE.trans o.ext) c0 a0 (fun q0 i0 L Y=>?_);have f0:=z1Z Y;subst f0;refine rr 1 ?_;refine l1 (At.ext (hE.trans o.ext) L) 1 ?_;refine rr 2 ?_;refine rn<|ci h (fun h=>?_) (fun h=>?_)
        · refine sq<|rg<|rr 1 ?_;refine rn<|rt ?_;cases h;cases y;have hm:some _=some _:=hm;cases hm;exact⟨_,.cons (.tmp rfl) .nil,rfl,o⟩
        · refine sp<|rg<|rr 3 ?_;refine rn<|rg<|rr 3 ?_;refine rn ?_;cases h;exact⟨_,_,rfl,⟨d0,o,rfl⟩,rfl⟩
    · refine xt ?_;cases h;exact⟨_,_,⟨y,d0,o,rfl⟩,rfl⟩

theorem zcS:Enters Tryz.prog 54:=⟨_,_,Tryz.func54,rfl,by kernel_rfl⟩
def z55 (fuel:Nat) (t2:Int):Option Int:=some t2
def z1K (fuel:Nat) (x0:(List D.Agent)) (s1:Int × Int):Option (Rd (Int × Int) (Int) (Int)):=(if(decide (s1.2<(x0.length:Int)))=true then((idx x0 s1.2).bind fun y=>(if(y.Kind != s1.1)=true then some (.ret (-1)) else((idx x0 s1.2).bind fun z=>(if(z.Level != (w64 (s1.1+1)))=true then some (.ret (-1)) else((idx x0 s1.2).bind fun G=>(if(G.Value != (w64 ((w64 (s1.1+1))+1)))=true then some (.ret (-1)) else((idx x0 s1.2).bind fun H=>((z2O fuel H.Data (w64 ((w64 ((w64 (s1.1+1))+1))+1))).bind fun h=>(if(decide (h<0))=true then some (.ret (-1)) else((idx x0 s1.2).bind fun L=>((z3p fuel L.Ports h).bind fun o=>(if(decide (o<0))=true then some (.ret (-1)) else some (.next (o,w64 (s1.2+1))))))))))))))) else some (.brk s1.1))
def z2P (fuel:Nat) (x0:(List D.Agent)) (x1:Int):Option (Int):=((iter (z1K fuel x0) fuel (x1,0)).bind fun o=>aft o (z55 fuel))

theorem laws_heldAgentS_ok {W w:World}(hE:Ext W w){O:Option Addr}{B0:Nat}{x0:(List D.Agent)}{x1:Int}(G:ty40.ro W [sl O x0 B0] x0){fuel:Nat}{r:Int}(hm:z2P fuel x0 x1=some r):
    Calls Tryz.prog 54 ⟨[sl O x0 B0,.int .i64 x1]⟩ w (Ret fun v w8=>v=.int .i64 r∧St w w8 []):=by
  refine into Tryz.func54 58 _ ?_;unfold z2P at hm;have hS:=St.start w;refine sq<|rg<|rr 1 ?_;refine rn<|sq<|sq<|rg<|rr 1 ?_;refine rn ?_;obtain⟨Q0,f0,hm⟩:=bS hm;refine ct (fun(t2:Int) F w9=>Q0=.inl t2∧Ext w w9∧St w w9 []∧F=[(1,.int .i64 t2)]) ?_ ?_
  · rintro t2 F w7 ⟨g0,u1,Z,rfl⟩;subst g0;rw [z3] at hm;unfold z55 at hm;refine sq<|rg<|rr 2 ?_;refine rn<|rt ?_;cases hm;exact⟨_,.cons (.tmp rfl) .nil,rfl,Z⟩
  · refine bk<|wk [0,1,5] ?_;refine it (fun(s1:Int × Int) F w9=>Ext w w9∧St w w9 []∧F=[(0,sl O x0 B0),(1,.int .i64 s1.1),(5,.int .i64 s1.2)]) f0 ⟨(Ext.refl _),hS,rfl⟩ ?_;rintro s1 F T1 _ J1 ⟨C0,o,rfl⟩ h y;unfold z1K at h;refine sq<|sq<|rg<|rr 4 ?_;refine rn<|ci h (fun h=>?_) (fun h=>?_)
    · refine sp<|sq<|bk<|sq<|sq<|rg<|rr 2 ?_;obtain⟨W1,q0,h⟩:=bS h;refine ix (hE.trans o.ext) G q0 (fun K1 J0 a0 i0=>?_);obtain⟨R0,v1,S0,y1,D0,g1,i1⟩:=z1Y i0;subst D0;refine rr 1 ?_;refine l1 (At.ext (hE.trans o.ext) a0) 0 ?_;refine rr 2 ?_;refine rn<|ci h (fun h=>?_) (fun h=>?_)
      · refine sq<|rg<|rr 1 ?_;refine rn<|rt ?_;cases h;cases y;have hm:some _=some _:=hm;cases hm;exact⟨_,.cons (.tmp rfl) .nil,rfl,o⟩
      · refine sp<|sq<|rg<|rr 3 ?_;refine rn<|sq<|sq<|rg<|rr 2 ?_;obtain⟨X1,r0,h⟩:=bS h;refine ix (hE.trans o.ext) G r0 (fun L1 K0 b0 j0=>?_);obtain⟨T0,A1,U0,B1,E0,j1,k1⟩:=z1Y j0;subst E0;refine rr 1 ?_;refine l1 (At.ext (hE.trans o.ext) b0) 1 ?_;refine rr 2 ?_;refine rn<|ci h (fun h=>?_) (fun h=>?_)
        · refine sq<|rg<|rr 1 ?_;refine rn<|rt ?_;cases h;cases y;have hm:some _=some _:=hm;cases hm;exact⟨_,.cons (.tmp rfl) .nil,rfl,o⟩
        · refine sp<|sq<|rg<|rr 3 ?_;refine rn<|sq<|sq<|rg<|rr 2 ?_;obtain⟨Y1,t0,h⟩:=bS h;refine ix (hE.trans o.ext) G t0 (fun M1 L0 c0 k0=>?_);obtain⟨V0,C1,X0,D1,F0,m1,n1⟩:=z1Y k0;subst F0;refine rr 1 ?_;refine l1 (At.ext (hE.trans o.ext) c0) 2 ?_;refine rr 2 ?_;refine rn<|ci h (fun h=>?_) (fun h=>?_)
          · refine sq<|rg<|rr 1 ?_;refine rn<|rt ?_;cases h;cases y;have hm:some _=some _:=hm;cases hm;exact⟨_,.cons (.tmp rfl) .nil,rfl,o⟩
          · refine sp<|sq<|rg<|rr 3 ?_;refine rn<|sq<|rg<|rr 2 ?_;obtain⟨a2,u0,h⟩:=bS h;refine ix (hE.trans o.ext) G u0 (fun N1 M0 d0 o0=>?_);obtain⟨Y0,E1,a1,F1,G0,O0,p1⟩:=z1Y o0;subst G0;refine rr 1 ?_;refine l1 (At.ext (hE.trans o.ext) d0) 3 ?_;refine rr 1 ?_;obtain⟨P1,v0,h⟩:=bS h;refine ca zcJ (laws_heldInt64S_ok (hE.trans o.ext) O0 v0) (fun R1 U1 X=>?_);obtain⟨rfl,H⟩:=X;have z:=o.join H;refine rr 1 ?_;refine rn<|sq<|sq<|rg<|rr 2 ?_;refine rn<|ci h (fun h=>?_) (fun h=>?_)
            · refine sq<|rg<|rr 1 ?_;refine rn<|rt ?_;cases h;cases y;have hm:some _=some _:=hm;cases hm;exact⟨_,.cons (.tmp rfl) .nil,rfl,z⟩
            · refine sp<|sq<|rg<|rr 2 ?_;obtain⟨d2,y0,h⟩:=bS h;refine ix (hE.trans z.ext) G y0 (fun O1 N0 e0 p0=>?_);obtain⟨d1,G1,e1,H1,H0,t1,P0⟩:=z1Y p0;subst H0;refine rr 1 ?_;refine l1 (At.ext (hE.trans z.ext) e0) 4 ?_;refine rr 1 ?_;obtain⟨Q1,A0,h⟩:=bS h;refine ca zch (laws_heldPortS_ok (hE.trans z.ext) P0 A0) (fun S1 V1 Y=>?_);obtain⟨rfl,L⟩:=Y;have M:=z.join L;refine rr 1 ?_;refine rn<|sq<|rg<|rr 2 ?_;refine rn<|ci h (fun h=>?_) (fun h=>?_)
              · refine sq<|rg<|rr 1 ?_;refine rn<|rt ?_;cases h;cases y;have hm:some _=some _:=hm;cases hm;exact⟨_,.cons (.tmp rfl) .nil,rfl,M⟩
              · refine sp<|rg<|rr 3 ?_;refine rn ?_;cases h;exact⟨_,_,rfl,⟨((C0.trans H.ext).trans L.ext),M,rfl⟩,rfl⟩
    · refine xt ?_;cases h;exact⟨_,_,⟨y,C0,o,rfl⟩,rfl⟩

theorem zai:Enters Tryz.prog 18:=⟨_,_,Tryz.func18,rfl,by kernel_rfl⟩
def z3v (fuel:Nat) (x0:D.Net) (x1:Int):Option (Int):=((z2P fuel x0.Agents x1).bind fun h=>(if(decide (h<0))=true then some (-1) else some h))

theorem laws_heldNet_ok {W w:World}(hE:Ext W w){H:List Value}{x0:D.Net}{x1:Int}(L:ty42.ro W H x0){fuel:Nat}{r:Int}(hm:z3v fuel x0 x1=some r):
    Calls Tryz.prog 18 ⟨[.agg ⟨H⟩,.int .i64 x1]⟩ w (Ret fun v w8=>v=.int .i64 r∧St w w8 []):=by
  obtain⟨A1,k2,e4,h3⟩:=z7g L;subst e4;refine into Tryz.func18 12 _ ?_;unfold z3v at hm;have hS:=St.start w;refine sq<|rg<|nw hS (fun g5 w6 e7 h=>?_);refine rr 1 ?_;refine rn<|sq<|rg<|rr 1 ?_;refine l1 ((h.bring 0 rfl).box) 0 ?_;refine rr 1 ?_;obtain⟨M,G,hm⟩:=bS hm;refine ca zcS (laws_heldAgentS_ok (hE.trans h.ext) h3 G) (fun O X y=>?_);obtain⟨rfl,z⟩:=y;have o:=h.join z;refine rr 1 ?_;refine rn<|sq<|sq<|rg<|rr 2 ?_;refine rn<|ci hm (fun hm=>?_) (fun hm=>?_)
  · refine sq<|rg<|rr 1 ?_;refine rn<|rt ?_;cases hm;exact⟨_,.cons (.tmp rfl) .nil,rfl,(o.taken 0)⟩
  · refine sp<|sq<|rg<|rr 2 ?_;refine rn<|rt ?_;cases hm;exact⟨_,.cons (.tmp rfl) .nil,rfl,(o.taken 0)⟩

def z12 (fuel:Nat) (h:Int × (List D.Agent)) (y:Bool):Option Bool:=(if y=true then some false else((z3v fuel (⟨h.2⟩:D.Net) 1).bind fun o=>(if(decide (o<0))=true then some false else(if(o != h.1)=true then some false else some true))))
def zH (fuel:Nat) (x0:D.Memory) (L:D.Net × Int) (M:D.Net × Int) (H:Bool):Option Bool:=(if H=true then some false else((z4n fuel M.1 1).bind fun h=>((z3v fuel (⟨h.2⟩:D.Net) 1).bind fun o=>(if(decide (o<0))=true then some false else(if(o != h.1)=true then some false else((z1D fuel x0).bind fun z=>((z2e fuel z).bind fun y=>((z3Q fuel y.1 L.1).bind fun G=>(if(!G)=true then z12 fuel h true else z12 fuel h (y.2 != L.2))))))))))
def z13 (fuel:Nat) (x0:D.Memory) (h:D.Net × Int) (H:D.Memory) (o:D.Net × Int) (M:Bool):Option Bool:=(if M=true then some false else((z1D fuel x0).bind fun L=>((z3R fuel H L).bind fun y=>(if(!y)=true then some false else((z2M fuel H 1).bind fun z=>(if(decide (z.1<0))=true then zH fuel x0 h o true else((z3Q fuel o.1 h.1).bind fun G=>(if(!G)=true then zH fuel x0 h o true else zH fuel x0 h o (o.2 != h.2)))))))))
def z1U (fuel:Nat) (x0:D.Memory):Option (Bool):=((z3O fuel x0 1048576).bind fun G=>(if(decide (G<0))=true then some true else((z1D fuel x0).bind fun H=>((z3j fuel H).bind fun h=>((z1D fuel x0).bind fun z=>((z2e fuel z).bind fun o=>((z3Q fuel o.1 h.1).bind fun y=>(if(!y)=true then z13 fuel x0 h z o true else z13 fuel x0 h z o (o.2 != h.2)))))))))

theorem laws_FnExactUnloadNet_ok {W w:World}(hE:Ext W w){u2:List Value}{x0:D.Memory}(F0:ty27.ro W u2 x0){fuel:Nat}{r:Bool}(hm:z1U fuel x0=some r):
    Calls Tryz.prog 4 ⟨[.agg ⟨u2⟩]⟩ w (Ret fun v w8=>v=.bool r∧St w w8 []):=by
  obtain⟨A1,k2,A4,k5,e7,h3,h6⟩:=z7h F0;subst e7;refine into Tryz.func4 96 _ ?_;unfold z1U at hm;have hS:=St.start w;refine sq<|rg<|nw hS (fun C1 T3 D3 y0=>?_);refine rr 1 ?_;refine rn<|sq<|rg<|rr 1 ?_;refine rn<|sq<|rg<|lN ((y0.bring 0 rfl).box) ?_;refine rr 1 ?_;obtain⟨M3,d2,hm⟩:=bS hm;refine ca zds (laws_szMemory_ok (hE.trans y0.ext) F0 d2) (fun N3 U3 F1=>?_);obtain⟨rfl,G1⟩:=F1;have o0:=y0.join G1;refine rr 1 ?_;refine rn<|sq<|sq<|rg<|rr 2 ?_;refine rn<|ci hm (fun hm=>?_) (fun hm=>?_)
  · refine sq<|rg<|rr 1 ?_;refine rn<|rt ?_;cases hm;exact⟨_,.cons (.tmp rfl) .nil,rfl,(o0.taken 0)⟩
  · refine sp<|sq<|rg<|lN ((o0.bring 0 rfl).box) ?_;obtain⟨U2,e2,hm⟩:=bS hm;refine ca z8J (laws_toMemory_ok (hE.trans o0.ext) F0 e2) (fun O3 V3 H1=>?_);obtain⟨y3,H3,A3,J3,rfl,J1⟩:=H1;have A0:=o0.join J1;obtain⟨M,g2,hm⟩:=bS hm;refine ca zd8 (z6K (Ext.refl _) (z60 U2 ((A0.bring 0 rfl).own) ((A0.bring 1 rfl).own)) g2) (fun P3 W3 K1=>?_);obtain⟨B1,E1,rfl,L1⟩:=K1;have R1:=A0.join L1;refine rr 3 ?_;refine nw R1 (fun D1 X3 E3 S1=>?_);have T1:=S1.bring 0 rfl;refine so (A:=[]) T1 0 (fun Y3 B0=>?_);refine rr 1 ?_;refine rn<|sq<|rg<|lN ((B0.bring 4 rfl).box) ?_;obtain⟨i0,i2,hm⟩:=bS hm;refine ca z8J (laws_toMemory_ok (hE.trans B0.ext) F0 i2) (fun Q3 a4 M1=>?_);obtain⟨r2,B2,t2,C2,rfl,N1⟩:=M1;have U1:=B0.join N1;refine nw U1 (fun v2 b4 F3 V1=>?_);have W1:=V1.bring 0 rfl;refine so (A:=[]) W1 0 (fun c4 p0=>?_);refine rn<|sq<|rg<|lN ((p0.bring 0 rfl).box) ?_;obtain⟨O,j2,hm⟩:=bS hm;refine ca zaj (z5Q (Ext.refl _) (z60 i0 ((p0.bring 1 rfl).own) ((p0.bring 2 rfl).own)) j2) (fun R3 d4 O1=>?_);obtain⟨j0,k0,rfl,P1⟩:=O1;have X1:=p0.join P1;refine rr 3 ?_;refine nw X1 (fun E0 e4 G3 Y1=>?_);have a2:=Y1.bring 0 rfl;refine so (A:=[]) a2 0 (fun v3 f0=>?_);refine rr 1 ?_;refine rn<|sq<|sq<|ct (fun(o2:Bool) F w9=>z13 fuel x0 M i0 O o2=some r∧Ext v3 w9∧St w w9 [Box E0 [sl j0 O.1.Agents k0] 42,ow ty40 j0 O.1.Agents k0,Box v2 [sl r2 i0.Cells B2,.int .i64 i0.Free,.int .i64 i0.Root.Tag,.int .i64 i0.Root.At,sl t2 i0.Redexes C2] 33,ow ty29 r2 i0.Cells B2,ow ty31 t2 i0.Redexes C2,Box D1 [sl B1 M.1.Agents E1] 42,ow ty40 B1 M.1.Agents E1,Box C1 [sl A1 x0.Cells k2,.int .i64 x0.Free,.int .i64 x0.Root.Tag,.int .i64 x0.Root.At,sl A4 x0.Redexes k5] 27]∧F=[(1,.pointer (some ⟨C1,0,none⟩)),(4,.pointer (some ⟨D1,0,none⟩)),(5,.int .i64 M.2),(6,.pointer (some ⟨v2,0,none⟩)),(7,.pointer (some ⟨E0,0,none⟩)),(8,.int .i64 O.2),(40,.bool o2)]) ?_ ?_
    · rintro o2 F f4 ⟨hm,J2,g0,rfl⟩;unfold z13 at hm;refine ci hm (fun hm=>?_) (fun hm=>?_)
      · refine sq<|rg<|rr 1 ?_;refine rn<|rt ?_;cases hm;exact⟨_,.cons (.tmp rfl) .nil,rfl,(g0.taken 0)⟩
      · refine sp<|sq<|sq<|dn 0 mixed 5 [([],31),([],31),([1],29),([0,2,2],26),([3],23)] g0.ext (fun H=>?_);have e1:=g0.step (Ext.draw _);refine dL H 0 ((g0.bring 2 rfl).box) ?_;refine dL H 1 ((g0.bring 7 rfl).box) ?_;obtain⟨V2,m2,hm⟩:=bS hm;refine o1 H 2 (mc H z8J (laws_toMemory_ok (hE.trans e1.ext) F0 m2) (fun S3 g4 Q1=>?_));obtain⟨B3,K3,C3,L3,rfl,V0⟩:=Q1;refine⟨V0.ext,?_⟩;have y:=e1.join V0;obtain⟨N2,g1,hm⟩:=bS hm;refine o1 H 3 (mc H zda (laws_eqMemory_ok (Ext.refl _) (z60 i0 ((y.bring 5 rfl).own) ((y.bring 6 rfl).own)) (z60 V2 ((y.bring 0 rfl).own) ((y.bring 1 rfl).own)) g1) (fun W2 i3 G0=>?_));obtain⟨rfl,q0⟩:=G0;refine⟨q0.ext,?_⟩;have a0:=y.join q0;refine dr 0 H [4] ?_;refine dd H ?_;refine ci hm (fun hm=>?_) (fun hm=>?_)
        · refine sq<|rg<|rr 1 ?_;refine rn<|rt ?_;cases hm;exact⟨_,.cons (.tmp rfl) .nil,rfl,(a0.taken 0)⟩
        · refine sp<|sq<|rg<|rr 1 ?_;refine rn<|sq<|rg<|lN ((a0.bring 4 rfl).box) ?_;refine rr 1 ?_;obtain⟨O2,i1,hm⟩:=bS hm;refine ca zd9 (laws_markMemory_ok (W:=w) (RR:=_) (x0:=i0) (x1:=1) ((a0.bring 6 rfl).bring 6 rfl)  i1) (fun X2 p2 H0=>?_);obtain⟨rfl,h⟩:=H0;refine rr 1 ?_;refine rn<|sq<|sq<|ct (fun(C0:Bool) F w9=>zH fuel x0 M O C0=some r∧Ext p2 w9∧St w w9 [Box E0 [sl j0 O.1.Agents k0] 42,ow ty40 j0 O.1.Agents k0,Box D1 [sl B1 M.1.Agents E1] 42,ow ty40 B1 M.1.Agents E1,Box C1 [sl A1 x0.Cells k2,.int .i64 x0.Free,.int .i64 x0.Root.Tag,.int .i64 x0.Root.At,sl A4 x0.Redexes k5] 27]∧F=[(1,.pointer (some ⟨C1,0,none⟩)),(4,.pointer (some ⟨D1,0,none⟩)),(5,.int .i64 M.2),(7,.pointer (some ⟨E0,0,none⟩)),(61,.bool C0)]) ?_ ?_
          · rintro C0 F j3 ⟨hm,y2,b0,rfl⟩;unfold zH at hm;refine ci hm (fun hm=>?_) (fun hm=>?_)
            · refine sq<|rg<|rr 1 ?_;refine rn<|rt ?_;cases hm;exact⟨_,.cons (.tmp rfl) .nil,rfl,(b0.taken 0)⟩
            · refine sp<|sq<|rg<|rr 1 ?_;refine rn<|sq<|rg<|lN ((b0.bring 0 rfl).box) ?_;refine rr 1 ?_;obtain⟨o,j1,hm⟩:=bS hm;refine ca zd7 (laws_markNet_ok (W:=w) (RR:=_) (x0:=O.1) (x1:=1) (b0.bring 1 rfl)  j1) (fun Y2 k3 J0=>?_);obtain⟨rfl,c0⟩:=J0;refine rr 1 ?_;refine rn<|sq<|rg<|rr 1 ?_;refine rn<|sq<|rg<|lN ((c0.bring 1 rfl).box) ?_;refine rr 1 ?_;have hn125:=(c0.bring 0 rfl).lenEq;have X0:=(c0.bring 0 rfl).reLen hn125;have r0:=(X0.bring 1 rfl).reBox (cs':=[.slice j0 o.2.length k0]) (by show([.slice j0 O.1.Agents.length k0]:List Value)=[.slice j0 o.2.length k0];first | (simp only [sl,hn125];done) | (simp only [sl,hn125];rfl));refine kn (u:=.agg ⟨[.slice j0 o.2.length k0]⟩) 65 rfl (by simp only [sl,hn125]) ?_;obtain⟨P2,k1,hm⟩:=bS hm;refine ca zai (laws_heldNet_ok (Ext.refl _) (z4W (⟨o.2⟩:D.Net) ((r0.bring 1 rfl).own)) k1) (fun a3 m3 K0=>?_);obtain⟨rfl,L0⟩:=K0;have z:=r0.join L0;refine rr 1 ?_;refine rn<|sq<|sq<|rg<|rr 2 ?_;refine rn<|ci hm (fun hm=>?_) (fun hm=>?_)
              · refine sq<|rg<|rr 1 ?_;refine rn<|rt ?_;cases hm;exact⟨_,.cons (.tmp rfl) .nil,rfl,(z.taken 0)⟩
              · refine sp<|sq<|sq<|rg<|rr 3 ?_;refine rn<|ci hm (fun hm=>?_) (fun hm=>?_)
                · refine sq<|rg<|rr 1 ?_;refine rn<|rt ?_;cases hm;exact⟨_,.cons (.tmp rfl) .nil,rfl,(z.taken 0)⟩
                · refine sp<|sq<|rg<|lN ((z.bring 4 rfl).box) ?_;obtain⟨n2,m1,hm⟩:=bS hm;refine ca z8J (laws_toMemory_ok (hE.trans z.ext) F0 m1) (fun b3 n3 M0=>?_);obtain⟨D2,K2,E2,L2,rfl,N0⟩:=M0;have d0:=z.join N0;obtain⟨y1,n1,hm⟩:=bS hm;refine ca zaj (z5Q (Ext.refl _) (z60 n2 ((d0.bring 0 rfl).own) ((d0.bring 1 rfl).own)) n1) (fun c3 o3 O0=>?_);obtain⟨F2,M2,rfl,P0⟩:=O0;have Y0:=d0.join P0;refine rr 3 ?_;refine nw Y0 (fun H2 p3 G2 a1=>?_);have d1:=a1.bring 0 rfl;refine so (A:=[]) d1 0 (fun q2 G=>?_);refine rr 1 ?_;refine rn<|sq<|sq<|ct (fun(D0:Bool) F w9=>z12 fuel o D0=some r∧Ext q2 w9∧St w w9 [Box E0 [sl j0 o.2 k0] 42,ow ty40 j0 o.2 k0]∧F=[(7,.pointer (some ⟨E0,0,none⟩)),(10,.int .i64 o.1),(87,.bool D0)]) ?_ ?_
                  · rintro D0 F q3 ⟨hm,A2,L,rfl⟩;unfold z12 at hm;refine ci hm (fun hm=>?_) (fun hm=>?_)
                    · refine sq<|rg<|rr 1 ?_;refine rn<|rt ?_;cases hm;exact⟨_,.cons (.tmp rfl) .nil,rfl,(L.taken 0)⟩
                    · refine sp<|sq<|rg<|rr 1 ?_;refine rn<|sq<|rg<|lN ((L.bring 0 rfl).box) ?_;refine rr 1 ?_;obtain⟨Q2,p1,hm⟩:=bS hm;refine ca zai (laws_heldNet_ok (Ext.refl _) (z4W (⟨o.2⟩:D.Net) ((L.bring 1 rfl).own)) p1) (fun d3 r3 Q0=>?_);obtain⟨rfl,R0⟩:=Q0;have e0:=L.join R0;refine rr 1 ?_;refine rn<|sq<|sq<|rg<|rr 2 ?_;refine rn<|ci hm (fun hm=>?_) (fun hm=>?_)
                      · refine sq<|rg<|rr 1 ?_;refine rn<|rt ?_;cases hm;exact⟨_,.cons (.tmp rfl) .nil,rfl,(e0.taken 0)⟩
                      · refine sp<|sq<|sq<|rg<|rr 3 ?_;refine rn<|ci hm (fun hm=>?_) (fun hm=>?_)
                        · refine sq<|rg<|rr 1 ?_;refine rn<|rt ?_;cases hm;exact⟨_,.cons (.tmp rfl) .nil,rfl,(e0.taken 0)⟩
                        · refine sp<|sq<|rg<|rr 1 ?_;refine rn<|rt ?_;cases hm;exact⟨_,.cons (.tmp rfl) .nil,rfl,(e0.taken 0)⟩
                  · refine rg<|lN ((G.bring 0 rfl).box) ?_;refine lN ((G.bring 6 rfl).box) ?_;obtain⟨R2,t1,hm⟩:=bS hm;refine ca z8K (laws_eqNet_ok (Ext.refl _) (z4W y1.1 ((G.bring 1 rfl).own)) (z4W M.1 ((G.bring 7 rfl).own)) t1) (fun e3 s3 S0=>?_);obtain⟨rfl,X⟩:=S0;have t0:=G.join X;refine rr 2 ?_;refine rb 83 hm (fun hm=>?_) (fun hm=>?_)
                    · refine rr 4 ?_;refine rn ?_;exact⟨true,_,⟨hm,X.ext,(((t0.bring 5 rfl).bring 5 rfl).taken 2),rfl⟩,rfl⟩
                    · refine rr 4 ?_;refine rn ?_;exact⟨(y1.2 != M.2),_,⟨hm,X.ext,(((t0.bring 5 rfl).bring 5 rfl).taken 2),rfl⟩,rfl⟩
          · refine rg<|rr 3 ?_;refine rb 51 hm (fun hm=>?_) (fun hm=>?_)
            · refine rr 10 ?_;refine rn ?_;exact⟨true,_,⟨hm,(Ext.refl _),(h.sel [4,5,7,8,9]),rfl⟩,rfl⟩
            · refine lN ((h.bring 4 rfl).box) ?_;refine lN ((h.bring 7 rfl).box) ?_;obtain⟨S2,u1,hm⟩:=bS hm;refine ca z8K (laws_eqNet_ok (Ext.refl _) (z4W O.1 ((h.bring 5 rfl).own)) (z4W M.1 ((h.bring 8 rfl).own)) u1) (fun f3 t3 T0=>?_);obtain⟨rfl,Y⟩:=T0;have u0:=h.join Y;refine rr 3 ?_;refine rb 57 hm (fun hm=>?_) (fun hm=>?_)
              · refine rr 4 ?_;refine rn ?_;exact⟨true,_,⟨hm,Y.ext,(u0.sel [4,5,7,8,9]),rfl⟩,rfl⟩
              · refine rr 4 ?_;refine rn ?_;exact⟨(O.2 != M.2),_,⟨hm,Y.ext,(u0.sel [4,5,7,8,9]),rfl⟩,rfl⟩
    · refine rg<|lN ((f0.bring 0 rfl).box) ?_;refine lN ((f0.bring 5 rfl).box) ?_;obtain⟨T2,v1,hm⟩:=bS hm;refine ca z8K (laws_eqNet_ok (Ext.refl _) (z4W O.1 ((f0.bring 1 rfl).own)) (z4W M.1 ((f0.bring 6 rfl).own)) v1) (fun g3 u3 U0=>?_);obtain⟨rfl,Z⟩:=U0;have v0:=f0.join Z;refine rr 2 ?_;refine rb 36 hm (fun hm=>?_) (fun hm=>?_)
      · refine rr 4 ?_;refine rn ?_;exact⟨true,_,⟨hm,Z.ext,(v0.sel [0,1,2,3,4,5,6,9]),rfl⟩,rfl⟩
      · refine rr 4 ?_;refine rn ?_;exact⟨(O.2 != M.2),_,⟨hm,Z.ext,(v0.sel [0,1,2,3,4,5,6,9]),rfl⟩,rfl⟩

end Go.E


namespace Go.E
open Go.RowKit Go.Proofs
set_option linter.unusedSimpArgs false
set_option linter.unusedVariables false

theorem z7j {fuel:Nat}{x:D.Word}(hf:18446744073709551616≤fuel) (hs:0≤1048576):z42 fuel x=some x:=by
  skip
  unfold z42
  rfl

theorem z7R {fuel:Nat}{x:D.Word}(hf:18446744073709551616≤fuel) (hs:0≤1048576):z47 fuel x x=some true:=by
  skip
  simp [z47,z2B]

theorem z9M {fuel:Nat}{x:D.Pair}(hf:18446744073709551616≤fuel) (hs:0≤1048576):z4E fuel x=some x:=by
  skip
  unfold z4E
  rfl

theorem z9T {fuel:Nat}{x:D.Pair}(hf:18446744073709551616≤fuel) (hs:0≤1048576):z4J fuel x x=some true:=by
  skip
  simp [z4J,z2B]

theorem z8o {fuel:Nat}{x:(List Int)}{l:Int}(hf:18446744073709551616≤fuel) (hw:WfL I64 x) (h0:0≤l) (h1:l≤1048576):SzOk (x.length) l (z3P fuel x l):=by
  unfold z3P
  generalize hz:w64 (l - (x.length:Int))=z
  exact SzOk.sub2 h0 h1 hw.1 (m:=0) rfl hz fun g0 g1=>SzOk.same g0

theorem z8m {fuel:Nat}{x:(List Int)}(hf:18446744073709551616≤fuel) (hs:x.length≤1048576):z3N fuel x=some x:=by
  have hl:=hs
  unfold z3N
  refine z6E hl hf (fun _=>rfl) ?_ ?_
  · intro i y out hy h
    have hi:=(List.getElem?_eq_some_iff.1 hy).1
    have hsy:0≤1048576:=Nat.zero_le _
    simp only [z3z,zO hy,Option.bind_some,lt_t (show(i:Int)<x.length by omega),if_true]
    rw [if_pos (by simp;omega)]
    simp
  · intro out
    simp [z3z]

theorem z6C {fuel:Nat}{x:(List Int)}(hf:18446744073709551616≤fuel) (hs:x.length≤1048576):z2Q fuel x x=some true:=by
  have hl:=hs
  unfold z2Q
  rw [if_neg (by simp)]
  refine z5b (n:=x.length) (t:=()) (by unfold maxLen;omega) hf rfl ?_ ?_
  · intro i hi
    obtain⟨y,hy⟩:=z4Y hi
    have hsy:0≤1048576:=Nat.zero_le _
    simp [z3A,zO hy,hi,z2B]
  · simp [z3A]

theorem z9S {fuel:Nat}{x:D.Port}(hf:18446744073709551616≤fuel) (hs:0≤1048576):z4H fuel x x=some true:=by
  skip
  simp [z4H,z2B]

theorem z93 {fuel:Nat}{x:(List D.Pair)}{l:Int}(hf:18446744073709551616≤fuel) (hw:WfL D.Pair.wf x) (h0:0≤l) (h1:l≤1048576):SzOk (x.length) l (z4k fuel x l):=by
  unfold z4k
  generalize hz:w64 (l - (x.length:Int))=z
  exact SzOk.sub2 h0 h1 hw.1 (m:=0) rfl hz fun g0 g1=>SzOk.same g0

theorem z90 {fuel:Nat}{x:(List D.Pair)}(hf:18446744073709551616≤fuel) (hs:x.length≤1048576):z4h fuel x=some x:=by
  have hl:=hs
  unfold z4h
  refine z6E hl hf (fun _=>rfl) ?_ ?_
  · intro i y out hy h
    have hi:=(List.getElem?_eq_some_iff.1 hy).1
    have hsy:0≤1048576:=Nat.zero_le _
    simp only [z43,zO hy,Option.bind_some,lt_t (show(i:Int)<x.length by omega),if_true,z9M hf hsy]
    rw [if_pos (by simp;omega)]
    simp
  · intro out
    simp [z43]

theorem z9p {fuel:Nat}{x:(List D.Pair)}(hf:18446744073709551616≤fuel) (hs:x.length≤1048576):z4q fuel x x=some true:=by
  have hl:=hs
  unfold z4q
  rw [if_neg (by simp)]
  refine z5b (n:=x.length) (t:=()) (by unfold maxLen;omega) hf rfl ?_ ?_
  · intro i hi
    obtain⟨y,hy⟩:=z4Y hi
    have hsy:0≤1048576:=Nat.zero_le _
    simp [z49,zO hy,hi,z2B,z9T hf hsy]
  · simp [z49]

theorem z92 {fuel:Nat}{x:(List D.Word)}{l:Int}(hf:18446744073709551616≤fuel) (hw:WfL D.Word.wf x) (h0:0≤l) (h1:l≤1048576):SzOk (x.length) l (z4j fuel x l):=by
  unfold z4j
  generalize hz:w64 (l - (x.length:Int))=z
  exact SzOk.sub2 h0 h1 hw.1 (m:=0) rfl hz fun g0 g1=>SzOk.same g0

theorem z8Z {fuel:Nat}{x:(List D.Word)}(hf:18446744073709551616≤fuel) (hs:x.length≤1048576):z4g fuel x=some x:=by
  have hl:=hs
  unfold z4g
  refine z6E hl hf (fun _=>rfl) ?_ ?_
  · intro i y out hy h
    have hi:=(List.getElem?_eq_some_iff.1 hy).1
    have hsy:0≤1048576:=Nat.zero_le _
    simp only [z41,zO hy,Option.bind_some,lt_t (show(i:Int)<x.length by omega),if_true,z7j hf hsy]
    rw [if_pos (by simp;omega)]
    simp
  · intro out
    simp [z41]

theorem z9n {fuel:Nat}{x:(List D.Word)}(hf:18446744073709551616≤fuel) (hs:x.length≤1048576):z4o fuel x x=some true:=by
  have hl:=hs
  unfold z4o
  rw [if_neg (by simp)]
  refine z5b (n:=x.length) (t:=()) (by unfold maxLen;omega) hf rfl ?_ ?_
  · intro i hi
    obtain⟨y,hy⟩:=z4Y hi
    have hsy:0≤1048576:=Nat.zero_le _
    simp [z46,zO hy,hi,z2B,z7R hf hsy]
  · simp [z46]

theorem z9o {fuel:Nat}{x:(List D.Port)}(hf:18446744073709551616≤fuel) (hs:x.length≤1048576):z4p fuel x x=some true:=by
  have hl:=hs
  unfold z4p
  rw [if_neg (by simp)]
  refine z5b (n:=x.length) (t:=()) (by unfold maxLen;omega) hf rfl ?_ ?_
  · intro i hi
    obtain⟨y,hy⟩:=z4Y hi
    have hsy:0≤1048576:=Nat.zero_le _
    simp [z48,zO hy,hi,z2B,z9S hf hsy]
  · simp [z48]

theorem z9O {fuel:Nat}{x:D.Cell}{l:Int}(hf:18446744073709551616≤fuel) (hw:D.Cell.wf x) (h0:0≤l) (h1:l≤1048576):SzOk (D.Cell.sz x) l (z4G fuel x l):=by
  obtain⟨w0,w1,w2,w3,w4,_⟩:=hw
  unfold z4G D.Cell.sz
  refine SzOk.bind (z8o hf w3 h0 (by omega)) rfl fun r1 g1a g1b=>?_
  refine SzOk.bind (z92 hf w4 g1a (by omega)) rfl fun r2 g2a g2b=>?_
  exact SzOk.same g2a

theorem z9N {fuel:Nat}{x:D.Cell}(hf:18446744073709551616≤fuel) (hs:D.Cell.sz x≤1048576):z4F fuel x=some x:=by
  unfold D.Cell.sz at hs
  unfold z4F
  simp only [z8m hf (show x.Data.length≤1048576 by omega),z8Z hf (show x.Words.length≤1048576 by omega),Option.bind_some]

theorem z9U {fuel:Nat}{x:D.Cell}(hf:18446744073709551616≤fuel) (hs:D.Cell.sz x≤1048576):z4K fuel x x=some true:=by
  unfold D.Cell.sz at hs
  simp [z4K,z2B,z6C hf (show x.Data.length≤1048576 by omega),z9n hf (show x.Words.length≤1048576 by omega)]

theorem z9r {fuel:Nat}{x:D.Agent}(hf:18446744073709551616≤fuel) (hs:D.Agent.sz x≤1048576):z4s fuel x x=some true:=by
  unfold D.Agent.sz at hs
  simp [z4s,z2B,z6C hf (show x.Data.length≤1048576 by omega),z9o hf (show x.Ports.length≤1048576 by omega)]

theorem z94 {fuel:Nat}{x:(List D.Cell)}{l:Int}(hf:18446744073709551616≤fuel) (hw:WfL D.Cell.wf x) (h0:0≤l) (h1:l≤1048576):SzOk (szL D.Cell.sz x) l (z4m fuel x l):=by
  unfold z4m
  generalize hz:w64 (l - (x.length:Int))=z
  refine SzOk.sub2 h0 h1 hw.1 (m:=sumL D.Cell.sz x) rfl hz fun g0 g1=>?_
  refine SzOk.loop hw.1 hf g0 (by omega) (fun _=>rfl) ?_ ?_
  · intro i y l hy h0 h1
    have hi:=(List.getElem?_eq_some_iff.1 hy).1
    have hwy:=hw.2 y (List.mem_of_getElem? hy)
    obtain⟨r,h2,h3⟩:=z9O hf hwy h0 h1
    simp only [z45,zO hy,Option.bind_some,lt_t (show(i:Int)<x.length by omega),if_true,h2]
    by_cases hlt:r<0
    · exact .inl (by simp only [lt_t hlt,if_true])
    · exact .inr ⟨r,by simp only [lt_f hlt,if_false],h3.resolve_left hlt⟩
  · intro l
    simp [z45]

theorem z91 {fuel:Nat}{x:(List D.Cell)}(hf:18446744073709551616≤fuel) (hs:szL D.Cell.sz x≤1048576):z4i fuel x=some x:=by
  have hl:=z6G hs
  unfold z4i
  refine z6E hl hf (fun _=>rfl) ?_ ?_
  · intro i y out hy h
    have hi:=(List.getElem?_eq_some_iff.1 hy).1
    have hsy:D.Cell.sz y≤1048576:=z5T hs (List.mem_of_getElem? hy)
    simp only [z44,zO hy,Option.bind_some,lt_t (show(i:Int)<x.length by omega),if_true,z9N hf hsy]
    rw [if_pos (by simp;omega)]
    simp
  · intro out
    simp [z44]

theorem z9q {fuel:Nat}{x:(List D.Cell)}(hf:18446744073709551616≤fuel) (hs:szL D.Cell.sz x≤1048576):z4r fuel x x=some true:=by
  have hl:=z6G hs
  unfold z4r
  rw [if_neg (by simp)]
  refine z5b (n:=x.length) (t:=()) (by unfold maxLen;omega) hf rfl ?_ ?_
  · intro i hi
    obtain⟨y,hy⟩:=z4Y hi
    have hsy:D.Cell.sz y≤1048576:=z5T hs (List.mem_of_getElem? hy)
    simp [z4a,zO hy,hi,z2B,z9U hf hsy]
  · simp [z4a]

theorem z8E {fuel:Nat}{x:(List D.Agent)}(hf:18446744073709551616≤fuel) (hs:szL D.Agent.sz x≤1048576):z3S fuel x x=some true:=by
  have hl:=z6G hs
  unfold z3S
  rw [if_neg (by simp)]
  refine z5b (n:=x.length) (t:=()) (by unfold maxLen;omega) hf rfl ?_ ?_
  · intro i hi
    obtain⟨y,hy⟩:=z4Y hi
    have hsy:D.Agent.sz y≤1048576:=z5T hs (List.mem_of_getElem? hy)
    simp [z3B,zO hy,hi,z2B,z9r hf hsy]
  · simp [z3B]

theorem z8n {fuel:Nat}{x:D.Memory}{l:Int}(hf:18446744073709551616≤fuel) (hw:D.Memory.wf x) (h0:0≤l) (h1:l≤1048576):SzOk (D.Memory.sz x) l (z3O fuel x l):=by
  obtain⟨w0,w1,w2,w3,_⟩:=hw
  unfold z3O D.Memory.sz
  refine SzOk.bind (z94 hf w0 h0 (by omega)) rfl fun r1 g1a g1b=>?_
  refine SzOk.bind (z93 hf w3 g1a (by omega)) rfl fun r2 g2a g2b=>?_
  exact SzOk.same g2a

theorem z8k {fuel:Nat}{x:D.Memory}(hf:18446744073709551616≤fuel) (hs:D.Memory.sz x≤1048576):z1D fuel x=some x:=by
  unfold D.Memory.sz at hs
  unfold z1D
  simp only [z91 hf (show szL D.Cell.sz x.Cells≤1048576 by omega),z7j hf (show 0≤1048576 by exact Nat.zero_le _),z90 hf (show x.Redexes.length≤1048576 by omega),Option.bind_some]

theorem z8D {fuel:Nat}{x:D.Memory}(hf:18446744073709551616≤fuel) (hs:D.Memory.sz x≤1048576):z3R fuel x x=some true:=by
  unfold D.Memory.sz at hs
  simp [z3R,z2B,z9q hf (show szL D.Cell.sz x.Cells≤1048576 by omega),z7R hf (show 0≤1048576 by exact Nat.zero_le _),z9p hf (show x.Redexes.length≤1048576 by omega)]

theorem zaM {fuel:Nat}{x:D.Net}(hf:18446744073709551616≤fuel) (hs:D.Net.sz x≤1048576):z3Q fuel x x=some true:=by
  unfold D.Net.sz at hs
  simp [z3Q,z2B,z8E hf (show szL D.Agent.sz x.Agents≤1048576 by omega)]

theorem z6y:Opens Tryz.prog 2 tInt I64:=Opens.int Tryz.underlying2 (by kernel_rfl)
theorem zdk:Opens Tryz.prog 80 ty80 (WfL I64):=Opens.sl Tryz.underlying80 (by kernel_rfl) z6y
set_option maxRecDepth 100000 in
theorem zbq:Opens Tryz.prog 24 ty24 D.Word.wf:=Opens.struct (f:=fun c:D.Word=>(c.Tag,c.At,())) Tryz.underlying24 (by kernel_rfl) (OpensF.cons z6y rfl rfl (OpensF.cons z6y rfl rfl OpensF.nil)) (fun⟨a0,a1,_⟩=>⟨⟨a0,a1⟩,rfl⟩)
theorem zcy:Opens Tryz.prog 119 z8Y (WfL D.Word.wf):=Opens.sl Tryz.underlying119 (by kernel_rfl) zbq
set_option maxRecDepth 100000 in
theorem zcx:Opens Tryz.prog 121 z9L D.Cell.wf:=Opens.struct (f:=fun c:D.Cell=>(c.Kind,c.Level,c.Value,c.Data,c.Words,())) Tryz.underlying121 (by kernel_rfl) (OpensF.cons z6y rfl rfl (OpensF.cons z6y rfl rfl (OpensF.cons z6y rfl rfl (OpensF.cons zdk rfl rfl (OpensF.cons zcy rfl rfl OpensF.nil))))) (fun⟨a0,a1,a2,a3,a4,_⟩=>⟨⟨a0,a1,a2,a3,a4⟩,rfl⟩)
theorem zdo:Opens Tryz.prog 22 ty22 (WfL D.Cell.wf):=Opens.sl Tryz.underlying22 (by kernel_rfl) zcx
set_option maxRecDepth 100000 in
theorem zcw:Opens Tryz.prog 129 zaz D.Pair.wf:=Opens.struct (f:=fun c:D.Pair=>(c.A,c.B,())) Tryz.underlying129 (by kernel_rfl) (OpensF.cons z6y rfl rfl (OpensF.cons z6y rfl rfl OpensF.nil)) (fun⟨a0,a1,_⟩=>⟨⟨a0,a1⟩,rfl⟩)
theorem zdn:Opens Tryz.prog 25 ty25 (WfL D.Pair.wf):=Opens.sl Tryz.underlying25 (by kernel_rfl) zcw
set_option maxRecDepth 100000 in
theorem zdm:Opens Tryz.prog 27 ty27 D.Memory.wf:=Opens.struct (f:=fun c:D.Memory=>(c.Cells,c.Free,c.Root,c.Redexes,())) Tryz.underlying27 (by kernel_rfl) (OpensF.cons zdo rfl rfl (OpensF.cons z6y rfl rfl (OpensF.cons zbq rfl rfl (OpensF.cons zdn rfl rfl OpensF.nil)))) (fun⟨a0,a1,a2,a3,_⟩=>⟨⟨a0,a1,a2,a3⟩,rfl⟩)
end Go.E


