/- Models of functions and proofs that the code runs as they say (written by program). Conditions: the model gives a value. -/
import Derived.Test.YtfndicpnccabkaaGreatQB
import Derived.Test.YtfndicpnccabkaaGreatFD
namespace Go.E
open Go.RowKit Go.Proofs
set_option linter.unusedVariables false
set_option linter.unusedSimpArgs false
set_option maxHeartbeats 2000000
set_option maxRecDepth 100000

theorem zkC:Enters Tryz.prog 202:=⟨_,_,Tryz.func202,rfl,by kernel_rfl⟩
def z7h (fuel:Nat) (o:(List (List Int))):Option (List (List Int)):=some o
def z1Q (fuel:Nat) (q:(List (List Int)) × Int × (List Bool)) (o:(List (List Int)) × (List Bool)):Option (Rd ((List (List Int)) × Int × (List Bool)) ((List (List Int))) ((List (List Int)))):=some (.next (o.1,w64 (q.2.1+1),o.2))
def z5k (fuel:Nat) (o:(List (List Int)) × Int × (List Bool)) (G:(List Int)) (H:(List Bool)):Option (Rd ((List (List Int)) × Int × (List Bool)) ((List (List Int))) ((List (List Int)))):=((z2u fuel G).bind fun q=>(if decide ((o.1.length:Int)+(([q]:(List (List Int))).length:Int)≤4294967296)=true then z1Q fuel o ((o.1++([q]:(List (List Int)))),H) else none))
def z5m (fuel:Nat) (G:(List Int)) (o:Int × (List Bool)):Option (Rd (Int × (List Bool)) ((List Bool)) (Rd ((List (List Int)) × Int × (List Bool)) ((List (List Int))) ((List (List Int))))):=(if(decide (o.1<(G.length:Int)))=true then((idx G o.1).bind fun q=>(if decide (0≤q∧q.toNat<o.2.length)=true then some (.next (w64 (o.1+1),(o.2.set q.toNat true))) else none)) else some (.brk o.2))
def z1R (fuel:Nat) (x0:D.Net) (q:(List (List Int)) × Int × (List Bool)):Option (Rd ((List (List Int)) × Int × (List Bool)) ((List (List Int))) ((List (List Int)))):=(if(decide (q.2.1<(x0.Agents.length:Int)))=true then((idx q.2.2 q.2.1).bind fun H=>(if H=true then z1Q fuel q (q.1,q.2.2) else((z1N fuel x0 q.2.1).bind fun G=>((iter (z5m fuel G) fuel (0,q.2.2)).bind fun o=>aft o (z5k fuel q G))))) else some (.brk q.1))
def z2H (fuel:Nat) (x0:D.Net):Option ((List (List Int))):=(if decide (0≤(x0.Agents.length:Int)∧(x0.Agents.length:Int)≤4294967296)=true then((iter (z1R fuel x0) fuel ([],0,(List.replicate (x0.Agents.length:Int).toNat false))).bind fun o=>aft o (z7h fuel)) else none)

theorem z9T {W:Base}{w:World}(hE:Ext W w){e0:Addr}{v1:List Value}{x0:D.Net}(y1:ty30.ro W v1 x0) (D0:At W e0 v1){fuel:Nat}{r:(List (List Int))}(hm:z2H fuel x0=some r):
  Calls Tryz.prog 202 ⟨[.pointer (some e0)]⟩ w (Ret fun v w8=>∃ A0 k0,v=sl A0 r k0∧St w w8 [ow ty44 A0 r k0]):=by
 obtain⟨A1,k2,e4,h3⟩:=z2Y y1;subst e4;refine into Tryz.func202 48 _ ?_;unfold z2H at hm;have hS:=St.start w;refine sq<|rg<|rr 1 ?_;refine rn<|sq<|rg<|rr 1 ?_;refine rn<|sq<|rg<|rr 3 ?_;refine l1 (At.ext (hE.trans hS.ext) D0) 0 ?_;refine rr 1 ?_;obtain⟨E1,hm⟩:=iS hm;have hz13:=of_decide_eq_true E1;refine mS (U:=tBool) false hS hz13 (fun _=>⟨rfl,rfl⟩) (fun A6 k7 U1 M1 j0=>?_);refine rr 1 ?_;refine rn<|sq<|sq<|rg<|rr 3 ?_;refine l1 (At.ext (hE.trans j0.ext) D0) 0 ?_;refine rr 2 ?_;refine rn ?_;obtain⟨G1,b1,hm⟩:=bS hm;refine ct (fun(B0:(List (List Int))) F w9=>∃ r0 u0,G1=.inl B0∧St w w9 [ow ty44 r0 B0 u0]∧F=[(3,sl r0 B0 u0)]) ?_ ?_
 ·rintro B0 F V1 ⟨r0,u0,e1,H0,rfl⟩;subst e1;rw [z6] at hm;unfold z7h at hm;refine sq<|rg<|rr 2 ?_;refine rn<|rt ?_;cases hm;exact⟨_,.cons (.tmp rfl) .nil,r0,u0,rfl,H0⟩
 ·refine bk ?_;have J0:=j0.nilSl ty45 45;refine wk [0,3,4,19,20] ?_;refine it (fun(G:(List (List Int)) × Int × (List Bool)) F w9=>∃ X Y,St w w9 [ow ty44 X G.1 Y,Own zb2 [sl A6 (List.replicate (x0.Agents.length:Int).toNat false) k7] G.2.2]∧F=[(0,.pointer (some e0)),(3,sl X G.1 Y),(4,sl A6 (List.replicate (x0.Agents.length:Int).toNat false) k7),(19,.int .i64 (x0.Agents.length:Int)),(20,.int .i64 G.2.1)]) b1 ⟨none,0,J0,rfl⟩ ?_;rintro G F W1 _ H1 ⟨X,Y,H,rfl⟩ o f1;unfold z1R at o;refine sq<|rg<|rr 1 ?_;refine rn<|sq<|ci o (fun o=>?_) (fun o=>?_)
  ·refine sp<|sq<|ct (fun(q0:(List (List Int)) × (List Bool)) F w9=>∃ t0 v0,z1Q fuel G q0=some H1∧St w w9 [ow ty44 t0 q0.1 v0,Own zb2 [sl A6 (List.replicate (x0.Agents.length:Int).toNat false) k7] q0.2]∧F=[(0,.pointer (some e0)),(3,sl t0 q0.1 v0),(4,sl A6 (List.replicate (x0.Agents.length:Int).toNat false) k7),(19,.int .i64 (x0.Agents.length:Int)),(20,.int .i64 G.2.1)]) ?_ ?_
   ·rintro q0 F X1 ⟨t0,v0,o,K0,rfl⟩;unfold z1Q at o;refine rg<|rr 2 ?_;refine rn ?_;cases o;exact⟨_,_,rfl,⟨t0,v0,K0,rfl⟩,rfl⟩
   ·refine bk<|sq<|rg<|rr 2 ?_;refine rn<|sq<|sq<|rg<|rr 2 ?_;obtain⟨g2,n1,o⟩:=bS o;refine ix (Ext.refl _) ((H.bring 1 rfl).own) n1 (fun Q1 C1 V0 j1=>?_);cases j1;refine l1 V0 0 ?_;refine rn<|ci o (fun o=>?_) (fun o=>?_)
    ·refine xt ?_;exact⟨(G.1,G.2.2),_,⟨X,Y,o,H,rfl⟩,rfl⟩
    ·refine sp<|sq<|rg<|rr 2 ?_;obtain⟨c0,p1,o⟩:=bS o;refine ca zdH (z6H (hE.trans H.ext) y1 D0 p1) (fun S1 Y1 E0=>?_);obtain⟨Z,b0,rfl,F0⟩:=E0;have L0:=H.join F0;refine rr 1 ?_;refine rn<|sq<|sq<|rg<|rr 3 ?_;refine rn ?_;obtain⟨J1,d1,o⟩:=bS o;refine ct (fun(C0:(List Bool)) F w9=>J1=.inl C0∧St w w9 [ow ty45 Z c0 b0,ow ty44 X G.1 Y,Own zb2 [sl A6 (List.replicate (x0.Agents.length:Int).toNat false) k7] C0]∧F=[(0,.pointer (some e0)),(3,sl X G.1 Y),(4,sl A6 (List.replicate (x0.Agents.length:Int).toNat false) k7),(6,sl Z c0 b0),(19,.int .i64 (x0.Agents.length:Int)),(20,.int .i64 G.2.1)]) ?_ ?_
     ·rintro C0 F a2 ⟨g1,M0,rfl⟩;subst g1;rw [z6] at o;unfold z5k at o;refine sq<|rg<|rr 1 ?_;obtain⟨y0,s1,o⟩:=bS o;refine ca zkd (z8W (W:=w) (RR:=_) (x0:=c0) M0  s1) (fun T1 b2 G0=>?_);obtain⟨rfl,o0⟩:=G0;refine rn<|rg<|rr 2 ?_;have hn70:=(o0.bring 0 rfl).lenEq;have N0:=(o0.bring 0 rfl).reLen hn70;refine kn (u:=.slice Z y0.length b0) 43 rfl (by simp only [sl,hn70]) ?_;have O0:=St.noEl ty45 N0;have P0:=O0.bring 1 rfl;have Q0:=St.consEl P0;refine ns (U:=ty45) (els:=[.slice Z y0.length b0]) (ys:=[y0]) Q0 (fun L1 O1 d2 N1 R0=>?_);have S0:=R0.bring 1 rfl;have T0:=S0.bring 1 rfl;obtain⟨Y0,o⟩:=iS o;refine ao T0 Y0 (fun B1 F1 e2 U0=>?_);refine rr 1 ?_;refine rn ?_;exact⟨((G.1++([y0]:(List (List Int)))),C0),_,⟨B1,F1,o,U0,rfl⟩,rfl⟩
     ·refine bk<|wk [0,3,4,6,19,20,30,31,32] ?_;refine it (fun(u1:Int × (List Bool)) F w9=>St w w9 [ow ty45 Z c0 b0,ow ty44 X G.1 Y,Own zb2 [sl A6 (List.replicate (x0.Agents.length:Int).toNat false) k7] u1.2]∧F=[(0,.pointer (some e0)),(3,sl X G.1 Y),(4,sl A6 (List.replicate (x0.Agents.length:Int).toNat false) k7),(6,sl Z c0 b0),(19,.int .i64 (x0.Agents.length:Int)),(20,.int .i64 G.2.1),(30,sl Z c0 b0),(31,.int .i64 (c0.length:Int)),(32,.int .i64 u1.1)]) d1 ⟨L0,rfl⟩ ?_;rintro u1 F f2 _ P1 ⟨a0,rfl⟩ q i1;unfold z5m at q;refine sq<|rg<|rr 1 ?_;refine rn<|sq<|ci q (fun q=>?_) (fun q=>?_)
      ·refine sp<|sq<|bk<|sq<|rg ?_;obtain⟨i2,t1,q⟩:=bS q;refine ix (Ext.refl _) ((a0.bring 0 rfl).own) t1 (fun R1 D1 X0 m1=>?_);cases m1;refine l1 X0 0 ?_;refine rr 1 ?_;refine rn<|rg<|rr 2 ?_;have p0:=a0.bring 2 rfl;obtain⟨a1,q⟩:=iS q;have O:=of_decide_eq_true a1;refine io p0 O.1 O.2 (fun q101 hq102=>?_);have f0:=p0.flat (T:=tBool) (cs:=[.bool true]) (x:=true) ⟨rfl,rfl⟩;have g0:=f0.bring 1 rfl;refine se g0 O.2 hq102 (fun K1 i0=>?_);refine rn<|rg<|rr 2 ?_;refine rn ?_;cases q;exact⟨_,_,rfl,⟨(i0.sel [1,2,0]),rfl⟩,rfl⟩
      ·refine xt ?_;cases q;exact⟨_,_,⟨i1,a0,rfl⟩,rfl⟩
  ·refine xt ?_;cases o;exact⟨_,_,⟨X,Y,f1,(H.taken 1),rfl⟩,rfl⟩

end Go.E


