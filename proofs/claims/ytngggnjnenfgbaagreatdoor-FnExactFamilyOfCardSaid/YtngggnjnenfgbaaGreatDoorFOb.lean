/- Models of functions and proofs that the code runs as they say (written by program). Conditions: the model gives a value. -/
import Derived.Test.YtngggnjnenfgbaaGreatDoorFO
import Derived.Test.YtngggnjnenfgbaaGreatDoorMixed
namespace Go.E
open Go.RowKit Go.Proofs
set_option linter.unusedVariables false
set_option linter.unusedSimpArgs false
set_option maxHeartbeats 2000000
set_option maxRecDepth 100000

def z1e (fuel:Nat) (o:Int × (List Int)) (d:Bool):Option Bool:=(if d=true then some false else((z2s fuel o.2 1).bind fun b=>(if(decide (b<0))=true then some false else(if(b != o.1)=true then some false else some true))))
def zU (fuel:Nat) (x0:D.Net) (x1:Int) (H:(List Int) × Int) (O:(List Int) × Int) (Y:Bool):Option Bool:=(if Y=true then some false else((z2r fuel O.1 1).bind fun o=>((z2s fuel o.2 1).bind fun b=>(if(decide (b<0))=true then some false else(if(b != o.1)=true then some false else((z3R fuel x0).bind fun y=>((z3P fuel y x1).bind fun d=>((z1M fuel d.1 H.1).bind fun G=>(if(!G)=true then z1e fuel o true else z1e fuel o (d.2 != H.2))))))))))
def z1f (fuel:Nat) (x0:D.Net) (x1:Int) (b:(List Int) × Int) (y:D.Net) (d:(List Int) × Int) (Y:Bool):Option Bool:=(if Y=true then some false else((z3R fuel x0).bind fun G=>((z5A fuel y G).bind fun H=>(if(!H)=true then some false else((z4S fuel y 1).bind fun O=>(if(decide (O.1<0))=true then zU fuel x0 x1 b d true else((z1M fuel d.1 b.1).bind fun o=>(if(!o)=true then zU fuel x0 x1 b d true else zU fuel x0 x1 b d (d.2 != b.2)))))))))
def z2J (fuel:Nat) (x0:D.Net) (x1:Int):Option (Bool):=((z5z fuel x0 1048576).bind fun G=>(if(decide (G<0))=true then some true else((z3R fuel x0).bind fun H=>((z4s fuel H x1).bind fun b=>((z3R fuel x0).bind fun y=>((z3P fuel y x1).bind fun d=>((z1M fuel d.1 b.1).bind fun o=>(if(!o)=true then z1f fuel x0 x1 b y d true else z1f fuel x0 x1 b y d (d.2 != b.2)))))))))

theorem laws_FnExactFamilyOf_ok {W:Base}{w:World}(hE:Ext W w){b2:List Value}{x0:D.Net}{x1:Int}(hT:Tab W) (C0:ty24.ro W b2 x0){fuel:Nat}{r:Bool}(hm:z2J fuel x0 x1=some r):
  Calls Tryz.prog 6 ⟨[.agg ⟨b2⟩,.int .i64 x1]⟩ w (Ret fun v w8=>v=.bool r∧St w w8 []):=by
 obtain⟨A1,k2,e4,h3⟩:=z8j C0;subst e4;refine into Tryz.func6 101 _ ?_;unfold z2J at hm;have hS:=St.start w;refine sq<|rg<|nw hS (fun g5 w6 e7 t0=>?_);refine rr 1 ?_;refine rn<|sq<|rg<|rr 1 ?_;refine rn<|sq<|rg<|lN ((t0.bring 0 rfl).box) ?_;refine rr 1 ?_;obtain⟨W2,L1,hm⟩:=bS hm;refine ca zeK (laws_szNet_ok (hE.trans t0.ext) C0 L1) (fun a3 k3 m1=>?_);obtain⟨rfl,n1⟩:=m1;have e0:=t0.join n1;refine rr 1 ?_;refine rn<|sq<|sq<|rg<|rr 2 ?_;refine rn<|ci hm (fun hm=>?_) (fun hm=>?_)
 ·refine sq<|rg<|rr 1 ?_;refine rn<|rt ?_;cases hm;exact⟨_,.cons (.tmp rfl) .nil,rfl,(e0.taken 0)⟩
 ·refine sp<|sq<|rg<|lN ((e0.bring 0 rfl).box) ?_;obtain⟨v2,M1,hm⟩:=bS hm;refine ca z9F (laws_toNet_ok (hE.trans e0.ext) C0 M1) (fun b3 m3 p1=>?_);obtain⟨R2,U2,rfl,t1⟩:=p1;have U0:=e0.join t1;refine rr 1 ?_;obtain⟨c0,N1,hm⟩:=bS hm;refine ca zef (z81 (Ext.refl _) (z4J v2 ((U0.bring 0 rfl).own)) N1) (fun c3 n3 u1=>?_);obtain⟨j1,k1,rfl,v1⟩:=u1;have u0:=U0.join v1;refine rr 5 ?_;refine rn<|sq<|rg<|lN ((u0.bring 2 rfl).box) ?_;obtain⟨D0,O1,hm⟩:=bS hm;refine ca z9F (laws_toNet_ok (hE.trans u0.ext) C0 O1) (fun d3 o3 y1=>?_);obtain⟨a2,f2,rfl,B1⟩:=y1;have H1:=u0.join B1;refine nw H1 (fun d2 p3 T2 J1=>?_);have K1:=J1.bring 0 rfl;refine so (A:=[]) K1 0 (fun q3 f0=>?_);refine rn<|sq<|rg<|lN ((f0.bring 0 rfl).box) ?_;refine rr 1 ?_;obtain⟨d0,P1,hm⟩:=bS hm;refine ca zbi (z6F (Ext.refl _) (Tab.ext (hE.trans f0.ext) hT) (z4J D0 ((f0.bring 1 rfl).own)) P1) (fun e3 P2 C1=>?_);obtain⟨i0,r0,rfl,D1⟩:=C1;have v0:=f0.join D1;refine rr 5 ?_;refine rn<|sq<|sq<|ct (fun(W1:Bool) F w9=>z1f fuel x0 x1 c0 D0 d0 W1=some r∧Ext P2 w9∧St w w9 [ow ty26 i0 d0.1 r0,Box d2 [sl a2 D0.Agents f2] 31,ow ty29 a2 D0.Agents f2,ow ty26 j1 c0.1 k1,Box g5 [sl A1 x0.Agents k2] 24]∧F=[(1,.int .i64 x1),(2,.pointer (some ⟨g5,0,none⟩)),(6,sl j1 c0.1 k1),(7,.int .i64 c0.2),(8,.pointer (some ⟨d2,0,none⟩)),(9,sl i0 d0.1 r0),(10,.int .i64 d0.2),(44,.bool W1)]) ?_ ?_
  ·rintro W1 F r3 ⟨hm,j2,b0,rfl⟩;unfold z1f at hm;refine ci hm (fun hm=>?_) (fun hm=>?_)
   ·refine sq<|rg<|rr 1 ?_;refine rn<|rt ?_;cases hm;exact⟨_,.cons (.tmp rfl) .nil,rfl,(b0.taken 0)⟩
   ·refine sp<|sq<|sq<|dn 0 mixed 5 [([],31),([],31),([1],29),([0,2,2],26),([3],23)] b0.ext (fun d=>?_);have V0:=b0.step (Ext.draw _);refine dL d 0 ((b0.bring 1 rfl).box) ?_;refine dL d 1 ((b0.bring 4 rfl).box) ?_;obtain⟨y2,Q1,hm⟩:=bS hm;refine o1 d 2 (mc d z9F (laws_toNet_ok (hE.trans V0.ext) C0 Q1) (fun f3 s3 E1=>?_));obtain⟨S2,V2,rfl,S0⟩:=E1;refine⟨S0.ext,?_⟩;have y0:=V0.join S0;obtain⟨X2,R1,hm⟩:=bS hm;refine o1 d 3 (mc d zeh (laws_eqNet_ok (Ext.refl _) (z4J D0 ((y0.bring 3 rfl).own)) (z4J y2 ((y0.bring 0 rfl).own)) R1) (fun g3 t3 F1=>?_));obtain⟨rfl,T0⟩:=F1;refine⟨T0.ext,?_⟩;have A0:=y0.join T0;refine dr 0 d [4] ?_;refine dd d ?_;refine ci hm (fun hm=>?_) (fun hm=>?_)
    ·refine sq<|rg<|rr 1 ?_;refine rn<|rt ?_;cases hm;exact⟨_,.cons (.tmp rfl) .nil,rfl,(A0.taken 0)⟩
    ·refine sp<|sq<|rg<|rr 1 ?_;refine rn<|sq<|rg<|lN ((A0.bring 2 rfl).box) ?_;refine rr 1 ?_;obtain⟨Y2,S1,hm⟩:=bS hm;refine ca zeg (laws_markNet_ok (W:=w) (RR:=_) (x0:=D0) (x1:=1) (A0.bring 3 rfl)  S1) (fun i3 Q2 G1=>?_);obtain⟨rfl,g0⟩:=G1;refine rr 1 ?_;refine rn<|sq<|sq<|ct (fun(X1:Bool) F w9=>zU fuel x0 x1 c0 d0 X1=some r∧Ext Q2 w9∧St w w9 [ow ty26 i0 d0.1 r0,ow ty26 j1 c0.1 k1,Box g5 [sl A1 x0.Agents k2] 24]∧F=[(1,.int .i64 x1),(2,.pointer (some ⟨g5,0,none⟩)),(6,sl j1 c0.1 k1),(7,.int .i64 c0.2),(9,sl i0 d0.1 r0),(65,.bool X1)]) ?_ ?_
     ·rintro X1 F u3 ⟨hm,m2,X0,rfl⟩;unfold zU at hm;refine ci hm (fun hm=>?_) (fun hm=>?_)
      ·refine sq<|rg<|rr 1 ?_;refine rn<|rt ?_;cases hm;exact⟨_,.cons (.tmp rfl) .nil,rfl,(X0.taken 0)⟩
      ·refine sp<|sq<|rg<|rr 1 ?_;refine rn<|sq<|rg<|rr 2 ?_;obtain⟨i1,T1,hm⟩:=bS hm;refine ca zbk (laws_markInt64S_ok (W:=w) (RR:=_) (x0:=d0.1) (x1:=1) X0  T1) (fun j3 v3 E0=>?_);obtain⟨rfl,j0⟩:=E0;refine rr 1 ?_;refine rn<|sq<|rg<|rr 1 ?_;refine rn<|sq<|rg<|rr 2 ?_;have hn102:=(j0.bring 0 rfl).lenEq;have k0:=(j0.bring 0 rfl).reLen hn102;refine kn (u:=.slice i0 i1.2.length r0) 69 rfl (by simp only [sl,hn102]) ?_;obtain⟨p2,Y0,hm⟩:=bS hm;refine ca zbj (laws_heldInt64S_ok (Ext.refl _) ((k0.bring 0 rfl).own) Y0) (fun A2 H2 F0=>?_);obtain⟨rfl,G0⟩:=F0;have b:=k0.join G0;refine rr 1 ?_;refine rn<|sq<|sq<|rg<|rr 2 ?_;refine rn<|ci hm (fun hm=>?_) (fun hm=>?_)
       ·refine sq<|rg<|rr 1 ?_;refine rn<|rt ?_;cases hm;exact⟨_,.cons (.tmp rfl) .nil,rfl,(b.taken 0)⟩
       ·refine sp<|sq<|sq<|rg<|rr 3 ?_;refine rn<|ci hm (fun hm=>?_) (fun hm=>?_)
        ·refine sq<|rg<|rr 1 ?_;refine rn<|rt ?_;cases hm;exact⟨_,.cons (.tmp rfl) .nil,rfl,(b.taken 0)⟩
        ·refine sp<|sq<|rg<|lN ((b.bring 2 rfl).box) ?_;obtain⟨U1,a1,hm⟩:=bS hm;refine ca z9F (laws_toNet_ok (hE.trans b.ext) C0 a1) (fun B2 J2 H0=>?_);obtain⟨g2,n2,rfl,J0⟩:=H0;have H:=b.join J0;refine rr 1 ?_;obtain⟨V1,b1,hm⟩:=bS hm;refine ca zbi (z6F (Ext.refl _) (Tab.ext (hE.trans H.ext) hT) (z4J U1 ((H.bring 0 rfl).own)) b1) (fun C2 Y1 K0=>?_);obtain⟨i2,o2,rfl,M0⟩:=K0;have O:=H.join M0;refine rr 5 ?_;refine rn<|sq<|sq<|ct (fun(B0:Bool) F w9=>z1e fuel i1 B0=some r∧Ext Y1 w9∧St w w9 [ow ty26 i0 i1.2 r0]∧F=[(9,sl i0 d0.1 r0),(12,.int .i64 i1.1),(92,.bool B0)]) ?_ ?_
         ·rintro B0 F K2 ⟨hm,e2,Y,rfl⟩;unfold z1e at hm;refine ci hm (fun hm=>?_) (fun hm=>?_)
          ·refine sq<|rg<|rr 1 ?_;refine rn<|rt ?_;cases hm;exact⟨_,.cons (.tmp rfl) .nil,rfl,(Y.taken 0)⟩
          ·refine sp<|sq<|rg<|rr 1 ?_;refine rn<|sq<|rg<|rr 2 ?_;refine kn (u:=.slice i0 i1.2.length r0) 93 rfl (by simp only [sl,hn102]) ?_;obtain⟨q2,d1,hm⟩:=bS hm;refine ca zbj (laws_heldInt64S_ok (Ext.refl _) ((Y.bring 0 rfl).own) d1) (fun D2 L2 N0=>?_);obtain⟨rfl,O0⟩:=N0;have a0:=Y.join O0;refine rr 1 ?_;refine rn<|sq<|sq<|rg<|rr 2 ?_;refine rn<|ci hm (fun hm=>?_) (fun hm=>?_)
           ·refine sq<|rg<|rr 1 ?_;refine rn<|rt ?_;cases hm;exact⟨_,.cons (.tmp rfl) .nil,rfl,(a0.taken 0)⟩
           ·refine sp<|sq<|sq<|rg<|rr 3 ?_;refine rn<|ci hm (fun hm=>?_) (fun hm=>?_)
            ·refine sq<|rg<|rr 1 ?_;refine rn<|rt ?_;cases hm;exact⟨_,.cons (.tmp rfl) .nil,rfl,(a0.taken 0)⟩
            ·refine sp<|sq<|rg<|rr 1 ?_;refine rn<|rt ?_;cases hm;exact⟨_,.cons (.tmp rfl) .nil,rfl,(a0.taken 0)⟩
         ·refine rg<|rr 2 ?_;obtain⟨r2,e1,hm⟩:=bS hm;refine ca z8e (laws_eqInt64S_ok (Ext.refl _) ((O.bring 0 rfl).own) ((O.bring 3 rfl).own) e1) (fun E2 M2 P0=>?_);obtain⟨rfl,o⟩:=P0;have o0:=O.join o;refine rr 2 ?_;refine rb 88 hm (fun hm=>?_) (fun hm=>?_)
          ·refine rr 4 ?_;refine rn ?_;exact⟨true,_,⟨hm,o.ext,((o0.bring 2 rfl).taken 1),rfl⟩,rfl⟩
          ·refine rr 4 ?_;refine rn ?_;exact⟨(V1.2 != c0.2),_,⟨hm,o.ext,((o0.bring 2 rfl).taken 1),rfl⟩,rfl⟩
     ·refine rg<|rr 3 ?_;refine rb 55 hm (fun hm=>?_) (fun hm=>?_)
      ·refine rr 10 ?_;refine rn ?_;exact⟨true,_,⟨hm,(Ext.refl _),(g0.sel [2,4,5]),rfl⟩,rfl⟩
      ·refine rr 2 ?_;obtain⟨s2,f1,hm⟩:=bS hm;refine ca z8e (laws_eqInt64S_ok (Ext.refl _) ((g0.bring 2 rfl).own) ((g0.bring 4 rfl).own) f1) (fun F2 N2 Q0=>?_);obtain⟨rfl,y⟩:=Q0;have p0:=g0.join y;refine rr 3 ?_;refine rb 61 hm (fun hm=>?_) (fun hm=>?_)
       ·refine rr 4 ?_;refine rn ?_;exact⟨true,_,⟨hm,y.ext,(p0.sel [2,4,5]),rfl⟩,rfl⟩
       ·refine rr 4 ?_;refine rn ?_;exact⟨(d0.2 != c0.2),_,⟨hm,y.ext,(p0.sel [2,4,5]),rfl⟩,rfl⟩
  ·refine rg<|rr 2 ?_;obtain⟨u2,g1,hm⟩:=bS hm;refine ca z8e (laws_eqInt64S_ok (Ext.refl _) ((v0.bring 0 rfl).own) ((v0.bring 3 rfl).own) g1) (fun G2 O2 R0=>?_);obtain⟨rfl,G⟩:=R0;have q0:=v0.join G;refine rr 2 ?_;refine rb 40 hm (fun hm=>?_) (fun hm=>?_)
   ·refine rr 4 ?_;refine rn ?_;exact⟨true,_,⟨hm,G.ext,(q0.sel [0,1,2,3,5]),rfl⟩,rfl⟩
   ·refine rr 4 ?_;refine rn ?_;exact⟨(d0.2 != c0.2),_,⟨hm,G.ext,(q0.sel [0,1,2,3,5]),rfl⟩,rfl⟩

end Go.E


