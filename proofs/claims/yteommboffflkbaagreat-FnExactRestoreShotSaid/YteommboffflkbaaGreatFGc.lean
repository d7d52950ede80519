/- Models of functions and proofs that the code runs as they say (written by program). Conditions: the model gives a value. -/
import Derived.Test.YteommboffflkbaaGreatFGb
import Derived.Test.YteommboffflkbaaGreatMixed
namespace Go.E
open Go.RowKit Go.Proofs
set_option linter.unusedVariables false
set_option linter.unusedSimpArgs false
set_option maxHeartbeats 2000000
set_option maxRecDepth 100000

theorem zoo:EN 123:=en Tryz.func123
def zbB (fu:Nat) (d:D.Qm):Option (D.Qm × Bool):=some (d,true)
def z9t (fu:Nat) (h:Int × Int × D.Qm) (d:Int × D.Qm):Option (Rd (Int × Int × D.Qm) (D.Qm) (D.Qm × Bool)):=some (.next (d.1,w64 (h.2.1+1),d.2))
def z5M (fu:Nat) (h:Int × Int × D.Qm) (d:Int × D.Qm):Option (Rd (Int × Int × D.Qm) (Int × D.Qm) (Rd (Int × Int × D.Qm) (D.Qm) (D.Qm × Bool))):=some (.next (d.1,w64 (h.2.1+1),d.2))
def z5L (fu:Nat) (h:Int × Int × D.Qm) (d:Int × D.Qm):Option (Rd (Int × Int × D.Qm) (Int × D.Qm) (Rd (Int × Int × D.Qm) (D.Qm) (D.Qm × Bool))):=z5M fu h (d.1,d.2)
def z80 (fu:Nat) (d:Int × Int × D.Qm) (h:D.Qm):Option (Rd (Int × Int × D.Qm) (Int × D.Qm) (Rd (Int × Int × D.Qm) (D.Qm) (D.Qm × Bool))):=z5L fu d (w64 (d.1+1),h)
def z3Q (fu:Nat) (M:D.Qm × (List Int)) (h:Int × Int × D.Qm) (G:D.Qe) (d:Bool × D.Qm):Option (Rd (Int × Int × D.Qm) (Int × D.Qm) (Rd (Int × Int × D.Qm) (D.Qm) (D.Qm × Bool))):=(if d.1=true then some (.ret (.ret (d.2,false))) else((idx M.2 h.1).bind fun H=>((z1a fu d.2 G.B).bind fun o=>((z12 fu d.2 H o).bind fun q=>z80 fu h q))))
def z3R (fu:Nat) (x0:D.Qa) (G:D.Qm × (List Int)) (d:Int × Int × D.Qm) (h:D.Qe) (M:Bool):Option (Rd (Int × Int × D.Qm) (Int × D.Qm) (Rd (Int × Int × D.Qm) (D.Qm) (D.Qm × Bool))):=(if M=true then((z1u fu d.2.2 x0.Qi h.A h.B).bind fun o=>(if(!o.1)=true then some (.ret (.ret (o.2,false))) else z5M fu d (d.1,o.2))) else(if(h.Qj == 3)=true then((idx G.2 d.1).bind fun O=>((z2q fu d.2.2 x0.Qi h.Qz O).bind fun q=>(if(!q.1)=true then z3Q fu G d h (true,q.2) else((z2N fu x0.Qi h.B).bind fun H=>z3Q fu G d h (!H,q.2))))) else z5L fu d (d.1,d.2.2)))
def z1x (fu:Nat) (x0:D.Qa) (G:D.Qm × (List Int)) (H:Int × Int × D.Qm) (d:Int × Int × D.Qm):Option (Rd (Int × Int × D.Qm) (Int × D.Qm) (Rd (Int × Int × D.Qm) (D.Qm) (D.Qm × Bool))):=((idx x0.Qh H.2.1).bind fun o=>(if(decide (d.2.1<(o.length:Int)))=true then((idx x0.Qh H.2.1).bind fun q=>((idx q d.2.1).bind fun h=>(if(h.Qj == 1)=true then z3R fu x0 G d h (h.Qj == 1) else z3R fu x0 G d h (h.Qj == 2)))) else some (.brk (d.1,d.2.2))))
def z2J (fu:Nat) (x0:D.Qa) (h:D.Qm × (List Int)) (d:Int × Int × D.Qm):Option (Rd (Int × Int × D.Qm) (D.Qm) (D.Qm × Bool)):=(if(decide (d.2.1<(x0.Qh.length:Int)))=true then((iter (z1x fu x0 h d) fu (d.1,0,d.2.2)).bind fun o=>aft o (z9t fu d)) else some (.brk d.2.2))
def z9u (fu:Nat) (x0:D.Qa) (q:(List D.Qb)):Option (D.Qm × Bool):=((z8d fu x0.Qi q).bind fun h=>((z9A fu x0.Qi h.1).bind fun d=>(if(!d.1)=true then some (d.2,false) else((iter (z2J fu x0 h) fu (0,0,d.2)).bind fun o=>aft o (zbB fu)))))
def z9s (fu:Nat) (h:Int × (List D.Qb)) (d:(List D.Qb)):Option (Rd (Int × (List D.Qb)) ((List D.Qb)) (D.Qm × Bool)):=some (.next (w64 (h.1+1),d))
def z51 (fu:Nat) (d:Int × (List D.Qb)) (h:(List D.Qb)):Option (Rd (Int × (List D.Qb)) ((List D.Qb)) (Rd (Int × (List D.Qb)) ((List D.Qb)) (D.Qm × Bool))):=some (.next (w64 (d.1+1),h))
def z5N (fu:Nat) (x0:D.Qa) (o:Int × (List D.Qb)) (d:Int × (List D.Qb)):Option (Rd (Int × (List D.Qb)) ((List D.Qb)) (Rd (Int × (List D.Qb)) ((List D.Qb)) (D.Qm × Bool))):=((idx x0.Qh o.1).bind fun q=>(if(decide (d.1<(q.length:Int)))=true then((idx x0.Qh o.1).bind fun G=>((idx G d.1).bind fun H=>(if(H.Qj == 3)=true then((idx x0.Qh o.1).bind fun M=>((idx M d.1).bind fun h=>(if decide ((d.2.length:Int)+(([h.Qz]:(List D.Qb)).length:Int)≤4294967296)=true then z51 fu d (d.2++([h.Qz]:(List D.Qb))) else none))) else z51 fu d d.2))) else some (.brk d.2)))
def z3S (fu:Nat) (x0:D.Qa) (d:Int × (List D.Qb)):Option (Rd (Int × (List D.Qb)) ((List D.Qb)) (D.Qm × Bool)):=(if(decide (d.1<(x0.Qh.length:Int)))=true then((iter (z5N fu x0 d) fu (0,d.2)).bind fun o=>aft o (z9s fu d)) else some (.brk d.2))
def z8c (fu:Nat) (x0:D.Qa):Option (D.Qm × Bool):=((iter (z3S fu x0) fu (0,([]:(List D.Qb)))).bind fun o=>aft o (z9u fu x0))

theorem zeW {W w:World}(hE:Ext W w){M0:Addr}{Q7:List Value}{x0:D.Qa}(B8:ty40.ro W Q7 x0) (Q0:At W M0 Q7){fu:Nat}{r:D.Qm × Bool}(hm:z8c fu x0=some r):
  CL 123 ⟨[.pointer (some M0)]⟩ w (Ret fun v w8=>∃ g0 A1 k1 A2 k2 A3 k3 A4 k4 A5 k5 A6 k6,v=.tuple ⟨[.pointer (some ⟨g0,0,none⟩),.bool r.2]⟩∧St w w8 [Box g0 [sl A1 r.1.QB k1,sl A2 r.1.QH k2,sl A3 r.1.cells k3,sl A4 r.1.QM k4,sl A5 r.1.ends k5,sl A6 r.1.Qv k6] 221,ow z3O A1 r.1.QB k1,ow z2E A2 r.1.QH k2,ow ty28 A3 r.1.cells k3,ow ty28 A4 r.1.QM k4,ow ty28 A5 r.1.ends k5,ow ty28 A6 r.1.Qv k6]):=by
 obtain⟨A1,k2,A4,k5,A7,oa,X9,pa,Y9,qa,y8,h3,h6,ka,ma,na⟩:=z88 B8;subst y8;refine into Tryz.func123 170 _ ?_;unfold z8c at hm;have hS:=St.start w;refine sq<|rg<|rr 2 ?_;refine rn<|sq<|rg<|n0 (U:=(zaA W)) hS (fun n8 J8 Ca ja U6=>?_);refine rr 1 ?_;refine rn<|sq<|sq<|rg<|rr 1 ?_;refine rn ?_;obtain⟨T8,W6,hm⟩:=bS hm;refine ct (fun(j0:(List D.Qb)) F w9=>∃ P0 R0,T8=.inl j0∧St w w9 [Own (z8E W) [sl P0 j0 R0] j0]∧F=[(0,.pointer (some M0)),(4,sl P0 j0 R0)]) ?_ ?_
 ·rintro j0 F Da ⟨P0,R0,X6,v2,rfl⟩;subst X6;rw [z8] at hm;unfold z9u at hm;refine sq<|rg<|rr 4 ?_;obtain⟨r0,Y6,hm⟩:=bS hm;refine ca znZ (zeX (Ext.refl _) (z5J x0.Qi (ty34.ext (hE.trans v2.ext) h3)) (At.sub (ax hE v2 Q0) 0 4) (roOf zkK (St.ownE (W0:=W) hE (v2.bring 0 rfl))) Y6) (fun Aa Ea R6=>?_);obtain⟨k0,aa,sa,ba,ta,ea,ua,fa,va,ga,wa,ha,xa,u0,v0,rfl,S6⟩:=R6;have V6:=v2.join S6;refine rr 5 ?_;refine rn<|sq<|sq<|rg<|rr 4 ?_;obtain⟨ya,a7,hm⟩:=bS hm;refine ca znY (zgC (W:=w) (RR:=_) (x0:=x0.Qi) (x1:=r0.1) V6 (ty37.ext hE (z5J x0.Qi h3)) (At.ext hE (At.sub Q0 0 4)) a7) (fun Ba Fa T6=>?_);obtain⟨K7,e8,L7,f8,M7,g8,N7,i8,O7,j8,P7,k8,rfl,P4⟩:=T6;refine rr 1 ?_;refine rn<|ci hm (fun hm=>?_) (fun hm=>?_)
  ·refine sq<|rg<|rr 3 ?_;refine rn<|rt ?_;cases hm;exact⟨_,.cons (.tmp rfl) (tR rfl),k0,K7,e8,L7,f8,M7,g8,N7,i8,O7,j8,P7,k8,rfl,(P4.taken 7)⟩
  ·refine sp<|sq<|rg<|rr 1 ?_;refine rn<|sq<|sq<|rg<|rr 1 ?_;refine rn ?_;obtain⟨B7,b5,hm⟩:=bS hm;refine ct (fun(O0:D.Qm) F w9=>∃ B1 y2 C1 B2 D1 C2 E1 D2 F1 E2 G1 F2,B7=.inl O0∧St w w9 [Box k0 [sl B1 O0.QB y2,sl C1 O0.QH B2,sl D1 O0.cells C2,sl E1 O0.QM D2,sl F1 O0.ends E2,sl G1 O0.Qv F2] 221,ow z3O B1 O0.QB y2,ow z2E C1 O0.QH B2,ow ty28 D1 O0.cells C2,ow ty28 E1 O0.QM D2,ow ty28 F1 O0.ends E2,ow ty28 G1 O0.Qv F2,ow ty29 u0 r0.2 v0,Own (z8E W) [sl P0 j0 R0] j0]∧F=[(7,.pointer (some ⟨k0,0,none⟩))]) ?_ ?_
   ·rintro O0 F r9 ⟨B1,y2,C1,B2,D1,C2,E1,D2,F1,E2,G1,F2,e5,r4,rfl⟩;subst e5;rw [z8] at hm;unfold zbB at hm;refine sq<|rg<|rr 3 ?_;refine rn<|rt ?_;cases hm;exact⟨_,.cons (.tmp rfl) (tR rfl),k0,B1,y2,C1,B2,D1,C2,E1,D2,F1,E2,G1,F2,rfl,(r4.taken 7)⟩
   ·refine bk<|wk [0,7,8,9,10] ?_;refine it (fun(o0:Int × Int × D.Qm) F w9=>∃ c4 X5 d4 Y5 e4 a6 S0 m1 T0 n1 U0 p1,St w w9 [Box k0 [sl c4 o0.2.2.QB X5,sl d4 o0.2.2.QH Y5,sl e4 o0.2.2.cells a6,sl S0 o0.2.2.QM m1,sl T0 o0.2.2.ends n1,sl U0 o0.2.2.Qv p1] 221,ow z3O c4 o0.2.2.QB X5,ow z2E d4 o0.2.2.QH Y5,ow ty28 e4 o0.2.2.cells a6,ow ty28 S0 o0.2.2.QM m1,ow ty28 T0 o0.2.2.ends n1,ow ty28 U0 o0.2.2.Qv p1,ow ty29 u0 r0.2 v0,Own (z8E W) [sl P0 j0 R0] j0]∧F=[(0,.pointer (some M0)),(7,.pointer (some ⟨k0,0,none⟩)),(8,sl u0 r0.2 v0),(9,iv o0.1),(10,iv o0.2.1)]) b5 ⟨K7,e8,L7,f8,M7,g8,N7,i8,O7,j8,P7,k8,P4,rfl⟩ ?_;rintro o0 F s9 _ S8 ⟨c4,X5,d4,Y5,e4,a6,S0,m1,T0,n1,U0,p1,Y0,rfl⟩ M f1;unfold z2J at M;refine sq<|sq<|rg<|rr 4 ?_;refine l1 (ax hE Y0 Q0) 4 ?_;refine rr 2 ?_;refine rn<|ci M (fun M=>?_) (fun M=>?_)
    ·refine sp<|sq<|bk<|sq<|rg<|rr 1 ?_;refine rn ?_;obtain⟨C7,c5,M⟩:=bS M;refine ct (fun(a0:Int × D.Qm) F w9=>∃ H1 G2 J1 H2 K1 J2 L1 K2 M1 L2 N1 M2,C7=.inl a0∧St w w9 [Box k0 [sl H1 a0.2.QB G2,sl J1 a0.2.QH H2,sl K1 a0.2.cells J2,sl L1 a0.2.QM K2,sl M1 a0.2.ends L2,sl N1 a0.2.Qv M2] 221,ow z3O H1 a0.2.QB G2,ow z2E J1 a0.2.QH H2,ow ty28 K1 a0.2.cells J2,ow ty28 L1 a0.2.QM K2,ow ty28 M1 a0.2.ends L2,ow ty28 N1 a0.2.Qv M2,ow ty29 u0 r0.2 v0,Own (z8E W) [sl P0 j0 R0] j0]∧F=[(0,.pointer (some M0)),(7,.pointer (some ⟨k0,0,none⟩)),(8,sl u0 r0.2 v0),(9,iv a0.1),(10,iv o0.2.1)]) ?_ ?_
     ·rintro a0 F t9 ⟨H1,G2,J1,H2,K1,J2,L1,K2,M1,L2,N1,M2,f5,s4,rfl⟩;subst f5;rw [z8] at M;unfold z9t at M;refine rg<|rr 3 ?_;refine rn ?_;cases M;exact⟨_,_,rfl,⟨H1,G2,J1,H2,K1,J2,L1,K2,M1,L2,N1,M2,s4,rfl⟩,rfl⟩
     ·refine bk<|wk [0,7,8,9,10,11] ?_;refine it (fun(h:Int × Int × D.Qm) F w9=>∃ y0 F0 A0 G0 B0 H0 C0 J0 D0 K0 E0 L0,St w w9 [Box k0 [sl y0 h.2.2.QB F0,sl A0 h.2.2.QH G0,sl B0 h.2.2.cells H0,sl C0 h.2.2.QM J0,sl D0 h.2.2.ends K0,sl E0 h.2.2.Qv L0] 221,ow z3O y0 h.2.2.QB F0,ow z2E A0 h.2.2.QH G0,ow ty28 B0 h.2.2.cells H0,ow ty28 C0 h.2.2.QM J0,ow ty28 D0 h.2.2.ends K0,ow ty28 E0 h.2.2.Qv L0,ow ty29 u0 r0.2 v0,Own (z8E W) [sl P0 j0 R0] j0]∧F=[(0,.pointer (some M0)),(7,.pointer (some ⟨k0,0,none⟩)),(8,sl u0 r0.2 v0),(9,iv h.1),(10,iv o0.2.1),(11,iv h.2.1)]) c5 ⟨c4,X5,d4,Y5,e4,a6,S0,m1,T0,n1,U0,p1,Y0,rfl⟩ ?_;rintro h F H7 _ u1 ⟨y0,F0,A0,G0,B0,H0,C0,J0,D0,K0,E0,L0,X,rfl⟩ d g1;unfold z1x at d;refine sq<|sq<|rg<|rr 4 ?_;refine l1 (ax hE X Q0) 4 ?_;refine rr 1 ?_;obtain⟨R9,u5,d⟩:=bS d;refine ix (hE.trans X.ext) h6 u5 (fun V8 R7 Q4 m5=>?_);obtain⟨m8,G8,E6⟩:=zZ m5;subst E6;refine l1 (ax hE X Q4) 0 ?_;refine rr 2 ?_;refine rn<|ci d (fun d=>?_) (fun d=>?_)
      ·refine sp<|sq<|bk<|sq<|rg<|rr 3 ?_;refine l1 (ax hE X Q0) 4 ?_;refine rr 1 ?_;obtain⟨S9,v5,d⟩:=bS d;refine ix (hE.trans X.ext) h6 v5 (fun W8 S7 R4 E3=>?_);obtain⟨o8,H8,F6⟩:=zZ E3;subst F6;refine l1 (ax hE X R4) 0 ?_;refine rr 1 ?_;obtain⟨e0,x5,d⟩:=bS d;refine ix (hE.trans X.ext) E3 x5 (fun b6 T7 q0 n5=>?_);obtain⟨p8,K8,q8,L8,G6,N6,O6⟩:=zC n5;subst G6;refine rr 1 ?_;refine rn<|sq<|rg<|rr 3 ?_;refine l1 (ax hE X q0) 0 ?_;refine rn<|bk<|sq<|sq<|rg<|rr 2 ?_;refine rn<|ct (fun(M3:Bool) F w9=>z3R fu x0 r0 h e0 M3=some u1∧Ext H7 w9∧St w w9 [Box k0 [sl y0 h.2.2.QB F0,sl A0 h.2.2.QH G0,sl B0 h.2.2.cells H0,sl C0 h.2.2.QM J0,sl D0 h.2.2.ends K0,sl E0 h.2.2.Qv L0] 221,ow z3O y0 h.2.2.QB F0,ow z2E A0 h.2.2.QH G0,ow ty28 B0 h.2.2.cells H0,ow ty28 C0 h.2.2.QM J0,ow ty28 D0 h.2.2.ends K0,ow ty28 E0 h.2.2.Qv L0,ow ty29 u0 r0.2 v0,Own (z8E W) [sl P0 j0 R0] j0]∧F=[(0,.pointer (some M0)),(7,.pointer (some ⟨k0,0,none⟩)),(8,sl u0 r0.2 v0),(9,iv h.1),(10,iv o0.2.1),(11,iv h.2.1),(12,.pointer (some b6)),(109,iv e0.Qj),(110,.bool M3)]) ?_ ?_
       ·rintro M3 F u9 ⟨d,d8,f0,rfl⟩;unfold z3R at d;refine ct (fun(b0:Int × D.Qm) F w9=>∃ O1 N2 P1 O2 Q1 P2 R1 Q2 S1 R2 T1 S2,z5M fu h b0=some u1∧St w w9 [Box k0 [sl O1 b0.2.QB N2,sl P1 b0.2.QH O2,sl Q1 b0.2.cells P2,sl R1 b0.2.QM Q2,sl S1 b0.2.ends R2,sl T1 b0.2.Qv S2] 221,ow z3O O1 b0.2.QB N2,ow z2E P1 b0.2.QH O2,ow ty28 Q1 b0.2.cells P2,ow ty28 R1 b0.2.QM Q2,ow ty28 S1 b0.2.ends R2,ow ty28 T1 b0.2.Qv S2,ow ty29 u0 r0.2 v0,Own (z8E W) [sl P0 j0 R0] j0]∧F=[(0,.pointer (some M0)),(7,.pointer (some ⟨k0,0,none⟩)),(8,sl u0 r0.2 v0),(9,iv b0.1),(10,iv o0.2.1),(11,iv h.2.1)]) ?_ ?_
        ·rintro b0 F v9 ⟨O1,N2,P1,O2,Q1,P2,R1,Q2,S1,R2,T1,S2,d,t4,rfl⟩;unfold z5M at d;refine rg<|rr 3 ?_;refine rn ?_;cases d;exact⟨_,_,rfl,⟨O1,N2,P1,O2,Q1,P2,R1,Q2,S1,R2,T1,S2,t4,rfl⟩,rfl⟩
        ·refine ci d (fun d=>?_) (fun d=>?_)
         ·refine sq<|dn 4096 mixed 14 [([],16383),([],16383),([1],16381),([2],16379),([],16383),([4],16367),([5],16351),([6],16319),([],16383),([8],16127),([9],15871),([10],15359),([0,3,7,11],14198),([12],12287)] f0.ext (fun i0=>?_);have u4:=f0.step (Ext.draw _);refine dr 4 i0 [0,1,2,3,4,5,6,8,9,10] ?_;refine dw [0,7,8,9,10,11,113,116,119,123] ?_;refine dL i0 7 (At.sub (ax hE f0 q0) 6 3) ?_;refine dL i0 11 (At.sub (ax hE f0 q0) 9 3) ?_;obtain⟨F7,y5,d⟩:=bS d;refine o1 i0 12 (mW i0 zgd (z89 (W:=w) (RR:=_) (x0:=h.2.2) (x1:=x0.Qi) (x2:=e0.A) (x3:=e0.B) u4 (ty37.ext hE (z5J x0.Qi h3)) (At.ext hE (At.sub Q0 0 4)) (ty35.ext hE (zO e0.A)) (ty35.ext hE (zO e0.B)) y5) (fun g9 x9 f4=>?_));obtain⟨O3,K5,P3,L5,Q3,M5,R3,N5,S3,O5,T3,P5,rfl,a1⟩:=f4;refine⟨a1.ext,?_⟩;refine dr 0 i0 [13] ?_;refine dw [0,7,8,9,10,11,126] ?_;refine dd i0 ?_;refine ci d (fun d=>?_) (fun d=>?_)
          ·refine sq<|rg<|rr 3 ?_;refine rn<|rt ?_;cases d;cases g1;have M:some _=some _:=M;cases M;cases f1;have hm:some _=some _:=hm;cases hm;exact⟨_,.cons (.tmp rfl) (tR rfl),k0,O3,K5,P3,L5,Q3,M5,R3,N5,S3,O5,T3,P5,rfl,(a1.taken 7)⟩
          ·refine sp ?_;exact⟨(h.1,F7.2),_,⟨O3,K5,P3,L5,Q3,M5,R3,N5,S3,O5,T3,P5,d,a1,rfl⟩,rfl⟩
         ·refine sq<|rg<|rr 2 ?_;refine rn<|ct (fun(Y:Int × D.Qm) F w9=>∃ U1 T2 V1 U2 W1 V2 X1 W2 Y1 X2 a2 Y2,z5L fu h Y=some u1∧St w w9 [Box k0 [sl U1 Y.2.QB T2,sl V1 Y.2.QH U2,sl W1 Y.2.cells V2,sl X1 Y.2.QM W2,sl Y1 Y.2.ends X2,sl a2 Y.2.Qv Y2] 221,ow z3O U1 Y.2.QB T2,ow z2E V1 Y.2.QH U2,ow ty28 W1 Y.2.cells V2,ow ty28 X1 Y.2.QM W2,ow ty28 Y1 Y.2.ends X2,ow ty28 a2 Y.2.Qv Y2,ow ty29 u0 r0.2 v0,Own (z8E W) [sl P0 j0 R0] j0]∧F=[(0,.pointer (some M0)),(7,.pointer (some ⟨k0,0,none⟩)),(8,sl u0 r0.2 v0),(9,iv Y.1),(10,iv o0.2.1),(11,iv h.2.1)]) ?_ ?_
          ·rintro Y F y9 ⟨U1,T2,V1,U2,W1,V2,X1,W2,Y1,X2,a2,Y2,d,v4,rfl⟩;unfold z5L at d;exact⟨(Y.1,Y.2),_,⟨U1,T2,V1,U2,W1,V2,X1,W2,Y1,X2,a2,Y2,d,v4,rfl⟩,rfl⟩
          ·refine ci d (fun d=>?_) (fun d=>?_)
           ·refine sq<|sq<|ct (fun(S:Bool × D.Qm) F w9=>∃ d2 a3 e2 b3 f2 c3 g2 d3 i2 e3 j2 f3,z3Q fu r0 h e0 S=some u1∧St w w9 [Box k0 [sl d2 S.2.QB a3,sl e2 S.2.QH b3,sl f2 S.2.cells c3,sl g2 S.2.QM d3,sl i2 S.2.ends e3,sl j2 S.2.Qv f3] 221,ow z3O d2 S.2.QB a3,ow z2E e2 S.2.QH b3,ow ty28 f2 S.2.cells c3,ow ty28 g2 S.2.QM d3,ow ty28 i2 S.2.ends e3,ow ty28 j2 S.2.Qv f3,ow ty29 u0 r0.2 v0,Own (z8E W) [sl P0 j0 R0] j0]∧F=[(0,.pointer (some M0)),(7,.pointer (some ⟨k0,0,none⟩)),(8,sl u0 r0.2 v0),(9,iv h.1),(10,iv o0.2.1),(11,iv h.2.1),(12,.pointer (some b6)),(153,.bool S.1)]) ?_ ?_
            ·rintro S F A9 ⟨d2,a3,e2,b3,f2,c3,g2,d3,i2,e3,j2,f3,d,d1,rfl⟩;unfold z3Q at d;refine ci d (fun d=>?_) (fun d=>?_)
             ·refine sq<|rg<|rr 3 ?_;refine rn<|rt ?_;cases d;cases g1;have M:some _=some _:=M;cases M;cases f1;have hm:some _=some _:=hm;cases hm;exact⟨_,.cons (.tmp rfl) (tR rfl),k0,d2,a3,e2,b3,f2,c3,g2,d3,i2,e3,j2,f3,rfl,(d1.taken 7)⟩
             ·refine sp<|sq<|ct (fun(d0:D.Qm) F w9=>∃ m2 g3 n2 i3 o2 j3 p2 m3 q2 n3 r2 o3,z80 fu h d0=some u1∧St w w9 [Box k0 [sl m2 d0.QB g3,sl n2 d0.QH i3,sl o2 d0.cells j3,sl p2 d0.QM m3,sl q2 d0.ends n3,sl r2 d0.Qv o3] 221,ow z3O m2 d0.QB g3,ow z2E n2 d0.QH i3,ow ty28 o2 d0.cells j3,ow ty28 p2 d0.QM m3,ow ty28 q2 d0.ends n3,ow ty28 r2 d0.Qv o3,ow ty29 u0 r0.2 v0,Own (z8E W) [sl P0 j0 R0] j0]∧F=[(0,.pointer (some M0)),(7,.pointer (some ⟨k0,0,none⟩)),(8,sl u0 r0.2 v0),(9,iv h.1),(10,iv o0.2.1),(11,iv h.2.1)]) ?_ ?_
              ·rintro d0 F B9 ⟨m2,g3,n2,i3,o2,j3,p2,m3,q2,n3,r2,o3,d,x4,rfl⟩;unfold z80 at d;refine rg<|rr 3 ?_;refine rn ?_;exact⟨(w64 (h.1+1),d0),_,⟨m2,g3,n2,i3,o2,j3,p2,m3,q2,n3,r2,o3,d,x4,rfl⟩,rfl⟩
              ·refine dn 2048 mixed 12 [([],4095),([],4095),([],4095),([1,2],4089),([3],4087),([],4095),([],4095),([6],4031),([7],3967),([8],3839),([5,9],3551),([0,4,10,10],3054)] d1.ext (fun G=>?_);have o:=d1.step (Ext.draw _);refine dr 5 G [0,1,2,5,6,7,8] ?_;refine dV G 9 rfl (qN (At.sub (At.ext hE q0) 9 3)) ?_;obtain⟨N3,H3,d⟩:=bS d;obtain⟨K3,i1,d⟩:=bS d;obtain⟨L3,j1,d⟩:=bS d;refine da G [3,10] (by simp) ?_;intro E8 hi331;simp only [List.mem_cons,List.not_mem_nil,or_false] at hi331
               rcases hi331 with rfl | rfl
               ·refine mx (Ext.refl _) G ((o.bring 7 rfl).own) H3 (fun X8 U7 D3 o5=>?_);cases o5;refine da G [4,10] (by simp) ?_;intro F8 hi337;simp only [List.mem_cons,List.not_mem_nil,or_false] at hi337
                rcases hi337 with rfl | rfl
                ·refine mq G rfl (q1 D3 0) ?_;refine o1 G 10 (mc G z8w (zP (Ext.refl _) (z5y S.2 ((o.bring 1 rfl).own) ((o.bring 2 rfl).own) ((o.bring 3 rfl).own) ((o.bring 4 rfl).own) ((o.bring 5 rfl).own) ((o.bring 6 rfl).own)) ((o.bring 0 rfl).box) (zO e0.B) i1) (fun i9 C9 g4=>?_));obtain⟨rfl,r3⟩:=g4;refine⟨r3.ext,?_⟩;have y4:=o.join r3;refine o1 G 11 (mW G zaz (z1r (W:=w) (RR:=_) (x0:=S.2) (x1:=N3) (x2:=K3) y4  j1) (fun j9 D9 i4=>?_));obtain⟨d6,b7,e6,c7,f6,d7,g6,e7,i6,f7,j6,g7,rfl,u3⟩:=i4;refine⟨u3.ext,?_⟩;refine dd G ?_;exact⟨L3,_,⟨d6,b7,e6,c7,f6,d7,g6,e7,i6,f7,j6,g7,d,u3,rfl⟩,rfl⟩
                ·refine mc G z8w (zP (Ext.refl _) (z5y S.2 ((o.bring 1 rfl).own) ((o.bring 2 rfl).own) ((o.bring 3 rfl).own) ((o.bring 4 rfl).own) ((o.bring 5 rfl).own) ((o.bring 6 rfl).own)) ((o.bring 0 rfl).box) (zO e0.B) i1) (fun k9 E9 j4=>?_);obtain⟨rfl,X0⟩:=j4;refine⟨X0.ext,?_⟩;have B4:=o.join X0;refine o1 G 4 (mq G rfl (q1 (At.ext X0.ext D3) 0) ?_);refine o1 G 11 (mW G zaz (z1r (W:=w) (RR:=_) (x0:=S.2) (x1:=N3) (x2:=K3) B4  j1) (fun m9 F9 m4=>?_));obtain⟨m6,i7,n6,j7,o6,k7,p6,m7,q6,n7,r6,o7,rfl,v3⟩:=m4;refine⟨v3.ext,?_⟩;refine dd G ?_;exact⟨L3,_,⟨m6,i7,n6,j7,o6,k7,p6,m7,q6,n7,r6,o7,d,v3,rfl⟩,rfl⟩
               ·refine mc G z8w (zP (Ext.refl _) (z5y S.2 ((o.bring 1 rfl).own) ((o.bring 2 rfl).own) ((o.bring 3 rfl).own) ((o.bring 4 rfl).own) ((o.bring 5 rfl).own) ((o.bring 6 rfl).own)) ((o.bring 0 rfl).box) (zO e0.B) i1) (fun n9 G9 n4=>?_);obtain⟨rfl,s3⟩:=n4;refine⟨s3.ext,?_⟩;have y3:=o.join s3;refine o1 G 3 (mx (Ext.refl _) G ((y3.bring 7 rfl).own) H3 (fun Y8 V7 S4 p5=>?_));cases p5;refine o1 G 4 (mq G rfl (q1 S4 0) ?_);refine o1 G 11 (mW G zaz (z1r (W:=w) (RR:=_) (x0:=S.2) (x1:=N3) (x2:=K3) y3  j1) (fun o9 H9 o4=>?_));obtain⟨s6,p7,t6,q7,u6,r7,v6,s7,x6,t7,y6,u7,rfl,B3⟩:=o4;refine⟨B3.ext,?_⟩;refine dd G ?_;exact⟨L3,_,⟨s6,p7,t6,q7,u6,r7,v6,s7,x6,t7,y6,u7,d,B3,rfl⟩,rfl⟩
            ·refine dn 2048 mixed 24 [([],16777215),([],16777215),([1],16777213),([2],16777211),([],16777215),([4],16777199),([5],16777183),([],16777215),([],16777215),([7,8],16776831),([9],16776703),([0,3,6,10],16776118),([11],16775167),([12,11],16773119),([13],16769023),([14,13],16752639),([15,13],16736255),([13],16769023),([17,13],16637951),([18,13],16506879),([19,13],16244735),([16,20,13,13],15654911),([21,13],14671871),([13,22],12574719)] f0.ext (fun O=>?_);have C3:=f0.step (Ext.draw _);refine dr 15 O [0,1,2,3,4,5,6,7,8] ?_;refine dw [0,7,8,9,10,11,12,130,133,136,137,138] ?_;obtain⟨J7,B5,d⟩:=bS d;refine o1 O 9 (mx (Ext.refl _) O ((C3.bring 7 rfl).own) B5 (fun a9 W7 T4 q5=>?_));cases q5;refine o1 O 10 (mq O rfl (q1 T4 0) ?_);obtain⟨c6,C5,d⟩:=bS d;refine o1 O 11 (mW O ziP (zaG (W:=w) (RR:=_) (x0:=h.2.2) (x1:=x0.Qi) (x2:=e0.Qz) (x3:=J7) C3 (ty37.ext hE (z5J x0.Qi h3)) (At.ext hE (At.sub Q0 0 4)) (z2B.ext hE (z4H e0.Qz N6 O6)) (At.ext hE (At.sub q0 1 5)) C5) (fun p9 J9 p4=>?_));obtain⟨V3,R5,W3,S5,X3,T5,Y3,U5,a4,V5,b4,W5,rfl,N0⟩:=p4;refine⟨N0.ext,?_⟩;refine dr 10 O [12,13] ?_;refine dw [0,7,8,9,10,11,12,143] ?_;refine db 143 d (fun d=>?_) (fun d=>?_)
             ·refine dr 0 O [14,15,16,17,18,19,20,21,22,23] ?_;refine dw [0,7,8,9,10,11,12,153] ?_;refine dd O ?_;exact⟨(true,c6.2),_,⟨V3,R5,W3,S5,X3,T5,Y3,U5,a4,V5,b4,W5,d,N0,rfl⟩,rfl⟩
             ·refine dr 4 O [14,15,16,17,18,19] ?_;refine dV O 20 rfl (qN (At.sub (At.ext hE q0) 9 3)) ?_;obtain⟨G7,D5,d⟩:=bS d;refine o1 O 21 (mc O zd0 (z7x (hE.trans N0.ext) (z5J x0.Qi h3) (At.sub Q0 0 4) (zO e0.B) D5) (fun q9 K9 q4=>?_));obtain⟨rfl,t3⟩:=q4;refine⟨t3.ext,?_⟩;have C4:=N0.join t3;refine dr 0 O [22,23] ?_;refine dw [0,7,8,9,10,11,12,153] ?_;refine dd O ?_;exact⟨(!G7,c6.2),_,⟨V3,R5,W3,S5,X3,T5,Y3,U5,a4,V5,b4,W5,d,C4,rfl⟩,rfl⟩
           ·refine sp ?_;exact⟨(h.1,h.2.2),_,⟨y0,F0,A0,G0,B0,H0,C0,J0,D0,K0,E0,L0,d,f0,rfl⟩,rfl⟩
       ·refine ci d (fun d=>?_) (fun d=>?_)
        ·refine sp ?_;exact⟨(e0.Qj == 1),_,⟨d,(Ext.refl _),X,rfl⟩,rfl⟩
        ·refine rg<|rr 2 ?_;refine rn ?_;exact⟨(e0.Qj == 2),_,⟨d,(Ext.refl _),X,rfl⟩,rfl⟩
      ·refine xt ?_;cases d;exact⟨_,_,⟨y0,F0,A0,G0,B0,H0,C0,J0,D0,K0,E0,L0,g1,X,rfl⟩,rfl⟩
    ·refine xt ?_;cases M;exact⟨_,_,⟨c4,X5,d4,Y5,e4,a6,S0,m1,T0,n1,U0,p1,f1,Y0,rfl⟩,rfl⟩
 ·refine bk<|wk [0,4,5] ?_;refine it (fun(J3:Int × (List D.Qb)) F w9=>∃ U3 Q5,St w w9 [Own (z8E W) [sl U3 J3.2 Q5] J3.2]∧F=[(0,.pointer (some M0)),(4,sl U3 J3.2 Q5),(5,iv J3.1)]) W6 ⟨n8,J8,U6,rfl⟩ ?_;rintro J3 F L9 _ U8 ⟨U3,Q5,e1,rfl⟩ Z g5;unfold z3S at Z;refine sq<|sq<|rg<|rr 4 ?_;refine l1 (ax hE e1 Q0) 4 ?_;refine rr 2 ?_;refine rn<|ci Z (fun Z=>?_) (fun Z=>?_)
  ·refine sp<|sq<|bk<|sq<|rg<|rr 1 ?_;refine rn ?_;obtain⟨D7,d5,Z⟩:=bS Z;refine ct (fun(v1:(List D.Qb)) F w9=>∃ t2 p3,D7=.inl v1∧St w w9 [Own (z8E W) [sl t2 v1 p3] v1]∧F=[(0,.pointer (some M0)),(4,sl t2 v1 p3),(5,iv J3.1)]) ?_ ?_
   ·rintro v1 F M9 ⟨t2,p3,i5,D4,rfl⟩;subst i5;rw [z8] at Z;unfold z9s at Z;refine rg<|rr 3 ?_;refine rn ?_;cases Z;exact⟨_,_,rfl,⟨t2,p3,D4,rfl⟩,rfl⟩
   ·refine bk<|wk [0,4,5,6] ?_;refine it (fun(t0:Int × (List D.Qb)) F w9=>∃ V0 t1,St w w9 [Own (z8E W) [sl V0 t0.2 t1] t0.2]∧F=[(0,.pointer (some M0)),(4,sl V0 t0.2 t1),(5,iv J3.1),(6,iv t0.1)]) d5 ⟨U3,Q5,e1,rfl⟩ ?_;rintro t0 F N9 _ E7 ⟨V0,t1,H,rfl⟩ q j5;unfold z5N at q;refine sq<|sq<|rg<|rr 4 ?_;refine l1 (ax hE H Q0) 4 ?_;refine rr 1 ?_;obtain⟨T9,E5,q⟩:=bS q;refine ix (hE.trans H.ext) h6 E5 (fun b9 X7 U4 r5=>?_);obtain⟨r8,M8,H6⟩:=zZ r5;subst H6;refine l1 (ax hE H U4) 0 ?_;refine rr 2 ?_;refine rn<|ci q (fun q=>?_) (fun q=>?_)
    ·refine sp<|sq<|bk<|sq<|rg<|rr 3 ?_;refine l1 (ax hE H Q0) 4 ?_;refine rr 1 ?_;obtain⟨U9,F5,q⟩:=bS q;refine ix (hE.trans H.ext) h6 F5 (fun c9 Y7 V4 F3=>?_);obtain⟨s8,N8,J6⟩:=zZ F3;subst J6;refine l1 (ax hE H V4) 0 ?_;refine rr 1 ?_;obtain⟨V9,G5,q⟩:=bS q;refine ix (hE.trans H.ext) F3 G5 (fun d9 a8 W4 s5=>?_);obtain⟨t8,O8,u8,P8,K6,C8,D8⟩:=zC s5;subst K6;refine rr 1 ?_;refine l1 (ax hE H W4) 0 ?_;refine rr 1 ?_;refine rn<|ct (fun(y1:(List D.Qb)) F w9=>∃ u2 q3,z51 fu t0 y1=some E7∧St w w9 [Own (z8E W) [sl u2 y1 q3] y1]∧F=[(0,.pointer (some M0)),(4,sl u2 y1 q3),(5,iv J3.1),(6,iv t0.1)]) ?_ ?_
     ·rintro y1 F O9 ⟨u2,q3,q,E4,rfl⟩;unfold z51 at q;refine rg<|rr 3 ?_;refine rn ?_;cases q;exact⟨_,_,rfl,⟨u2,q3,E4,rfl⟩,rfl⟩
     ·refine ci q (fun q=>?_) (fun q=>?_)
      ·refine rg<|rr 4 ?_;refine l1 (ax hE H Q0) 4 ?_;refine rr 1 ?_;obtain⟨W9,H5,q⟩:=bS q;refine ix (hE.trans H.ext) h6 H5 (fun e9 b8 X4 G3=>?_);obtain⟨v8,Q8,L6⟩:=zZ G3;subst L6;refine l1 (ax hE H X4) 0 ?_;refine rr 1 ?_;obtain⟨p0,J5,q⟩:=bS q;refine ix (hE.trans H.ext) G3 J5 (fun f9 c8 Y4 t5=>?_);obtain⟨B6,v7,C6,x7,M6,P6,Q6⟩:=zC t5;subst M6;refine rr 1 ?_;refine lN (At.sub (ax hE H Y4) 1 5) ?_;have F4:=St.noEl (zaA W) H;have G4:=St.bor (T:=z3r) (x:=p0.Qz.QX) F4 Q6;have H4:=St.bor (T:=ty29) (x:=p0.Qz.Data) G4 P6;have J4:=zhm (W0:=W) (c:=p0.Qz) (B:=_) H4;have K4:=St.consEl J4;refine ns (U:=(zaA W)) (els:=[iv p0.Qz.Qj,iv p0.Qz.QL,iv p0.Qz.Value,.slice B6 p0.Qz.Data.length v7,.slice C6 p0.Qz.QX.length x7]) (ys:=[p0.Qz]) K4 (fun x8 R8 P9 A8 L4=>?_);have M4:=L4.bring 1 rfl;have N4:=M4.bring 1 rfl;obtain⟨a5,q⟩:=iS q;refine ao N4 a5 (fun D6 y7 Q9 O4=>?_) (hpos:=(Nat.le_of_ble_eq_true rfl));refine rr 1 ?_;refine rn ?_;exact⟨(t0.2++([p0.Qz]:(List D.Qb))),_,⟨D6,y7,q,O4,rfl⟩,rfl⟩
      ·refine sp ?_;exact⟨t0.2,_,⟨V0,t1,q,H,rfl⟩,rfl⟩
    ·refine xt ?_;cases q;exact⟨_,_,⟨V0,t1,j5,H,rfl⟩,rfl⟩
  ·refine xt ?_;cases Z;exact⟨_,_,⟨U3,Q5,g5,e1,rfl⟩,rfl⟩

theorem zon:EN 124:=en Tryz.func124
def zbh (fu:Nat) (d:Unit):Option Bool:=some true
def zbg (fu:Nat) (d:Int) (h:Unit):Option (Rd (Int) (Unit) (Bool)):=some (.next (w64 (d+1)))
def z55 (fu:Nat) (d:Int) (h:Bool):Option (Rd (Int) (Unit) (Rd (Int) (Unit) (Bool))):=(if h=true then some (.ret (.ret false)) else some (.next (w64 (d+1))))
def z56 (fu:Nat) (x0:D.Qi) (x1:D.Qm) (h:Int) (d:Int):Option (Rd (Int) (Unit) (Rd (Int) (Unit) (Bool))):=((idx x0.Qc h).bind fun M=>(if(decide (d<(M.QG.length:Int)))=true then((idx x0.Qc h).bind fun O=>((idx O.QG d).bind fun o=>(if o.Qa0=true then((idx x1.QM h).bind fun q=>((idx q d).bind fun G=>((idx x1.ends G).bind fun H=>z55 fu d ((H.length:Int) != 2)))) else z55 fu d false))) else some (.brk ())))
def z57 (fu:Nat) (x0:D.Qi) (x1:D.Qm) (d:Int):Option (Rd (Int) (Unit) (Bool)):=(if(decide (d<(x0.Qc.length:Int)))=true then((iter (z56 fu x0 x1 d) fu 0).bind fun o=>aft o (zbg fu d)) else some (.brk ()))
def z97 (fu:Nat) (x0:D.Qi) (x1:D.Qm) (d:Unit):Option Bool:=((iter (z57 fu x0 x1) fu 0).bind fun o=>aft o (zbh fu))
def z58 (fu:Nat) (x1:D.Qm) (d:Int):Option (Rd (Int) (Unit) (Bool)):=(if(decide (d<(x1.QH.length:Int)))=true then((idx x1.ends d).bind fun h=>(if((h.length:Int) != 1)=true then some (.ret false) else some (.next (w64 (d+1))))) else some (.brk ()))
def z5A (fu:Nat) (x0:D.Qi) (x1:D.Qm):Option (Bool):=((iter (z58 fu x1) fu 0).bind fun o=>aft o (z97 fu x0 x1))

theorem zev {W w:World}(hE:Ext W w){S:Addr}{p1:List Value}{x0:D.Qi}{X:Addr}{t1:List Value}{x1:D.Qm}(U1:ty37.ro W p1 x0) (M0:At W S p1) (Y1:zmh.ro W t1 x1) (E0:At W X t1){fu:Nat}{r:Bool}(hm:z5A fu x0 x1=some r):
  CL 124 ⟨[.pointer (some S),.pointer (some X)]⟩ w (RB w r):=by
 obtain⟨A1,k2,e4,h3⟩:=z4d U1;subst e4;obtain⟨A5,k6,H2,X2,J2,Y2,K2,a3,L2,b3,M2,c3,Q1,h7,R2,S2,X1,D1,T2⟩:=zgR Y1;subst Q1;refine into Tryz.func124 80 _ ?_;unfold z5A at hm;have hS:=St.start w;refine sq<|rg<|rr 1 ?_;refine rn<|sq<|sq<|rg<|rr 1 ?_;refine rn ?_;obtain⟨o2,V0,hm⟩:=bS hm;refine ct (fun(F1:Unit) F w9=>o2=.inl F1∧Ext w w9∧St w w9 []∧F=[(0,.pointer (some S)),(1,.pointer (some X))]) ?_ ?_
 ·rintro F1 F J1 ⟨a1,a2,Q0,rfl⟩;subst a1;rw [z8] at hm;unfold z97 at hm;refine sq<|sq<|rg<|rr 1 ?_;refine rn ?_;obtain⟨p2,X0,hm⟩:=bS hm;refine ct (fun(G1:Unit) F w9=>p2=.inl G1∧Ext J1 w9∧St w w9 []∧F=[]) ?_ ?_
  ·rintro G1 F k3 ⟨d1,d2,R0,rfl⟩;subst d1;rw [z8] at hm;unfold zbh at hm;refine sq<|rg<|rr 1 ?_;refine rn<|rt ?_;cases hm;exact⟨_,tR rfl,rfl,R0⟩
  ·refine bk<|wk [0,1,6] ?_;refine it (fun(D0:Int) F w9=>Ext J1 w9∧St w w9 []∧F=[(0,.pointer (some S)),(1,.pointer (some X)),(6,iv D0)]) X0 ⟨(Ext.refl _),Q0,rfl⟩ ?_;rintro D0 F K1 _ g3 ⟨a0,Y,rfl⟩ G o0;unfold z57 at G;refine sq<|sq<|rg<|rr 4 ?_;refine l1 (ax hE Y M0) 0 ?_;refine rr 2 ?_;refine rn<|ci G (fun G=>?_) (fun G=>?_)
   ·refine sp<|sq<|bk<|sq<|rg<|rr 1 ?_;refine rn ?_;obtain⟨q2,Y0,G⟩:=bS G;refine ct (fun(H1:Unit) F w9=>q2=.inl H1∧Ext K1 w9∧St w w9 []∧F=[(0,.pointer (some S)),(1,.pointer (some X)),(6,iv D0)]) ?_ ?_
    ·rintro H1 F m3 ⟨e1,O0,S0,rfl⟩;subst e1;rw [z8] at G;unfold zbg at G;refine rg<|rr 3 ?_;refine rn ?_;cases G;exact⟨_,_,rfl,⟨(a0.trans O0),S0,rfl⟩,rfl⟩
    ·refine bk<|wk [0,1,6,7] ?_;refine it (fun(F0:Int) F w9=>Ext K1 w9∧St w w9 []∧F=[(0,.pointer (some S)),(1,.pointer (some X)),(6,iv D0),(7,iv F0)]) Y0 ⟨(Ext.refl _),Y,rfl⟩ ?_;rintro F0 F C2 _ r2 ⟨b0,o,rfl⟩ d p0;unfold z56 at d;refine sq<|sq<|rg<|rr 4 ?_;refine l1 (ax hE o M0) 0 ?_;refine rr 1 ?_;obtain⟨o3,i1,d⟩:=bS d;refine ix (hE.trans o.ext) h3 i1 (fun i3 S1 T0 f1=>?_);obtain⟨N2,d3,O2,e3,P2,f3,R1,U2,V2,W2⟩:=zw f1;subst R1;refine rr 1 ?_;refine l1 (ax hE o T0) 1 ?_;refine rr 2 ?_;refine rn<|ci d (fun d=>?_) (fun d=>?_)
     ·refine sp<|sq<|bk<|sq<|ct (fun(m1:Bool) F w9=>z55 fu F0 m1=some r2∧Ext C2 w9∧St w w9 []∧F=[(0,.pointer (some S)),(1,.pointer (some X)),(6,iv D0),(7,iv F0),(79,.bool m1)]) ?_ ?_
      ·rintro m1 F n3 ⟨d,P0,d0,rfl⟩;unfold z55 at d;refine ci d (fun d=>?_) (fun d=>?_)
       ·refine sq<|rg<|rr 1 ?_;refine rn<|rt ?_;cases d;cases p0;have G:some _=some _:=G;cases G;cases o0;have hm:some _=some _:=hm;cases hm;exact⟨_,tR rfl,rfl,d0⟩
       ·refine sp<|rg<|rr 3 ?_;refine rn ?_;cases d;exact⟨_,_,rfl,⟨(b0.trans P0),d0,rfl⟩,rfl⟩
      ·refine dn 0 mixed 32 [([],4294967295),([0],4294967294),([1],4294967293),([2],4294967291),([],4294967295),([3,4],4294967271),([5],4294967263),([6],4294967231),([],4294967295),([7,8],4294966911),([9],4294966783),([10],4294966271),([11],4294965247),([12],4294963199),([13,12],4294955007),([14,12],4294946815),([15,12],4294930431),([12],4294963199),([17,12],4294832127),([18,12],4294701055),([19,12],4294438911),([12],4294963199),([20,21,12],4291817471),([22,12],4290768895),([12],4294963199),([23,24,12],4269797375),([25,12],4261408767),([16,26,12],4227788799),([27,12],4160745471),([28,12],4026527743),([29,12],3758092287),([12,30],3221221375)] o.ext (fun h=>?_);have e0:=o.step (Ext.draw _);refine dr 27 h [0,1,2,4,8] ?_;refine dw [0,1,6,7,50,52,56] ?_;refine dl h 3 (ax hE o M0) 0 ?_;obtain⟨p3,j1,d⟩:=bS d;refine dx (hE.trans o.ext) h 5 h3 j1 (fun j3 T1 U0 g1=>?_);obtain⟨Q2,e2,L1,f2,M1,g2,G0,V1,N0,W1⟩:=zw g1;subst G0;refine dr 24 h [6] ?_;refine dl h 7 (ax hE o U0) 1 ?_;obtain⟨D2,v0,d⟩:=bS d;refine dx (hE.trans o.ext) h 9 N0 v0 (fun t2 u1 f0 q0=>?_);have H0:=z1n q0;subst H0;refine dr 21 h [10] ?_;refine dw [0,1,6,7,58] ?_;refine dl h 11 (ax hE o f0) 0 ?_;refine dr 19 h [12] ?_;refine db 60 d (fun d=>?_) (fun d=>?_)
       ·refine dr 11 h [13,14,15,17,18,19,21,24] ?_;refine dw [0,1,6,7,60,63,67,69,72] ?_;refine dl h 16 (ax hE o E0) 4 ?_;refine dl h 20 (ax hE o E0) 3 ?_;obtain⟨E2,y0,d⟩:=bS d;refine dx (hE.trans o.ext) h 22 X1 y0 (fun u2 v1 g0 O=>?_);obtain⟨N1,i2,J0⟩:=z1z O;subst J0;refine dl h 23 (ax hE o g0) 0 ?_;obtain⟨F2,A0,d⟩:=bS d;refine dx (hE.trans o.ext) h 25 O A0 (fun v2 y1 i0 r0=>?_);cases r0;refine dl h 26 (ax hE o i0) 0 ?_;obtain⟨n1,B0,d⟩:=bS d;refine dx (hE.trans o.ext) h 27 D1 B0 (fun y2 B1 j0 t0=>?_);obtain⟨O1,j2,K0⟩:=z1z t0;subst K0;refine dl h 28 (ax hE o j0) 0 ?_;refine dr 0 h [29,30,31] ?_;refine dw [0,1,6,7,79] ?_;refine dd h ?_;exact⟨((n1.length:Int) != 2),_,⟨d,(Ext.draw _),e0,rfl⟩,rfl⟩
       ·refine dr 0 h [13,14,15,16,17,18,19,20,21,22,23,24,25,26,27,28,29,30,31] ?_;refine dw [0,1,6,7,79] ?_;refine dd h ?_;exact⟨false,_,⟨d,(Ext.draw _),e0,rfl⟩,rfl⟩
     ·refine xt ?_;cases d;exact⟨_,_,⟨p0,b0,o,rfl⟩,rfl⟩
   ·refine xt ?_;cases G;exact⟨_,_,⟨o0,a0,Y,rfl⟩,rfl⟩
 ·refine bk<|wk [0,1,5] ?_;refine it (fun(E1:Int) F w9=>Ext w w9∧St w w9 []∧F=[(0,.pointer (some S)),(1,.pointer (some X)),(5,iv E1)]) V0 ⟨(Ext.refl _),hS,rfl⟩ ?_;rintro E1 F B2 _ n2 ⟨Z,H,rfl⟩ q M;unfold z58 at q;refine sq<|sq<|rg<|rr 4 ?_;refine l1 (ax hE H E0) 1 ?_;refine rr 2 ?_;refine rn<|ci q (fun q=>?_) (fun q=>?_)
  ·refine sp<|sq<|bk<|sq<|rg<|rr 3 ?_;refine l1 (ax hE H E0) 4 ?_;refine rr 1 ?_;obtain⟨G2,C0,q⟩:=bS q;refine ix (hE.trans H.ext) D1 C0 (fun A2 C1 k0 u0=>?_);obtain⟨P1,m2,L0⟩:=z1z u0;subst L0;refine l1 (ax hE H k0) 0 ?_;refine rr 2 ?_;refine rn<|ci q (fun q=>?_) (fun q=>?_)
   ·refine sq<|rg<|rr 1 ?_;refine rn<|rt ?_;cases q;cases M;have hm:some _=some _:=hm;cases hm;exact⟨_,tR rfl,rfl,H⟩
   ·refine sp<|rg<|rr 3 ?_;refine rn ?_;cases q;exact⟨_,_,rfl,⟨Z,H,rfl⟩,rfl⟩
  ·refine xt ?_;cases q;exact⟨_,_,⟨M,Z,H,rfl⟩,rfl⟩

theorem zkf:EN 63:=en Tryz.func63
def z9k (fu:Nat) (x0:D.Qa):Option (Bool):=((z7y fu x0).bind fun h=>(if(!h)=true then some false else((z8c fu x0).bind fun d=>(if d.2=true then((z5A fu x0.Qi d.1).bind fun o=>some o) else some false))))

theorem zdX {W w:World}(hE:Ext W w){e0:Addr}{d0:List Value}{x0:D.Qa}(q:ty40.ro W d0 x0) (o:At W e0 d0){fu:Nat}{r:Bool}(hm:z9k fu x0=some r):
  CL 63 ⟨[.pointer (some e0)]⟩ w (RB w r):=by
 obtain⟨A1,k2,A4,k5,A7,B0,i0,C0,j0,D0,f0,h3,h6,v0,y0,A0⟩:=z88 q;subst f0;refine into Tryz.func63 21 _ ?_;unfold z9k at hm;have hS:=St.start w;refine sq<|rg<|rr 1 ?_;refine rn<|sq<|sq<|rg<|rr 1 ?_;obtain⟨L0,Z,hm⟩:=bS hm;refine ca zop (zeu (hE.trans hS.ext) q o Z) (fun N0 Q0 G=>?_);obtain⟨rfl,H⟩:=G;have h:=hS.join H;refine rr 1 ?_;refine rn<|ci hm (fun hm=>?_) (fun hm=>?_)
 ·refine sq<|rg<|rr 1 ?_;refine rn<|rt ?_;cases hm;exact⟨_,tR rfl,rfl,h⟩
 ·refine sp<|sq<|rg<|rr 1 ?_;obtain⟨g0,a0,hm⟩:=bS hm;refine ca zoo (zeW (hE.trans h.ext) q o a0) (fun O0 R0 M=>?_);obtain⟨u0,k0,E0,o0,F0,p0,G0,q0,H0,r0,J0,t0,K0,rfl,O⟩:=M;have d:=h.join O;refine rr 5 ?_;refine rn<|sq<|rg<|rr 2 ?_;refine rb 14 hm (fun hm=>?_) (fun hm=>?_)
  ·refine rr 4 ?_;obtain⟨M0,b0,hm⟩:=bS hm;refine ca zon (zev (Ext.refl _) (z5J x0.Qi (ty34.ext (hE.trans d.ext) h3)) (At.sub (ax hE d o) 0 4) (z5y g0.1 ((d.bring 1 rfl).own) ((d.bring 2 rfl).own) ((d.bring 3 rfl).own) ((d.bring 4 rfl).own) ((d.bring 5 rfl).own) ((d.bring 6 rfl).own)) ((d.bring 0 rfl).box) b0) (fun P0 S0 S=>?_);obtain⟨rfl,X⟩:=S;have Y:=d.join X;refine rr 2 ?_;refine rn<|rt ?_;cases hm;exact⟨_,tR rfl,rfl,(Y.taken 0)⟩
  ·refine rr 7 ?_;refine rn<|rt ?_;cases hm;exact⟨_,tR rfl,rfl,(d.taken 0)⟩

theorem zfi:EN 68:=en Tryz.func68
def z1i (fu:Nat) (x0:D.Qa):Option (Int):=some (x0.Qi.Qc.length:Int)

theorem z49 {W w:World}(hE:Ext W w){h:Addr}{d:List Value}{x0:D.Qa}(G:ty40.ro W d x0) (q:At W h d){fu:Nat}{r:Int}(hm:z1i fu x0=some r):
  CL 68 ⟨[.pointer (some h)]⟩ w (RI w r):=by
 obtain⟨A1,k2,A4,k5,A7,Y,H,Z,M,a0,o,h3,h6,O,S,X⟩:=z88 G;subst o;refine into Tryz.func68 9 _ ?_;unfold z1i at hm;have hS:=St.start w;refine sq<|rg<|rr 1 ?_;refine rn<|sq<|rg<|rr 4 ?_;refine l1 (ax hE hS q) 0 ?_;refine rr 2 ?_;refine rn<|rt ?_;cases hm;exact⟨_,tR rfl,rfl,hS⟩

theorem znV:EN 182:=en Tryz.func182
def z1v (fu:Nat) (t2:Unit):Option Int:=some (-1)
def zu (fu:Nat) (x0:(List D.Qe)) (x1:D.Qe→Option Bool) (s1:Int):Option (Rd (Int) (Unit) (Int)):=(if(decide (s1<(x0.length:Int)))=true then((idx x0 s1).bind fun h=>((x1 h).bind fun d=>(if d=true then some (.ret s1) else some (.next (w64 (s1+1)))))) else some (.brk ()))
def z14 (fu:Nat) (x0:(List D.Qe)) (x1:D.Qe→Option Bool):Option (Int):=((iter (zu fu x0 x1) fu 0).bind fun o=>aft o (z1v fu))

theorem z7g {W w:World}(hE:Ext W w){M:Option Addr}{d0:Nat}{x0:(List D.Qe)}{f1_:Nat}{u1_:List Value}{x1:D.Qe→Option Bool}(j0:z7U.ro W [sl M x0 d0] x0) (e0:Enters Tryz.prog f1_∧∀ {w9:World},Ext W w9→∀ {cz0:List Value}{z0:D.Qe}{y9:Bool},z8K.ro w9 cz0 z0→x1 z0=some y9→CL f1_ ⟨[.agg ⟨cz0⟩]++u1_⟩ w9 (Ret fun v w8=>v=.bool y9∧St w9 w8 [])){fu:Nat}{r:Int}(hm:z14 fu x0 x1=some r):
  CL 182 ⟨[sl M x0 d0,.func (.func f1_) #[] ⟨u1_⟩]⟩ w (RI w r):=by
 refine into Tryz.func182 19 _ ?_;unfold z14 at hm;have hS:=St.start w;refine sq<|rg<|rr 1 ?_;refine rn<|sq<|sq<|rg<|rr 3 ?_;refine rn ?_;obtain⟨k0,Y,hm⟩:=bS hm;refine ct (fun(t2:Unit) F w9=>k0=.inl t2∧Ext w w9∧St w w9 []∧F=[]) ?_ ?_
 ·rintro t2 F w7 ⟨Z,t0,S,rfl⟩;subst Z;rw [z8] at hm;unfold z1v at hm;refine sq<|rg<|rr 1 ?_;refine rn<|rt ?_;cases hm;exact⟨_,tR rfl,rfl,S⟩
 ·refine bk<|wk [0,1,7,8] ?_;refine it (fun(s1:Int) F w9=>Ext w w9∧St w w9 []∧F=[(0,sl M x0 d0),(1,.func (.func f1_) #[] ⟨u1_⟩),(7,iv (x0.length:Int)),(8,iv s1)]) Y ⟨(Ext.refl _),hS,rfl⟩ ?_;rintro s1 F D0 _ y0 ⟨f0,h,rfl⟩ d G;unfold zu at d;refine sq<|rg<|rr 1 ?_;refine rn<|sq<|ci d (fun d=>?_) (fun d=>?_)
  ·refine sp<|sq<|bk<|sq<|rg<|rr 2 ?_;refine rn<|sq<|rg<|rr 3 ?_;obtain⟨F0,a0,d⟩:=bS d;refine ix (hE.trans h.ext) j0 a0 (fun A0 i0 X H=>?_);obtain⟨o0,u0,p0,v0,g0,q0,r0⟩:=zC H;subst g0;refine lN (ax hE h X) ?_;obtain⟨B0,b0,d⟩:=bS d;refine ca e0.1 (e0.2 (hE.trans h.ext) (z8K.ext (hE.trans h.ext) H) b0) (fun C0 E0 O=>?_);obtain⟨rfl,o⟩:=O;have q:=h.join o;refine rn<|ci d (fun d=>?_) (fun d=>?_)
   ·refine sq<|rg<|rr 2 ?_;refine rn<|rt ?_;cases d;cases G;have hm:some _=some _:=hm;cases hm;exact⟨_,tR rfl,rfl,q⟩
   ·refine sp<|rg<|rr 2 ?_;refine rn ?_;cases d;exact⟨_,_,rfl,⟨(f0.trans o.ext),q,rfl⟩,rfl⟩
  ·refine xt ?_;cases d;exact⟨_,_,⟨G,f0,h,rfl⟩,rfl⟩

theorem zj2:EN 128:=en Tryz.func128
def zj (fu:Nat) (x0:(List D.Qe)) (x1:D.Qe→Option Bool):Option (Bool):=((z14 fu x0 x1).bind fun r1=>some (decide (r1≥0)))

theorem z2p {W w:World}(hE:Ext W w){d:Option Addr}{h:Nat}{x0:(List D.Qe)}{f1_:Nat}{u1_:List Value}{x1:D.Qe→Option Bool}(o:z7U.ro W [sl d x0 h] x0) (q:Enters Tryz.prog f1_∧∀ {w9:World},Ext W w9→∀ {cz0:List Value}{z0:D.Qe}{y9:Bool},z8K.ro w9 cz0 z0→x1 z0=some y9→CL f1_ ⟨[.agg ⟨cz0⟩]++u1_⟩ w9 (Ret fun v w8=>v=.bool y9∧St w9 w8 [])){fu:Nat}{r:Bool}(hm:zj fu x0 x1=some r):
  CL 128 ⟨[sl d x0 h,.func (.func f1_) #[] ⟨u1_⟩]⟩ w (RB w r):=by
 refine into Tryz.func128 9 _ ?_;unfold zj at hm;have hS:=St.start w;refine sq<|rg<|rr 1 ?_;refine rn<|sq<|rg<|rr 2 ?_;obtain⟨r1,O,hm⟩:=bS hm;refine ca znV (z7g (hE.trans hS.ext) o q O) (fun v3 w4 G=>?_);obtain⟨rfl,H⟩:=G;have M:=hS.join H;refine rr 2 ?_;refine rn<|rt ?_;cases hm;exact⟨_,tR rfl,rfl,M⟩

theorem znr:EN 231:=en Tryz.func231
def z7A (fu:Nat) (t2:Unit):Option Bool:=some true
def z2o (fu:Nat) (x0:(List Int)) (x1:(List Int)) (s1:Int):Option (Rd (Int) (Unit) (Bool)):=(if(decide (s1<(x0.length:Int)))=true then((idx x0 s1).bind fun d=>((idx x1 s1).bind fun h=>(if(d != h)=true then some (.ret false) else some (.next (w64 (s1+1)))))) else some (.brk ()))
def z1Z (fu:Nat) (x0:(List Int)) (x1:(List Int)):Option (Bool):=(if((x0.length:Int) != (x1.length:Int))=true then some false else((iter (z2o fu x0 x1) fu 0).bind fun o=>aft o (z7A fu)))

theorem zb8 {W w:World}(hE:Ext W w){H:Option Addr}{f0:Nat}{x0:(List Int)}{M:Option Addr}{g0:Nat}{x1:(List Int)}(o0:ty29.ro W [sl H x0 f0] x0) (p0:ty29.ro W [sl M x1 g0] x1){fu:Nat}{r:Bool}(hm:z1Z fu x0 x1=some r):
  CL 231 ⟨[sl H x0 f0,sl M x1 g0]⟩ w (RB w r):=by
 refine into Tryz.func231 26 _ ?_;unfold z1Z at hm;have hS:=St.start w;refine sq<|rg<|rr 1 ?_;refine rn<|sq<|sq<|rg<|rr 5 ?_;refine rn<|ci hm (fun hm=>?_) (fun hm=>?_)
 ·refine sq<|rg<|rr 1 ?_;refine rn<|rt ?_;cases hm;exact⟨_,tR rfl,rfl,hS⟩
 ·refine sp<|sq<|sq<|rg<|rr 3 ?_;refine rn ?_;obtain⟨q0,Y,hm⟩:=bS hm;refine ct (fun(t2:Unit) F w9=>q0=.inl t2∧Ext w w9∧St w w9 []∧F=[]) ?_ ?_
  ·rintro t2 F w7 ⟨Z,r0,O,rfl⟩;subst Z;rw [z8] at hm;unfold z7A at hm;refine sq<|rg<|rr 1 ?_;refine rn<|rt ?_;cases hm;exact⟨_,tR rfl,rfl,O⟩
  ·refine bk<|wk [0,1,12,13] ?_;refine it (fun(s1:Int) F w9=>Ext w w9∧St w w9 []∧F=[(0,sl H x0 f0),(1,sl M x1 g0),(12,iv (x0.length:Int)),(13,iv s1)]) Y ⟨(Ext.refl _),hS,rfl⟩ ?_;rintro s1 F y0 _ t0 ⟨i0,h,rfl⟩ d G;unfold z2o at d;refine sq<|rg<|rr 1 ?_;refine rn<|sq<|ci d (fun d=>?_) (fun d=>?_)
   ·refine sp<|sq<|bk<|sq<|rg<|rr 2 ?_;refine rn<|sq<|dn 0 mixed 9 [([],511),([],511),([0,1],508),([2],507),([],511),([],511),([4,5],463),([6],447),([3,7],375)] h.ext (fun o=>?_);have q:=h.step (Ext.draw _);refine dr 5 o [0,1,4,5] ?_;obtain⟨A0,d0,d⟩:=bS d;refine dx (hE.trans h.ext) o 2 o0 d0 (fun u0 j0 S a0=>?_);cases a0;refine dl o 3 (ax hE h S) 0 ?_;obtain⟨B0,e0,d⟩:=bS d;refine dx (hE.trans h.ext) o 6 p0 e0 (fun v0 k0 X b0=>?_);cases b0;refine dl o 7 (ax hE h X) 0 ?_;refine dr 0 o [8] ?_;refine dw [0,1,12,13,24] ?_;refine dd o ?_;refine ci d (fun d=>?_) (fun d=>?_)
    ·refine sq<|rg<|rr 1 ?_;refine rn<|rt ?_;cases d;cases G;have hm:some _=some _:=hm;cases hm;exact⟨_,tR rfl,rfl,q⟩
    ·refine sp<|rg<|rr 2 ?_;refine rn ?_;cases d;exact⟨_,_,rfl,⟨(i0.trans (Ext.draw _)),q,rfl⟩,rfl⟩
   ·refine xt ?_;cases d;exact⟨_,_,⟨G,i0,h,rfl⟩,rfl⟩

theorem znq:EN 232:=en Tryz.func232
def z2Q (fu:Nat) (t2:Unit):Option Bool:=some true
def z10 (fu:Nat) (x0:(List D.Qf)) (x1:(List D.Qf)) (s1:Int):Option (Rd (Int) (Unit) (Bool)):=(if(decide (s1<(x0.length:Int)))=true then((idx x0 s1).bind fun d=>((idx x1 s1).bind fun h=>(if(!(((d.Qg:Int) == h.Qg) && (((d.Qj:Int) == h.Qj) && (((d.Qs:Int) == h.Qs) && true))))=true then some (.ret false) else some (.next (w64 (s1+1)))))) else some (.brk ()))
def zJ (fu:Nat) (x0:(List D.Qf)) (x1:(List D.Qf)):Option (Bool):=(if((x0.length:Int) != (x1.length:Int))=true then some false else((iter (z10 fu x0 x1) fu 0).bind fun o=>aft o (z2Q fu)))

theorem z7W {W w:World}(hE:Ext W w){H:Option Addr}{f0:Nat}{x0:(List D.Qf)}{M:Option Addr}{g0:Nat}{x1:(List D.Qf)}(q0:z3r.ro W [sl H x0 f0] x0) (r0:z3r.ro W [sl M x1 g0] x1){fu:Nat}{r:Bool}(hm:zJ fu x0 x1=some r):
  CL 232 ⟨[sl H x0 f0,sl M x1 g0]⟩ w (RB w r):=by
 refine into Tryz.func232 26 _ ?_;unfold zJ at hm;have hS:=St.start w;refine sq<|rg<|rr 1 ?_;refine rn<|sq<|sq<|rg<|rr 5 ?_;refine rn<|ci hm (fun hm=>?_) (fun hm=>?_)
 ·refine sq<|rg<|rr 1 ?_;refine rn<|rt ?_;cases hm;exact⟨_,tR rfl,rfl,hS⟩
 ·refine sp<|sq<|sq<|rg<|rr 3 ?_;refine rn ?_;obtain⟨t0,Y,hm⟩:=bS hm;refine ct (fun(t2:Unit) F w9=>t0=.inl t2∧Ext w w9∧St w w9 []∧F=[]) ?_ ?_
  ·rintro t2 F w7 ⟨Z,u0,O,rfl⟩;subst Z;rw [z8] at hm;unfold z2Q at hm;refine sq<|rg<|rr 1 ?_;refine rn<|rt ?_;cases hm;exact⟨_,tR rfl,rfl,O⟩
  ·refine bk<|wk [0,1,12,13] ?_;refine it (fun(s1:Int) F w9=>Ext w w9∧St w w9 []∧F=[(0,sl H x0 f0),(1,sl M x1 g0),(12,iv (x0.length:Int)),(13,iv s1)]) Y ⟨(Ext.refl _),hS,rfl⟩ ?_;rintro s1 F B0 _ v0 ⟨i0,h,rfl⟩ d G;unfold z10 at d;refine sq<|rg<|rr 1 ?_;refine rn<|sq<|ci d (fun d=>?_) (fun d=>?_)
   ·refine sp<|sq<|bk<|sq<|rg<|rr 2 ?_;refine rn<|sq<|dn 0 mixed 9 [([],511),([],511),([0,1],508),([2],507),([],511),([],511),([4,5],463),([6],447),([3,7],375)] h.ext (fun o=>?_);have q:=h.step (Ext.draw _);refine dr 5 o [0,1,4,5] ?_;obtain⟨C0,d0,d⟩:=bS d;refine dx (hE.trans h.ext) o 2 q0 d0 (fun y0 o0 S a0=>?_);have j0:=z1p a0;subst j0;refine dL o 3 (ax hE h S) ?_;obtain⟨D0,e0,d⟩:=bS d;refine dx (hE.trans h.ext) o 6 r0 e0 (fun A0 p0 X b0=>?_);have k0:=z1p b0;subst k0;refine dL o 7 (ax hE h X) ?_;refine dr 0 o [8] ?_;refine dw [0,1,12,13,24] ?_;refine dd o ?_;refine ci d (fun d=>?_) (fun d=>?_)
    ·refine sq<|rg<|rr 1 ?_;refine rn<|rt ?_;cases d;cases G;have hm:some _=some _:=hm;cases hm;exact⟨_,tR rfl,rfl,q⟩
    ·refine sp<|rg<|rr 2 ?_;refine rn ?_;cases d;exact⟨_,_,rfl,⟨(i0.trans (Ext.draw _)),q,rfl⟩,rfl⟩
   ·refine xt ?_;cases d;exact⟨_,_,⟨G,i0,h,rfl⟩,rfl⟩

theorem zgc:EN 183:=en Tryz.func183
def z1L (fu:Nat) (x0:D.Qb) (x1:D.Qb):Option (Bool):=(if(x0.Qj == x1.Qj)=true then(if(x0.QL == x1.QL)=true then(if(x0.Value == x1.Value)=true then((z1Z fu x0.Data x1.Data).bind fun d=>(if d=true then((zJ fu x0.QX x1.QX).bind fun h=>some h) else some false)) else some false) else some false) else some false)

theorem z8r {W w:World}(hE:Ext W w){Y:List Value}{x0:D.Qb}{Z:List Value}{x1:D.Qb}(b0:z2B.ro W Y x0) (f0:z2B.ro W Z x1){fu:Nat}{r:Bool}(hm:z1L fu x0 x1=some r):
  CL 183 ⟨[.agg ⟨Y⟩,.agg ⟨Z⟩]⟩ w (RB w r):=by
 obtain⟨A1,k2,A4,k5,e7,h3,h6⟩:=zq b0;subst e7;obtain⟨g0,q0,i0,r0,a0,d0,e0⟩:=zq f0;subst a0;refine into Tryz.func183 38 _ ?_;unfold z1L at hm;have hS:=St.start w;refine sq<|rg<|nw hS (fun o0 A0 j0 M=>?_);refine nw M (fun p0 B0 k0 d=>?_);refine rr 1 ?_;refine rn<|sq<|rg<|rr 1 ?_;refine l1 ((d.bring 1 rfl).box) 0 ?_;refine rr 1 ?_;refine l1 ((d.bring 0 rfl).box) 0 ?_;refine rr 2 ?_;refine rb 10 hm (fun hm=>?_) (fun hm=>?_)
 ·refine rr 1 ?_;refine l1 ((d.bring 1 rfl).box) 1 ?_;refine rr 1 ?_;refine l1 ((d.bring 0 rfl).box) 1 ?_;refine rr 3 ?_;refine rb 17 hm (fun hm=>?_) (fun hm=>?_)
  ·refine rr 1 ?_;refine l1 ((d.bring 1 rfl).box) 2 ?_;refine rr 1 ?_;refine l1 ((d.bring 0 rfl).box) 2 ?_;refine rr 3 ?_;refine rb 24 hm (fun hm=>?_) (fun hm=>?_)
   ·refine rr 1 ?_;refine l1 ((d.bring 1 rfl).box) 3 ?_;refine rr 1 ?_;refine l1 ((d.bring 0 rfl).box) 3 ?_;obtain⟨t0,S,hm⟩:=bS hm;refine ca znr (zb8 (hE.trans d.ext) h3 d0 S) (fun v0 C0 o=>?_);obtain⟨rfl,q⟩:=o;have h:=d.join q;refine rr 2 ?_;refine rb 31 hm (fun hm=>?_) (fun hm=>?_)
    ·refine rr 1 ?_;refine l1 ((h.bring 1 rfl).box) 4 ?_;refine rr 1 ?_;refine l1 ((h.bring 0 rfl).box) 4 ?_;obtain⟨u0,X,hm⟩:=bS hm;refine ca znq (z7W (hE.trans h.ext) h6 e0 X) (fun y0 D0 G=>?_);obtain⟨rfl,H⟩:=G;have O:=h.join H;refine rr 2 ?_;refine rn<|rt ?_;cases hm;exact⟨_,tR rfl,rfl,(O.taken 0)⟩
    ·refine rr 7 ?_;refine rn<|rt ?_;cases hm;exact⟨_,tR rfl,rfl,(h.taken 0)⟩
   ·refine rr 14 ?_;refine rn<|rt ?_;cases hm;exact⟨_,tR rfl,rfl,(d.taken 0)⟩
  ·refine rr 21 ?_;refine rn<|rt ?_;cases hm;exact⟨_,tR rfl,rfl,(d.taken 0)⟩
 ·refine rr 28 ?_;refine rn<|rt ?_;cases hm;exact⟨_,tR rfl,rfl,(d.taken 0)⟩

theorem z9U:EN 162:=en Tryz.func162
def zp (fu:Nat) (x0:(List Int)):Option ((List Int)):=(if decide ((([]:(List Int)).length:Int)+(x0.length:Int)≤4294967296)=true then some (([]:(List Int))++x0) else none)

theorem zx {W w:World}(hE:Ext W w){d:Option Addr}{q:Nat}{x0:(List Int)}(h:ty29.ro W [sl d x0 q] x0){fu:Nat}{r:(List Int)}(hm:zp fu x0=some r):
  CL 162 ⟨[sl d x0 q]⟩ w (Ret fun v w8=>∃ A0 k0,v=sl A0 r k0∧St w w8 [ow ty29 A0 r k0]):=by
 refine into Tryz.func162 8 _ ?_;unfold zp at hm;have hS:=St.start w;refine sq<|rg<|rr 1 ?_;refine rn<|sq<|sq<|rg<|rr 1 ?_;refine qt (qNilEq) ?_;refine rn ?_;cases d with
 | none=>
  have e:=zey (by decide) h;subst e;refine cd true (fun _=>?_) (fun hc=>by cases hc);refine sq<|rg<|rr 1 ?_;refine rn<|rt ?_;have hr:r=[]:=by simpa using hm.symm
  subst hr;exact⟨_,tR rfl,none,0,rfl,hS.nilSl tInt 2⟩
 | some p=>
  refine cd false (fun hc=>by cases hc) (fun _=>?_);refine sp<|sq<|rg<|n0 (U:=tInt) hS (fun A1 k1 w1 e1 o=>?_);refine rr 1 ?_
  by_cases hk:decide ((([]:(List Int)).length:Int)+(x0.length:Int)≤4294967296)=true
  case neg=>rw [if_neg hk] at hm;cases hm
  rw [if_pos hk] at hm;cases hm;refine ap Flat.int o (ty29.ext (hE.trans o.ext) h) hk (fun A2 k2 w2 G=>?_);refine rr 1 ?_;refine rn<|rt ?_;exact⟨_,tR rfl,A2,k2,rfl,G⟩

theorem zno:EN 234:=en Tryz.func234
def z7a (fu:Nat) (x0:D.Qb):Option (D.QJ):=((zp fu x0.Data).bind fun d=>(if decide (0≤(w64 ((x0.QX.length:Int)+1))∧(w64 ((x0.QX.length:Int)+1))≤4294967296)=true then some (⟨x0.Qj,x0.QL,x0.Value,d,(List.replicate (w64 ((x0.QX.length:Int)+1)).toNat (⟨(0:Int),(0:Int)⟩:D.QS))⟩:D.QJ) else none))

theorem zea {W w:World}(hE:Ext W w){i0:List Value}{x0:D.Qb}(r0:z2B.ro W i0 x0){fu:Nat}{r:D.QJ}(hm:z7a fu x0=some r):
  CL 234 ⟨[.agg ⟨i0⟩]⟩ w (Ret fun v w8=>∃ A0 k0 A1 k1,v=.agg ⟨[iv r.Qj,iv r.QL,iv r.Value,sl A0 r.Data k0,sl A1 r.QY k1]⟩∧St w w8 [ow ty29 A0 r.Data k0,ow z2E A1 r.QY k1]):=by
 obtain⟨A1,k2,A4,k5,e7,h3,h6⟩:=zq r0;subst e7;refine into Tryz.func234 18 _ ?_;unfold z7a at hm;have hS:=St.start w;refine sq<|rg<|nw hS (fun F0 M0 B0 a0=>?_);refine nw a0 (fun G0 N0 C0 h=>?_);refine rn<|sq<|dn 32768 mixed 16 [([],65535),([0],65534),([],65535),([2],65531),([],65535),([4],65519),([],65535),([6],65471),([7],65407),([],65535),([9],65023),([10],64511),([11],63487),([12,12],61439),([1,3,5,8,13],57045),([14,8,0,1,2,3,4,5,6,7,8,9,10,11,12,13,14],49151)] h.ext (fun d=>?_);have o:=h.step (Ext.draw _);refine dr 11 d [0,2,4,6,9] ?_;refine dl d 1 ((h.bring 1 rfl).box) 0 ?_;refine dl d 3 ((h.bring 1 rfl).box) 1 ?_;refine dl d 5 ((h.bring 1 rfl).box) 2 ?_;refine dl d 7 ((h.bring 1 rfl).box) 3 ?_;refine dl d 10 ((h.bring 1 rfl).box) 4 ?_;refine dr 4 d [11,12] ?_;refine dw [2,4,6,8,10,15] ?_;obtain⟨J0,X,hm⟩:=bS hm;obtain⟨S,hm⟩:=iS hm;refine da d [8,13] (by simp) ?_;intro H0 hi40;simp only [List.mem_cons,List.not_mem_nil,or_false] at hi40
 rcases hi40 with rfl | rfl
 ·refine mc d z9U (zx (hE.trans o.ext) h3 X) (fun K0 O0 Y=>?_);obtain⟨j0,t0,rfl,q⟩:=Y;refine⟨q.ext,?_⟩;have b0:=o.join q;have hz53:=of_decide_eq_true S;refine o1 d 13 (mk (U:=zeT) (⟨(0:Int),(0:Int)⟩:D.QS) b0 d hz53 (fun _=>(za7 (c:=(⟨(0:Int),(0:Int)⟩:D.QS)) rfl)) (fun o0 u0 P0 D0 d0=>?_));refine dp d 14 rfl (fun _=>qb) ?_;have e0:=d0.bring 2 rfl;refine o1 d 15 (ms (A:=[]) e0 d 0 (fun Q0 H=>?_));refine dd d ?_;refine rt ?_;cases hm;exact⟨_,.cons (ra ((H.bring 0 rfl).box)) .nil,j0,t0,o0,u0,rfl,(((H.bring 1 rfl).bring 2 rfl).taken 2)⟩
 ·have hz62:=of_decide_eq_true S;refine mk (U:=zeT) (⟨(0:Int),(0:Int)⟩:D.QS) o d hz62 (fun _=>(za7 (c:=(⟨(0:Int),(0:Int)⟩:D.QS)) rfl)) (fun p0 v0 R0 E0 M=>?_);refine o1 d 8 (mc d z9U (zx (hE.trans M.ext) h3 X) (fun L0 S0 Z=>?_));obtain⟨q0,y0,rfl,G⟩:=Z;refine⟨G.ext,?_⟩;have f0:=M.join G;refine dp d 14 rfl (fun _=>qb) ?_;have g0:=f0.bring 2 rfl;refine o1 d 15 (ms (A:=[]) g0 d 0 (fun T0 O=>?_));refine dd d ?_;refine rt ?_;cases hm;exact⟨_,.cons (ra ((O.bring 0 rfl).box)) .nil,q0,y0,p0,v0,rfl,(((O.bring 2 rfl).bring 2 rfl).taken 2)⟩

theorem ziO:EN 184:=en Tryz.func184
def z2x (fu:Nat) (x0:D.Qb):Option (Bool):=(if(x0.Qj == 0)=true then((z1L fu x0 (⟨0,0,0,[],[]⟩:D.Qb)).bind fun d=>some d) else(if(x0.Qj != 1)=true then((z7a fu x0).bind fun h=>((z3m fu h).bind fun o=>some o)) else some false))

theorem za6 {W w:World}(hE:Ext W w){d0:List Value}{x0:D.Qb}(o:z2B.ro W d0 x0){fu:Nat}{r:Bool}(hm:z2x fu x0=some r):
  CL 184 ⟨[.agg ⟨d0⟩]⟩ w (RB w r):=by
 obtain⟨A1,k2,A4,k5,e7,h3,h6⟩:=zq o;subst e7;refine into Tryz.func184 17 _ ?_;unfold z2x at hm;have hS:=St.start w;refine sq<|rg<|nw hS (fun j0 v0 i0 d=>?_);refine rr 1 ?_;refine rn<|sq<|sq<|rg<|rr 1 ?_;refine l1 ((d.bring 0 rfl).box) 0 ?_;refine rr 1 ?_;refine rn<|ci hm (fun hm=>?_) (fun hm=>?_)
 ·refine sq<|rg<|lN ((d.bring 0 rfl).box) ?_;refine qt (qb) ?_;obtain⟨p0,Z,hm⟩:=bS hm;refine ca zgc (z8r (hE.trans d.ext) o (z4H (⟨0,0,0,[],[]⟩:D.Qb) (slNil tInt 2 _) (slNil ty35 35 _)) Z) (fun r0 y0 q=>?_);obtain⟨rfl,G⟩:=q;have X:=d.join G;refine rr 1 ?_;refine rn<|rt ?_;cases hm;exact⟨_,tR rfl,rfl,(X.taken 0)⟩
 ·refine sp<|sq<|rg<|rr 1 ?_;refine l1 ((d.bring 0 rfl).box) 0 ?_;refine rr 2 ?_;refine rb 12 hm (fun hm=>?_) (fun hm=>?_)
  ·refine lN ((d.bring 0 rfl).box) ?_;obtain⟨e0,a0,hm⟩:=bS hm;refine ca zno (zea (hE.trans d.ext) o a0) (fun t0 A0 H=>?_);obtain⟨f0,k0,g0,o0,rfl,M⟩:=H;have h:=d.join M;obtain⟨q0,b0,hm⟩:=bS hm;refine ca znp (ze9 (Ext.refl _) (zgO e0 ((h.bring 0 rfl).own) ((h.bring 1 rfl).own)) b0) (fun u0 B0 O=>?_);obtain⟨rfl,S⟩:=O;have Y:=h.join S;refine rr 2 ?_;refine rn<|rt ?_;cases hm;exact⟨_,tR rfl,rfl,(Y.taken 0)⟩
  ·refine rr 5 ?_;refine rn<|rt ?_;cases hm;exact⟨_,tR rfl,rfl,(d.taken 0)⟩

theorem zok:EN 130:=en Tryz.func130
def z2y (fu:Nat) (x0:D.Qe) (x1:Int) (h:Bool):Option Bool:=(if h=true then some false else(if(x0.Qj == 1)=true then some (x0.A.Qg == x1) else(if(x0.Qj == 2)=true then(if(x0.A.Qg == x1)=true then some (x0.A.Qj == 2) else some false) else(if(x0.Qj == 3)=true then(if(((x0.A.Qg:Int) == 0) && (((x0.A.Qj:Int) == 0) && (((x0.A.Qs:Int) == 0) && true)))=true then(if(x0.B.Qg == x1)=true then(if(x0.Qz.Qj != 0)=true then((z2x fu x0.Qz).bind fun d=>some d) else some false) else some false) else some false) else(if(x0.Qj == 4)=true then(if(((x0.A.Qg:Int) == 0) && (((x0.A.Qj:Int) == 0) && (((x0.A.Qs:Int) == 0) && true)))=true then some (((x0.B.Qg:Int) == 0) && (((x0.B.Qj:Int) == 0) && (((x0.B.Qs:Int) == 0) && true))) else some false) else some false)))))
def z6b (fu:Nat) (x0:D.Qe) (x1:Int):Option (Bool):=(if(!(x0.Qj == 3))=true then((z1L fu x0.Qz (⟨0,0,0,[],[]⟩:D.Qb)).bind fun d=>z2y fu x0 x1 (!d)) else z2y fu x0 x1 false)

theorem zdz {W w:World}(hE:Ext W w){Z:List Value}{x0:D.Qe}{x1:Int}(b0:z8K.ro W Z x0){fu:Nat}{r:Bool}(hm:z6b fu x0 x1=some r):
  CL 130 ⟨[.agg ⟨Z⟩,iv x1]⟩ w (RB w r):=by
 obtain⟨A1,k2,A4,k5,e7,h3,h6⟩:=zC b0;subst e7;refine into Tryz.func130 79 _ ?_;unfold z6b at hm;have hS:=St.start w;refine sq<|rg<|nw hS (fun a0 f0 g0 h=>?_);refine rr 1 ?_;refine rn<|sq<|rg<|rr 1 ?_;refine l1 ((h.bring 0 rfl).box) 0 ?_;refine rr 2 ?_;refine rn<|sq<|sq<|ct (fun(Y:Bool) F w9=>z2y fu x0 x1 Y=some r∧Ext f0 w9∧St w w9 [Box a0 [iv x0.Qj,iv x0.Qz.Qj,iv x0.Qz.QL,iv x0.Qz.Value,sl A1 x0.Qz.Data k2,sl A4 x0.Qz.QX k5,iv x0.A.Qg,iv x0.A.Qj,iv x0.A.Qs,iv x0.B.Qg,iv x0.B.Qj,iv x0.B.Qs] 156]∧F=[(1,iv x1),(2,.pointer (some ⟨a0,0,none⟩)),(17,.bool Y)]) ?_ ?_
 ·rintro Y F o0 ⟨hm,d0,d,rfl⟩;unfold z2y at hm;refine ci hm (fun hm=>?_) (fun hm=>?_)
  ·refine sq<|rg<|rr 1 ?_;refine rn<|rt ?_;cases hm;exact⟨_,tR rfl,rfl,(d.taken 0)⟩
  ·refine sp<|sq<|sq<|rg<|rr 1 ?_;refine l1 ((d.bring 0 rfl).box) 0 ?_;refine rn<|bk<|sq<|rg<|rr 2 ?_;refine rn<|ci hm (fun hm=>?_) (fun hm=>?_)
   ·refine sq<|rg<|rr 2 ?_;refine l1 ((d.bring 0 rfl).box) 6 ?_;refine rr 3 ?_;refine rn<|rt ?_;cases hm;exact⟨_,tR rfl,rfl,(d.taken 0)⟩
   ·refine sq<|rg<|rr 2 ?_;refine rn<|ci hm (fun hm=>?_) (fun hm=>?_)
    ·refine sq<|rg<|rr 2 ?_;refine l1 ((d.bring 0 rfl).box) 6 ?_;refine rr 3 ?_;refine rb 34 hm (fun hm=>?_) (fun hm=>?_)
     ·refine rr 2 ?_;refine l1 ((d.bring 0 rfl).box) 7 ?_;refine rr 3 ?_;refine rn<|rt ?_;cases hm;exact⟨_,tR rfl,rfl,(d.taken 0)⟩
     ·refine rr 6 ?_;refine rn<|rt ?_;cases hm;exact⟨_,tR rfl,rfl,(d.taken 0)⟩
    ·refine sq<|rg<|rr 2 ?_;refine rn<|ci hm (fun hm=>?_) (fun hm=>?_)
     ·refine sq<|rg<|rr 1 ?_;refine lN (At.sub ((d.bring 0 rfl).box) 6 3) ?_;refine qt (qb) ?_;refine rr 2 ?_;refine rb 46 hm (fun hm=>?_) (fun hm=>?_)
      ·refine rr 2 ?_;refine l1 ((d.bring 0 rfl).box) 9 ?_;refine rr 4 ?_;refine rb 53 hm (fun hm=>?_) (fun hm=>?_)
       ·refine rr 2 ?_;refine l1 ((d.bring 0 rfl).box) 1 ?_;refine rr 3 ?_;refine rb 59 hm (fun hm=>?_) (fun hm=>?_)
        ·refine rr 1 ?_;refine lN (At.sub ((d.bring 0 rfl).box) 1 5) ?_;obtain⟨i0,S,hm⟩:=bS hm;refine ca ziO (za6 (hE.trans d.ext) (z4H x0.Qz h3 h6) S) (fun j0 p0 q=>?_);obtain⟨rfl,G⟩:=q;have M:=d.join G;refine rr 2 ?_;refine rn<|rt ?_;cases hm;exact⟨_,tR rfl,rfl,(M.taken 0)⟩
        ·refine rr 5 ?_;refine rn<|rt ?_;cases hm;exact⟨_,tR rfl,rfl,(d.taken 0)⟩
       ·refine rr 11 ?_;refine rn<|rt ?_;cases hm;exact⟨_,tR rfl,rfl,(d.taken 0)⟩
      ·refine rr 18 ?_;refine rn<|rt ?_;cases hm;exact⟨_,tR rfl,rfl,(d.taken 0)⟩
     ·refine sp<|sq<|rg<|rr 1 ?_;refine l1 ((d.bring 0 rfl).box) 0 ?_;refine rr 2 ?_;refine rb 67 hm (fun hm=>?_) (fun hm=>?_)
      ·refine rr 1 ?_;refine lN (At.sub ((d.bring 0 rfl).box) 6 3) ?_;refine qt (qb) ?_;refine rr 3 ?_;refine rb 73 hm (fun hm=>?_) (fun hm=>?_)
       ·refine rr 1 ?_;refine lN (At.sub ((d.bring 0 rfl).box) 9 3) ?_;refine qt (qb) ?_;refine rr 3 ?_;refine rn<|rt ?_;cases hm;exact⟨_,tR rfl,rfl,(d.taken 0)⟩
       ·refine rr 6 ?_;refine rn<|rt ?_;cases hm;exact⟨_,tR rfl,rfl,(d.taken 0)⟩
      ·refine rr 12 ?_;refine rn<|rt ?_;cases hm;exact⟨_,tR rfl,rfl,(d.taken 0)⟩
 ·refine rg<|rr 3 ?_;refine rb 11 hm (fun hm=>?_) (fun hm=>?_)
  ·refine rr 1 ?_;refine lN (At.sub ((h.bring 0 rfl).box) 1 5) ?_;refine qt (qb) ?_;obtain⟨e0,X,hm⟩:=bS hm;refine ca zgc (z8r (hE.trans h.ext) (z4H x0.Qz h3 h6) (z4H (⟨0,0,0,[],[]⟩:D.Qb) (slNil tInt 2 _) (slNil ty35 35 _)) X) (fun k0 q0 H=>?_);obtain⟨rfl,o⟩:=H;have O:=h.join o;refine rr 2 ?_;refine rn ?_;exact⟨!e0,_,⟨hm,o.ext,O,rfl⟩,rfl⟩
  ·refine rr 6 ?_;refine rn ?_;exact⟨false,_,⟨hm,(Ext.refl _),h,rfl⟩,rfl⟩

theorem zj1:EN 129:=en Tryz.func129
def z1X (fu:Nat) (x0:D.Qe) (x1:Int):Option (Bool):=((z6b fu x0 x1).bind fun d=>some (!d))

theorem z9p {W w:World}(hE:Ext W w){H:List Value}{x0:D.Qe}{O:Addr}{x1:Int}(M:z8K.ro W H x0) (S:At W O [iv x1]){fu:Nat}{r:Bool}(hm:z1X fu x0 x1=some r):
  CL 129 ⟨[.agg ⟨H⟩,.pointer (some O)]⟩ w (RB w r):=by
 obtain⟨A1,k2,A4,k5,e7,h3,h6⟩:=zC M;subst e7;refine into Tryz.func129 8 _ ?_;unfold z1X at hm;have hS:=St.start w;refine sq<|rg<|nw hS (fun Y b0 X d=>?_);refine rr 1 ?_;refine rn<|sq<|rg<|lN ((d.bring 0 rfl).box) ?_;refine l1 (ax hE d S) 0 ?_;obtain⟨Z,G,hm⟩:=bS hm;refine ca zok (zdz (hE.trans d.ext) M G) (fun a0 d0 h=>?_);obtain⟨rfl,o⟩:=h;have q:=d.join o;refine rr 2 ?_;refine rn<|rt ?_;cases hm;exact⟨_,tR rfl,rfl,(q.taken 0)⟩

theorem zkc:EN 69:=en Tryz.func69
def z7r (fu:Nat) (t2:Unit):Option Bool:=some true
def z11 (fu:Nat) (s1:Int) (d:Bool):Option (Rd (Int) (Unit) (Bool)):=(if d=true then some (.ret false) else some (.next (w64 (s1+1))))
def z2T (fu:Nat) (x0:(List (List D.Qe))) (x1:Int) (s1:Int):Option (Rd (Int) (Unit) (Bool)):=(if(decide (s1<(x0.length:Int)))=true then((idx x0 s1).bind fun d=>(if decide (x1≠0)=true then(if decide (x1≠0)=true then(if((w64 (s1.tdiv x1)) == (s1.tmod x1))=true then(if(decide ((d.length:Int)>0))=true then z11 fu s1 true else(if(decide ((d.length:Int)>200))=true then z11 fu s1 true else((zj fu d (fun y0=>z1X fu y0 (s1.tmod x1))).bind fun h=>z11 fu s1 h))) else(if(decide ((d.length:Int)>200))=true then z11 fu s1 true else((zj fu d (fun y0=>z1X fu y0 (s1.tmod x1))).bind fun o=>z11 fu s1 o))) else none) else none)) else some (.brk ()))
def z33 (fu:Nat) (x0:(List (List D.Qe))) (x1:Int):Option (Bool):=(if((x0.length:Int) != (w64 (x1*x1)))=true then some false else((iter (z2T fu x0 x1) fu 0).bind fun o=>aft o (z7r fu)))

theorem zay {W w:World}(hE:Ext W w){Y:Option Addr}{Z:Nat}{x0:(List (List D.Qe))}{x1:Int}(C0:ty38.ro W [sl Y x0 Z] x0){fu:Nat}{r:Bool}(hm:z33 fu x0 x1=some r):
  CL 69 ⟨[sl Y x0 Z,iv x1]⟩ w (RB w r):=by
 refine into Tryz.func69 47 _ ?_;unfold z33 at hm;have hS:=St.start w;refine sq<|rg<|rr 1 ?_;refine rn<|sq<|sq<|rg<|rr 6 ?_;refine rn<|ci hm (fun hm=>?_) (fun hm=>?_)
 ·refine sq<|rg<|rr 1 ?_;refine rn<|rt ?_;cases hm;exact⟨_,tR rfl,rfl,hS⟩
 ·refine sp<|sq<|sq<|rg<|rr 3 ?_;refine rn ?_;obtain⟨o5,F0,hm⟩:=bS hm;refine ct (fun(t2:Unit) F w9=>o5=.inl t2∧St w w9 []∧F=[]) ?_ ?_
  ·rintro t2 F w4 ⟨p0,E0,rfl⟩;subst p0;rw [z8] at hm;unfold z7r at hm;refine sq<|rg<|rr 1 ?_;refine rn<|rt ?_;cases hm;exact⟨_,tR rfl,rfl,E0⟩
  ·refine bk<|wk [1,15,16,17] ?_;refine it (fun(s1:Int) F w9=>St w w9 []∧F=[(1,iv x1),(15,sl Y x0 Z),(16,iv (x0.length:Int)),(17,iv s1)]) F0 ⟨hS,rfl⟩ ?_;rintro s1 F R0 _ G0 ⟨q,rfl⟩ d X;unfold z2T at d;refine sq<|rg<|rr 1 ?_;refine rn<|sq<|ci d (fun d=>?_) (fun d=>?_)
   ·refine sp<|sq<|bk<|sq<|rg<|rr 1 ?_;obtain⟨X0,q0,d⟩:=bS d;refine ix (hE.trans q.ext) C0 q0 (fun O0 A0 j0 H=>?_);obtain⟨L0,N0,y0⟩:=zZ H;subst y0;refine l1 (ax hE q j0) 0 ?_;refine rr 2 ?_;refine rn<|sq<|dn 256 mixed 9 [([],511),([],511),([0,1],508),([],511),([],511),([3,4],487),([],511),([2,0,1,2,6],507),([6,5,7,0,1,2,3,4,5,6,7],415)] q.ext (fun o=>?_);have d0:=q.step (Ext.draw _);refine dr 5 o [0,1,3,4] ?_;obtain⟨k0,d⟩:=iS d;refine dp o 2 rfl (fun _=>qQuo (of_decide_eq_true k0)) ?_;obtain⟨o0,d⟩:=iS d;refine dp o 5 rfl (fun _=>qRem (of_decide_eq_true o0)) ?_;refine o1 o 6 (mw o d0 (fun B0 S0 M0 e0=>?_));refine dr 1 o [7] ?_;refine dw [1,6,7,8,15,16,17,27] ?_;have f0:=e0.bring 0 rfl;refine o1 o 8 (ms (A:=[]) f0 o 0 (fun K0 h=>?_));refine dd o ?_;refine sq<|ct (fun(v0:Bool) F w9=>z11 fu s1 v0=some G0∧Ext K0 w9∧St w w9 [Box B0 [iv (s1.tmod x1)] 2]∧F=[(1,iv x1),(15,sl Y x0 Z),(16,iv (x0.length:Int)),(17,iv s1),(45,.bool v0)]) ?_ ?_
    ·rintro v0 F T0 ⟨d,D0,S,rfl⟩;unfold z11 at d;refine ci d (fun d=>?_) (fun d=>?_)
     ·refine sq<|rg<|rr 1 ?_;refine rn<|rt ?_;cases d;cases X;have hm:some _=some _:=hm;cases hm;exact⟨_,tR rfl,rfl,(S.taken 0)⟩
     ·refine sp<|rg<|rr 2 ?_;refine rn ?_;cases d;exact⟨_,_,rfl,⟨(S.taken 0),rfl⟩,rfl⟩
    ·refine rg<|rr 1 ?_;refine l1 ((h.bring 0 rfl).box) 0 ?_;refine rr 2 ?_;refine rb 31 d (fun d=>?_) (fun d=>?_)
     ·refine rr 5 ?_;refine rb 36 d (fun d=>?_) (fun d=>?_)
      ·refine rr 9 ?_;refine rn ?_;exact⟨true,_,⟨d,(Ext.refl _),h,rfl⟩,rfl⟩
      ·refine rr 5 ?_;refine rb 41 d (fun d=>?_) (fun d=>?_)
       ·refine rr 4 ?_;refine rn ?_;exact⟨true,_,⟨d,(Ext.refl _),h,rfl⟩,rfl⟩
       ·refine rr 2 ?_;obtain⟨H0,r0,d⟩:=bS d;refine ca zj2 (z2p (Ext.refl _) (z7U.ext (hE.trans h.ext) H) ⟨zj1,fun e9=>(fun G u0=>z9p (Ext.refl _) G (At.ext e9 ((h.bring 0 rfl).box)) u0)⟩ r0) (fun P0 U0 a0=>?_);obtain⟨rfl,M⟩:=a0;have g0:=h.join M;refine rr 1 ?_;refine rn ?_;exact⟨H0,_,⟨d,M.ext,g0,rfl⟩,rfl⟩
     ·refine rr 10 ?_;refine rb 41 d (fun d=>?_) (fun d=>?_)
      ·refine rr 4 ?_;refine rn ?_;exact⟨true,_,⟨d,(Ext.refl _),h,rfl⟩,rfl⟩
      ·refine rr 2 ?_;obtain⟨J0,t0,d⟩:=bS d;refine ca zj2 (z2p (Ext.refl _) (z7U.ext (hE.trans h.ext) H) ⟨zj1,fun e9=>(fun G u0=>z9p (Ext.refl _) G (At.ext e9 ((h.bring 0 rfl).box)) u0)⟩ t0) (fun Q0 V0 b0=>?_);obtain⟨rfl,O⟩:=b0;have i0:=h.join O;refine rr 1 ?_;refine rn ?_;exact⟨J0,_,⟨d,O.ext,i0,rfl⟩,rfl⟩
   ·refine xt ?_;cases d;exact⟨_,_,⟨X,q,rfl⟩,rfl⟩

theorem zoj:EN 132:=en Tryz.func132
def z93 (fu:Nat) (x0:Int) (x1:Int):Option (Bool):=(if(decide (x0<0))=true then some true else some (decide (x0>x1)))

theorem zeE {W w:World}(hE:Ext W w){x0:Int}{d:Addr}{x1:Int}(h:At W d [iv x1]){fu:Nat}{r:Bool}(hm:z93 fu x0 x1=some r):
  CL 132 ⟨[iv x0,.pointer (some d)]⟩ w (RB w r):=by
 refine into Tryz.func132 11 _ ?_;unfold z93 at hm;have hS:=St.start w;refine sq<|rg<|rr 1 ?_;refine rn<|sq<|rg<|rr 3 ?_;refine rb 6 hm (fun hm=>?_) (fun hm=>?_)
 ·refine rr 5 ?_;refine rn<|rt ?_;cases hm;exact⟨_,tR rfl,rfl,hS⟩
 ·refine rr 1 ?_;refine l1 (ax hE hS h) 0 ?_;refine rr 3 ?_;refine rn<|rt ?_;cases hm;exact⟨_,tR rfl,rfl,hS⟩

theorem zhK:EN 70:=en Tryz.func70
def z7v (fu:Nat) (x0:Int) (x1:(List Int)):Option (Bool):=((zW fu x1 (fun y0=>z93 fu y0 x0)).bind fun r5=>some (!r5))

theorem zbP {W w:World}(hE:Ext W w){x0:Int}{G:Option Addr}{H:Nat}{x1:(List Int)}(M:ty29.ro W [sl G x1 H] x1){fu:Nat}{r:Bool}(hm:z7v fu x0 x1=some r):
  CL 70 ⟨[iv x0,sl G x1 H]⟩ w (RB w r):=by
 refine into Tryz.func70 9 _ ?_;unfold z7v at hm;have hS:=St.start w;refine sq<|rg<|nw hS (fun g1 w2 e3 q=>?_);refine rr 1 ?_;refine rn<|sq<|rg<|rr 2 ?_;obtain⟨r5,O,hm⟩:=bS hm;refine ca zj0 (z5u (Ext.refl _) (ty29.ext (hE.trans q.ext) M) ⟨zoj,fun e9=>(fun  S=>zeE (Ext.refl _) (At.ext e9 ((q.bring 0 rfl).box)) S)⟩ O) (fun v7 X d=>?_);obtain⟨rfl,h⟩:=d;have o:=q.join h;refine rr 2 ?_;refine rn<|rt ?_;cases hm;exact⟨_,tR rfl,rfl,(o.taken 0)⟩

theorem zoi:EN 133:=en Tryz.func133
def z1U (fu:Nat) (t2:Unit):Option Int:=some (-1)
def zT (fu:Nat) (x0:(List (List Int))) (x1:(List Int)→Option Bool) (s1:Int):Option (Rd (Int) (Unit) (Int)):=(if(decide (s1<(x0.length:Int)))=true then((idx x0 s1).bind fun h=>((x1 h).bind fun d=>(if d=true then some (.ret s1) else some (.next (w64 (s1+1)))))) else some (.brk ()))
def z1D (fu:Nat) (x0:(List (List Int))) (x1:(List Int)→Option Bool):Option (Int):=((iter (zT fu x0 x1) fu 0).bind fun o=>aft o (z1U fu))

theorem z8M {W w:World}(hE:Ext W w){M:Option Addr}{d0:Nat}{x0:(List (List Int))}{f1_:Nat}{u1_:List Value}{x1:(List Int)→Option Bool}(j0:ty28.ro W [sl M x0 d0] x0) (e0:Enters Tryz.prog f1_∧∀ {w9:World},Ext W w9→∀ {Az0:Option Addr}{kz0:Nat}{z0:(List Int)}{y9:Bool},ty29.ro w9 [sl Az0 z0 kz0] z0→x1 z0=some y9→CL f1_ ⟨[sl Az0 z0 kz0]++u1_⟩ w9 (Ret fun v w8=>v=.bool y9∧St w9 w8 [])){fu:Nat}{r:Int}(hm:z1D fu x0 x1=some r):
  CL 133 ⟨[sl M x0 d0,.func (.func f1_) #[] ⟨u1_⟩]⟩ w (RI w r):=by
 refine into Tryz.func133 19 _ ?_;unfold z1D at hm;have hS:=St.start w;refine sq<|rg<|rr 1 ?_;refine rn<|sq<|sq<|rg<|rr 3 ?_;refine rn ?_;obtain⟨k0,Y,hm⟩:=bS hm;refine ct (fun(t2:Unit) F w9=>k0=.inl t2∧Ext w w9∧St w w9 []∧F=[]) ?_ ?_
 ·rintro t2 F w7 ⟨Z,p0,S,rfl⟩;subst Z;rw [z8] at hm;unfold z1U at hm;refine sq<|rg<|rr 1 ?_;refine rn<|rt ?_;cases hm;exact⟨_,tR rfl,rfl,S⟩
 ·refine bk<|wk [0,1,7,8] ?_;refine it (fun(s1:Int) F w9=>Ext w w9∧St w w9 []∧F=[(0,sl M x0 d0),(1,.func (.func f1_) #[] ⟨u1_⟩),(7,iv (x0.length:Int)),(8,iv s1)]) Y ⟨(Ext.refl _),hS,rfl⟩ ?_;rintro s1 F y0 _ r0 ⟨f0,h,rfl⟩ d G;unfold zT at d;refine sq<|rg<|rr 1 ?_;refine rn<|sq<|ci d (fun d=>?_) (fun d=>?_)
  ·refine sp<|sq<|bk<|sq<|rg<|rr 2 ?_;refine rn<|sq<|rg<|rr 3 ?_;obtain⟨B0,a0,d⟩:=bS d;refine ix (hE.trans h.ext) j0 a0 (fun t0 i0 X H=>?_);obtain⟨o0,q0,g0⟩:=z1z H;subst g0;refine l1 (ax hE h X) 0 ?_;obtain⟨u0,b0,d⟩:=bS d;refine ca e0.1 (e0.2 (hE.trans h.ext) (ty29.ext (hE.trans h.ext) H) b0) (fun v0 A0 O=>?_);obtain⟨rfl,o⟩:=O;have q:=h.join o;refine rn<|ci d (fun d=>?_) (fun d=>?_)
   ·refine sq<|rg<|rr 2 ?_;refine rn<|rt ?_;cases d;cases G;have hm:some _=some _:=hm;cases hm;exact⟨_,tR rfl,rfl,q⟩
   ·refine sp<|rg<|rr 2 ?_;refine rn ?_;cases d;exact⟨_,_,rfl,⟨(f0.trans o.ext),q,rfl⟩,rfl⟩
  ·refine xt ?_;cases d;exact⟨_,_,⟨G,f0,h,rfl⟩,rfl⟩

theorem zpK:EN 71:=en Tryz.func71
def zY (fu:Nat) (x0:(List (List Int))) (x1:(List Int)→Option Bool):Option (Bool):=((z1D fu x0 x1).bind fun r1=>some (decide (r1≥0)))

theorem z8x {W w:World}(hE:Ext W w){d:Option Addr}{h:Nat}{x0:(List (List Int))}{f1_:Nat}{u1_:List Value}{x1:(List Int)→Option Bool}(o:ty28.ro W [sl d x0 h] x0) (q:Enters Tryz.prog f1_∧∀ {w9:World},Ext W w9→∀ {Az0:Option Addr}{kz0:Nat}{z0:(List Int)}{y9:Bool},ty29.ro w9 [sl Az0 z0 kz0] z0→x1 z0=some y9→CL f1_ ⟨[sl Az0 z0 kz0]++u1_⟩ w9 (Ret fun v w8=>v=.bool y9∧St w9 w8 [])){fu:Nat}{r:Bool}(hm:zY fu x0 x1=some r):
  CL 71 ⟨[sl d x0 h,.func (.func f1_) #[] ⟨u1_⟩]⟩ w (RB w r):=by
 refine into Tryz.func71 9 _ ?_;unfold zY at hm;have hS:=St.start w;refine sq<|rg<|rr 1 ?_;refine rn<|sq<|rg<|rr 2 ?_;obtain⟨r1,O,hm⟩:=bS hm;refine ca zoi (z8M (hE.trans hS.ext) o q O) (fun v3 w4 G=>?_);obtain⟨rfl,H⟩:=G;have M:=hS.join H;refine rr 2 ?_;refine rn<|rt ?_;cases hm;exact⟨_,tR rfl,rfl,M⟩

theorem zkb:EN 73:=en Tryz.func73
def z26 (fu:Nat) (x0:(List Int)):Option (Bool):=(if((x0.length:Int) == 7)=true then((z7v fu 1000000000 x0).bind fun r2=>some r2) else some false)

theorem z9R {W w:World}(hE:Ext W w){h:Option Addr}{o:Nat}{x0:(List Int)}(q:ty29.ro W [sl h x0 o] x0){fu:Nat}{r:Bool}(hm:z26 fu x0=some r):
  CL 73 ⟨[sl h x0 o]⟩ w (RB w r):=by
 refine into Tryz.func73 10 _ ?_;unfold z26 at hm;have hS:=St.start w;refine sq<|rg<|rr 1 ?_;refine rn<|sq<|rg<|rr 4 ?_;refine rb 6 hm (fun hm=>?_) (fun hm=>?_)
 ·refine rr 1 ?_;obtain⟨r2,M,hm⟩:=bS hm;refine ca zhK (zbP (hE.trans hS.ext) q M) (fun v4 w5 G=>?_);obtain⟨rfl,H⟩:=G;have d:=hS.join H;refine rr 2 ?_;refine rn<|rt ?_;cases hm;exact⟨_,tR rfl,rfl,d⟩
 ·refine rr 4 ?_;refine rn<|rt ?_;cases hm;exact⟨_,tR rfl,rfl,hS⟩

theorem zpJ:EN 72:=en Tryz.func72
def z5s (fu:Nat) (x0:(List Int)):Option (Bool):=((z26 fu x0).bind fun r1=>some (!r1))

theorem zcm {W w:World}(hE:Ext W w){d:Option Addr}{h:Nat}{x0:(List Int)}(o:ty29.ro W [sl d x0 h] x0){fu:Nat}{r:Bool}(hm:z5s fu x0=some r):
  CL 72 ⟨[sl d x0 h]⟩ w (RB w r):=by
 refine into Tryz.func72 6 _ ?_;unfold z5s at hm;have hS:=St.start w;refine sq<|rg<|rr 1 ?_;refine rn<|sq<|rg<|rr 1 ?_;obtain⟨r1,M,hm⟩:=bS hm;refine ca zkb (z9R (hE.trans hS.ext) o M) (fun v3 w4 q=>?_);obtain⟨rfl,G⟩:=q;have H:=hS.join G;refine rr 2 ?_;refine rn<|rt ?_;cases hm;exact⟨_,tR rfl,rfl,H⟩

theorem zod:EN 139:=en Tryz.func139
def z6G (fu:Nat) (x0:Int) (x1:Int):Option (D.Qf):=some (⟨x0,3,x1⟩:D.Qf)

theorem zcU {W w:World}(hE:Ext W w){x0:Int}{x1:Int}  {fu:Nat}{r:D.Qf}(hm:z6G fu x0 x1=some r):
  CL 139 ⟨[iv x0,iv x1]⟩ w (Ret fun v w8=>v=.agg ⟨[iv r.Qg,iv r.Qj,iv r.Qs]⟩∧St w w8 []):=by
 refine into Tryz.func139 8 _ ?_;unfold z6G at hm;have hS:=St.start w;refine sq<|rg<|nw hS (fun g1 w2 e3 h=>?_);refine rn<|sq<|rg<|rr 2 ?_;refine qt (qb) ?_;have o:=h.bring 0 rfl;refine so (A:=[]) o 0 (fun w6 d=>?_);refine rn<|rt ?_;cases hm;exact⟨_,.cons (ra ((d.bring 0 rfl).box)) .nil,rfl,(d.taken 0)⟩

theorem zbt:EN 141:=en Tryz.func141
def z7s (fu:Nat) (x0:D.Qf) (x1:Int):Option (D.QO):=(if(decide (x1>0))=true then some (⟨x0,x1,true⟩:D.QO) else some (⟨x0,x1,(x0.Qj != 1)⟩:D.QO))

theorem z8s {W w:World}(hE:Ext W w){H:List Value}{x0:D.Qf}{x1:Int}(M:ty35.ro W H x0){fu:Nat}{r:D.QO}(hm:z7s fu x0 x1=some r):
  CL 141 ⟨[.agg ⟨H⟩,iv x1]⟩ w (Ret fun v w8=>v=.agg ⟨[iv r.at_.Qg,iv r.at_.Qj,iv r.at_.Qs,iv r.slot,.bool r.own]⟩∧St w w8 []):=by
 have e1:=z1p M;subst e1;refine into Tryz.func141 15 _ ?_;unfold z7s at hm;have hS:=St.start w;refine sq<|rg<|nw hS (fun g2 w3 e4 O=>?_);refine nw O (fun g6 w7 S d=>?_);refine rn<|sq<|rg<|lN ((d.bring 1 rfl).box) ?_;refine rr 4 ?_;refine rb 9 hm (fun hm=>?_) (fun hm=>?_)
 ·refine rr 4 ?_;refine qt (qb) ?_;have q:=d.bring 0 rfl;refine so (A:=[]) q 0 (fun X h=>?_);refine rn<|rt ?_;cases hm;exact⟨_,.cons (ra ((h.bring 0 rfl).box)) .nil,rfl,(h.taken 0)⟩
 ·refine rr 1 ?_;refine l1 ((d.bring 1 rfl).box) 1 ?_;refine rr 2 ?_;refine qt (qb) ?_;have G:=d.bring 0 rfl;refine so (A:=[]) G 0 (fun Y o=>?_);refine rn<|rt ?_;cases hm;exact⟨_,.cons (ra ((o.bring 0 rfl).box)) .nil,rfl,(o.taken 0)⟩

theorem zge:EN 140:=en Tryz.func140
def z9P (fu:Nat) (t7:(List D.Qd)):Option (List D.Qd):=some t7
def z2U (fu:Nat) (s6:(List D.Qd) × Int) (d:(List D.Qd)):Option (Rd ((List D.Qd) × Int) ((List D.Qd)) ((List D.Qd))):=some (.next (d,w64 (s6.2+1)))
def z1h (fu:Nat) (x0:D.Qf) (x1:(List D.Qf)) (s6:(List D.Qd) × Int):Option (Rd ((List D.Qd) × Int) ((List D.Qd)) ((List D.Qd))):=(if(decide (s6.2<(x1.length:Int)))=true then((idx x1 s6.2).bind fun h=>((z7s fu x0 (w64 (s6.2+1))).bind fun d=>(if decide ((s6.1.length:Int)+(([(⟨d,(⟨h,0,false⟩:D.QO)⟩:D.Qd)]:(List D.Qd)).length:Int)≤4294967296)=true then z2U fu s6 (s6.1++([(⟨d,(⟨h,0,false⟩:D.QO)⟩:D.Qd)]:(List D.Qd))) else none))) else some (.brk s6.1))
def z1M (fu:Nat) (x0:D.Qf) (x1:(List D.Qf)):Option ((List D.Qd)):=((iter (z1h fu x0 x1) fu ([],0)).bind fun o=>aft o (z9P fu))

theorem z8t {W w:World}(hE:Ext W w){d1:List Value}{x0:D.Qf}{r0:Option Addr}{B0:Nat}{x1:(List D.Qf)}(u0:ty35.ro W d1 x0) (t1:z3r.ro W [sl r0 x1 B0] x1){fu:Nat}{r:(List D.Qd)}(hm:z1M fu x0 x1=some r):
  CL 140 ⟨[.agg ⟨d1⟩,sl r0 x1 B0]⟩ w (Ret fun v w8=>∃ A0 k0,v=sl A0 r k0∧St w w8 [ow z94 A0 r k0]):=by
 have e1:=z1p u0;subst e1;refine into Tryz.func140 27 _ ?_;unfold z1M at hm;have hS:=St.start w;refine sq<|rg<|nw hS (fun g2 w3 e4 u1=>?_);refine rr 1 ?_;refine rn<|sq<|rg<|rr 1 ?_;refine rn<|sq<|sq<|rg<|rr 3 ?_;refine rn ?_;obtain⟨A1,S0,hm⟩:=bS hm;refine ct (fun(t7:(List D.Qd)) F w9=>∃ q0 y0,A1=.inl t7∧St w w9 [ow z94 q0 t7 y0,Box g2 [iv x0.Qg,iv x0.Qj,iv x0.Qs] 35]∧F=[(5,sl q0 t7 y0)]) ?_ ?_
 ·rintro t7 F U1 ⟨q0,y0,T0,H0,rfl⟩;subst T0;rw [z8] at hm;unfold z9P at hm;refine sq<|rg<|rr 2 ?_;refine rn<|rt ?_;cases hm;exact⟨_,tR rfl,q0,y0,rfl,(H0.taken 1)⟩
 ·refine bk ?_;have J0:=u1.nilSl zce 171;refine wk [2,5,8,9,10] ?_;refine it (fun(s6:(List D.Qd) × Int) F w9=>∃ p0 v0,St w w9 [ow z94 p0 s6.1 v0,Box g2 [iv x0.Qg,iv x0.Qj,iv x0.Qs] 35]∧F=[(2,.pointer (some ⟨g2,0,none⟩)),(5,sl p0 s6.1 v0),(8,sl r0 x1 B0),(9,iv (x1.length:Int)),(10,iv s6.2)]) S0 ⟨none,0,J0,rfl⟩ ?_;rintro s6 F V1 _ B1 ⟨p0,v0,H,rfl⟩ o U0;unfold z1h at o;refine sq<|rg<|rr 1 ?_;refine rn<|sq<|ci o (fun o=>?_) (fun o=>?_)
  ·refine sp<|sq<|bk<|sq<|rg<|rr 1 ?_;obtain⟨q,X0,o⟩:=bS o;refine ix (hE.trans H.ext) t1 X0 (fun R1 n1 R0 V0=>?_);have m1:=z1p V0;subst m1;refine lN (ax hE H R0) ?_;refine nw H (fun p1 W1 K1 K0=>?_);refine rr 1 ?_;have L0:=K0.bring 0 rfl;refine so (A:=[]) L0 0 (fun X1 g0=>?_);refine rn<|ct (fun(D0:(List D.Qd)) F w9=>∃ t0 C0,z2U fu s6 D0=some B1∧St w w9 [Box p1 [iv q.Qg,iv q.Qj,iv q.Qs] 35,ow z94 t0 D0 C0,Box g2 [iv x0.Qg,iv x0.Qj,iv x0.Qs] 35]∧F=[(2,.pointer (some ⟨g2,0,none⟩)),(5,sl t0 D0 C0),(8,sl r0 x1 B0),(9,iv (x1.length:Int)),(10,iv s6.2)]) ?_ ?_
   ·rintro D0 F Y1 ⟨t0,C0,o,M0,rfl⟩;unfold z2U at o;refine rg<|rr 2 ?_;refine rn ?_;cases o;exact⟨_,_,rfl,⟨t0,C0,(M0.bring 0 rfl).drop,rfl⟩,rfl⟩
   ·refine dn 512 mixed 11 [([],2047),([],2047),([],2047),([2],2043),([1,3],2037),([],2047),([5],2015),([4,6],1967),([7],1919),([0,8,4],1790),([9,9,0,1,2,3,4,5,6,7,8,9],1534)] g0.ext (fun d=>?_);have G:=g0.step (Ext.draw _);refine dr 8 d [0,2,3] ?_;refine dw [2,5,7,8,9,10,15,18] ?_;obtain⟨h,X,o⟩:=bS o;obtain⟨S,o⟩:=iS o;refine da d [1,5] (by simp) ?_;intro N1 hi70;simp only [List.mem_cons,List.not_mem_nil,or_false] at hi70
    rcases hi70 with rfl | rfl
    ·refine mq d rfl (qN ((G.bring 2 rfl).box)) ?_;refine da d [4,5] (by simp) ?_;intro O1 hi72;simp only [List.mem_cons,List.not_mem_nil,or_false] at hi72
     rcases hi72 with rfl | rfl
     ·refine mc d zbt (z8s (hE.trans G.ext) u0 X) (fun S1 a2 F0=>?_);obtain⟨rfl,Z⟩:=F0;refine⟨Z.ext,?_⟩;have i0:=G.join Z;refine o1 d 5 (mq d rfl (qN ((i0.bring 0 rfl).box)) ?_);refine dp d 6 rfl (fun _=>qb) ?_;refine dp d 7 rfl (fun _=>qb) ?_;refine o1 d 8 (mn (i0.flatEls (U:=zce) (els:=[iv h.at_.Qg,iv h.at_.Qj,iv h.at_.Qs,iv h.slot,.bool h.own,iv q.Qg,iv q.Qj,iv q.Qs,iv 0,.bool false]) (ys:=[(⟨h,(⟨q,0,false⟩:D.QO)⟩:D.Qd)]) ⟨[iv h.at_.Qg,iv h.at_.Qj,iv h.at_.Qs,iv h.slot,.bool h.own,iv q.Qg,iv q.Qj,iv q.Qs,iv 0,.bool false],_,[],[],rfl,rfl,(z6J (c:=(⟨h,(⟨q,0,false⟩:D.QO)⟩:D.Qd)) rfl),⟨rfl,rfl⟩⟩) d (fun H1 P1 d2 L1 N0=>?_));have j0:=N0.bring 2 rfl;refine o1 d 9 (mp (Flat.map (Flat.pair (Flat.map (Flat.pair (Flat.map fL0) fL1)) (Flat.pair (Flat.map (Flat.pair (Flat.map fL0) fL1)) Flat.unit))) j0 d ((j0.bring 1 rfl).own) S (fun g1 y1 e2 O0=>?_));refine dr 0 d [10] ?_;refine dw [2,5,8,9,10] ?_;refine dd d ?_;exact⟨(s6.1++([(⟨h,(⟨q,0,false⟩:D.QO)⟩:D.Qd)]:(List D.Qd))),_,⟨g1,y1,o,((((O0.bring 3 rfl).bring 1 rfl).bring 3 rfl).taken 3),rfl⟩,rfl⟩
     ·refine mq d rfl (qN ((G.bring 0 rfl).box)) ?_;refine dp d 6 rfl (fun _=>qb) ?_;refine o1 d 4 (mc d zbt (z8s (hE.trans G.ext) u0 X) (fun T1 f2 G0=>?_));obtain⟨rfl,a0⟩:=G0;refine⟨a0.ext,?_⟩;have P0:=G.join a0;refine dp d 7 rfl (fun _=>qb) ?_;refine o1 d 8 (mn (P0.flatEls (U:=zce) (els:=[iv h.at_.Qg,iv h.at_.Qj,iv h.at_.Qs,iv h.slot,.bool h.own,iv q.Qg,iv q.Qj,iv q.Qs,iv 0,.bool false]) (ys:=[(⟨h,(⟨q,0,false⟩:D.QO)⟩:D.Qd)]) ⟨[iv h.at_.Qg,iv h.at_.Qj,iv h.at_.Qs,iv h.slot,.bool h.own,iv q.Qg,iv q.Qj,iv q.Qs,iv 0,.bool false],_,[],[],rfl,rfl,(z6J (c:=(⟨h,(⟨q,0,false⟩:D.QO)⟩:D.Qd)) rfl),⟨rfl,rfl⟩⟩) d (fun J1 Q1 i2 M1 Q0=>?_));have o0:=Q0.bring 2 rfl;refine o1 d 9 (mp (Flat.map (Flat.pair (Flat.map (Flat.pair (Flat.map fL0) fL1)) (Flat.pair (Flat.map (Flat.pair (Flat.map fL0) fL1)) Flat.unit))) o0 d ((o0.bring 1 rfl).own) S (fun i1 Y0 D1 b0=>?_));refine dr 0 d [10] ?_;refine dw [2,5,8,9,10] ?_;refine dd d ?_;exact⟨(s6.1++([(⟨h,(⟨q,0,false⟩:D.QO)⟩:D.Qd)]:(List D.Qd))),_,⟨i1,Y0,o,((((b0.bring 3 rfl).bring 1 rfl).bring 3 rfl).taken 3),rfl⟩,rfl⟩
    ·refine mq d rfl (qN ((G.bring 0 rfl).box)) ?_;refine dp d 6 rfl (fun _=>qb) ?_;refine o1 d 1 (mq d rfl (qN ((G.bring 2 rfl).box)) ?_);refine o1 d 4 (mc d zbt (z8s (hE.trans G.ext) u0 X) (fun C1 E1 Y=>?_));obtain⟨rfl,M⟩:=Y;refine⟨M.ext,?_⟩;have d0:=G.join M;refine dp d 7 rfl (fun _=>qb) ?_;refine o1 d 8 (mn (d0.flatEls (U:=zce) (els:=[iv h.at_.Qg,iv h.at_.Qj,iv h.at_.Qs,iv h.slot,.bool h.own,iv q.Qg,iv q.Qj,iv q.Qs,iv 0,.bool false]) (ys:=[(⟨h,(⟨q,0,false⟩:D.QO)⟩:D.Qd)]) ⟨[iv h.at_.Qg,iv h.at_.Qj,iv h.at_.Qs,iv h.slot,.bool h.own,iv q.Qg,iv q.Qj,iv q.Qs,iv 0,.bool false],_,[],[],rfl,rfl,(z6J (c:=(⟨h,(⟨q,0,false⟩:D.QO)⟩:D.Qd)) rfl),⟨rfl,rfl⟩⟩) d (fun f1 v1 F1 j1 e0=>?_));have O:=e0.bring 2 rfl;refine o1 d 9 (mp (Flat.map (Flat.pair (Flat.map (Flat.pair (Flat.map fL0) fL1)) (Flat.pair (Flat.map (Flat.pair (Flat.map fL0) fL1)) Flat.unit))) O d ((O.bring 1 rfl).own) S (fun E0 a1 G1 f0=>?_));refine dr 0 d [10] ?_;refine dw [2,5,8,9,10] ?_;refine dd d ?_;exact⟨(s6.1++([(⟨h,(⟨q,0,false⟩:D.QO)⟩:D.Qd)]:(List D.Qd))),_,⟨E0,a1,o,((((f0.bring 3 rfl).bring 1 rfl).bring 3 rfl).taken 3),rfl⟩,rfl⟩
  ·refine xt ?_;cases o;exact⟨_,_,⟨p0,v0,U0,H,rfl⟩,rfl⟩

theorem zpG:EN 75:=en Tryz.func75
def z5w (fu:Nat) (d:(List D.Qd)):Option (List D.Qd):=some d
def z5v (fu:Nat) (d:(List D.Qd) × Int) (h:(List D.Qd)):Option (Rd ((List D.Qd) × Int) ((List D.Qd)) ((List D.Qd))):=some (.next (h,w64 (d.2+1)))
def z1J (fu:Nat) (d:Int × (List D.Qd)) (h:(List D.Qd)):Option (Rd (Int × (List D.Qd)) ((List D.Qd)) (Rd ((List D.Qd) × Int) ((List D.Qd)) ((List D.Qd)))):=some (.next (w64 (d.1+1),h))
def z1H (fu:Nat) (h:Int × (List D.Qd)) (d:(List D.Qd)):Option (Rd (Int × (List D.Qd)) ((List D.Qd)) (Rd ((List D.Qd) × Int) ((List D.Qd)) ((List D.Qd)))):=z1J fu h d
def z2D (fu:Nat) (h:Int × (List D.Qd)) (d:(List D.Qd)):Option (Rd (Int × (List D.Qd)) ((List D.Qd)) (Rd ((List D.Qd) × Int) ((List D.Qd)) ((List D.Qd)))):=z1H fu h d
def zM (fu:Nat) (H:(List D.Qd) × Int) (d:Int × (List D.Qd)) (h:D.Qe) (M:Bool):Option (Rd (Int × (List D.Qd)) ((List D.Qd)) (Rd ((List D.Qd) × Int) ((List D.Qd)) ((List D.Qd)))):=(if M=true then(if decide ((d.2.length:Int)+(([(⟨(⟨h.A,0,false⟩:D.QO),(⟨h.B,0,false⟩:D.QO)⟩:D.Qd)]:(List D.Qd)).length:Int)≤4294967296)=true then z1J fu d (d.2++([(⟨(⟨h.A,0,false⟩:D.QO),(⟨h.B,0,false⟩:D.QO)⟩:D.Qd)]:(List D.Qd))) else none) else(if(h.Qj == 3)=true then((z6G fu H.2 d.1).bind fun q=>((z1M fu q h.Qz.QX).bind fun o=>(if decide ((d.2.length:Int)+(o.length:Int)≤4294967296)=true then((z7s fu q 0).bind fun G=>(if decide (((d.2++o).length:Int)+(([(⟨G,(⟨h.B,0,false⟩:D.QO)⟩:D.Qd)]:(List D.Qd)).length:Int)≤4294967296)=true then z2D fu d ((d.2++o)++([(⟨G,(⟨h.B,0,false⟩:D.QO)⟩:D.Qd)]:(List D.Qd))) else none)) else none))) else z1H fu d d.2))
def zN (fu:Nat) (o:(List D.Qd) × Int) (q:(List D.Qe)) (d:Int × (List D.Qd)):Option (Rd (Int × (List D.Qd)) ((List D.Qd)) (Rd ((List D.Qd) × Int) ((List D.Qd)) ((List D.Qd)))):=(if(decide (d.1<(q.length:Int)))=true then((idx q d.1).bind fun h=>(if(h.Qj == 1)=true then zM fu o d h (h.Qj == 1) else zM fu o d h (h.Qj == 2))) else some (.brk d.2))
def z1c (fu:Nat) (x0:D.Qa) (d:(List D.Qd) × Int):Option (Rd ((List D.Qd) × Int) ((List D.Qd)) ((List D.Qd))):=(if(decide (d.2<(x0.Qh.length:Int)))=true then((idx x0.Qh d.2).bind fun h=>((iter (zN fu d h) fu (0,d.1)).bind fun o=>aft o (z5v fu d))) else some (.brk d.1))
def z13 (fu:Nat) (x0:D.Qa):Option ((List D.Qd)):=((iter (z1c fu x0) fu ([],0)).bind fun o=>aft o (z5w fu))

theorem z9V {W w:World}(hE:Ext W w){K2:Addr}{J2:List Value}{x0:D.Qa}(b3:ty40.ro W J2 x0) (a3:At W K2 J2){fu:Nat}{r:(List D.Qd)}(hm:z13 fu x0=some r):
  CL 75 ⟨[.pointer (some K2)]⟩ w (Ret fun v w8=>∃ A0 k0,v=sl A0 r k0∧St w w8 [ow z94 A0 r k0]):=by
 obtain⟨A1,k2,A4,k5,A7,a4,R3,b4,S3,c4,R2,h3,h6,V3,W3,X3⟩:=z88 b3;subst R2;refine into Tryz.func75 65 _ ?_;unfold z13 at hm;have hS:=St.start w;refine sq<|rg<|rr 1 ?_;refine rn<|sq<|rg<|rr 1 ?_;refine rn<|sq<|sq<|rg<|rr 3 ?_;refine l1 (ax hE hS a3) 4 ?_;refine rr 2 ?_;refine rn ?_;obtain⟨n3,p2,hm⟩:=bS hm;refine ct (fun(S1:(List D.Qd)) F w9=>∃ G1 M1,n3=.inl S1∧St w w9 [ow z94 G1 S1 M1]∧F=[(3,sl G1 S1 M1)]) ?_ ?_
 ·rintro S1 F g4 ⟨G1,M1,r2,e2,rfl⟩;subst r2;rw [z8] at hm;unfold z5w at hm;refine sq<|rg<|rr 2 ?_;refine rn<|rt ?_;cases hm;exact⟨_,tR rfl,G1,M1,rfl,e2⟩
 ·refine bk ?_;have f2:=hS.nilSl zce 171;refine wk [3,12,13,14] ?_;refine it (fun(O:(List D.Qd) × Int) F w9=>∃ K0 E1,St w w9 [ow z94 K0 O.1 E1]∧F=[(3,sl K0 O.1 E1),(12,sl A4 x0.Qh k5),(13,iv (x0.Qh.length:Int)),(14,iv O.2)]) p2 ⟨none,0,f2,rfl⟩ ?_;rintro O F i4 _ d4 ⟨K0,E1,i0,rfl⟩ H t2;unfold z1c at H;refine sq<|rg<|rr 1 ?_;refine rn<|sq<|ci H (fun H=>?_) (fun H=>?_)
  ·refine sp<|sq<|bk<|sq<|rg<|rr 1 ?_;obtain⟨e0,A2,H⟩:=bS H;refine ix (hE.trans i0.ext) h6 A2 (fun e4 X2 n2 B1=>?_);obtain⟨L0,F1,V2⟩:=zZ B1;subst V2;refine l1 (ax hE i0 n2) 0 ?_;refine rr 2 ?_;refine rn<|sq<|rg<|rr 3 ?_;refine rn ?_;obtain⟨o3,q2,H⟩:=bS H;refine ct (fun(T1:(List D.Qd)) F w9=>∃ H1 N1,o3=.inl T1∧St w w9 [ow z94 H1 T1 N1]∧F=[(3,sl H1 T1 N1),(12,sl A4 x0.Qh k5),(13,iv (x0.Qh.length:Int)),(14,iv O.2)]) ?_ ?_
   ·rintro T1 F j4 ⟨H1,N1,u2,g2,rfl⟩;subst u2;rw [z8] at H;unfold z5v at H;refine rg<|rr 2 ?_;refine rn ?_;cases H;exact⟨_,_,rfl,⟨H1,N1,g2,rfl⟩,rfl⟩
   ·refine bk<|wk [3,4,12,13,14,19,20,21] ?_;refine it (fun(M:Int × (List D.Qd)) F w9=>∃ G0 J0,St w w9 [ow z94 G0 M.2 J0]∧F=[(3,sl G0 M.2 J0),(4,iv O.2),(12,sl A4 x0.Qh k5),(13,iv (x0.Qh.length:Int)),(14,iv O.2),(19,sl L0 e0 F1),(20,iv (e0.length:Int)),(21,iv M.1)]) q2 ⟨K0,E1,i0,rfl⟩ ?_;rintro M F k4 _ R1 ⟨G0,J0,j0,rfl⟩ o v2;unfold zN at o;refine sq<|rg<|rr 1 ?_;refine rn<|sq<|ci o (fun o=>?_) (fun o=>?_)
    ·refine sp<|sq<|bk<|sq<|rg<|rr 1 ?_;obtain⟨h,B2,o⟩:=bS o;refine ix (hE.trans j0.ext) B1 B2 (fun f4 Y2 o2 y2=>?_);obtain⟨J1,O1,K1,P1,W2,Y3,c3⟩:=zC y2;subst W2;refine lN (ax hE j0 o2) ?_;refine nw j0 (fun M0 m4 U3 i2=>?_);refine rr 1 ?_;have j2:=i2.bring 0 rfl;refine so (A:=[]) j2 0 (fun Q3 H0=>?_);refine rn<|sq<|rg<|rr 1 ?_;refine l1 ((H0.bring 0 rfl).box) 0 ?_;refine rn<|bk<|sq<|sq<|rg<|rr 2 ?_;refine rn<|ct (fun(H2:Bool) F w9=>zM fu O M h H2=some R1∧Ext Q3 w9∧St w w9 [Box M0 [iv h.Qj,iv h.Qz.Qj,iv h.Qz.QL,iv h.Qz.Value,sl J1 h.Qz.Data O1,sl K1 h.Qz.QX P1,iv h.A.Qg,iv h.A.Qj,iv h.A.Qs,iv h.B.Qg,iv h.B.Qj,iv h.B.Qs] 156,ow z94 G0 M.2 J0]∧F=[(3,sl G0 M.2 J0),(4,iv O.2),(6,iv M.1),(7,.pointer (some ⟨M0,0,none⟩)),(12,sl A4 x0.Qh k5),(13,iv (x0.Qh.length:Int)),(14,iv O.2),(19,sl L0 e0 F1),(20,iv (e0.length:Int)),(21,iv M.1),(27,iv h.Qj),(28,.bool H2)]) ?_ ?_
     ·rintro H2 F n4 ⟨o,d3,Y,rfl⟩;unfold zM at o;refine ct (fun(U1:(List D.Qd)) F w9=>∃ L1 Q1,z1J fu M U1=some R1∧St w w9 [Box M0 [iv h.Qj,iv h.Qz.Qj,iv h.Qz.QL,iv h.Qz.Value,sl J1 h.Qz.Data O1,sl K1 h.Qz.QX P1,iv h.A.Qg,iv h.A.Qj,iv h.A.Qs,iv h.B.Qg,iv h.B.Qj,iv h.B.Qs] 156,ow z94 L1 U1 Q1]∧F=[(3,sl L1 U1 Q1),(4,iv O.2),(12,sl A4 x0.Qh k5),(13,iv (x0.Qh.length:Int)),(14,iv O.2),(19,sl L0 e0 F1),(20,iv (e0.length:Int)),(21,iv M.1)]) ?_ ?_
      ·rintro U1 F o4 ⟨L1,Q1,o,m2,rfl⟩;unfold z1J at o;refine rg<|rr 2 ?_;refine rn ?_;cases o;exact⟨_,_,rfl,⟨L1,Q1,((m2.bring 1 rfl).taken 1),rfl⟩,rfl⟩
      ·refine ci o (fun o=>?_) (fun o=>?_)
       ·refine rg<|rr 2 ?_;refine lN (At.sub ((Y.bring 0 rfl).box) 6 3) ?_;refine qt (qb) ?_;refine rr 1 ?_;refine lN (At.sub ((Y.bring 0 rfl).box) 9 3) ?_;refine qt (qb) ?_;refine qt (qb) ?_;refine ns (Y.flatEls (U:=zce) (els:=[iv h.A.Qg,iv h.A.Qj,iv h.A.Qs,iv 0,.bool false,iv h.B.Qg,iv h.B.Qj,iv h.B.Qs,iv 0,.bool false]) (ys:=[(⟨(⟨h.A,0,false⟩:D.QO),(⟨h.B,0,false⟩:D.QO)⟩:D.Qd)]) ⟨[iv h.A.Qg,iv h.A.Qj,iv h.A.Qs,iv 0,.bool false,iv h.B.Qg,iv h.B.Qj,iv h.B.Qs,iv 0,.bool false],_,[],[],rfl,rfl,(z6J (c:=(⟨(⟨h.A,0,false⟩:D.QO),(⟨h.B,0,false⟩:D.QO)⟩:D.Qd)) rfl),⟨rfl,rfl⟩⟩) (fun T3 g3 u3 P2 U0=>?_);have v0:=U0.bring 2 rfl;obtain⟨v1,o⟩:=iS o;refine ap (Flat.map (Flat.pair (Flat.map (Flat.pair (Flat.map fL0) fL1)) (Flat.pair (Flat.map (Flat.pair (Flat.map fL0) fL1)) Flat.unit))) v0 ((v0.bring 1 rfl).own) v1 (fun V1 C2 v3 V0=>?_);refine rr 1 ?_;refine rn ?_;exact⟨(M.2++([(⟨(⟨h.A,0,false⟩:D.QO),(⟨h.B,0,false⟩:D.QO)⟩:D.Qd)]:(List D.Qd))),_,⟨V1,C2,o,(((V0.bring 0 rfl).bring 2 rfl).taken 2),rfl⟩,rfl⟩
       ·refine sq<|rg<|rr 2 ?_;refine rn<|ct (fun(b0:(List D.Qd)) F w9=>∃ f0 o0,z1H fu M b0=some R1∧St w w9 [Box M0 [iv h.Qj,iv h.Qz.Qj,iv h.Qz.QL,iv h.Qz.Value,sl J1 h.Qz.Data O1,sl K1 h.Qz.QX P1,iv h.A.Qg,iv h.A.Qj,iv h.A.Qs,iv h.B.Qg,iv h.B.Qj,iv h.B.Qs] 156,ow z94 f0 b0 o0]∧F=[(3,sl f0 b0 o0),(4,iv O.2),(12,sl A4 x0.Qh k5),(13,iv (x0.Qh.length:Int)),(14,iv O.2),(19,sl L0 e0 F1),(20,iv (e0.length:Int)),(21,iv M.1)]) ?_ ?_
        ·rintro b0 F y3 ⟨f0,o0,o,X0,rfl⟩;unfold z1H at o;exact⟨b0,_,⟨f0,o0,o,X0,rfl⟩,rfl⟩
        ·refine ci o (fun o=>?_) (fun o=>?_)
         ·refine sq<|rg<|rr 2 ?_;obtain⟨S,C1,o⟩:=bS o;refine ca zod (zcU (hE.trans Y.ext)  C1) (fun p3 A3 N0=>?_);obtain⟨rfl,O0⟩:=N0;have Y0:=Y.join O0;refine nw Y0 (fun d2 B3 Q2 a1=>?_);have d1:=a1.bring 0 rfl;refine so (A:=[]) d1 0 (fun C3 X=>?_);refine rn<|sq<|rg<|rr 1 ?_;refine lN ((X.bring 0 rfl).box) ?_;refine rr 2 ?_;refine l1 ((X.bring 1 rfl).box) 5 ?_;obtain⟨q0,D1,o⟩:=bS o;refine ca zge (z8t (hE.trans X.ext) (zO S) c3 D1) (fun q3 D3 P0=>?_);obtain⟨W1,D2,rfl,Q0⟩:=P0;have e1:=X.join Q0;have y0:=e1.bring 3 rfl;obtain⟨y1,o⟩:=iS o;refine ap (Flat.map (Flat.pair (Flat.map (Flat.pair (Flat.map fL0) fL1)) (Flat.pair (Flat.map (Flat.pair (Flat.map fL0) fL1)) Flat.unit))) y0 ((y0.bring 1 rfl).own) y1 (fun L2 i3 E3 B0=>?_);refine rr 1 ?_;refine rn<|ct (fun(d0:(List D.Qd)) F w9=>∃ g0 p0,z2D fu M d0=some R1∧St w w9 [ow z94 g0 d0 p0,ow z94 W1 q0 D2,Box d2 [iv S.Qg,iv S.Qj,iv S.Qs] 35,Box M0 [iv h.Qj,iv h.Qz.Qj,iv h.Qz.QL,iv h.Qz.Value,sl J1 h.Qz.Data O1,sl K1 h.Qz.QX P1,iv h.A.Qg,iv h.A.Qj,iv h.A.Qs,iv h.B.Qg,iv h.B.Qj,iv h.B.Qs] 156]∧F=[(3,sl g0 d0 p0),(4,iv O.2),(12,sl A4 x0.Qh k5),(13,iv (x0.Qh.length:Int)),(14,iv O.2),(19,sl L0 e0 F1),(20,iv (e0.length:Int)),(21,iv M.1)]) ?_ ?_
          ·rintro d0 F F3 ⟨g0,p0,o,f1,rfl⟩;unfold z2D at o;exact⟨d0,_,⟨g0,p0,o,(((f1.bring 0 rfl).bring 3 rfl).taken 2),rfl⟩,rfl⟩
          ·refine dn 256 mixed 10 [([],1023),([],1023),([1],1021),([],1023),([3],1015),([4],1007),([2,5],987),([6],959),([0,7,2],894),([8,8,0,1,2,3,4,5,6,7,8],766)] B0.ext (fun d=>?_);have G:=B0.step (Ext.draw _);refine dr 8 d [0,3] ?_;refine dw [3,4,8,12,13,14,19,20,21,53,56] ?_;obtain⟨q,a0,o⟩:=bS o;obtain⟨Z,o⟩:=iS o;refine da d [1,4] (by simp) ?_;intro e3 hi172;simp only [List.mem_cons,List.not_mem_nil,or_false] at hi172
           rcases hi172 with rfl | rfl
           ·refine mq d rfl (qN ((G.bring 2 rfl).box)) ?_;refine da d [2,4] (by simp) ?_;intro f3 hi174;simp only [List.mem_cons,List.not_mem_nil,or_false] at hi174
            rcases hi174 with rfl | rfl
            ·refine mc d zbt (z8s (hE.trans G.ext) (zO S) a0) (fun r3 G3 R0=>?_);obtain⟨rfl,r0⟩:=R0;refine⟨r0.ext,?_⟩;have C0:=G.join r0;refine o1 d 4 (mq d rfl (qN (At.sub ((C0.bring 3 rfl).box) 9 3)) ?_);refine dp d 5 rfl (fun _=>qb) ?_;refine dp d 6 rfl (fun _=>qb) ?_;refine o1 d 7 (mn (C0.flatEls (U:=zce) (els:=[iv q.at_.Qg,iv q.at_.Qj,iv q.at_.Qs,iv q.slot,.bool q.own,iv h.B.Qg,iv h.B.Qj,iv h.B.Qs,iv 0,.bool false]) (ys:=[(⟨q,(⟨h.B,0,false⟩:D.QO)⟩:D.Qd)]) ⟨[iv q.at_.Qg,iv q.at_.Qj,iv q.at_.Qs,iv q.slot,.bool q.own,iv h.B.Qg,iv h.B.Qj,iv h.B.Qs,iv 0,.bool false],_,[],[],rfl,rfl,(z6J (c:=(⟨q,(⟨h.B,0,false⟩:D.QO)⟩:D.Qd)) rfl),⟨rfl,rfl⟩⟩) d (fun M2 j3 H3 S2 g1=>?_));have D0:=g1.bring 1 rfl;refine o1 d 8 (mp (Flat.map (Flat.pair (Flat.map (Flat.pair (Flat.map fL0) fL1)) (Flat.pair (Flat.map (Flat.pair (Flat.map fL0) fL1)) Flat.unit))) D0 d ((D0.bring 1 rfl).own) Z (fun X1 E2 J3 i1=>?_));refine dr 0 d [9] ?_;refine dw [3,4,12,13,14,19,20,21] ?_;refine dd d ?_;exact⟨((M.2++q0)++([(⟨q,(⟨h.B,0,false⟩:D.QO)⟩:D.Qd)]:(List D.Qd))),_,⟨X1,E2,o,(i1.bring 1 rfl).drop,rfl⟩,rfl⟩
            ·refine mq d rfl (qN (At.sub ((G.bring 3 rfl).box) 9 3)) ?_;refine dp d 5 rfl (fun _=>qb) ?_;refine o1 d 2 (mc d zbt (z8s (hE.trans G.ext) (zO S) a0) (fun s3 K3 S0=>?_));obtain⟨rfl,t0⟩:=S0;refine⟨t0.ext,?_⟩;have j1:=G.join t0;refine dp d 6 rfl (fun _=>qb) ?_;refine o1 d 7 (mn (j1.flatEls (U:=zce) (els:=[iv q.at_.Qg,iv q.at_.Qj,iv q.at_.Qs,iv q.slot,.bool q.own,iv h.B.Qg,iv h.B.Qj,iv h.B.Qs,iv 0,.bool false]) (ys:=[(⟨q,(⟨h.B,0,false⟩:D.QO)⟩:D.Qd)]) ⟨[iv q.at_.Qg,iv q.at_.Qj,iv q.at_.Qs,iv q.slot,.bool q.own,iv h.B.Qg,iv h.B.Qj,iv h.B.Qs,iv 0,.bool false],_,[],[],rfl,rfl,(z6J (c:=(⟨q,(⟨h.B,0,false⟩:D.QO)⟩:D.Qd)) rfl),⟨rfl,rfl⟩⟩) d (fun N2 k3 L3 T2 m1=>?_));have E0:=m1.bring 1 rfl;refine o1 d 8 (mp (Flat.map (Flat.pair (Flat.map (Flat.pair (Flat.map fL0) fL1)) (Flat.pair (Flat.map (Flat.pair (Flat.map fL0) fL1)) Flat.unit))) E0 d ((E0.bring 1 rfl).own) Z (fun Y1 F2 M3 n1=>?_));refine dr 0 d [9] ?_;refine dw [3,4,12,13,14,19,20,21] ?_;refine dd d ?_;exact⟨((M.2++q0)++([(⟨q,(⟨h.B,0,false⟩:D.QO)⟩:D.Qd)]:(List D.Qd))),_,⟨Y1,F2,o,(n1.bring 1 rfl).drop,rfl⟩,rfl⟩
           ·refine mq d rfl (qN (At.sub ((G.bring 3 rfl).box) 9 3)) ?_;refine dp d 5 rfl (fun _=>qb) ?_;refine o1 d 1 (mq d rfl (qN ((G.bring 2 rfl).box)) ?_);refine o1 d 2 (mc d zbt (z8s (hE.trans G.ext) (zO S) a0) (fun t3 N3 T0=>?_));obtain⟨rfl,u0⟩:=T0;refine⟨u0.ext,?_⟩;have p1:=G.join u0;refine dp d 6 rfl (fun _=>qb) ?_;refine o1 d 7 (mn (p1.flatEls (U:=zce) (els:=[iv q.at_.Qg,iv q.at_.Qj,iv q.at_.Qs,iv q.slot,.bool q.own,iv h.B.Qg,iv h.B.Qj,iv h.B.Qs,iv 0,.bool false]) (ys:=[(⟨q,(⟨h.B,0,false⟩:D.QO)⟩:D.Qd)]) ⟨[iv q.at_.Qg,iv q.at_.Qj,iv q.at_.Qs,iv q.slot,.bool q.own,iv h.B.Qg,iv h.B.Qj,iv h.B.Qs,iv 0,.bool false],_,[],[],rfl,rfl,(z6J (c:=(⟨q,(⟨h.B,0,false⟩:D.QO)⟩:D.Qd)) rfl),⟨rfl,rfl⟩⟩) d (fun O2 m3 O3 U2 t1=>?_));have F0:=t1.bring 1 rfl;refine o1 d 8 (mp (Flat.map (Flat.pair (Flat.map (Flat.pair (Flat.map fL0) fL1)) (Flat.pair (Flat.map (Flat.pair (Flat.map fL0) fL1)) Flat.unit))) F0 d ((F0.bring 1 rfl).own) Z (fun a2 G2 P3 u1=>?_));refine dr 0 d [9] ?_;refine dw [3,4,12,13,14,19,20,21] ?_;refine dd d ?_;exact⟨((M.2++q0)++([(⟨q,(⟨h.B,0,false⟩:D.QO)⟩:D.Qd)]:(List D.Qd))),_,⟨a2,G2,o,(u1.bring 1 rfl).drop,rfl⟩,rfl⟩
         ·refine sp ?_;exact⟨M.2,_,⟨G0,J0,o,Y,rfl⟩,rfl⟩
     ·refine ci o (fun o=>?_) (fun o=>?_)
      ·refine sp ?_;exact⟨(h.Qj == 1),_,⟨o,(Ext.refl _),H0,rfl⟩,rfl⟩
      ·refine rg<|rr 2 ?_;refine rn ?_;exact⟨(h.Qj == 2),_,⟨o,(Ext.refl _),H0,rfl⟩,rfl⟩
    ·refine xt ?_;cases o;exact⟨_,_,⟨G0,J0,v2,j0,rfl⟩,rfl⟩
  ·refine xt ?_;cases H;exact⟨_,_,⟨K0,E1,t2,i0,rfl⟩,rfl⟩

theorem znT:EN 186:=en Tryz.func186
def z1E (fu:Nat) (t2:Unit):Option Int:=some (-1)
def zy (fu:Nat) (x0:(List D.Qp)) (x1:D.Qp→Option Bool) (s1:Int):Option (Rd (Int) (Unit) (Int)):=(if(decide (s1<(x0.length:Int)))=true then((idx x0 s1).bind fun h=>((x1 h).bind fun d=>(if d=true then some (.ret s1) else some (.next (w64 (s1+1)))))) else some (.brk ()))
def z1d (fu:Nat) (x0:(List D.Qp)) (x1:D.Qp→Option Bool):Option (Int):=((iter (zy fu x0 x1) fu 0).bind fun o=>aft o (z1E fu))

theorem z7V {W w:World}(hE:Ext W w){M:Option Addr}{d0:Nat}{x0:(List D.Qp)}{f1_:Nat}{u1_:List Value}{x1:D.Qp→Option Bool}(j0:ty34.ro W [sl M x0 d0] x0) (e0:Enters Tryz.prog f1_∧∀ {w9:World},Ext W w9→∀ {cz0:List Value}{z0:D.Qp}{y9:Bool},z20.ro w9 cz0 z0→x1 z0=some y9→CL f1_ ⟨[.agg ⟨cz0⟩]++u1_⟩ w9 (Ret fun v w8=>v=.bool y9∧St w9 w8 [])){fu:Nat}{r:Int}(hm:z1d fu x0 x1=some r):
  CL 186 ⟨[sl M x0 d0,.func (.func f1_) #[] ⟨u1_⟩]⟩ w (RI w r):=by
 refine into Tryz.func186 19 _ ?_;unfold z1d at hm;have hS:=St.start w;refine sq<|rg<|rr 1 ?_;refine rn<|sq<|sq<|rg<|rr 3 ?_;refine rn ?_;obtain⟨k0,Y,hm⟩:=bS hm;refine ct (fun(t2:Unit) F w9=>k0=.inl t2∧Ext w w9∧St w w9 []∧F=[]) ?_ ?_
 ·rintro t2 F w7 ⟨Z,v0,S,rfl⟩;subst Z;rw [z8] at hm;unfold z1E at hm;refine sq<|rg<|rr 1 ?_;refine rn<|rt ?_;cases hm;exact⟨_,tR rfl,rfl,S⟩
 ·refine bk<|wk [0,1,7,8] ?_;refine it (fun(s1:Int) F w9=>Ext w w9∧St w w9 []∧F=[(0,sl M x0 d0),(1,.func (.func f1_) #[] ⟨u1_⟩),(7,iv (x0.length:Int)),(8,iv s1)]) Y ⟨(Ext.refl _),hS,rfl⟩ ?_;rintro s1 F G0 _ C0 ⟨f0,h,rfl⟩ d G;unfold zy at d;refine sq<|rg<|rr 1 ?_;refine rn<|sq<|ci d (fun d=>?_) (fun d=>?_)
  ·refine sp<|sq<|bk<|sq<|rg<|rr 2 ?_;refine rn<|sq<|rg<|rr 3 ?_;obtain⟨J0,a0,d⟩:=bS d;refine ix (hE.trans h.ext) j0 a0 (fun D0 i0 X H=>?_);obtain⟨o0,y0,p0,A0,q0,B0,g0,r0,t0,u0⟩:=zw H;subst g0;refine lN (ax hE h X) ?_;obtain⟨E0,b0,d⟩:=bS d;refine ca e0.1 (e0.2 (hE.trans h.ext) (z20.ext (hE.trans h.ext) H) b0) (fun F0 H0 O=>?_);obtain⟨rfl,o⟩:=O;have q:=h.join o;refine rn<|ci d (fun d=>?_) (fun d=>?_)
   ·refine sq<|rg<|rr 2 ?_;refine rn<|rt ?_;cases d;cases G;have hm:some _=some _:=hm;cases hm;exact⟨_,tR rfl,rfl,q⟩
   ·refine sp<|rg<|rr 2 ?_;refine rn ?_;cases d;exact⟨_,_,rfl,⟨(f0.trans o.ext),q,rfl⟩,rfl⟩
  ·refine xt ?_;cases d;exact⟨_,_,⟨G,f0,h,rfl⟩,rfl⟩

theorem zoh:EN 134:=en Tryz.func134
def zB (fu:Nat) (x0:(List D.Qp)) (x1:D.Qp→Option Bool):Option (Bool):=((z1d fu x0 x1).bind fun r1=>some (decide (r1≥0)))

theorem z7e {W w:World}(hE:Ext W w){d:Option Addr}{h:Nat}{x0:(List D.Qp)}{f1_:Nat}{u1_:List Value}{x1:D.Qp→Option Bool}(o:ty34.ro W [sl d x0 h] x0) (q:Enters Tryz.prog f1_∧∀ {w9:World},Ext W w9→∀ {cz0:List Value}{z0:D.Qp}{y9:Bool},z20.ro w9 cz0 z0→x1 z0=some y9→CL f1_ ⟨[.agg ⟨cz0⟩]++u1_⟩ w9 (Ret fun v w8=>v=.bool y9∧St w9 w8 [])){fu:Nat}{r:Bool}(hm:zB fu x0 x1=some r):
  CL 134 ⟨[sl d x0 h,.func (.func f1_) #[] ⟨u1_⟩]⟩ w (RB w r):=by
 refine into Tryz.func134 9 _ ?_;unfold zB at hm;have hS:=St.start w;refine sq<|rg<|rr 1 ?_;refine rn<|sq<|rg<|rr 2 ?_;obtain⟨r1,O,hm⟩:=bS hm;refine ca znT (z7V (hE.trans hS.ext) o q O) (fun v3 w4 G=>?_);obtain⟨rfl,H⟩:=G;have M:=hS.join H;refine rr 2 ?_;refine rn<|rt ?_;cases hm;exact⟨_,tR rfl,rfl,M⟩

end Go.E


