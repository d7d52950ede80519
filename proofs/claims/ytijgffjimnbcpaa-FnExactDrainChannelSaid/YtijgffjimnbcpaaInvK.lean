/- Models of functions and proofs that the code runs as they say (written by program). Conditions: the model gives a value. -/
import Derived.Test.YtijgffjimnbcpaaJC
import Derived.Test.YtijgffjimnbcpaaSzDefs
import Derived.Test.YtijgffjimnbcpaaJA
import Derived.Test.YtijgffjimnbcpaaInsRow
import Derived.Test.YtijgffjimnbcpaaJB
import Derived.Test.YtijgffjimnbcpaaJBb
namespace Go.E
open Go.RowKit Go.Proofs
set_option linter.unusedVariables false
set_option linter.unusedSimpArgs false
set_option maxHeartbeats 2000000
set_option maxRecDepth 100000

def zJ (fuel:Nat) (q:D.Channel × Int × Int) (j:Int × (List ByteArray) × (List D.Packet) × (List ByteArray) × (List D.Packet)) (y:Bool):Option Bool:=(if y=true then some false else((zW fuel (⟨q.1.Window,j.2.1,q.1.Base,q.1.Next,q.1.Expected,j.2.2.1,j.2.2.2.1,j.2.2.2.2⟩:D.Channel) 1).bind fun o=>(if(decide (o<0))=true then some false else(if(o != j.1)=true then some false else some true))))
def zw (fuel:Nat) (x0:D.Channel) (x1:Int) (H:D.Channel × Int × Int) (o:D.Channel × Int × Int) (J:Bool):Option Bool:=(if J=true then some false else((zV fuel o.1 1).bind fun j=>((zW fuel (⟨o.1.Window,j.2.1,o.1.Base,o.1.Next,o.1.Expected,j.2.2.1,j.2.2.2.1,j.2.2.2.2⟩:D.Channel) 1).bind fun y=>(if(decide (y<0))=true then some false else(if(y != j.1)=true then some false else((zj fuel x0).bind fun z=>((z1T fuel z x1).bind fun q=>((zk fuel q.1 H.1).bind fun G=>(if(!G)=true then zJ fuel o j true else(if(q.2.1 != H.2.1)=true then zJ fuel o j true else zJ fuel o j (q.2.2 != H.2.2)))))))))))
def zK (fuel:Nat) (x0:D.Channel) (x1:Int) (j:D.Channel × Int × Int) (J:D.Channel) (o:D.Channel × Int × Int) (H:Bool):Option Bool:=(if H=true then some false else((zj fuel x0).bind fun q=>((zk fuel J q).bind fun y=>(if(!y)=true then some false else((zV fuel J 1).bind fun z=>(if(decide (z.1<0))=true then zw fuel x0 x1 j o true else((zk fuel o.1 j.1).bind fun G=>(if(!G)=true then zw fuel x0 x1 j o true else(if(o.2.1 != j.2.1)=true then zw fuel x0 x1 j o true else zw fuel x0 x1 j o (o.2.2 != j.2.2))))))))))
def z1L (fuel:Nat) (x0:D.Channel) (x1:Int):Option (Bool):=((z2h fuel x0 1048576).bind fun z=>(if(decide (z<0))=true then some true else((zj fuel x0).bind fun G=>((z2v fuel G x1).bind fun j=>((zj fuel x0).bind fun q=>((z1T fuel q x1).bind fun o=>((zk fuel o.1 j.1).bind fun y=>(if(!y)=true then zK fuel x0 x1 j q o true else(if(o.2.1 != j.2.1)=true then zK fuel x0 x1 j q o true else zK fuel x0 x1 j q o (o.2.2 != j.2.2))))))))))

theorem laws_FnExactDrainChannel_ok {W w:World}(hE:Ext W w){M2:List Value}{x0:D.Channel}{x1:Int}(Q0:ty25.ro W M2 x0){fuel:Nat}{r:Bool}(hm:z1L fuel x0 x1=some r):
    Calls Try.prog 3 ⟨[.agg ⟨M2⟩,.int .i64 x1]⟩ w (Ret fun v w8=>v=.bool r∧St w w8 []):=by
  obtain⟨A1,k2,A4,k5,A7,R2,G2,S2,n3,h3,h6,y4,B4⟩:=z52 Q0;subst n3;refine into Try.func3 122 _ ?_;unfold z1L at hm;have hS:=St.start w;refine sq<|rg<|nw hS (fun T1 N4 u4 L0=>?_);refine rr 1 ?_;refine rn<|sq<|rg<|rr 1 ?_;refine rn<|sq<|rg<|lN ((L0.bring 0 rfl).box) ?_;refine rr 1 ?_;obtain⟨G4,t2,hm⟩:=bS hm;refine ca z7H (laws_szChannel_ok (hE.trans L0.ext) Q0 t2) (fun H4 O4 a2=>?_);obtain⟨rfl,b2⟩:=a2;have D0:=L0.join b2;refine rr 1 ?_;refine rn<|sq<|sq<|rg<|rr 2 ?_;refine rn<|ci hm (fun hm=>?_) (fun hm=>?_)
  · refine sq<|rg<|rr 1 ?_;refine rn<|rt ?_;cases hm;exact⟨_,.cons (.tmp rfl) .nil,rfl,(D0.taken 0)⟩
  · refine sp<|sq<|rg<|lN ((D0.bring 0 rfl).box) ?_;obtain⟨M3,u2,hm⟩:=bS hm;refine ca z3S (laws_toChannel_ok (hE.trans D0.ext) Q0 u2) (fun J4 P4 d2=>?_);obtain⟨q4,C4,r4,D4,s4,E4,t4,F4,rfl,e2⟩:=d2;have C0:=D0.join e2;refine rr 1 ?_;obtain⟨y,v2,hm⟩:=bS hm;refine ca z9M (z5i (Ext.refl _) (z5 M3 ((C0.bring 0 rfl).own) ((C0.bring 1 rfl).own) ((C0.bring 2 rfl).own) ((C0.bring 3 rfl).own)) v2) (fun K4 Q4 f2=>?_);obtain⟨P1,V1,Q1,W1,R1,X1,S1,Y1,rfl,g2⟩:=f2;have n2:=C0.join g2;refine rr 4 ?_;refine nw n2 (fun U1 R4 v4 o2=>?_);have p2:=o2.bring 0 rfl;refine so (A:=[]) p2 0 (fun S4 M0=>?_);refine rr 2 ?_;refine rn<|sq<|rg<|lN ((M0.bring 9 rfl).box) ?_;obtain⟨j0,y2,hm⟩:=bS hm;refine ca z3S (laws_toChannel_ok (hE.trans M0.ext) Q0 y2) (fun L4 T4 i2=>?_);obtain⟨H2,T2,J2,U2,K2,V2,L2,W2,rfl,j2⟩:=i2;have q2:=M0.join j2;refine nw q2 (fun N2 U4 x4 r2=>?_);have s2:=r2.bring 0 rfl;refine so (A:=[]) s2 0 (fun V4 r0=>?_);refine rn<|sq<|rg<|lN ((r0.bring 0 rfl).box) ?_;refine rr 1 ?_;obtain⟨j,A2,hm⟩:=bS hm;refine ca z8M (z49 (Ext.refl _) (z5 j0 ((r0.bring 1 rfl).own) ((r0.bring 2 rfl).own) ((r0.bring 3 rfl).own) ((r0.bring 4 rfl).own)) A2) (fun M4 W4 m2=>?_);obtain⟨O,a0,X,b0,Y,c0,Z,d0,rfl,R0⟩:=m2;have k1:=r0.join R0;refine rr 4 ?_;refine nw k1 (fun q0 Y3 m3 m1=>?_);have n1:=m1.bring 0 rfl;refine so (A:=[]) n1 0 (fun D2 z=>?_);refine rr 2 ?_;refine rn<|sq<|sq<|ct (fun(N0:Bool) F w9=>zK fuel x0 x1 y j0 j N0=some r∧Ext D2 w9∧St w w9 [Box q0 [.int .i64 j.1.Window,sl O j.1.Messages a0,.int .i64 j.1.Base,.int .i64 j.1.Next,.int .i64 j.1.Expected,sl X j.1.Early b0,sl Y j.1.Delivered c0,sl Z j.1.Flight d0] 29,ow ty22 O j.1.Messages a0,ow ty27 X j.1.Early b0,ow ty22 Y j.1.Delivered c0,ow ty27 Z j.1.Flight d0,Box N2 [.int .i64 j0.Window,sl H2 j0.Messages T2,.int .i64 j0.Base,.int .i64 j0.Next,.int .i64 j0.Expected,sl J2 j0.Early U2,sl K2 j0.Delivered V2,sl L2 j0.Flight W2] 29,ow ty22 H2 j0.Messages T2,ow ty27 J2 j0.Early U2,ow ty22 K2 j0.Delivered V2,ow ty27 L2 j0.Flight W2,Box U1 [.int .i64 y.1.Window,sl P1 y.1.Messages V1,.int .i64 y.1.Base,.int .i64 y.1.Next,.int .i64 y.1.Expected,sl Q1 y.1.Early W1,sl R1 y.1.Delivered X1,sl S1 y.1.Flight Y1] 29,ow ty22 P1 y.1.Messages V1,ow ty27 Q1 y.1.Early W1,ow ty22 R1 y.1.Delivered X1,ow ty27 S1 y.1.Flight Y1,Box T1 [.int .i64 x0.Window,sl A1 x0.Messages k2,.int .i64 x0.Base,.int .i64 x0.Next,.int .i64 x0.Expected,sl A4 x0.Early k5,sl A7 x0.Delivered R2,sl G2 x0.Flight S2] 25]∧F=[(1,.int .i64 x1),(2,.pointer (some ⟨T1,0,none⟩)),(6,.pointer (some ⟨U1,0,none⟩)),(7,.int .i64 y.2.1),(8,.int .i64 y.2.2),(9,.pointer (some ⟨N2,0,none⟩)),(10,.pointer (some ⟨q0,0,none⟩)),(11,.int .i64 j.2.1),(12,.int .i64 j.2.2),(54,.bool N0)]) ?_ ?_
    · rintro N0 F a4 ⟨hm,O2,e0,rfl⟩;unfold zK at hm;refine ci hm (fun hm=>?_) (fun hm=>?_)
      · refine sq<|rg<|rr 1 ?_;refine rn<|rt ?_;cases hm;exact⟨_,.cons (.tmp rfl) .nil,rfl,(e0.taken 0)⟩
      · refine sp<|sq<|sq<|dn 0 mixed 5 [([],31),([],31),([1],29),([0,2,2],26),([3],23)] e0.ext (fun J=>?_);have G0:=e0.step (Ext.draw _);refine dL J 0 ((e0.bring 5 rfl).box) ?_;refine dL J 1 ((e0.bring 15 rfl).box) ?_;obtain⟨B2,C1,hm⟩:=bS hm;refine o1 J 2 (mc J z3S (laws_toChannel_ok (hE.trans G0.ext) Q0 C1) (fun N3 b4 S0=>?_));obtain⟨X2,q3,Y2,r3,a3,s3,b3,t3,rfl,E0⟩:=S0;refine⟨E0.ext,?_⟩;have H:=G0.join E0;obtain⟨E3,D1,hm⟩:=bS hm;refine o1 J 3 (mc J z3D (laws_eqChannel_ok (Ext.refl _) (z5 j0 ((H.bring 10 rfl).own) ((H.bring 11 rfl).own) ((H.bring 12 rfl).own) ((H.bring 13 rfl).own)) (z5 B2 ((H.bring 0 rfl).own) ((H.bring 1 rfl).own) ((H.bring 2 rfl).own) ((H.bring 3 rfl).own)) D1) (fun O3 c4 T0=>?_));obtain⟨rfl,F0⟩:=T0;refine⟨F0.ext,?_⟩;have s0:=H.join F0;refine dr 0 J [4] ?_;refine dd J ?_;refine ci hm (fun hm=>?_) (fun hm=>?_)
        · refine sq<|rg<|rr 1 ?_;refine rn<|rt ?_;cases hm;exact⟨_,.cons (.tmp rfl) .nil,rfl,(s0.taken 0)⟩
        · refine sp<|sq<|rg<|rr 1 ?_;refine rn<|sq<|rg<|lN ((s0.bring 9 rfl).box) ?_;refine rr 1 ?_;obtain⟨F3,E1,hm⟩:=bS hm;refine ca z5f (laws_markChannel_ok (W:=w) (RR:=_) (x0:=j0) (x1:=1) ((((s0.bring 13 rfl).bring 13 rfl).bring 13 rfl).bring 13 rfl)  E1) (fun P3 E2 U0=>?_);obtain⟨rfl,q⟩:=U0;refine rr 1 ?_;refine rn<|sq<|sq<|ct (fun(O0:Bool) F w9=>zw fuel x0 x1 y j O0=some r∧Ext E2 w9∧St w w9 [Box q0 [.int .i64 j.1.Window,sl O j.1.Messages a0,.int .i64 j.1.Base,.int .i64 j.1.Next,.int .i64 j.1.Expected,sl X j.1.Early b0,sl Y j.1.Delivered c0,sl Z j.1.Flight d0] 29,ow ty22 O j.1.Messages a0,ow ty27 X j.1.Early b0,ow ty22 Y j.1.Delivered c0,ow ty27 Z j.1.Flight d0,Box U1 [.int .i64 y.1.Window,sl P1 y.1.Messages V1,.int .i64 y.1.Base,.int .i64 y.1.Next,.int .i64 y.1.Expected,sl Q1 y.1.Early W1,sl R1 y.1.Delivered X1,sl S1 y.1.Flight Y1] 29,ow ty22 P1 y.1.Messages V1,ow ty27 Q1 y.1.Early W1,ow ty22 R1 y.1.Delivered X1,ow ty27 S1 y.1.Flight Y1,Box T1 [.int .i64 x0.Window,sl A1 x0.Messages k2,.int .i64 x0.Base,.int .i64 x0.Next,.int .i64 x0.Expected,sl A4 x0.Early k5,sl A7 x0.Delivered R2,sl G2 x0.Flight S2] 25]∧F=[(1,.int .i64 x1),(2,.pointer (some ⟨T1,0,none⟩)),(6,.pointer (some ⟨U1,0,none⟩)),(7,.int .i64 y.2.1),(8,.int .i64 y.2.2),(10,.pointer (some ⟨q0,0,none⟩)),(80,.bool O0)]) ?_ ?_
          · rintro O0 F d4 ⟨hm,P2,t0,rfl⟩;unfold zw at hm;refine ci hm (fun hm=>?_) (fun hm=>?_)
            · refine sq<|rg<|rr 1 ?_;refine rn<|rt ?_;cases hm;exact⟨_,.cons (.tmp rfl) .nil,rfl,(t0.taken 0)⟩
            · refine sp<|sq<|rg<|rr 1 ?_;refine rn<|sq<|rg<|lN ((t0.bring 0 rfl).box) ?_;refine rr 1 ?_;obtain⟨o,F1,hm⟩:=bS hm;refine ca z5f (laws_markChannel_ok (W:=w) (RR:=_) (x0:=j.1) (x1:=1) ((((t0.bring 4 rfl).bring 4 rfl).bring 4 rfl).bring 4 rfl)  F1) (fun Q3 e4 V0=>?_);obtain⟨rfl,u0⟩:=V0;refine rr 1 ?_;refine rn<|sq<|rg<|rr 1 ?_;refine rn<|sq<|rg<|lN ((u0.bring 4 rfl).box) ?_;refine rr 1 ?_;have hn155:=(u0.bring 0 rfl).lenEq;have p1:=(u0.bring 0 rfl).reLen hn155;have H0:=(p1.bring 4 rfl).reBox (cs':=[.int .i64 j.1.Window,.slice O o.2.1.length a0,.int .i64 j.1.Base,.int .i64 j.1.Next,.int .i64 j.1.Expected,.slice X j.1.Early.length b0,.slice Y j.1.Delivered.length c0,.slice Z j.1.Flight.length d0]) (by show([.int .i64 j.1.Window,.slice O j.1.Messages.length a0,.int .i64 j.1.Base,.int .i64 j.1.Next,.int .i64 j.1.Expected,.slice X j.1.Early.length b0,.slice Y j.1.Delivered.length c0,.slice Z j.1.Flight.length d0]:List Value)=[.int .i64 j.1.Window,.slice O o.2.1.length a0,.int .i64 j.1.Base,.int .i64 j.1.Next,.int .i64 j.1.Expected,.slice X j.1.Early.length b0,.slice Y j.1.Delivered.length c0,.slice Z j.1.Flight.length d0];first | (simp only [sl,hn155];done) | (simp only [sl,hn155];rfl));have hn158:=(H0.bring 2 rfl).lenEq;have s1:=(H0.bring 2 rfl).reLen hn158;have J0:=(s1.bring 1 rfl).reBox (cs':=[.int .i64 j.1.Window,.slice O o.2.1.length a0,.int .i64 j.1.Base,.int .i64 j.1.Next,.int .i64 j.1.Expected,.slice X o.2.2.1.length b0,.slice Y j.1.Delivered.length c0,.slice Z j.1.Flight.length d0]) (by show([.int .i64 j.1.Window,.slice O o.2.1.length a0,.int .i64 j.1.Base,.int .i64 j.1.Next,.int .i64 j.1.Expected,.slice X j.1.Early.length b0,.slice Y j.1.Delivered.length c0,.slice Z j.1.Flight.length d0]:List Value)=[.int .i64 j.1.Window,.slice O o.2.1.length a0,.int .i64 j.1.Base,.int .i64 j.1.Next,.int .i64 j.1.Expected,.slice X o.2.2.1.length b0,.slice Y j.1.Delivered.length c0,.slice Z j.1.Flight.length d0];first | (simp only [sl,hn158];done) | (simp only [sl,hn158];rfl));have hn161:=(J0.bring 3 rfl).lenEq;have t1:=(J0.bring 3 rfl).reLen hn161;have K0:=(t1.bring 1 rfl).reBox (cs':=[.int .i64 j.1.Window,.slice O o.2.1.length a0,.int .i64 j.1.Base,.int .i64 j.1.Next,.int .i64 j.1.Expected,.slice X o.2.2.1.length b0,.slice Y o.2.2.2.1.length c0,.slice Z j.1.Flight.length d0]) (by show([.int .i64 j.1.Window,.slice O o.2.1.length a0,.int .i64 j.1.Base,.int .i64 j.1.Next,.int .i64 j.1.Expected,.slice X o.2.2.1.length b0,.slice Y j.1.Delivered.length c0,.slice Z j.1.Flight.length d0]:List Value)=[.int .i64 j.1.Window,.slice O o.2.1.length a0,.int .i64 j.1.Base,.int .i64 j.1.Next,.int .i64 j.1.Expected,.slice X o.2.2.1.length b0,.slice Y o.2.2.2.1.length c0,.slice Z j.1.Flight.length d0];first | (simp only [sl,hn161];done) | (simp only [sl,hn161];rfl));have hn164:=(K0.bring 4 rfl).lenEq;have u1:=(K0.bring 4 rfl).reLen hn164;have f0:=(u1.bring 1 rfl).reBox (cs':=[.int .i64 j.1.Window,.slice O o.2.1.length a0,.int .i64 j.1.Base,.int .i64 j.1.Next,.int .i64 j.1.Expected,.slice X o.2.2.1.length b0,.slice Y o.2.2.2.1.length c0,.slice Z o.2.2.2.2.length d0]) (by show([.int .i64 j.1.Window,.slice O o.2.1.length a0,.int .i64 j.1.Base,.int .i64 j.1.Next,.int .i64 j.1.Expected,.slice X o.2.2.1.length b0,.slice Y o.2.2.2.1.length c0,.slice Z j.1.Flight.length d0]:List Value)=[.int .i64 j.1.Window,.slice O o.2.1.length a0,.int .i64 j.1.Base,.int .i64 j.1.Next,.int .i64 j.1.Expected,.slice X o.2.2.1.length b0,.slice Y o.2.2.2.1.length c0,.slice Z o.2.2.2.2.length d0];first | (simp only [sl,hn164];done) | (simp only [sl,hn164];rfl));refine kn (u:=.agg ⟨[.int .i64 j.1.Window,.slice O o.2.1.length a0,.int .i64 j.1.Base,.int .i64 j.1.Next,.int .i64 j.1.Expected,.slice X o.2.2.1.length b0,.slice Y o.2.2.2.1.length c0,.slice Z o.2.2.2.2.length d0]⟩) 84 rfl (by simp only [sl,hn155,hn158,hn161,hn164]) ?_;obtain⟨G3,G1,hm⟩:=bS hm;refine ca z5e (laws_heldChannel_ok (Ext.refl _) (z5 (⟨j.1.Window,o.2.1,j.1.Base,j.1.Next,j.1.Expected,o.2.2.1,o.2.2.2.1,o.2.2.2.2⟩:D.Channel) ((f0.bring 4 rfl).own) ((f0.bring 3 rfl).own) ((f0.bring 2 rfl).own) ((f0.bring 1 rfl).own)) G1) (fun R3 f4 W0=>?_);obtain⟨rfl,X0⟩:=W0;have g0:=f0.join X0;refine rr 1 ?_;refine rn<|sq<|sq<|rg<|rr 2 ?_;refine rn<|ci hm (fun hm=>?_) (fun hm=>?_)
              · refine sq<|rg<|rr 1 ?_;refine rn<|rt ?_;cases hm;exact⟨_,.cons (.tmp rfl) .nil,rfl,(g0.taken 0)⟩
              · refine sp<|sq<|sq<|rg<|rr 3 ?_;refine rn<|ci hm (fun hm=>?_) (fun hm=>?_)
                · refine sq<|rg<|rr 1 ?_;refine rn<|rt ?_;cases hm;exact⟨_,.cons (.tmp rfl) .nil,rfl,(g0.taken 0)⟩
                · refine sp<|sq<|rg<|lN ((g0.bring 10 rfl).box) ?_;obtain⟨C2,H1,hm⟩:=bS hm;refine ca z3S (laws_toChannel_ok (hE.trans g0.ext) Q0 H1) (fun S3 g4 Y0=>?_);obtain⟨c3,u3,d3,v3,e3,x3,f3,y3,rfl,a1⟩:=Y0;have i0:=g0.join a1;refine rr 1 ?_;obtain⟨O1,J1,hm⟩:=bS hm;refine ca z8M (z49 (Ext.refl _) (z5 C2 ((i0.bring 0 rfl).own) ((i0.bring 1 rfl).own) ((i0.bring 2 rfl).own) ((i0.bring 3 rfl).own)) J1) (fun T3 i4 b1=>?_);obtain⟨g3,A3,i3,B3,j3,C3,k3,D3,rfl,d1⟩:=b1;have v1:=i0.join d1;refine rr 4 ?_;refine nw v1 (fun p3 j4 o3 y1=>?_);have B1:=y1.bring 0 rfl;refine so (A:=[]) B1 0 (fun F2 G=>?_);refine rr 2 ?_;refine rn<|sq<|sq<|ct (fun(P0:Bool) F w9=>zJ fuel j o P0=some r∧Ext F2 w9∧St w w9 [Box q0 [.int .i64 j.1.Window,sl O o.2.1 a0,.int .i64 j.1.Base,.int .i64 j.1.Next,.int .i64 j.1.Expected,sl X o.2.2.1 b0,sl Y o.2.2.2.1 c0,sl Z o.2.2.2.2 d0] 29,ow ty27 Z o.2.2.2.2 d0,ow ty22 Y o.2.2.2.1 c0,ow ty27 X o.2.2.1 b0,ow ty22 O o.2.1 a0]∧F=[(10,.pointer (some ⟨q0,0,none⟩)),(14,.int .i64 o.1),(113,.bool P0)]) ?_ ?_
                  · rintro P0 F k4 ⟨hm,Q2,L,rfl⟩;unfold zJ at hm;refine ci hm (fun hm=>?_) (fun hm=>?_)
                    · refine sq<|rg<|rr 1 ?_;refine rn<|rt ?_;cases hm;exact⟨_,.cons (.tmp rfl) .nil,rfl,(L.taken 0)⟩
                    · refine sp<|sq<|rg<|rr 1 ?_;refine rn<|sq<|rg<|lN ((L.bring 0 rfl).box) ?_;refine rr 1 ?_;obtain⟨H3,K1,hm⟩:=bS hm;refine ca z5e (laws_heldChannel_ok (Ext.refl _) (z5 (⟨j.1.Window,o.2.1,j.1.Base,j.1.Next,j.1.Expected,o.2.2.1,o.2.2.2.1,o.2.2.2.2⟩:D.Channel) ((L.bring 4 rfl).own) ((L.bring 3 rfl).own) ((L.bring 2 rfl).own) ((L.bring 1 rfl).own)) K1) (fun U3 m4 e1=>?_);obtain⟨rfl,f1⟩:=e1;have v0:=L.join f1;refine rr 1 ?_;refine rn<|sq<|sq<|rg<|rr 2 ?_;refine rn<|ci hm (fun hm=>?_) (fun hm=>?_)
                      · refine sq<|rg<|rr 1 ?_;refine rn<|rt ?_;cases hm;exact⟨_,.cons (.tmp rfl) .nil,rfl,(v0.taken 0)⟩
                      · refine sp<|sq<|sq<|rg<|rr 3 ?_;refine rn<|ci hm (fun hm=>?_) (fun hm=>?_)
                        · refine sq<|rg<|rr 1 ?_;refine rn<|rt ?_;cases hm;exact⟨_,.cons (.tmp rfl) .nil,rfl,(v0.taken 0)⟩
                        · refine sp<|sq<|rg<|rr 1 ?_;refine rn<|rt ?_;cases hm;exact⟨_,.cons (.tmp rfl) .nil,rfl,(v0.taken 0)⟩
                  · refine rg<|lN ((G.bring 0 rfl).box) ?_;refine lN ((G.bring 14 rfl).box) ?_;obtain⟨J3,L1,hm⟩:=bS hm;refine ca z3D (laws_eqChannel_ok (Ext.refl _) (z5 O1.1 ((G.bring 1 rfl).own) ((G.bring 2 rfl).own) ((G.bring 3 rfl).own) ((G.bring 4 rfl).own)) (z5 y.1 ((G.bring 15 rfl).own) ((G.bring 16 rfl).own) ((G.bring 17 rfl).own) ((G.bring 18 rfl).own)) L1) (fun V3 n4 g1=>?_);obtain⟨rfl,k0⟩:=g1;have y0:=G.join k0;refine rr 2 ?_;refine rb 104 hm (fun hm=>?_) (fun hm=>?_)
                    · refine rr 9 ?_;refine rn ?_;exact⟨true,_,⟨hm,k0.ext,(y0.sel [9,10,11,12,13]),rfl⟩,rfl⟩
                    · refine rr 5 ?_;refine rb 109 hm (fun hm=>?_) (fun hm=>?_)
                      · refine rr 4 ?_;refine rn ?_;exact⟨true,_,⟨hm,k0.ext,(y0.sel [9,10,11,12,13]),rfl⟩,rfl⟩
                      · refine rr 4 ?_;refine rn ?_;exact⟨(O1.2.2 != y.2.2),_,⟨hm,k0.ext,(y0.sel [9,10,11,12,13]),rfl⟩,rfl⟩
          · refine rg<|rr 3 ?_;refine rb 65 hm (fun hm=>?_) (fun hm=>?_)
            · refine rr 15 ?_;refine rn ?_;exact⟨true,_,⟨hm,(Ext.refl _),(q.sel [8,9,10,11,12,14,15,16,17,18,19]),rfl⟩,rfl⟩
            · refine lN ((q.bring 8 rfl).box) ?_;refine lN ((q.bring 14 rfl).box) ?_;obtain⟨K3,M1,hm⟩:=bS hm;refine ca z3D (laws_eqChannel_ok (Ext.refl _) (z5 j.1 ((q.bring 9 rfl).own) ((q.bring 10 rfl).own) ((q.bring 11 rfl).own) ((q.bring 12 rfl).own)) (z5 y.1 ((q.bring 15 rfl).own) ((q.bring 16 rfl).own) ((q.bring 17 rfl).own) ((q.bring 18 rfl).own)) M1) (fun W3 o4 i1=>?_);obtain⟨rfl,o0⟩:=i1;have A0:=q.join o0;refine rr 3 ?_;refine rb 71 hm (fun hm=>?_) (fun hm=>?_)
              · refine rr 9 ?_;refine rn ?_;exact⟨true,_,⟨hm,o0.ext,(A0.sel [8,9,10,11,12,14,15,16,17,18,19]),rfl⟩,rfl⟩
              · refine rr 5 ?_;refine rb 76 hm (fun hm=>?_) (fun hm=>?_)
                · refine rr 4 ?_;refine rn ?_;exact⟨true,_,⟨hm,o0.ext,(A0.sel [8,9,10,11,12,14,15,16,17,18,19]),rfl⟩,rfl⟩
                · refine rr 4 ?_;refine rn ?_;exact⟨(j.2.2 != y.2.2),_,⟨hm,o0.ext,(A0.sel [8,9,10,11,12,14,15,16,17,18,19]),rfl⟩,rfl⟩
    · refine rg<|lN ((z.bring 0 rfl).box) ?_;refine lN ((z.bring 10 rfl).box) ?_;obtain⟨L3,N1,hm⟩:=bS hm;refine ca z3D (laws_eqChannel_ok (Ext.refl _) (z5 j.1 ((z.bring 1 rfl).own) ((z.bring 2 rfl).own) ((z.bring 3 rfl).own) ((z.bring 4 rfl).own)) (z5 y.1 ((z.bring 11 rfl).own) ((z.bring 12 rfl).own) ((z.bring 13 rfl).own) ((z.bring 14 rfl).own)) N1) (fun X3 p4 j1=>?_);obtain⟨rfl,p0⟩:=j1;have B0:=z.join p0;refine rr 2 ?_;refine rb 45 hm (fun hm=>?_) (fun hm=>?_)
      · refine rr 9 ?_;refine rn ?_;exact⟨true,_,⟨hm,p0.ext,(B0.sel [0,1,2,3,4,5,6,7,8,9,10,11,12,13,14,19]),rfl⟩,rfl⟩
      · refine rr 5 ?_;refine rb 50 hm (fun hm=>?_) (fun hm=>?_)
        · refine rr 4 ?_;refine rn ?_;exact⟨true,_,⟨hm,p0.ext,(B0.sel [0,1,2,3,4,5,6,7,8,9,10,11,12,13,14,19]),rfl⟩,rfl⟩
        · refine rr 4 ?_;refine rn ?_;exact⟨(j.2.2 != y.2.2),_,⟨hm,p0.ext,(B0.sel [0,1,2,3,4,5,6,7,8,9,10,11,12,13,14,19]),rfl⟩,rfl⟩

end Go.E


namespace Go.E
open Go.RowKit Go.Proofs
set_option linter.unusedSimpArgs false
set_option linter.unusedVariables false

theorem z5t {fuel:Nat}{x:D.ChannelEvent}(hf:18446744073709551616≤fuel) (hs:0≤1048576):z1d fuel x=some x:=by
  skip
  unfold z1d
  rfl

theorem z6R {fuel:Nat}{x:(List Int)}(hf:18446744073709551616≤fuel) (hs:x.length≤1048576):z21 fuel x=some x:=by
  have hl:=hs
  unfold z21
  refine z6w hl hf (fun _=>rfl) ?_ ?_
  · intro i y out hy j
    have hi:=(List.getElem?_eq_some_iff.1 hy).1
    have hsy:0≤1048576:=Nat.zero_le _
    simp only [z3g,z1z hy,Option.bind_some,lt_t (show(i:Int)<x.length by omega),if_true]
    rw [if_pos (by simp;omega)]
    simp
  · intro out
    simp [z3g]

theorem z71 {fuel:Nat}{x:(List Int)}(hf:18446744073709551616≤fuel) (hs:x.length≤1048576):z3s fuel x x=some true:=by
  have hl:=hs
  unfold z3s
  rw [if_neg (by simp)]
  refine z5R (n:=x.length) (t:=()) (by unfold maxLen;omega) hf rfl ?_ ?_
  · intro i hi
    obtain⟨y,hy⟩:=z51 hi
    have hsy:0≤1048576:=Nat.zero_le _
    simp [z3j,z1z hy,hi,z4d]
  · simp [z3j]

theorem z5m {fuel:Nat}{x:(List ByteArray)}{l:Int}(hf:18446744073709551616≤fuel) (hw:WfL (fun s=>s.size≤maxLen) x) (h0:0≤l) (h1:l≤1048576):SzOk (szL ByteArray.size x) l (z2C fuel x l):=by
  unfold z2C
  generalize hz:w64 (l - (x.length:Int))=z
  refine SzOk.sub2 h0 h1 hw.1 (m:=sumL ByteArray.size x) rfl hz fun g0 g1=>?_
  refine SzOk.loop hw.1 hf g0 (by omega) (fun _=>rfl) ?_ ?_
  · intro i y l hy h0 h1
    have hi:=(List.getElem?_eq_some_iff.1 hy).1
    have hwy:=hw.2 y (List.mem_of_getElem? hy)
    simp only [z34,z1z hy,Option.bind_some,lt_t (show(i:Int)<x.length by omega),if_true]
    have hm:maxLen=9223372036854775807:=rfl
    have hwz:y.size≤maxLen:=hwy
    rw [zp (show -9223372036854775808≤l - (y.size:Int) by omega) (by omega)]
    by_cases hlt:l - (y.size:Int)<0
    · exact .inl (by rw [if_pos (by simpa using hlt)])
    · exact .inr ⟨_,by rw [if_neg (by simpa using hlt)],by omega,by omega⟩
  · intro l
    simp [z34]

theorem z5j {fuel:Nat}{x:(List ByteArray)}(hf:18446744073709551616≤fuel) (hs:szL ByteArray.size x≤1048576):z2A fuel x=some x:=by
  have hl:=z2P hs
  unfold z2A
  refine z6w hl hf (fun _=>rfl) ?_ ?_
  · intro i y out hy j
    have hi:=(List.getElem?_eq_some_iff.1 hy).1
    have hsy:y.size≤1048576:=z53 hs (List.mem_of_getElem? hy)
    simp only [z32,z1z hy,Option.bind_some,lt_t (show(i:Int)<x.length by omega),if_true]
    rw [if_pos (by simp;omega)]
    simp
  · intro out
    simp [z32]

theorem z5p {fuel:Nat}{x:(List ByteArray)}(hf:18446744073709551616≤fuel) (hs:szL ByteArray.size x≤1048576):z2E fuel x x=some true:=by
  have hl:=z2P hs
  unfold z2E
  rw [if_neg (by simp)]
  refine z5R (n:=x.length) (t:=()) (by unfold maxLen;omega) hf rfl ?_ ?_
  · intro i hi
    obtain⟨y,hy⟩:=z51 hi
    have hsy:y.size≤1048576:=z53 hs (List.mem_of_getElem? hy)
    simp [z36,z1z hy,hi,z4d]
  · simp [z36]

theorem z6S {fuel:Nat}{x:D.Packet}{l:Int}(hf:18446744073709551616≤fuel) (hw:D.Packet.wf x) (h0:0≤l) (h1:l≤1048576):SzOk (D.Packet.sz x) l (z3q fuel x l):=by
  obtain⟨w0,w1,w2,_⟩:=hw
  unfold z3q D.Packet.sz
  generalize hz1:w64 (l - (x.Text.size:Int))=z1
  refine SzOk.sub2 h0 (by omega) w2 rfl hz1 fun g1a g1b=>?_
  exact SzOk.same g1a

theorem z6Q {fuel:Nat}{x:D.Packet}(hf:18446744073709551616≤fuel) (hs:D.Packet.sz x≤1048576):z3p fuel x=some x:=by
  unfold D.Packet.sz at hs
  unfold z3p
  rfl

theorem z70 {fuel:Nat}{x:D.Packet}(hf:18446744073709551616≤fuel) (hs:D.Packet.sz x≤1048576):z3r fuel x x=some true:=by
  unfold D.Packet.sz at hs
  simp [z3r,z4d]

theorem z5n {fuel:Nat}{x:(List D.Packet)}{l:Int}(hf:18446744073709551616≤fuel) (hw:WfL D.Packet.wf x) (h0:0≤l) (h1:l≤1048576):SzOk (szL D.Packet.sz x) l (z2D fuel x l):=by
  unfold z2D
  generalize hz:w64 (l - (x.length:Int))=z
  refine SzOk.sub2 h0 h1 hw.1 (m:=sumL D.Packet.sz x) rfl hz fun g0 g1=>?_
  refine SzOk.loop hw.1 hf g0 (by omega) (fun _=>rfl) ?_ ?_
  · intro i y l hy h0 h1
    have hi:=(List.getElem?_eq_some_iff.1 hy).1
    have hwy:=hw.2 y (List.mem_of_getElem? hy)
    obtain⟨r,h2,h3⟩:=z6S hf hwy h0 h1
    simp only [z35,z1z hy,Option.bind_some,lt_t (show(i:Int)<x.length by omega),if_true,h2]
    by_cases hlt:r<0
    · exact .inl (by simp only [lt_t hlt,if_true])
    · exact .inr ⟨r,by simp only [lt_f hlt,if_false],h3.resolve_left hlt⟩
  · intro l
    simp [z35]

theorem z5k {fuel:Nat}{x:(List D.Packet)}(hf:18446744073709551616≤fuel) (hs:szL D.Packet.sz x≤1048576):z2B fuel x=some x:=by
  have hl:=z2P hs
  unfold z2B
  refine z6w hl hf (fun _=>rfl) ?_ ?_
  · intro i y out hy j
    have hi:=(List.getElem?_eq_some_iff.1 hy).1
    have hsy:D.Packet.sz y≤1048576:=z53 hs (List.mem_of_getElem? hy)
    simp only [z33,z1z hy,Option.bind_some,lt_t (show(i:Int)<x.length by omega),if_true,z6Q hf hsy]
    rw [if_pos (by simp;omega)]
    simp
  · intro out
    simp [z33]

theorem z5q {fuel:Nat}{x:(List D.Packet)}(hf:18446744073709551616≤fuel) (hs:szL D.Packet.sz x≤1048576):z2F fuel x x=some true:=by
  have hl:=z2P hs
  unfold z2F
  rw [if_neg (by simp)]
  refine z5R (n:=x.length) (t:=()) (by unfold maxLen;omega) hf rfl ?_ ?_
  · intro i hi
    obtain⟨y,hy⟩:=z51 hi
    have hsy:D.Packet.sz y≤1048576:=z53 hs (List.mem_of_getElem? hy)
    simp [z37,z1z hy,hi,z4d,z70 hf hsy]
  · simp [z37]

theorem z4w {fuel:Nat}{x:D.Channel}{l:Int}(hf:18446744073709551616≤fuel) (hw:D.Channel.wf x) (h0:0≤l) (h1:l≤1048576):SzOk (D.Channel.sz x) l (z2h fuel x l):=by
  obtain⟨w0,w1,w2,w3,w4,w5,w6,w7,_⟩:=hw
  unfold z2h D.Channel.sz
  refine SzOk.bind (z5m hf w1 h0 (by omega)) rfl fun r1 g1a g1b=>?_
  refine SzOk.bind (z5n hf w5 g1a (by omega)) rfl fun r2 g2a g2b=>?_
  refine SzOk.bind (z5m hf w6 g2a (by omega)) rfl fun r3 g3a g3b=>?_
  refine SzOk.bind (z5n hf w7 g3a (by omega)) rfl fun r4 g4a g4b=>?_
  exact SzOk.same g4a

theorem z4v {fuel:Nat}{x:D.Channel}(hf:18446744073709551616≤fuel) (hs:D.Channel.sz x≤1048576):zj fuel x=some x:=by
  unfold D.Channel.sz at hs
  unfold zj
  simp only [z5j hf (show szL ByteArray.size x.Messages≤1048576 by omega),z5k hf (show szL D.Packet.sz x.Early≤1048576 by omega),z5j hf (show szL ByteArray.size x.Delivered≤1048576 by omega),z5k hf (show szL D.Packet.sz x.Flight≤1048576 by omega),Option.bind_some]

theorem z3d {fuel:Nat}{x:D.Channel}(hf:18446744073709551616≤fuel) (hs:D.Channel.sz x≤1048576):zk fuel x x=some true:=by
  unfold D.Channel.sz at hs
  simp [zk,z4d,z5p hf (show szL ByteArray.size x.Messages≤1048576 by omega),z5q hf (show szL D.Packet.sz x.Early≤1048576 by omega),z5p hf (show szL ByteArray.size x.Delivered≤1048576 by omega),z5q hf (show szL D.Packet.sz x.Flight≤1048576 by omega)]

theorem z5V:Opens Try.prog 2 tInt I64:=Opens.int Try.underlying2 (by kernel_rfl)
theorem z9E:Opens Try.prog 9 tStr fun s=>s.size≤maxLen:=Opens.str Try.underlying9 (by kernel_rfl)
theorem z8y:Opens Try.prog 22 ty22 (WfL (fun s=>s.size≤maxLen)):=Opens.sl Try.underlying22 (by kernel_rfl) z9E
theorem z9R:Opens Try.prog 4 tBool fun _=>True:=Opens.bool Try.underlying4 (by kernel_rfl)
set_option maxRecDepth 100000 in
theorem z9G:Opens Try.prog 75 ty75 D.Packet.wf:=Opens.struct (f:=fun c:D.Packet=>(c.Ack,c.Number,c.Text,())) Try.underlying75 (by kernel_rfl) (OpensF.cons z9R rfl rfl (OpensF.cons z5V rfl rfl (OpensF.cons z9E rfl rfl OpensF.nil))) (fun⟨a0,a1,a2,_⟩=>⟨⟨a0,a1,a2⟩,rfl⟩)
theorem z8x:Opens Try.prog 23 ty23 (WfL D.Packet.wf):=Opens.sl Try.underlying23 (by kernel_rfl) z9G
set_option maxRecDepth 100000 in
theorem z7E:Opens Try.prog 25 ty25 D.Channel.wf:=Opens.struct (f:=fun c:D.Channel=>(c.Window,c.Messages,c.Base,c.Next,c.Expected,c.Early,c.Delivered,c.Flight,())) Try.underlying25 (by kernel_rfl) (OpensF.cons z5V rfl rfl (OpensF.cons z8y rfl rfl (OpensF.cons z5V rfl rfl (OpensF.cons z5V rfl rfl (OpensF.cons z5V rfl rfl (OpensF.cons z8x rfl rfl (OpensF.cons z8y rfl rfl (OpensF.cons z8x rfl rfl OpensF.nil)))))))) (fun⟨a0,a1,a2,a3,a4,a5,a6,a7,_⟩=>⟨⟨a0,a1,a2,a3,a4,a5,a6,a7⟩,rfl⟩)
set_option maxRecDepth 100000 in
theorem z9J:Opens Try.prog 37 ty37 D.ChannelEvent.wf:=Opens.struct (f:=fun c:D.ChannelEvent=>(c.Kind,c.Index,())) Try.underlying37 (by kernel_rfl) (OpensF.cons z5V rfl rfl (OpensF.cons z5V rfl rfl OpensF.nil)) (fun⟨a0,a1,_⟩=>⟨⟨a0,a1⟩,rfl⟩)
theorem z9H:Opens Try.prog 43 ty43 (WfL I64):=Opens.sl Try.underlying43 (by kernel_rfl) z5V
end Go.E


namespace Go.E
open Go.RowKit Go.Proofs
set_option linter.unusedSimpArgs false
set_option linter.unusedVariables false

theorem z7c {fuel0:Nat}:∀ (fuel:Nat) (s:Int) (t:ByteArray),0≤s→s+(t.size:Int)≤2147483648→s.toNat<fuel→∃ r:ByteArray,iter (z3i fuel0) fuel (s,t)=some (.inl r)∧r.size≤2147483648
  | 0,s,t,_,_,h=>by omega
  | fuel+1,s,t,h0,h1,h2=>by
    unfold iter z3i
    by_cases hs:s>0
    · have hz:(strOfNums ([IntKind.u8.wrap (w64 (48+(s.tmod 10)))]:(List Int))).size=1:=by rw [strOfNums_size];rfl
      have hd:s.tdiv 10=s / 10:=Int.tdiv_eq_ediv_of_nonneg h0
      dsimp only
      rw [if_pos (decide_eq_true hs),if_pos (decide_eq_true (by rw [hz];omega))]
      dsimp only
      rw [zp (by rw [hd];omega) (by rw [hd];omega)]
      exact z7c (fuel0:=fuel0) fuel _ _ (by rw [hd];omega) (by rw [ByteArray.size_append,hz,hd];omega) (by rw [hd];omega)
    · dsimp only
      rw [if_neg (by simpa using hs)]
      exact⟨t,rfl,by omega⟩


def textOf (fuel:Nat) (k:Int):ByteArray:=(z1q fuel k).getD default
theorem z5y {fuel:Nat}{k:Int}(hf:18446744073709551616≤fuel) (h0:0≤k) (h1:k≤2147483648):z1q fuel k=some (textOf fuel k):=by
  have:∃ r,z1q fuel k=some r:=by
    unfold z1q
    by_cases h:k≤0
    · rw [if_pos (decide_eq_true h)];exact⟨_,rfl⟩
    · rw [if_neg (by simpa using h)]
      obtain⟨r,h3,h4⟩:=z7c (fuel0:=fuel) fuel k ⟨#[]⟩ h0 (by show k+((0:Nat):Int)≤_;omega) (by omega)
      rw [h3]
      show ∃ q,z3h fuel r=some q
      unfold z3h
      rw [if_pos (decide_eq_true (by show 1+r.size≤_;omega))]
      exact⟨_,rfl⟩
  obtain⟨r,h⟩:=this
  unfold textOf
  rw [h];rfl


def z76 (fuel:Nat) (x:Int) (k:Int):Int:=k
def z4S (x:Int):Nat:=1
def z92 (fuel:Nat) (xs:List Int) (k:Int):List Int:=markL (z76 fuel) z4S xs k
def z64 (xs:List Int):Nat:=sumL z4S xs
theorem z6s {fuel:Nat}{xs:List Int}{k:Int}(hf:18446744073709551616≤fuel) (hl:xs.length≤1048576) (h0:0≤k) (h1:k+(z64 xs:Nat)≤2147483648):z2U fuel xs k=some (k+(z64 xs:Nat),z92 fuel xs k):=by
  unfold z2U
  rw [z6r (f:=z76 fuel) (c:=z4S) (xs:=xs) (k:=k) (by have:=hl;omega) hf h0 h1 ?_ ?_]
  · rfl
  · intro i x ys k hi j hx hm h0 h1
    unfold z4S at h1
    unfold z2O z76 z4S
    rw [if_pos (decide_eq_true (show(i:Int)<xs.length by omega))]
    rw [if_pos (decide_eq_true (show 0≤(i:Int)∧(i:Int).toNat<ys.length from⟨by omega,by rw [j];simpa using hi⟩))]
    simp (disch:=omega) only [z66,Int.toNat_natCast,Int.ofNat_one,Int.natCast_one]
  · intro k ys;unfold z2O;rw [if_neg (by simp)]

theorem z7K {xs:List Int}:z64 xs≤64*(xs.length):=by
  have h:=z6T (c:=z4S) (g:=(fun _=>0)) (m:=64) (xs:=xs) fun x _=>by
    unfold z4S
    omega
  rw [z7O (fun _=>rfl)] at h
  exact h

def elStringS (fuel:Nat) (x:ByteArray) (k:Int):ByteArray:=(textOf fuel (k))
def ecStringS (x:ByteArray):Nat:=1
def mkStringS (fuel:Nat) (xs:List ByteArray) (k:Int):List ByteArray:=markL (elStringS fuel) ecStringS xs k
def ctStringS (xs:List ByteArray):Nat:=sumL ecStringS xs
theorem z4U {fuel:Nat}{xs:List ByteArray}{k:Int}(hf:18446744073709551616≤fuel) (hl:szL ByteArray.size xs≤1048576) (h0:0≤k) (h1:k+(ctStringS xs:Nat)≤2147483648):z26 fuel xs k=some (k+(ctStringS xs:Nat),mkStringS fuel xs k):=by
  unfold z26
  rw [z6r (f:=elStringS fuel) (c:=ecStringS) (xs:=xs) (k:=k) (by have:=(z2P hl);omega) hf h0 h1 ?_ ?_]
  · rfl
  · intro i x ys k hi j hx hm h0 h1
    unfold ecStringS at h1
    have hsx:=z53 hl hm
    unfold z2J elStringS ecStringS
    rw [if_pos (decide_eq_true (show(i:Int)<xs.length by omega))]
    rw [z5y hf h0 (by omega),Option.bind_some]
    rw [if_pos (decide_eq_true (show 0≤(i:Int)∧(i:Int).toNat<ys.length from⟨by omega,by rw [j];simpa using hi⟩))]
    simp (disch:=omega) only [z66,Int.toNat_natCast,Int.ofNat_one,Int.natCast_one]
  · intro k ys;unfold z2J;rw [if_neg (by simp)]

theorem z4X {fuel:Nat}{xs:List ByteArray}{k:Int}(hf:18446744073709551616≤fuel) (hl:szL ByteArray.size xs≤1048576) (h0:0≤k) (h1:k+(ctStringS xs:Nat)≤2147483648):z28 fuel (mkStringS fuel xs k) k=some (k+(ctStringS xs:Nat)):=by
  unfold z28
  have hlen:(mkStringS fuel xs k).length=xs.length:=z3o _ _
  rw [z7q (f:=elStringS fuel) (c:=ecStringS) (xs:=xs) (k:=k) (by have:=(z2P hl);omega) hf h0 h1 ?_ ?_]
  · rfl
  · intro i x k' hi hx hm h0 h1
    unfold ecStringS at h1
    have hsx:=z53 hl hm
    have j:(mkStringS fuel xs k)[i]? = some (elStringS fuel x k'):=hx
    unfold z22
    rw [if_pos (decide_eq_true (show(i:Int)<(mkStringS fuel xs k).length by rw [hlen];omega))]
    simp only [z1z j,Option.bind_some]
    unfold elStringS ecStringS
    simp (disch:=omega) only [z66,Option.bind_some,lt_f,if_false,bne_self_eq_false,Bool.false_eq_true,beq_self_eq_true,Bool.not_true,Int.ofNat_one,Int.natCast_one,z5y hf,z4d]
  · intro k';show z22 fuel (mkStringS fuel xs k) (k',((mkStringS fuel xs k).length:Int))=_;unfold z22;rw [if_neg (by simp)]

theorem z5Z {xs:List ByteArray}:ctStringS xs≤64*(szL ByteArray.size xs):=by
  have h:=z6T (c:=ecStringS) (g:=ByteArray.size) (m:=64) (xs:=xs) fun x _=>by
    unfold ecStringS
    omega
  exact h

def elPacketS (fuel:Nat) (x:D.Packet) (k:Int):D.Packet:=(⟨((k).tmod 3 == 0),k+1,(textOf fuel (k+1+1))⟩:D.Packet)
def ecPacketS (x:D.Packet):Nat:=1+1+1
def mkPacketS (fuel:Nat) (xs:List D.Packet) (k:Int):List D.Packet:=markL (elPacketS fuel) ecPacketS xs k
def ctPacketS (xs:List D.Packet):Nat:=sumL ecPacketS xs
theorem z4V {fuel:Nat}{xs:List D.Packet}{k:Int}(hf:18446744073709551616≤fuel) (hl:szL D.Packet.sz xs≤1048576) (h0:0≤k) (h1:k+(ctPacketS xs:Nat)≤2147483648):z27 fuel xs k=some (k+(ctPacketS xs:Nat),mkPacketS fuel xs k):=by
  unfold z27
  rw [z6r (f:=elPacketS fuel) (c:=ecPacketS) (xs:=xs) (k:=k) (by have:=(z2P hl);omega) hf h0 h1 ?_ ?_]
  · rfl
  · intro i x ys k hi j hx hm h0 h1
    unfold ecPacketS at h1
    have hsx:=z53 hl hm
    unfold D.Packet.sz at hsx
    unfold z2K elPacketS ecPacketS
    rw [if_pos (decide_eq_true (show(i:Int)<xs.length by omega))]
    simp only [z1z hx,Option.bind_some]
    simp (disch:=omega) only [z5y hf,z66,Option.bind_some,Int.toNat_natCast]
    all_goals (refine congrArg some (congrArg Rd.next (Prod.ext ?_ ?_));rotate_left;first | rfl | (dsimp only;simp only [Int.natCast_add,Int.natCast_one,Int.ofNat_one,← Int.add_assoc]))
    all_goals (dsimp only;simp only [Int.natCast_add,Int.natCast_one,Int.ofNat_one];try omega)
  · intro k ys;unfold z2K;rw [if_neg (by simp)]

theorem z4Y {fuel:Nat}{xs:List D.Packet}{k:Int}(hf:18446744073709551616≤fuel) (hl:szL D.Packet.sz xs≤1048576) (h0:0≤k) (h1:k+(ctPacketS xs:Nat)≤2147483648):z29 fuel (mkPacketS fuel xs k) k=some (k+(ctPacketS xs:Nat)):=by
  unfold z29
  have hlen:(mkPacketS fuel xs k).length=xs.length:=z3o _ _
  rw [z7q (f:=elPacketS fuel) (c:=ecPacketS) (xs:=xs) (k:=k) (by have:=(z2P hl);omega) hf h0 h1 ?_ ?_]
  · rfl
  · intro i x k' hi hx hm h0 h1
    unfold ecPacketS at h1
    have hsx:=z53 hl hm
    unfold D.Packet.sz at hsx
    have j:(mkPacketS fuel xs k)[i]? = some (elPacketS fuel x k'):=hx
    unfold z23
    rw [if_pos (decide_eq_true (show(i:Int)<(mkPacketS fuel xs k).length by rw [hlen];omega))]
    simp only [z1z j,Option.bind_some]
    unfold elPacketS ecPacketS
    simp (disch:=omega) only [z66,Option.bind_some,lt_f,if_false,bne_self_eq_false,Bool.false_eq_true,beq_self_eq_true,Bool.not_true,Int.ofNat_one,Int.natCast_one,z5y hf,z4d]
    try (refine congrArg some (congrArg Rd.next (Prod.ext ?_ rfl));dsimp only;simp only [Int.natCast_add,Int.natCast_one,Int.ofNat_one];try omega)
  · intro k';show z23 fuel (mkPacketS fuel xs k) (k',((mkPacketS fuel xs k).length:Int))=_;unfold z23;rw [if_neg (by simp)]

theorem z60 {xs:List D.Packet}:ctPacketS xs≤64*(szL D.Packet.sz xs):=by
  have h:=z6T (c:=ecPacketS) (g:=D.Packet.sz) (m:=64) (xs:=xs) fun x _=>by
    unfold ecPacketS
    unfold D.Packet.sz
    omega
  exact h

def mkChannel (fuel:Nat) (x:D.Channel) (k:Int):D.Channel:=(⟨x.Window,mkStringS fuel x.Messages (k),x.Base,x.Next,x.Expected,mkPacketS fuel x.Early (k+((ctStringS x.Messages:Nat):Int)),mkStringS fuel x.Delivered (k+((ctStringS x.Messages:Nat):Int)+((ctPacketS x.Early:Nat):Int)),mkPacketS fuel x.Flight (k+((ctStringS x.Messages:Nat):Int)+((ctPacketS x.Early:Nat):Int)+((ctStringS x.Delivered:Nat):Int))⟩:D.Channel)
def ctChannel (x:D.Channel):Nat:=ctStringS x.Messages+ctPacketS x.Early+ctStringS x.Delivered+ctPacketS x.Flight
theorem z10 {fuel:Nat}{x:D.Channel}{k:Int}:(⟨x.Window,(mkChannel fuel x k).Messages,x.Base,x.Next,x.Expected,(mkChannel fuel x k).Early,(mkChannel fuel x k).Delivered,(mkChannel fuel x k).Flight⟩:D.Channel)=mkChannel fuel x k:=rfl
theorem z2z {fuel:Nat}{x:D.Channel}{k:Int}(hf:18446744073709551616≤fuel) (hs:x.sz≤1048576) (h0:0≤k) (h1:k+(ctChannel x:Nat)≤2147483648):zV fuel x k=some (k+(ctChannel x:Nat),(mkChannel fuel x k).Messages,(mkChannel fuel x k).Early,(mkChannel fuel x k).Delivered,(mkChannel fuel x k).Flight):=by
  unfold ctChannel at h1 ⊢
  simp only [D.Channel.sz] at hs
  unfold zV mkChannel
  simp (disch:=omega) only [z4U hf (show szL ByteArray.size x.Messages≤1048576 by omega),z4V hf (show szL D.Packet.sz x.Early≤1048576 by omega),z4U hf (show szL ByteArray.size x.Delivered≤1048576 by omega),z4V hf (show szL D.Packet.sz x.Flight≤1048576 by omega),Option.bind_some]
  all_goals try simp only [Int.natCast_add,Int.add_assoc]

theorem z46 {fuel:Nat}{x:D.Channel}{k:Int}(hf:18446744073709551616≤fuel) (hs:x.sz≤1048576) (h0:0≤k) (h1:k+(ctChannel x:Nat)≤2147483648):zW fuel (mkChannel fuel x k) k=some (k+(ctChannel x:Nat)):=by
  unfold ctChannel at h1 ⊢
  simp only [D.Channel.sz] at hs
  unfold zW mkChannel
  simp (disch:=omega) only [z4X hf (show szL ByteArray.size x.Messages≤1048576 by omega),z4Y hf (show szL D.Packet.sz x.Early≤1048576 by omega),z4X hf (show szL ByteArray.size x.Delivered≤1048576 by omega),z4Y hf (show szL D.Packet.sz x.Flight≤1048576 by omega),Option.bind_some,lt_f,if_false]
  all_goals try simp only [Int.natCast_add,Int.add_assoc]

theorem z3J {x:D.Channel}:ctChannel x≤64*x.sz:=by
  unfold ctChannel
  simp only [D.Channel.sz]
  have:=z5Z (xs:=x.Messages)
  have:=z60 (xs:=x.Early)
  have:=z5Z (xs:=x.Delivered)
  have:=z60 (xs:=x.Flight)
  omega

end Go.E


namespace Go.E
open Go.RowKit Go.Proofs
set_option linter.unusedSimpArgs false
set_option linter.unusedVariables false

def z1R (fuel:Nat) (x0:D.Channel):Option Bool:=(z1c fuel x0).bind fun j=>some j


theorem z6K {σ τ ρ:Type}{b b':σ→Option (Rd σ τ ρ)}(I:σ→Prop) (h:∀ s,I s→b s=b' s) (hp:∀ s s',I s→b s=some (.next s')→I s'):∀ (fuel:Nat) (s:σ),I s→iter b fuel s=iter b' fuel s
  | 0,_,_=>rfl
  | fuel+1,s,hI=>by
    simp only [iter,← h s hI]
    cases hb:b s with
    | none=>rfl
    | some o=>
      cases o with
      | next s'=>exact z6K I h hp fuel s' (hp s s' hI hb)
      | brk t=>rfl
      | ret r=>rfl


theorem z8N {τ ρ:Type}{n:Nat}{body:Int→Option (Rd Int τ ρ)}{fuel:Nat}{t:τ}{v:ρ}(hl:n≤maxLen) (hf:18446744073709551616≤fuel)
    (step:∀ (i:Nat),i<n→body i=some (.next (w64 (i+1)))∨body i=some (.ret v)) (last:body n=some (.brk t)):iter body fuel 0=some (.inl t)∨iter body fuel 0=some (.inr v):=by
  have hm:maxLen=9223372036854775807:=rfl
  obtain⟨o,h2,h3⟩:=z2W (body:=body) (fun i s=>s=(i:Int)) n (fun o=>o=.inl t∨o=.inr v) (by
    rintro i s hi rfl
    rcases step i hi with h | h
    · exact .inl ⟨_,h,by rw [zp (by omega) (by omega)];simp⟩
    · exact .inr (.inl ⟨_,h,.inr rfl⟩)) (by
    rintro s rfl
    exact .inr ⟨_,last,.inl rfl⟩) (fuel:=fuel) (i:=0) (s:=0) (Nat.zero_le _) (by omega) rfl
  rcases h3 with rfl | rfl
  · exact .inl h2
  · exact .inr h2


theorem z4t {α τ ρ:Type}{xs:List α}{body:Int→Option (Rd Int τ ρ)}{fuel:Nat}{t:τ}{p:α→Bool}{g:Int→ρ}(hl:xs.length≤maxLen) (hf:18446744073709551616≤fuel)
    (step:∀ (i:Nat) (x:α),xs[i]? = some x→body i=if p x=true then some (.ret (g i)) else some (.next (w64 (i+1)))) (last:body xs.length=some (.brk t)):
    (xs.any p=false∧iter body fuel 0=some (.inl t))∨(xs.any p=true∧∃ i:Nat,iter body fuel 0=some (.inr (g i))):=by
  have hm:maxLen=9223372036854775807:=rfl
  obtain⟨o,h2,h3⟩:=z2W (body:=body) (fun i s=>s=(i:Int)∧(xs.take i).any p=false) xs.length (fun o=>(xs.any p=false∧o=.inl t)∨(xs.any p=true∧∃ i:Nat,o=.inr (g i))) (by
    rintro i s hi ⟨rfl,ha⟩
    obtain⟨x,hx⟩:=z51 hi
    have hs:=step i x hx
    cases hp:p x with
    | true=>
      rw [hp,if_pos rfl] at hs
      exact .inr (.inl ⟨_,hs,.inr ⟨List.any_eq_true.2 ⟨x,List.mem_of_getElem? hx,hp⟩,i,rfl⟩⟩)
    | false=>
      rw [hp,if_neg (by simp)] at hs
      refine .inl ⟨_,hs,by rw [zp (by omega) (by omega)];simp,?_⟩
      rw [List.take_add_one,hx,List.any_append,ha]
      simp [hp]) (by
    rintro s ⟨rfl,ha⟩
    rw [List.take_length] at ha
    exact .inr ⟨_,last,.inl ⟨ha,rfl⟩⟩) (fuel:=fuel) (i:=0) (s:=0) (Nat.zero_le _) (by omega) ⟨rfl,by simp⟩
  rcases h3 with⟨h3,rfl⟩ | ⟨h3,i,rfl⟩
  · exact .inl ⟨h3,h2⟩
  · exact .inr ⟨h3,i,h2⟩

section
variable {fuel:Nat}{x:D.Channel}

theorem z6u {p:D.Packet}(h0:0≤x.Next) (h1:x.Next≤x.Messages.length) (hl:x.Messages.length≤1048576):zB fuel x p=z9 fuel x p∧∃ r,z9 fuel x p=some r:=by
  simp only [zB,z9,zZ]
  rw [zp (show -9223372036854775808≤x.Next - 1 by omega) (by omega)]
  cases p.Ack with
  | true=>
    by_cases a:p.Number≥0<;>by_cases b:p.Number≤x.Expected<;>simp [a,b]
  | false=>
    by_cases a:p.Number≥0
    · by_cases b:p.Number<x.Next
      · obtain⟨m,hm⟩:=z51 (xs:=x.Messages) (i:=p.Number.toNat) (by omega)
        have:=z1z hm
        rw [Int.toNat_of_nonneg a] at this
        simp [a,b,show p.Number≤x.Next - 1 by omega,this]
      · simp [a,b,show ¬ p.Number≤x.Next - 1 by omega]
    · simp [a]

theorem z7s (hf:18446744073709551616≤fuel) (h0:0≤x.Next) (h1:x.Next≤x.Messages.length) (hl:x.Messages.length≤1048576) (hF:x.Flight.length≤1048576):
    ∃ r,z2R fuel x ()=some r∧z2y fuel x ()=some r:=by
  have hs:=fun p=>z6u (fuel:=fuel) (p:=p) h0 h1 hl
  have hb:∀ p,zB fuel x p=some ((z9 fuel x p).getD false):=fun p=>by
    obtain⟨e,r,hr⟩:=hs p
    rw [e,hr];rfl
  have hc:∀ p,z9 fuel x p=some ((z9 fuel x p).getD false):=fun p=>by
    obtain⟨e,r,hr⟩:=hs p
    rw [hr];rfl
  have hm:maxLen=9223372036854775807:=rfl
  have A:=z4t (xs:=x.Flight) (body:=z1p fuel x) (fuel:=fuel) (t:=()) (p:=fun p=>!(z9 fuel x p).getD false) (g:=fun _=>false) (by omega) hf (by
    intro i y hy
    have hi:=(List.getElem?_eq_some_iff.1 hy).1
    simp only [z1p,z1z hy,lt_t (show(i:Int)<x.Flight.length by omega),if_true,Option.bind_some,hb]) (by simp [z1p])
  have B:=z4t (xs:=x.Flight) (body:=zd fuel x.Flight (fun y0=>z1M fuel y0 x)) (fuel:=fuel) (t:=()) (p:=fun p=>!(z9 fuel x p).getD false) (g:=fun i=>i) (by omega) hf (by
    intro i y hy
    have hi:=(List.getElem?_eq_some_iff.1 hy).1
    simp only [zd,z1M,z1z hy,lt_t (show(i:Int)<x.Flight.length by omega),if_true,Option.bind_some]
    rw [hc y]
    simp only [Option.bind_some,Option.getD_some]) (by simp [zd])
  simp only [z2R,z2y,zq,zC]
  rcases A with⟨a1,a2⟩ | ⟨a1,i,a2⟩<;>rcases B with⟨b1,b2⟩ | ⟨b1,j,b2⟩
  · refine⟨true,?_,?_⟩
    · rw [a2];rfl
    · rw [b2];rfl
  · rw [a1] at b1;cases b1
  · rw [a1] at b1;cases b1
  · refine⟨false,?_,?_⟩
    · rw [a2];rfl
    · rw [b2]
      show some (!decide ((j:Int)≥0))=some false
      simp

theorem z8j (hf:18446744073709551616≤fuel) (h0:0≤x.Next) (h1:x.Next≤x.Messages.length) (hl:x.Messages.length≤1048576) (hF:x.Flight.length≤1048576) (hE:x.Early.length≤1048576):
    ∃ r,z1Z fuel x ()=some r∧zQ fuel x false=some r:=by
  have hs:=fun p=>z6u (fuel:=fuel) (p:=p) h0 h1 hl
  have hb:zM fuel x=zi fuel x:=by
    funext s
    simp only [zM,zi,fun p=>(hs p).1]
    rfl
  have A:iter (zi fuel x) fuel (x.Expected,0)=some (.inl ())∨iter (zi fuel x) fuel (x.Expected,0)=some (.inr false):=by
    have J:∀ (s:Int × Int) (y:D.Packet) (b:Bool),zP fuel s y b=some (.ret false)∨∃ l,zP fuel s y b=some (.next (l,w64 (s.2+1))):=fun s y b=>by
      unfold zP
      cases b
      · exact .inr ⟨_,rfl⟩
      · exact .inl rfl
    obtain⟨o,h2,h3⟩:=z2W (body:=zi fuel x) (fun i s=>s.2=(i:Int)) x.Early.length (fun o=>o=.inl ()∨o=.inr false) (by
      rintro i ⟨l,s⟩ hi h
      dsimp only at h
      subst h
      obtain⟨y,hy⟩:=z51 hi
      have K:zi fuel x (l,(i:Int))=some (.ret false)∨∃ l',zi fuel x (l,(i:Int))=some (.next (l',w64 (i+1))):=by
        simp only [zi,z1z hy,lt_t (show(i:Int)<x.Early.length by omega),if_true,Option.bind_some]
        split
        · exact J _ _ _
        · split
          · exact J _ _ _
          · obtain⟨_,r,hr⟩:=hs y
            rw [hr,Option.bind_some]
            exact J _ _ _
      rcases K with h | ⟨l',h⟩
      · exact .inr (.inl ⟨_,h,.inr rfl⟩)
      · exact .inl ⟨_,h,by show w64 _=_;rw [zp (by omega) (by omega)];simp⟩) (by
      rintro⟨l,s⟩ h
      dsimp only at h
      subst h
      exact .inr ⟨(),by simp [zi],.inl rfl⟩) (fuel:=fuel) (i:=0) (s:=(x.Expected,0)) (Nat.zero_le _) (by omega) rfl
    rcases h3 with rfl | rfl
    · exact .inl h2
    · exact .inr h2
  simp only [z1Z,zQ,hb,Bool.false_eq_true,if_false]
  rcases A with h | h
  · rw [h]
    exact z7s hf h0 h1 hl hF
  · rw [h]
    exact⟨false,rfl,rfl⟩

theorem z5r (hf:18446744073709551616≤fuel) (h0:0≤x.Expected) (h1:x.Expected≤x.Messages.length) (he:(x.Delivered.length:Int)=x.Expected) (hD:x.Delivered.length≤1048576):
    ∃ r,(iter (zx fuel x) fuel 0=some (.inl ())∧r=true∨iter (zx fuel x) fuel 0=some (.inr false)∧r=false)∧ze fuel x.Delivered ((x.Messages.take x.Expected.toNat).drop 0)=some r:=by
  have hlen:((x.Messages.take x.Expected.toNat).drop 0).length=x.Delivered.length:=by simp;omega
  have hc:iter (zS fuel x.Delivered ((x.Messages.take x.Expected.toNat).drop 0)) fuel 0=iter (zx fuel x) fuel 0:=by
    refine z6K (fun s=>0≤s) (fun s hs=>?_) (fun s s' hs hb=>?_) fuel 0 (Int.le_refl _)
    · simp only [zS,zx]
      by_cases h:s<x.Delivered.length
      · have:idx ((x.Messages.take x.Expected.toNat).drop 0) s=idx x.Messages s:=by
          simp only [idx,hs,if_true,List.drop_zero]
          rw [List.getElem?_take,if_pos (by omega)]
        simp only [lt_t h,if_true,this]
      · simp only [lt_f h,if_false]
    · simp only [zS] at hb
      by_cases h:s<x.Delivered.length
      · simp only [lt_t h,if_true] at hb
        obtain⟨a,_,hb⟩:=bind_some hb
        obtain⟨b,_,hb⟩:=bind_some hb
        split at hb
        · cases hb
        · cases hb
          rw [zp (by omega) (by omega)];omega
      · simp only [lt_f h,if_false] at hb
        cases hb
  have hm:maxLen=9223372036854775807:=rfl
  unfold ze
  rw [hlen,if_neg (by simp),hc]
  rcases z8N (n:=x.Delivered.length) (body:=zx fuel x) (t:=()) (v:=false) (by omega) hf (by
    intro i hi
    obtain⟨a,ha⟩:=z51 hi
    obtain⟨b,hb⟩:=z51 (xs:=x.Messages) (i:=i) (by omega)
    simp only [zx,z1z ha,z1z hb,Option.bind_some,lt_t (show(i:Int)<x.Delivered.length by omega),if_true]
    split
    · exact .inr rfl
    · exact .inl rfl) (by simp [zx]) with h | h
  · exact⟨true,.inl ⟨h,rfl⟩,by rw [h];rfl⟩
  · exact⟨false,.inr ⟨h,rfl⟩,by rw [h];rfl⟩

theorem z5J (hf:18446744073709551616≤fuel) (hw:x.wf) (hs:x.sz≤1048576):∃ r,z1R fuel x=some r∧zF fuel x=some r:=by
  obtain⟨w1,w2,w3,w4,w5,w6,w7,w8,_⟩:=hw
  unfold D.Channel.sz at hs
  have l1:x.Messages.length≤1048576:=z2P (f:=ByteArray.size) (by omega)
  have l2:x.Early.length≤1048576:=z2P (f:=D.Packet.sz) (by omega)
  have l3:x.Delivered.length≤1048576:=z2P (f:=ByteArray.size) (by omega)
  have l4:x.Flight.length≤1048576:=z2P (f:=D.Packet.sz) (by omega)
  have hm:maxLen=9223372036854775807:=rfl
  have A:=z4t (xs:=x.Messages) (body:=z12 fuel x) (fuel:=fuel) (t:=()) (p:=fun y=>decide ((y.size:Int)>40)) (g:=fun _=>false) (by omega) hf (by
    intro i y hy
    have hi:=(List.getElem?_eq_some_iff.1 hy).1
    simp only [z12,z1z hy,lt_t (show(i:Int)<x.Messages.length by omega),if_true,Option.bind_some]) (by simp [z12])
  have B:=z4t (xs:=x.Messages) (body:=zD fuel x.Messages (fun y0=>z1m fuel y0)) (fuel:=fuel) (t:=()) (p:=fun y=>decide ((y.size:Int)>40)) (g:=fun i=>i) (by omega) hf (by
    intro i y hy
    have hi:=(List.getElem?_eq_some_iff.1 hy).1
    simp only [zD,z1m,z1z hy,lt_t (show(i:Int)<x.Messages.length by omega),if_true,Option.bind_some]) (by simp [zD])
  have C:zE fuel x.Messages (fun y0=>z1m fuel y0)=some (x.Messages.any fun y=>decide ((y.size:Int)>40)):=by
    simp only [zE,z1b]
    rcases B with⟨b1,b2⟩ | ⟨b1,j,b2⟩
    · rw [b2,b1];rfl
    · rw [b2,b1]
      show some (decide ((j:Int)≥0))=some true
      simp
  have t1:zu fuel x true=some false:=rfl
  have t2:zQ fuel x true=some false:=rfl
  have t3:zc fuel x true=some false:=rfl
  have hN:z1v fuel x=some (decide (0≤x.Base∧x.Base≤x.Expected∧x.Expected≤x.Next∧x.Next≤x.Messages.length∧w64 (x.Next - x.Base)≤x.Window)):=by
    unfold z1v
    by_cases a:x.Base≥0<;>by_cases b:x.Base≤x.Expected<;>by_cases c:x.Expected≤x.Next<;>by_cases d:x.Next≤x.Messages.length<;>simp [a,b,c,d]
    all_goals omega
  by_cases hA:(1≤x.Window∧x.Window≤8)∧x.Messages.length≤30∧(0≤x.Base∧x.Base≤x.Expected∧x.Expected≤x.Next∧x.Next≤x.Messages.length∧w64 (x.Next - x.Base)≤x.Window)∧x.Flight.length≤60
  · obtain⟨⟨a1,a2⟩,a3,a4,a5⟩:=hA
    have e1:z1R fuel x=zc fuel x false:=by
      obtain⟨b1,b2,b3,b4,b5⟩:=a4
      have q:(zc fuel x false).bind (fun G=>some G)=zc fuel x false:=by cases zc fuel x false<;>rfl
      simp only [z1R,z1c,zZ]
      simp [a1,a2,a3,b1,b2,b3,b4,b5,a5,show ¬ (30:Int)<x.Messages.length by omega,show x.Base≤x.Messages.length by omega,show x.Base≤x.Next by omega,show ¬ x.Window<w64 (x.Next - x.Base) by omega,show ¬ (60:Int)<x.Flight.length by omega,q]
    have e2:zF fuel x=zu fuel x (x.Messages.any fun y=>decide ((y.size:Int)>40)):=by
      simp only [zF,C,Option.bind_some]
      simp [show ¬ x.Window<1 by omega,show ¬ 8<x.Window by omega,show ¬ (30:Int)<x.Messages.length by omega]
    rw [e1,e2]
    unfold zc
    rw [if_neg (by simp)]
    rcases A with⟨c1,c2⟩ | ⟨c1,i,c2⟩
    · rw [c1,c2]
      unfold zu
      rw [if_neg Bool.false_ne_true,hN.trans (congrArg some (decide_eq_true a4)),Option.bind_some,Option.bind_some,if_neg (by decide:¬ (!true)=true),if_pos (by simp;omega)]
      show ∃ r,z20 fuel x ()=some r∧_
      unfold z20
      by_cases hD:(x.Delivered.length:Int)=x.Expected
      · rw [if_neg (by simp [hD])]
        obtain⟨r,h1,h2⟩:=z5r (x:=x) hf (by omega) (by omega) hD l3
        rw [h2,Option.bind_some]
        rcases h1 with⟨h1,rfl⟩ | ⟨h1,rfl⟩
        · rw [h1,if_neg (by simp),show decide ((x.Flight.length:Int)>60)=false by simp;omega]
          exact z8j hf (by omega) a4.2.2.2.1 l1 l4 l2
        · rw [h1]
          exact⟨false,rfl,rfl⟩
      · rw [if_pos (by simpa using hD)]
        have:ze fuel x.Delivered ((x.Messages.take x.Expected.toNat).drop 0)=some false:=by
          unfold ze
          rw [if_pos (by simp;omega)]
        rw [this,Option.bind_some]
        exact⟨false,rfl,rfl⟩
    · rw [c1,c2]
      exact⟨false,rfl,rfl⟩
  · have e1:z1R fuel x=some false:=by
      have q:z1c fuel x=some false:=by
        simp only [z1c,zZ,t3]
        by_cases c1:x.Window≥1
        · by_cases c2:x.Window≤8
          · by_cases c3:(x.Messages.length:Int)>30
            · simp [c1,c2,c3]
            · by_cases c4:x.Base≥0
              · by_cases c5:x.Base≤x.Messages.length
                · by_cases c6:x.Next≥x.Base
                  · by_cases c7:x.Next≤x.Messages.length
                    · by_cases c8:w64 (x.Next - x.Base)>x.Window
                      · simp [c1,c2,c3,c4,c5,c6,c7,c8]
                      · by_cases c9:x.Expected≥x.Base
                        · by_cases o:x.Expected≤x.Next
                          · have z:(x.Flight.length:Int)>60:=by omega
                            simp [c1,c2,c3,c4,c5,c6,c7,c8,c9,o,z,t3]
                          · simp [c1,c2,c3,c4,c5,c6,c7,c8,c9,o]
                        · simp [c1,c2,c3,c4,c5,c6,c7,c8,c9]
                    · simp [c1,c2,c3,c4,c5,c6,c7]
                  · simp [c1,c2,c3,c4,c5,c6]
                · simp [c1,c2,c3,c4,c5]
              · simp [c1,c2,c3,c4]
          · simp [c1,c2]
        · simp [c1]
      simp only [z1R,q,Option.bind_some]
    have e2:zF fuel x=some false:=by
      simp only [zF,C,Option.bind_some,t1]
      by_cases c1:x.Window<1
      · simp [c1]
      · by_cases c2:x.Window>8
        · simp [c1,c2]
        · by_cases c3:(x.Messages.length:Int)>30
          · simp [c1,c2,c3]
          · rw [if_neg (by simpa using c1),if_neg (by simpa using c2),if_neg (by simpa using c3)]
            cases x.Messages.any fun y=>decide ((y.size:Int)>40) with
            | true=>exact t1
            | false=>
              unfold zu
              rw [if_neg Bool.false_ne_true]
              by_cases c4:0≤x.Base∧x.Base≤x.Expected∧x.Expected≤x.Next∧x.Next≤x.Messages.length∧w64 (x.Next - x.Base)≤x.Window
              · rw [hN.trans (congrArg some (decide_eq_true c4)),Option.bind_some,if_neg (by decide:¬ (!true)=true),if_pos (by simp;omega),show decide ((x.Flight.length:Int)>60)=true by simp;omega,t2]
                have:∃ r,ze fuel x.Delivered ((x.Messages.take x.Expected.toNat).drop 0)=some r:=by
                  by_cases hD:(x.Delivered.length:Int)=x.Expected
                  · obtain⟨r,_,h2⟩:=z5r (x:=x) hf (by omega) (by omega) hD l3
                    exact⟨r,h2⟩
                  · refine⟨false,?_⟩
                    unfold ze
                    rw [if_pos (by simp;omega)]
                obtain⟨r,hr⟩:=this
                rw [hr,Option.bind_some]
                cases r<;>rfl
              · rw [hN.trans (congrArg some (decide_eq_false c4)),Option.bind_some,if_pos (by decide:(!false)=true),t2]
    exact⟨false,e1,e2⟩
end

theorem z8A {fuel:Nat}{x:D.Channel}(hf:18446744073709551616≤fuel) (hw:x.wf) (hs:x.sz≤1048576):∃ r,z1c fuel x=some r∧zF fuel x=some r:=by
  obtain⟨r,h1,h2⟩:=z5J hf hw hs
  refine⟨r,?_,h2⟩
  unfold z1R at h1
  cases h:z1c fuel x with
  | none=>rw [h] at h1;cases h1
  | some b=>rw [h] at h1;cases h1;rfl


theorem z1V {σ τ:Type}{b:σ→Option (Rd σ τ Bool)}(h:∀ s r,b s=some (.ret r)→r=false):∀ (fuel:Nat) (s:σ) (r:Bool),iter b fuel s=some (.inr r)→r=false
  | 0,_,_,e=>by simp [iter] at e
  | fuel+1,s,r,e=>by
    unfold iter at e
    cases hb:b s with
    | none=>rw [hb] at e;cases e
    | some o=>
      rw [hb] at e
      cases o with
      | next s'=>exact z1V h fuel s' r e
      | brk t=>cases e
      | ret q=>cases e;exact h s r hb

theorem z4N {fuel:Nat}(a b c:Int):zZ fuel a b c=some (decide (b≤a∧a≤c)):=by
  unfold zZ
  by_cases h:b≤a<;>simp [h]


def asc:Int→List D.Packet→Prop
  | _,[]=>True
  | l,p::ps=>l<p.Number∧asc p.Number ps

theorem z7u {fuel0:Nat}{x:D.Channel}(hl:x.Early.length≤1048576):∀ (fuel:Nat) (i:Nat) (l:Int),i≤x.Early.length→iter (zM fuel0 x) fuel (l,(i:Int))=some (.inl ())→asc l (x.Early.drop i)
  | 0,i,l,_,h=>by simp [iter] at h
  | fuel+1,i,l,hi,h=>by
    unfold iter zM at h
    rcases Nat.lt_or_ge i x.Early.length with h1 | h1
    · obtain⟨p,hp⟩:=z51 h1
      have hd:x.Early.drop i=p::x.Early.drop (i+1):=by
        have h2:=(List.getElem?_eq_some_iff.1 hp).2
        rw [← h2,← List.drop_eq_getElem_cons h1]
      dsimp only at h
      rw [if_pos (decide_eq_true (by omega)),z1z hp,Option.bind_some] at h
      cases ha:p.Ack with
      | true=>rw [ha,if_pos rfl] at h;cases h
      | false=>
        rw [ha,if_neg Bool.false_ne_true] at h
        by_cases hn:p.Number≤l
        · rw [if_pos (decide_eq_true hn)] at h;cases h
        · rw [if_neg (by simpa using hn)] at h
          cases hf:zB fuel0 x p with
          | none=>rw [hf] at h;cases h
          | some b=>
            rw [hf,Option.bind_some] at h
            cases b with
            | false=>cases h
            | true=>
              have h3:iter (zM fuel0 x) fuel (p.Number,w64 ((i:Int)+1))=some (.inl ()):=h
              rw [zp (by omega) (by omega)] at h3
              rw [hd]
              exact⟨by omega,z7u hl fuel (i+1) p.Number h1 h3⟩
    · rw [List.drop_eq_nil_of_le h1]
      trivial

theorem z91 {fuel:Nat}{x:D.Channel}(hl:x.Early.length≤1048576) (h:z1c fuel x=some true):
    (1≤x.Window∧x.Window≤8)∧0≤x.Base∧x.Base≤x.Expected∧x.Expected≤x.Next∧x.Next≤x.Messages.length∧x.Messages.length≤30∧x.Next - x.Base≤30∧x.Flight.length≤60∧asc x.Expected x.Early:=by
  have t:zc fuel x true=some false:=rfl
  unfold z1c at h
  simp only [z4N,Option.bind_some,t] at h
  by_cases c1:1≤x.Window∧x.Window≤8
  · rw [decide_eq_true c1,if_neg (by simp)] at h
    by_cases c2:(x.Messages.length:Int)>30
    · rw [if_pos (decide_eq_true c2)] at h;cases h
    · rw [if_neg (by simpa using c2)] at h
      by_cases c3:0≤x.Base∧x.Base≤(x.Messages.length:Int)
      · rw [decide_eq_true c3,if_neg (by simp)] at h
        by_cases c4:x.Base≤x.Next∧x.Next≤(x.Messages.length:Int)
        · rw [decide_eq_true c4,if_neg (by simp)] at h
          by_cases c5:w64 (x.Next - x.Base)>x.Window
          · rw [if_pos (decide_eq_true c5)] at h;cases h
          · rw [if_neg (by simpa using c5)] at h
            by_cases c6:x.Base≤x.Expected∧x.Expected≤x.Next
            · rw [decide_eq_true c6,if_neg (by simp)] at h
              by_cases c7:(x.Flight.length:Int)>60
              · rw [decide_eq_true c7,t] at h;cases h
              · rw [decide_eq_false c7] at h
                refine⟨c1,c3.1,c6.1,c6.2,c4.2,by omega,by omega,by omega,?_⟩
                unfold zc at h
                rw [if_neg Bool.false_ne_true] at h
                obtain⟨o,h1,h2⟩:=bind_some h
                cases o with
                | inr b=>
                  have hb:b=true:=by cases h2;rfl
                  subst hb
                  exact absurd h1 (by
                    intro h1
                    have:=z1V (b:=z12 fuel x) (fun s r hr=>by
                      unfold z12 at hr
                      split at hr
                      · obtain⟨y,_,hr⟩:=bind_some hr
                        split at hr<;>cases hr<;>rfl
                      · cases hr) fuel 0 true h1
                    cases this)
                | inl u=>
                  have h3:z20 fuel x ()=some true:=h2
                  unfold z20 at h3
                  split at h3
                  · cases h3
                  · obtain⟨o,h4,h5⟩:=bind_some h3
                    cases o with
                    | inr b=>
                      have hb:b=true:=by cases h5;rfl
                      subst hb
                      exact absurd h4 (by
                        intro h4
                        have:=z1V (b:=zx fuel x) (fun s r hr=>by
                          unfold zx at hr
                          split at hr
                          · obtain⟨y,_,hr⟩:=bind_some hr
                            obtain⟨z,_,hr⟩:=bind_some hr
                            split at hr<;>cases hr<;>rfl
                          · cases hr) fuel 0 true h4
                        cases this)
                    | inl u=>
                      have h6:z1Z fuel x ()=some true:=h5
                      unfold z1Z at h6
                      obtain⟨o,h7,h8⟩:=bind_some h6
                      cases o with
                      | inr b=>
                        have hb:b=true:=by cases h8;rfl
                        subst hb
                        exact absurd h7 (by
                          intro h7
                          have:=z1V (b:=zM fuel x) (fun s r hr=>by
                            unfold zM z2s at hr
                            split at hr
                            · obtain⟨y,_,hr⟩:=bind_some hr
                              split at hr
                              · simp at hr;exact hr
                              · split at hr
                                · simp at hr;exact hr
                                · obtain⟨z,_,hr⟩:=bind_some hr
                                  split at hr<;>cases hr<;>rfl
                            · cases hr) fuel (x.Expected,0) true h7
                          cases this)
                      | inl u=>exact z7u (i:=0) hl fuel x.Expected (Nat.zero_le _) h7
            · rw [decide_eq_false c6,if_pos (by decide:(!false)=true)] at h;cases h
        · rw [decide_eq_false c4,if_pos (by decide:(!false)=true)] at h;cases h
      · rw [decide_eq_false c3,if_pos (by decide:(!false)=true)] at h;cases h
  · rw [decide_eq_false c1,if_pos (by decide:(!false)=true)] at h;cases h
end Go.E


namespace Go.E
open Go.RowKit Go.Proofs
set_option linter.unusedSimpArgs false
set_option linter.unusedVariables false

structure CInv (x:D.Channel):Prop where
  w1:1≤x.Window
  w8:x.Window≤8
  b0:0≤x.Base
  be:x.Base≤x.Expected
  en:x.Expected≤x.Next
  nm:x.Next≤x.Messages.length
  m30:x.Messages.length≤30
  nb:x.Next - x.Base≤30
  ms:∀ m∈x.Messages,m.size≤40
  fl:x.Flight.length≤60
  fp:∀ p∈x.Flight,p.Text.size≤40∧0≤p.Number∧(p.Ack=true→p.Number≤x.Expected)∧(p.Ack=false→p.Number<x.Next)
  ea:asc x.Expected x.Early
  ep:∀ p∈x.Early,p.Text.size≤40∧p.Number<x.Next
  dl:(x.Delivered.length:Int)=x.Expected
  ds:∀ m∈x.Delivered,m.size≤40

theorem z8O {n:Int}:∀ {ps:List D.Packet}{l:Int},asc l ps→(∀ p∈ps,p.Number<n)→ps=[]∨(ps.length:Int)<n - l
  | [],l,_,_=>.inl rfl
  | p::ps,l,⟨h1,h2⟩,h=>by
    right
    have hp:=h p (by simp)
    rcases z8O h2 (fun q hq=>h q (by simp [hq])) with rfl | h3
    · simp;omega
    · simp only [List.length_cons];omega

theorem z69 {α:Type}{f:α→Nat}{k:Nat}:∀ {xs:List α},(∀ x∈xs,f x≤k)→sumL f xs≤xs.length*k
  | [],_=>by simp [sumL]
  | x::xs,h=>by
    have h1:=z69 (xs:=xs) (fun y hy=>h y (by simp [hy]))
    have h2:=h x (by simp)
    simp only [sumL,List.length_cons,Nat.add_mul,Nat.one_mul]
    omega

theorem z5a {α:Type}{f:α→Nat}{xs:List α}(h:∀ x∈xs,f x≤40):szL f xs≤xs.length*41:=by
  have:=z69 h
  unfold szL
  omega

theorem z9Q {p:D.Packet}(h:p.Text.size≤40):D.Packet.sz p≤40:=by unfold D.Packet.sz;omega

theorem CInv.early {x:D.Channel}(h:CInv x):x.Early.length≤30:=by
  have:=h.m30;have:=h.nm;have:=h.b0;have:=h.be
  rcases z8O h.ea (fun p hp=>(h.ep p hp).2) with h1 | h1
  · rw [h1];simp
  · omega

theorem CInv.sz {x:D.Channel}(h:CInv x):x.sz≤1048576:=by
  have h1:=z5a (f:=ByteArray.size) h.ms
  have h2:=z5a (f:=D.Packet.sz) (fun p hp=>z9Q (h.ep p hp).1)
  have h3:=z5a (f:=ByteArray.size) h.ds
  have h4:=z5a (f:=D.Packet.sz) (fun p hp=>z9Q (h.fp p hp).1)
  have h5:=h.early
  have h6:=h.m30;have h7:=h.fl;have h8:=h.dl;have h9:=h.en;have j:=h.nm
  unfold D.Channel.sz
  omega


theorem z7t {fuel:Nat}{x:D.Channel}{p:D.Packet}(hn:0≤x.Next) (hn2:x.Next≤30) (hm:∀ m∈x.Messages,m.size≤40) (h:zB fuel x p=some true):
    p.Text.size≤40∧0≤p.Number∧(p.Ack=true→p.Number≤x.Expected)∧(p.Ack=false→p.Number<x.Next):=by
  unfold zB at h
  simp only [z4N,Option.bind_some] at h
  cases ha:p.Ack with
  | true=>
    rw [ha,if_pos rfl] at h
    by_cases c:0≤p.Number∧p.Number≤x.Expected
    · rw [decide_eq_true c,if_pos rfl] at h
      have h2:seqb p.Text ⟨#[]⟩=true:=by simpa using h
      have h3:p.Text=⟨#[]⟩:=z6U.1 h2
      refine⟨by rw [h3];decide,c.1,fun _=>c.2,fun e=>by cases e⟩
    · rw [decide_eq_false c,if_neg Bool.false_ne_true] at h
      cases h
  | false=>
    rw [ha,if_neg Bool.false_ne_true,zp (by omega) (by omega)] at h
    by_cases c:0≤p.Number∧p.Number≤x.Next - 1
    · rw [decide_eq_true c,if_pos rfl] at h
      obtain⟨m,j,o⟩:=bind_some h
      have h2:seqb p.Text m=true:=by simpa using o
      have h3:p.Text=m:=z6U.1 h2
      have h4:=hm m (List.mem_of_getElem? (z3C j).2)
      refine⟨by rw [h3];exact h4,c.1,fun e=>(by cases e),fun _=>by omega⟩
    · rw [decide_eq_false c,if_neg Bool.false_ne_true] at h
      cases h

theorem z7v {fuel0:Nat}{x:D.Channel}(hl:x.Early.length≤1048576):∀ (fuel:Nat) (i:Nat) (l:Int),i≤x.Early.length→iter (zM fuel0 x) fuel (l,(i:Int))=some (.inl ())→∀ p∈x.Early.drop i,p.Ack=false∧zB fuel0 x p=some true
  | 0,i,l,_,h=>by simp [iter] at h
  | fuel+1,i,l,hi,h=>by
    unfold iter zM at h
    rcases Nat.lt_or_ge i x.Early.length with h1 | h1
    · obtain⟨p,hp⟩:=z51 h1
      have hd:x.Early.drop i=p::x.Early.drop (i+1):=by
        have h2:=(List.getElem?_eq_some_iff.1 hp).2
        rw [← h2,← List.drop_eq_getElem_cons h1]
      dsimp only at h
      rw [if_pos (decide_eq_true (by omega)),z1z hp,Option.bind_some] at h
      cases ha:p.Ack with
      | true=>rw [ha,if_pos rfl] at h;cases h
      | false=>
        rw [ha,if_neg Bool.false_ne_true] at h
        by_cases hn:p.Number≤l
        · rw [if_pos (decide_eq_true hn)] at h;cases h
        · rw [if_neg (by simpa using hn)] at h
          cases hf:zB fuel0 x p with
          | none=>rw [hf] at h;cases h
          | some b=>
            rw [hf,Option.bind_some] at h
            cases b with
            | false=>cases h
            | true=>
              have h3:iter (zM fuel0 x) fuel (p.Number,w64 ((i:Int)+1))=some (.inl ()):=h
              rw [zp (by omega) (by omega)] at h3
              rw [hd]
              intro q hq
              rcases List.mem_cons.1 hq with rfl | hq
              · exact⟨ha,hf⟩
              · exact z7v hl fuel (i+1) p.Number h1 h3 q hq
    · rw [List.drop_eq_nil_of_le h1]
      intro q hq;cases hq


theorem z5H {α τ:Type}{xs:List α}{b:Int→Option (Rd Int τ Bool)}{P:α→Prop}(hl:xs.length≤1048576)
    (step:∀ (i:Nat) (x:α) s',xs[i]? = some x→b i=some (.next s')→s'=w64 (i+1)∧P x) (stop:∀ (i:Nat) (x:α) t,xs[i]? = some x→b i≠some (.brk t)):
    ∀ (fuel i:Nat) (t:τ),iter b fuel (i:Int)=some (.inl t)→∀ x∈xs.drop i,P x
  | 0,i,t,h=>by simp [iter] at h
  | fuel+1,i,t,h=>by
    rcases Nat.lt_or_ge i xs.length with h1 | h1
    · obtain⟨p,hp⟩:=z51 h1
      have hd:xs.drop i=p::xs.drop (i+1):=by
        have h2:=(List.getElem?_eq_some_iff.1 hp).2
        rw [← h2,← List.drop_eq_getElem_cons h1]
      unfold iter at h
      cases hb:b (i:Int) with
      | none=>rw [hb] at h;cases h
      | some o=>
        rw [hb] at h
        cases o with
        | ret r=>cases h
        | brk t=>exact absurd hb (stop i p t hp)
        | next s'=>
          obtain⟨rfl,h2⟩:=step i p s' hp hb
          have h3:iter b fuel (w64 ((i:Int)+1))=some (.inl t):=h
          rw [zp (by omega) (by omega)] at h3
          rw [hd]
          intro q hq
          rcases List.mem_cons.1 hq with rfl | hq
          · exact h2
          · exact z5H hl step stop fuel (i+1) t h3 q hq
    · rw [List.drop_eq_nil_of_le h1]
      intro q hq;cases hq

theorem z8B {fuel:Nat}{x:D.Channel}(hs:x.sz≤1048576) (h:z1c fuel x=some true):CInv x:=by
  have hs':=hs
  unfold D.Channel.sz at hs'
  have l1:x.Messages.length≤1048576:=z2P (f:=ByteArray.size) (by omega)
  have l2:x.Early.length≤1048576:=z2P (f:=D.Packet.sz) (by omega)
  have l3:x.Delivered.length≤1048576:=z2P (f:=ByteArray.size) (by omega)
  have l4:x.Flight.length≤1048576:=z2P (f:=D.Packet.sz) (by omega)
  obtain⟨c1,c2,c3,c4,c5,c6,c7,c8,c9⟩:=z91 l2 h
  have t:zc fuel x true=some false:=rfl
  have hw:w64 (x.Next - x.Base)=x.Next - x.Base:=zp (by omega) (by omega)
  have h0:zc fuel x false=some true:=by
    unfold z1c at h
    simp only [z4N,Option.bind_some,t,hw] at h
    rw [decide_eq_true c1,decide_eq_true (show 0≤x.Base∧x.Base≤(x.Messages.length:Int) by omega),decide_eq_true (show x.Base≤x.Next∧x.Next≤(x.Messages.length:Int) by omega),decide_eq_true (show x.Base≤x.Expected∧x.Expected≤x.Next by omega),decide_eq_false (show ¬ (x.Flight.length:Int)>60 by omega),decide_eq_false (show ¬ (x.Messages.length:Int)>30 by omega)] at h
    rw [if_neg (by simp),if_neg (by simp),if_neg (by simp),if_neg (by simp)] at h
    split at h
    · cases h
    · rw [if_neg (by simp)] at h
      exact h
  unfold zc at h0
  rw [if_neg Bool.false_ne_true] at h0
  obtain⟨o,h1,h2⟩:=bind_some h0
  have g1:∀ r,iter (z12 fuel x) fuel 0=some (.inr r)→r=false:=fun r=>z1V (fun s r hr=>by
    unfold z12 at hr
    split at hr
    · obtain⟨y,_,hr⟩:=bind_some hr
      split at hr<;>cases hr<;>rfl
    · cases hr) fuel 0 r
  have g2:∀ r,iter (zx fuel x) fuel 0=some (.inr r)→r=false:=fun r=>z1V (fun s r hr=>by
    unfold zx at hr
    split at hr
    · obtain⟨y,_,hr⟩:=bind_some hr
      obtain⟨z,_,hr⟩:=bind_some hr
      split at hr<;>cases hr<;>rfl
    · cases hr) fuel 0 r
  have g3:∀ r,iter (zM fuel x) fuel (x.Expected,0)=some (.inr r)→r=false:=fun r=>z1V (fun s r hr=>by
    unfold zM z2s at hr
    split at hr
    · obtain⟨y,_,hr⟩:=bind_some hr
      split at hr
      · simp at hr;exact hr
      · split at hr
        · simp at hr;exact hr
        · obtain⟨z,_,hr⟩:=bind_some hr
          split at hr<;>cases hr<;>rfl
    · cases hr) fuel (x.Expected,0) r
  have g4:∀ r,iter (z1p fuel x) fuel 0=some (.inr r)→r=false:=fun r=>z1V (fun s r hr=>by
    unfold z1p at hr
    split at hr
    · obtain⟨y,_,hr⟩:=bind_some hr
      obtain⟨z,_,hr⟩:=bind_some hr
      split at hr<;>cases hr<;>rfl
    · cases hr) fuel 0 r
  cases o with
  | inr b=>
    have hb:b=true:=by cases h2;rfl
    have:=g1 b h1
    rw [hb] at this;cases this
  | inl u=>
  have hms:∀ m∈x.Messages,m.size≤40:=by
    have:=z5H (xs:=x.Messages) (b:=z12 fuel x) (P:=fun m=>m.size≤40) l1 (by
      intro i m s' hm hb
      have hi:=(List.getElem?_eq_some_iff.1 hm).1
      unfold z12 at hb
      rw [if_pos (decide_eq_true (by omega)),z1z hm,Option.bind_some] at hb
      by_cases c:(m.size:Int)>40
      · rw [if_pos (decide_eq_true c)] at hb;cases hb
      · rw [if_neg (by simpa using c)] at hb;cases hb
        exact⟨rfl,by omega⟩) (by
      intro i m t hm hb
      have hi:=(List.getElem?_eq_some_iff.1 hm).1
      unfold z12 at hb
      rw [if_pos (decide_eq_true (by omega)),z1z hm,Option.bind_some] at hb
      split at hb<;>cases hb) fuel 0 u h1
    simpa using this
  have h3:z20 fuel x ()=some true:=h2
  unfold z20 at h3
  by_cases cd:(x.Delivered.length:Int)=x.Expected
  case neg=>rw [if_pos (by simpa using cd)] at h3;cases h3
  rw [if_neg (by simpa using cd)] at h3
  obtain⟨o,h4,h5⟩:=bind_some h3
  cases o with
  | inr b=>
    have hb:b=true:=by cases h5;rfl
    have:=g2 b h4
    rw [hb] at this;cases this
  | inl u=>
  have hds:∀ m∈x.Delivered,m.size≤40:=by
    have:=z5H (xs:=x.Delivered) (b:=zx fuel x) (P:=fun m=>m.size≤40) l3 (by
      intro i m s' hm hb
      have hi:=(List.getElem?_eq_some_iff.1 hm).1
      unfold zx at hb
      rw [if_pos (decide_eq_true (by omega)),z1z hm,Option.bind_some] at hb
      obtain⟨z,hz,hb⟩:=bind_some hb
      cases hq:seqb m z with
      | false=>rw [hq] at hb;cases hb
      | true=>
        rw [hq,if_neg (by decide)] at hb;cases hb
        refine⟨rfl,?_⟩
        rw [z6U.1 hq]
        exact hms z (List.mem_of_getElem? (z3C hz).2)) (by
      intro i m t hm hb
      have hi:=(List.getElem?_eq_some_iff.1 hm).1
      unfold zx at hb
      rw [if_pos (decide_eq_true (by omega)),z1z hm,Option.bind_some] at hb
      obtain⟨z,hz,hb⟩:=bind_some hb
      split at hb<;>cases hb) fuel 0 u h4
    simpa using this
  have h6:z1Z fuel x ()=some true:=h5
  unfold z1Z at h6
  obtain⟨o,h7,h8⟩:=bind_some h6
  cases o with
  | inr b=>
    have hb:b=true:=by cases h8;rfl
    have:=g3 b h7
    rw [hb] at this;cases this
  | inl u=>
  have hea:=z7v (i:=0) l2 fuel x.Expected (Nat.zero_le _) h7
  have h9:z2R fuel x ()=some true:=h8
  unfold z2R at h9
  obtain⟨o,j,q⟩:=bind_some h9
  cases o with
  | inr b=>
    have hb:b=true:=by cases q;rfl
    have:=g4 b j
    rw [hb] at this;cases this
  | inl u=>
  have hfl:∀ p∈x.Flight,zB fuel x p=some true:=by
    have:=z5H (xs:=x.Flight) (b:=z1p fuel x) (P:=fun p=>zB fuel x p=some true) l4 (by
      intro i m s' hm hb
      have hi:=(List.getElem?_eq_some_iff.1 hm).1
      unfold z1p at hb
      rw [if_pos (decide_eq_true (by omega)),z1z hm,Option.bind_some] at hb
      obtain⟨z,hz,hb⟩:=bind_some hb
      cases z with
      | false=>cases hb
      | true=>
        cases hb
        exact⟨rfl,hz⟩) (by
      intro i m t hm hb
      have hi:=(List.getElem?_eq_some_iff.1 hm).1
      unfold z1p at hb
      rw [if_pos (decide_eq_true (by omega)),z1z hm,Option.bind_some] at hb
      obtain⟨z,hz,hb⟩:=bind_some hb
      split at hb<;>cases hb) fuel 0 u j
    simpa using this
  have hff:=fun p=>z7t (fuel:=fuel) (x:=x) (p:=p) (by omega) (by omega) hms
  refine⟨c1.1,c1.2,c2,c3,c4,c5,c6,c7,hms,c8,fun p hp=>hff p (hfl p hp),c9,fun p hp=>?_,cd,hds⟩
  obtain⟨q1,q2⟩:=hea p (by simpa using hp)
  have q3:=hff p q2
  exact⟨q3.1,q3.2.2.2 q1⟩
end Go.E


