/- Models of functions and proofs that the code runs as they say (written by program). Conditions: the model gives a value. -/
import Derived.Test.YtijgffjimnbcpaaJA
import Derived.Test.YtijgffjimnbcpaaField
import Derived.Lib.Overlaps
import Derived.Laws.Append
import Derived.Laws.AppendOwn
namespace Go.E
open Go.RowKit Go.Proofs
set_option linter.unusedVariables false
set_option linter.unusedSimpArgs false
set_option maxHeartbeats 2000000
set_option maxRecDepth 100000

theorem z9w:Enters Try.prog 43:=⟨_,_,Try.func43,rfl,by kernel_rfl⟩
def z4W (fuel:Nat) (j:Unit):Option Bool:=some false
def z3a (fuel:Nat) (x1:D.ChannelEvent) (o:(List D.ChannelEvent)) (j:Int):Option (Rd (Int) (Unit) (Bool)):=(if(decide (j<(o.length:Int)))=true then((idx o j).bind fun q=>(if(((q.Kind:Int) == x1.Kind) && (((q.Index:Int) == x1.Index) && true))=true then some (.ret true) else some (.next (w64 (j+1))))) else some (.brk ()))
def z3P (fuel:Nat) (x0:D.Channel) (x1:D.ChannelEvent):Option (Bool):=((z1J fuel x0).bind fun j=>((iter (z3a fuel x1 j) fuel 0).bind fun o=>aft o (z4W fuel)))

theorem z6y {W w:World}(hE:Ext W w){o0:Addr}{f0:List Value}{x0:D.Channel}{g0:List Value}{x1:D.ChannelEvent}(j0:ty29.ro W f0 x0) (A0:At W o0 f0) (B0:ty40.ro W g0 x1){fuel:Nat}{r:Bool}(hm:z3P fuel x0 x1=some r):
    Calls Try.prog 43 ⟨[.pointer (some o0),.agg ⟨g0⟩]⟩ w (Ret fun v w8=>v=.bool r∧St w w8 []):=by
  obtain⟨A1,k2,A4,k5,A7,J0,E0,K0,t0,h3,h6,G0,H0⟩:=z11 j0;subst t0;have u0:=z3n B0;subst u0;refine into Try.func43 21 _ ?_;unfold z3P at hm;have hS:=St.start w;refine sq<|rg<|nw hS (fun i0 O0 F0 z=>?_);refine rr 1 ?_;refine rn<|sq<|rg<|rr 1 ?_;obtain⟨p0,c0,hm⟩:=bS hm;refine ca z7Y (z4B (hE.trans z.ext) j0 A0 c0) (fun N0 s0 J=>?_);obtain⟨e0,k0,rfl,L⟩:=J;have O:=z.join L;refine rr 1 ?_;refine rn<|sq<|sq<|rg<|rr 1 ?_;refine rn ?_;obtain⟨D0,Z,hm⟩:=bS hm;refine ct (fun(r0:Unit) F w9=>D0=.inl r0∧Ext s0 w9∧St w w9 []∧F=[]) ?_ ?_
  · rintro r0 F P0 ⟨a0,C0,X,rfl⟩;subst a0;rw [z13] at hm;unfold z4W at hm;refine sq<|rg<|rr 1 ?_;refine rn<|rt ?_;cases hm;exact⟨_,.cons (.tmp rfl) .nil,rfl,X⟩
  · refine bk<|wk [3,5,6] ?_;refine it (fun(q0:Int) F w9=>Ext s0 w9∧St w w9 [ow ty69 e0 p0 k0,Box i0 [.int .i64 x1.Kind,.int .i64 x1.Index] 40]∧F=[(3,.pointer (some ⟨i0,0,none⟩)),(5,sl e0 p0 k0),(6,.int .i64 q0)]) Z ⟨(Ext.refl _),O,rfl⟩ ?_;rintro q0 F Q0 _ L0 ⟨y,q,rfl⟩ j H;unfold z3a at j;refine sq<|sq<|rg<|rr 4 ?_;refine rn<|ci j (fun j=>?_) (fun j=>?_)
    · refine sp<|sq<|bk<|sq<|dn 0 mixed 6 [([],63),([],63),([0,1],60),([2],59),([],63),([3,4],39)] q.ext (fun o=>?_);have G:=q.step (Ext.draw _);refine dr 4 o [0,1] ?_;obtain⟨R0,d0,j⟩:=bS j;refine dx (Ext.refl _) o 2 ((q.bring 0 rfl).own) d0 (fun M0 y0 Y b0=>?_);have v0:=z3n b0;subst v0;refine dL o 3 Y ?_;refine dL o 4 ((q.bring 1 rfl).box) ?_;refine dr 0 o [5] ?_;refine dw [3,5,6,20] ?_;refine dd o ?_;refine ci j (fun j=>?_) (fun j=>?_)
      · refine sq<|rg<|rr 1 ?_;refine rn<|rt ?_;cases j;cases H;have hm:some _=some _:=hm;cases hm;exact⟨_,.cons (.tmp rfl) .nil,rfl,(G.taken 0)⟩
      · refine sp<|rg<|rr 3 ?_;refine rn ?_;cases j;exact⟨_,_,rfl,⟨(y.trans (Ext.draw _)),G,rfl⟩,rfl⟩
    · refine xt ?_;cases j;exact⟨_,_,⟨H,y,(q.taken 0),rfl⟩,rfl⟩

theorem z74:Enters Try.prog 25:=⟨_,_,Try.func25,rfl,by kernel_rfl⟩
def z2Y (fuel:Nat) (x0:D.Channel):Option (D.Channel):=(if decide ((([]:(List ByteArray)).length:Int)+(x0.Messages.length:Int)≤4294967296)=true then(if decide ((([]:(List ByteArray)).length:Int)+(x0.Delivered.length:Int)≤4294967296)=true then(if decide ((([]:(List D.Packet)).length:Int)+(x0.Early.length:Int)≤4294967296)=true then(if decide ((([]:(List D.Packet)).length:Int)+(x0.Flight.length:Int)≤4294967296)=true then some (⟨x0.Window,(([]:(List ByteArray))++x0.Messages),x0.Base,x0.Next,x0.Expected,(([]:(List D.Packet))++x0.Early),(([]:(List ByteArray))++x0.Delivered),(([]:(List D.Packet))++x0.Flight)⟩:D.Channel) else none) else none) else none) else none)

theorem z4x {W w:World}(hE:Ext W w){C0:Addr}{B0:List Value}{x0:D.Channel}(J0:ty29.ro W B0 x0) (j:At W C0 B0){fuel:Nat}{r:D.Channel}(hm:z2Y fuel x0=some r):
    Calls Try.prog 25 ⟨[.pointer (some C0)]⟩ w (Ret fun v w8=>∃ A0 k0 A1 k1 A2 k2 A3 k3,v=.agg ⟨[.int .i64 r.Window,sl A0 r.Messages k0,.int .i64 r.Base,.int .i64 r.Next,.int .i64 r.Expected,sl A1 r.Early k1,sl A2 r.Delivered k2,sl A3 r.Flight k3]⟩∧St w w8 [ow ty22 A0 r.Messages k0,ow ty27 A1 r.Early k1,ow ty22 A2 r.Delivered k2,ow ty27 A3 r.Flight k3]):=by
  obtain⟨A1,k2,A4,k5,A7,f1,Q0,g1,H0,h3,h6,K0,L0⟩:=z11 J0;subst H0;refine into Try.func25 36 _ ?_;unfold z2Y at hm;have hS:=St.start w;refine sq<|rg<|nw hS (fun d1 p1 V0 o=>?_);refine rn<|sq<|rg<|rr 2 ?_;refine lN (At.ext (hE.trans o.ext) j) ?_;refine nw o (fun e1 s1 W0 Z=>?_);have a0:=Z.bring 0 rfl;refine so (A:=[]) a0 0 (fun t1 b0=>?_);refine rn<|sq<|rg<|n0 (U:=tStr) b0 (fun R0 i1 u1 X0 q=>?_);refine rr 3 ?_;refine l1 (At.ext (hE.trans q.ext) j) 1 ?_;have y:=q.bring 0 rfl;obtain⟨t0,hm⟩:=iS hm;refine ap Flat.str y (ty22.ext (hE.trans y.ext) h3) t0 (fun D0 M0 v1 c0=>?_);refine rr 1 ?_;have d0:=c0.bring 1 rfl;refine so (A:=[]) d0 1 (fun y1 e0=>?_);refine rn<|sq<|rg<|n0 (U:=tStr) e0 (fun S0 j1 B1 Y0 z=>?_);refine rr 3 ?_;refine l1 (At.ext (hE.trans z.ext) j) 6 ?_;have G:=z.bring 0 rfl;obtain⟨u0,hm⟩:=iS hm;refine ap Flat.str G (ty22.ext (hE.trans G.ext) K0) u0 (fun E0 N0 C1 f0=>?_);refine rr 1 ?_;have g0:=f0.bring 1 rfl;refine so (A:=[]) g0 6 (fun D1 i0=>?_);refine rn<|sq<|rg<|n0 (U:=ty77) i0 (fun T0 m1 E1 a1 H=>?_);refine rr 3 ?_;refine l1 (At.ext (hE.trans H.ext) j) 5 ?_;have J:=H.bring 0 rfl;obtain⟨v0,hm⟩:=iS hm;refine ap (Flat.map (Flat.pair Flat.bool (Flat.pair Flat.int (Flat.pair Flat.str Flat.unit)))) J (ty27.ext (hE.trans J.ext) h6) v0 (fun F0 O0 F1 j0=>?_);refine rr 1 ?_;have o0:=j0.bring 1 rfl;refine so (A:=[]) o0 5 (fun G1 p0=>?_);refine rn<|sq<|rg<|n0 (U:=ty77) p0 (fun U0 n1 H1 b1 L=>?_);refine rr 3 ?_;refine l1 (At.ext (hE.trans L.ext) j) 7 ?_;have O:=L.bring 0 rfl;obtain⟨y0,hm⟩:=iS hm;refine ap (Flat.map (Flat.pair Flat.bool (Flat.pair Flat.int (Flat.pair Flat.str Flat.unit)))) O (ty27.ext (hE.trans O.ext) L0) y0 (fun G0 P0 J1 q0=>?_);refine rr 1 ?_;have r0:=q0.bring 1 rfl;refine so (A:=[]) r0 7 (fun K1 X=>?_);refine rn<|sq<|rg<|lN ((X.bring 0 rfl).box) ?_;have s0:=X.bring 5 rfl;refine so (A:=[]) s0 0 (fun L1 Y=>?_);refine rn<|rt ?_;cases hm;exact⟨_,.cons (ra ((Y.bring 0 rfl).box)) .nil,D0,M0,F0,O0,E0,N0,G0,P0,rfl,(Y.sel [5,3,4,2])⟩

theorem z63:Enters Try.prog 13:=⟨_,_,Try.func13,rfl,by kernel_rfl⟩
def z3B (fuel:Nat) (x0:D.Channel) (x1:D.ChannelEvent):Option (D.Channel × Int):=((z1c fuel x0).bind fun q=>(if(!q)=true then some ((⟨0,[],0,0,0,[],[],[]⟩:D.Channel),1) else((z3P fuel x0 x1).bind fun y=>(if(!y)=true then some ((⟨0,[],0,0,0,[],[],[]⟩:D.Channel),2) else((z2Y fuel x0).bind fun j=>((z2G fuel (⟨j.Window,j.Messages,j.Base,j.Next,j.Expected,j.Early,j.Delivered,j.Flight⟩:D.Channel) x1).bind fun o=>some ((⟨o.Window,o.Messages,o.Base,o.Next,o.Expected,o.Early,o.Delivered,o.Flight⟩:D.Channel),0)))))))

theorem z3L {W w:World}(hE:Ext W w){J0:List Value}{x0:D.Channel}{K0:List Value}{x1:D.ChannelEvent}(O:ty29.ro W J0 x0) (X:ty40.ro W K0 x1){fuel:Nat}{r:D.Channel × Int}(hm:z3B fuel x0 x1=some r):
    Calls Try.prog 13 ⟨[.agg ⟨J0⟩,.agg ⟨K0⟩]⟩ w (Ret fun v w8=>∃ A0 k0 A1 k1 A2 k2 A3 k3,v=.tuple ⟨[.agg ⟨[.int .i64 r.1.Window,sl A0 r.1.Messages k0,.int .i64 r.1.Base,.int .i64 r.1.Next,.int .i64 r.1.Expected,sl A1 r.1.Early k1,sl A2 r.1.Delivered k2,sl A3 r.1.Flight k3]⟩,.int .i64 r.2]⟩∧St w w8 [ow ty22 A0 r.1.Messages k0,ow ty27 A1 r.1.Early k1,ow ty22 A2 r.1.Delivered k2,ow ty27 A3 r.1.Flight k3]):=by
  obtain⟨A1,k2,A4,k5,A7,s1,V0,t1,P0,h3,h6,n1,p1⟩:=z11 O;subst P0;have Q0:=z3n X;subst Q0;refine into Try.func13 18 _ ?_;unfold z3B at hm;have hS:=St.start w;refine sq<|rg<|nw hS (fun g1 K1 b1 f0=>?_);refine nw f0 (fun i1 L1 d1 g0=>?_);refine nw g0 (fun j1 M1 e1 y=>?_);refine rr 1 ?_;refine rn<|sq<|sq<|rg ?_;obtain⟨C1,E0,hm⟩:=bS hm;refine ca z75 (z4J (Ext.refl _) (ty29.ext (hE.trans y.ext) O) ((y.bring 2 rfl).box) E0) (fun F1 N1 Y=>?_);obtain⟨rfl,Z⟩:=Y;have j:=y.join Z;refine rr 1 ?_;refine rn<|ci hm (fun hm=>?_) (fun hm=>?_)
  · refine sq<|rg<|qt (qb) ?_;have i0:=j.bring 0 rfl;refine so (A:=[]) i0 0 (fun O1 z=>?_);refine rr 1 ?_;refine rn<|rt ?_;cases hm;have j0:=z.nilSl tStr 9;have o0:=j0.nilSl ty77 77;have p0:=o0.nilSl tStr 9;have q0:=p0.nilSl ty77 77;exact⟨_,.cons (ra ((z.bring 0 rfl).box)) (.cons (.tmp rfl) .nil),none,0,none,0,none,0,none,0,rfl,(q0.sel [3,2,1,0])⟩
  · refine sp<|sq<|sq<|rg<|lN ((j.bring 1 rfl).box) ?_;obtain⟨D1,F0,hm⟩:=bS hm;refine ca z9w (z6y (Ext.refl _) (ty29.ext (hE.trans j.ext) O) ((j.bring 2 rfl).box) (ty40.ext (hE.trans j.ext) X) F0) (fun G1 P1 a0=>?_);obtain⟨rfl,b0⟩:=a0;have o:=j.join b0;refine rr 1 ?_;refine rn<|ci hm (fun hm=>?_) (fun hm=>?_)
    · refine sq<|rg<|qt (qb) ?_;have r0:=o.bring 0 rfl;refine so (A:=[]) r0 0 (fun Q1 G=>?_);refine rr 1 ?_;refine rn<|rt ?_;cases hm;have s0:=G.nilSl tStr 9;have t0:=s0.nilSl ty77 77;have u0:=t0.nilSl tStr 9;have v0:=u0.nilSl ty77 77;exact⟨_,.cons (ra ((G.bring 0 rfl).box)) (.cons (.tmp rfl) .nil),none,0,none,0,none,0,none,0,rfl,(v0.sel [3,2,1,0])⟩
    · refine sp<|sq<|rg ?_;obtain⟨q,G0,hm⟩:=bS hm;refine ca z74 (z4x (Ext.refl _) (ty29.ext (hE.trans o.ext) O) ((o.bring 2 rfl).box) G0) (fun H1 R1 c0=>?_);obtain⟨W0,u1,X0,v1,Y0,y1,a1,B1,rfl,d0⟩:=c0;have y0:=o.join d0;refine nw y0 (fun m1 S1 f1 B0=>?_);have C0:=B0.bring 0 rfl;refine so (A:=[]) C0 0 (fun T1 H=>?_);refine rn<|sq<|rg<|lN ((H.bring 6 rfl).box) ?_;obtain⟨E1,H0,hm⟩:=bS hm;refine ca z73 (z4K (W:=w) (RR:=_) (x0:=(⟨q.Window,q.Messages,q.Base,q.Next,q.Expected,q.Early,q.Delivered,q.Flight⟩:D.Channel)) (x1:=x1) H (ty40.ext hE X) H0) (fun J1 U1 e0=>?_);obtain⟨L0,R0,M0,S0,N0,T0,O0,U0,rfl,J⟩:=e0;refine rn<|sq<|rg<|lN ((J.bring 0 rfl).box) ?_;have D0:=J.bring 5 rfl;refine so (A:=[]) D0 0 (fun V1 L=>?_);refine rr 1 ?_;refine rn<|rt ?_;cases hm;exact⟨_,.cons (ra ((L.bring 0 rfl).box)) (.cons (.tmp rfl) .nil),L0,R0,M0,S0,N0,T0,O0,U0,rfl,(L.sel [2,3,4,5])⟩

theorem z9u:Enters Try.prog 46:=⟨_,_,Try.func46,rfl,by kernel_rfl⟩
def z40 (fuel:Nat) (t2:Unit):Option Bool:=some true
def zA (fuel:Nat) (x0:(List Int)) (s1:Int):Option (Rd (Int) (Unit) (Bool)):=(if(decide (s1<(x0.length:Int)))=true then((idx x0 s1).bind fun o=>((zZ fuel o 0 600).bind fun j=>(if(!j)=true then some (.ret false) else some (.next (w64 (s1+1)))))) else some (.brk ()))
def z1B (fuel:Nat) (x0:(List Int)):Option (Bool):=(if(decide ((x0.length:Int)>200))=true then some false else((iter (zA fuel x0) fuel 0).bind fun o=>aft o (z40 fuel)))

theorem z5u {W w:World}(hE:Ext W w){G:Option Addr}{b0:Nat}{x0:(List Int)}(e0:ty43.ro W [sl G x0 b0] x0){fuel:Nat}{r:Bool}(hm:z1B fuel x0=some r):
    Calls Try.prog 46 ⟨[sl G x0 b0]⟩ w (Ret fun v w8=>v=.bool r∧St w w8 []):=by
  refine into Try.func46 19 _ ?_;unfold z1B at hm;have hS:=St.start w;refine sq<|rg<|rr 1 ?_;refine rn<|sq<|sq<|rg<|rr 3 ?_;refine rn<|ci hm (fun hm=>?_) (fun hm=>?_)
  · refine sq<|rg<|rr 1 ?_;refine rn<|rt ?_;cases hm;exact⟨_,.cons (.tmp rfl) .nil,rfl,hS⟩
  · refine sp<|sq<|sq<|rg<|rr 1 ?_;refine rn ?_;obtain⟨f0,O,hm⟩:=bS hm;refine ct (fun(t2:Unit) F w9=>f0=.inl t2∧Ext w w9∧St w w9 []∧F=[]) ?_ ?_
    · rintro t2 F w7 ⟨X,g0,J,rfl⟩;subst X;rw [z13] at hm;unfold z40 at hm;refine sq<|rg<|rr 1 ?_;refine rn<|rt ?_;cases hm;exact⟨_,.cons (.tmp rfl) .nil,rfl,J⟩
    · refine bk<|wk [0,3] ?_;refine it (fun(s1:Int) F w9=>Ext w w9∧St w w9 []∧F=[(0,sl G x0 b0),(3,.int .i64 s1)]) O ⟨(Ext.refl _),hS,rfl⟩ ?_;rintro s1 F p0 _ i0 ⟨c0,o,rfl⟩ j z;unfold zA at j;refine sq<|sq<|rg<|rr 4 ?_;refine rn<|ci j (fun j=>?_) (fun j=>?_)
      · refine sp<|sq<|bk<|sq<|rg<|rr 2 ?_;obtain⟨r0,Z,j⟩:=bS j;refine ix (hE.trans o.ext) e0 Z (fun j0 d0 L Y=>?_);cases Y;refine l1 (At.ext (hE.trans o.ext) L) 0 ?_;obtain⟨k0,a0,j⟩:=bS j;refine ca z4b (z2n (hE.trans o.ext)  a0) (fun o0 q0 H=>?_);obtain⟨rfl,q⟩:=H;have y:=o.join q;refine rr 1 ?_;refine rn<|ci j (fun j=>?_) (fun j=>?_)
        · refine sq<|rg<|rr 1 ?_;refine rn<|rt ?_;cases j;cases z;have hm:some _=some _:=hm;cases hm;exact⟨_,.cons (.tmp rfl) .nil,rfl,y⟩
        · refine sp<|rg<|rr 3 ?_;refine rn ?_;cases j;exact⟨_,_,rfl,⟨(c0.trans q.ext),y,rfl⟩,rfl⟩
      · refine xt ?_;cases j;exact⟨_,_,⟨z,c0,o,rfl⟩,rfl⟩

theorem z9C:Enters Try.prog 16:=⟨_,_,Try.func16,rfl,by kernel_rfl⟩
def z3w (fuel:Nat) (j:Int × Int × Int × Int × (List ByteArray) × (List D.Packet) × (List ByteArray) × (List D.Packet)):Option (D.Channel × Int):=some ((⟨j.1,j.2.2.2.2.1,j.2.1,j.2.2.1,j.2.2.2.1,j.2.2.2.2.2.1,j.2.2.2.2.2.2.1,j.2.2.2.2.2.2.2⟩:D.Channel),0)
def z1G (fuel:Nat) (o:Int × Int × Int × Int × Int × (List ByteArray) × (List D.Packet) × (List ByteArray) × (List D.Packet)) (q:(List D.ChannelEvent)) (y:Int):Option (Rd (Int × Int × Int × Int × Int × (List ByteArray) × (List D.Packet) × (List ByteArray) × (List D.Packet)) (Int × Int × Int × Int × (List ByteArray) × (List D.Packet) × (List ByteArray) × (List D.Packet)) (D.Channel × Int)):=((idx q y).bind fun z=>((z2G fuel (⟨o.2.1,o.2.2.2.2.2.1,o.2.2.1,o.2.2.2.1,o.2.2.2.2.1,o.2.2.2.2.2.2.1,o.2.2.2.2.2.2.2.1,o.2.2.2.2.2.2.2.2⟩:D.Channel) z).bind fun j=>some (.next (w64 (o.1+1),j.Window,j.Base,j.Next,j.Expected,j.Messages,j.Early,j.Delivered,j.Flight))))
def zf (fuel:Nat) (x1:(List Int)) (x2:Int) (j:Int × Int × Int × Int × Int × (List ByteArray) × (List D.Packet) × (List ByteArray) × (List D.Packet)):Option (Rd (Int × Int × Int × Int × Int × (List ByteArray) × (List D.Packet) × (List ByteArray) × (List D.Packet)) (Int × Int × Int × Int × (List ByteArray) × (List D.Packet) × (List ByteArray) × (List D.Packet)) (D.Channel × Int)):=(if(decide (j.1<x2))=true then((z1J fuel (⟨j.2.1,j.2.2.2.2.2.1,j.2.2.1,j.2.2.2.1,j.2.2.2.2.1,j.2.2.2.2.2.2.1,j.2.2.2.2.2.2.2.1,j.2.2.2.2.2.2.2.2⟩:D.Channel)).bind fun o=>(if((o.length:Int) == 0)=true then some (.ret ((⟨j.2.1,j.2.2.2.2.2.1,j.2.2.1,j.2.2.2.1,j.2.2.2.2.1,j.2.2.2.2.2.2.1,j.2.2.2.2.2.2.2.1,j.2.2.2.2.2.2.2.2⟩:D.Channel),0)) else(if(decide ((x1.length:Int)>0))=true then(if decide ((x1.length:Int)≠0)=true then((idx x1 (j.1.tmod (x1.length:Int))).bind fun q=>(if decide ((o.length:Int)≠0)=true then z1G fuel j o (q.tmod (o.length:Int)) else none)) else none) else z1G fuel j o 0))) else some (.brk (j.2.1,j.2.2.1,j.2.2.2.1,j.2.2.2.2.1,j.2.2.2.2.2.1,j.2.2.2.2.2.2.1,j.2.2.2.2.2.2.2.1,j.2.2.2.2.2.2.2.2)))
def z1i (fuel:Nat) (x0:D.Channel) (x1:(List Int)) (x2:Int) (q:Bool):Option (D.Channel × Int):=(if q=true then some ((⟨0,[],0,0,0,[],[],[]⟩:D.Channel),2) else((z2Y fuel x0).bind fun j=>((iter (zf fuel x1 x2) fuel (0,j.Window,j.Base,j.Next,j.Expected,j.Messages,j.Early,j.Delivered,j.Flight)).bind fun o=>aft o (z3w fuel))))
def z2S (fuel:Nat) (x0:D.Channel) (x1:(List Int)) (x2:Int):Option (D.Channel × Int):=((z1c fuel x0).bind fun q=>(if(!q)=true then some ((⟨0,[],0,0,0,[],[],[]⟩:D.Channel),1) else((z1B fuel x1).bind fun j=>(if(!j)=true then z1i fuel x0 x1 x2 true else((zZ fuel x2 0 2000).bind fun o=>z1i fuel x0 x1 x2 (!o))))))

theorem z5A {W w:World}(hE:Ext W w){o2:List Value}{x0:D.Channel}{v0:Option Addr}{d1:Nat}{x1:(List Int)}{x2:Int}(C1:ty29.ro W o2 x0) (s2:ty43.ro W [sl v0 x1 d1] x1){fuel:Nat}{r:D.Channel × Int}(hm:z2S fuel x0 x1 x2=some r):
    Calls Try.prog 16 ⟨[.agg ⟨o2⟩,sl v0 x1 d1,.int .i64 x2]⟩ w (Ret fun v w8=>∃ A0 k0 A1 k1 A2 k2 A3 k3,v=.tuple ⟨[.agg ⟨[.int .i64 r.1.Window,sl A0 r.1.Messages k0,.int .i64 r.1.Base,.int .i64 r.1.Next,.int .i64 r.1.Expected,sl A1 r.1.Early k1,sl A2 r.1.Delivered k2,sl A3 r.1.Flight k3]⟩,.int .i64 r.2]⟩∧St w w8 [ow ty22 A0 r.1.Messages k0,ow ty27 A1 r.1.Early k1,ow ty22 A2 r.1.Delivered k2,ow ty27 A3 r.1.Flight k3]):=by
  obtain⟨A1,k2,A4,k5,A7,F2,u2,G2,D2,h3,h6,i3,j3⟩:=z11 C1;subst D2;refine into Try.func16 54 _ ?_;unfold z2S at hm;have hS:=St.start w;refine sq<|rg<|nw hS (fun r2 q3 e3 H1=>?_);refine nw H1 (fun O r3 f3 i0=>?_);refine rr 1 ?_;refine rn<|sq<|sq<|rg ?_;obtain⟨m3,X1,hm⟩:=bS hm;refine ca z75 (z4J (Ext.refl _) (ty29.ext (hE.trans i0.ext) C1) ((i0.bring 1 rfl).box) X1) (fun o3 d3 D1=>?_);obtain⟨rfl,E1⟩:=D1;have j0:=i0.join E1;refine rr 1 ?_;refine rn<|ci hm (fun hm=>?_) (fun hm=>?_)
  · refine sq<|rg<|qt (qb) ?_;have J1:=j0.bring 0 rfl;refine so (A:=[]) J1 0 (fun s3 K0=>?_);refine rr 1 ?_;refine rn<|rt ?_;cases hm;have K1:=K0.nilSl tStr 9;have L1:=K1.nilSl ty77 77;have M1:=L1.nilSl tStr 9;have N1:=M1.nilSl ty77 77;exact⟨_,.cons (ra ((K0.bring 0 rfl).box)) (.cons (.tmp rfl) .nil),none,0,none,0,none,0,none,0,rfl,(N1.sel [3,2,1,0])⟩
  · refine sp<|sq<|sq<|ct (fun(j2:Bool) F w9=>z1i fuel x0 x1 x2 j2=some r∧Ext d3 w9∧St w w9 [Box O [.int .i64 0,.slice none 0 0,.int .i64 0,.int .i64 0,.int .i64 0,.slice none 0 0,.slice none 0 0,.slice none 0 0] 29,Box r2 [.int .i64 x0.Window,sl A1 x0.Messages k2,.int .i64 x0.Base,.int .i64 x0.Next,.int .i64 x0.Expected,sl A4 x0.Early k5,sl A7 x0.Delivered F2,sl u2 x0.Flight G2] 29]∧F=[(1,sl v0 x1 d1),(2,.int .i64 x2),(3,.pointer (some ⟨r2,0,none⟩)),(6,.pointer (some ⟨O,0,none⟩)),(22,.bool j2)]) ?_ ?_
    · rintro j2 F t3 ⟨hm,E2,J,rfl⟩;unfold z1i at hm;refine ci hm (fun hm=>?_) (fun hm=>?_)
      · refine sq<|rg<|qt (qb) ?_;have O1:=J.bring 0 rfl;refine so (A:=[]) O1 0 (fun u3 L0=>?_);refine rr 1 ?_;refine rn<|rt ?_;cases hm;have P1:=L0.nilSl tStr 9;have Q1:=P1.nilSl ty77 77;have R1:=Q1.nilSl tStr 9;have S1:=R1.nilSl ty77 77;exact⟨_,.cons (ra ((L0.bring 0 rfl).box)) (.cons (.tmp rfl) .nil),none,0,none,0,none,0,none,0,rfl,(S1.sel [3,2,1,0])⟩
      · refine sp<|sq<|rg ?_;obtain⟨n3,Y1,hm⟩:=bS hm;refine ca z74 (z4x (Ext.refl _) (ty29.ext (hE.trans J.ext) C1) ((J.bring 1 rfl).box) Y1) (fun p3 v3 F1=>?_);obtain⟨v2,H2,y2,J2,B2,K2,C2,L2,rfl,G1⟩:=F1;have T1:=J.join G1;refine nw T1 (fun t0 x3 g3 U1=>?_);have V1:=U1.bring 0 rfl;refine so (A:=[]) V1 0 (fun y3 W1=>?_);refine rn<|sq<|sq<|rg<|rr 1 ?_;refine rn ?_;obtain⟨f2,Q0,hm⟩:=bS hm;refine ct (fun(z:Int × Int × Int × Int × (List ByteArray) × (List D.Packet) × (List ByteArray) × (List D.Packet)) F w9=>∃ f1 m1 g1 n1 i1 p1 j1 s1,f2=.inl z∧St w w9 [Box t0 [.int .i64 z.1,sl f1 z.2.2.2.2.1 m1,.int .i64 z.2.1,.int .i64 z.2.2.1,.int .i64 z.2.2.2.1,sl g1 z.2.2.2.2.2.1 n1,sl i1 z.2.2.2.2.2.2.1 p1,sl j1 z.2.2.2.2.2.2.2 s1] 29,ow ty22 f1 z.2.2.2.2.1 m1,ow ty27 g1 z.2.2.2.2.2.1 n1,ow ty22 i1 z.2.2.2.2.2.2.1 p1,ow ty27 j1 z.2.2.2.2.2.2.2 s1,Box O [.int .i64 0,.slice none 0 0,.int .i64 0,.int .i64 0,.int .i64 0,.slice none 0 0,.slice none 0 0,.slice none 0 0] 29]∧F=[(6,.pointer (some ⟨O,0,none⟩)),(8,.pointer (some ⟨t0,0,none⟩))]) ?_ ?_
        · rintro z F U2 ⟨f1,m1,g1,n1,i1,p1,j1,s1,R0,Y,rfl⟩;subst R0;rw [z13] at hm;unfold z3w at hm;refine sq<|rg<|lN ((Y.bring 0 rfl).box) ?_;have F0:=Y.bring 5 rfl;refine so (A:=[]) F0 0 (fun V2 Z=>?_);refine rr 1 ?_;refine rn<|rt ?_;cases hm;exact⟨_,.cons (ra ((Z.bring 0 rfl).box)) (.cons (.tmp rfl) .nil),f1,m1,g1,n1,i1,p1,j1,s1,rfl,(Z.sel [2,3,4,5])⟩
        · refine bk<|wk [1,2,6,8,9] ?_;refine it (fun(o:Int × Int × Int × Int × Int × (List ByteArray) × (List D.Packet) × (List ByteArray) × (List D.Packet)) F w9=>∃ d0 o0 e0 p0 f0 q0 g0 r0,St w w9 [Box t0 [.int .i64 o.2.1,sl d0 o.2.2.2.2.2.1 o0,.int .i64 o.2.2.1,.int .i64 o.2.2.2.1,.int .i64 o.2.2.2.2.1,sl e0 o.2.2.2.2.2.2.1 p0,sl f0 o.2.2.2.2.2.2.2.1 q0,sl g0 o.2.2.2.2.2.2.2.2 r0] 29,ow ty22 d0 o.2.2.2.2.2.1 o0,ow ty27 e0 o.2.2.2.2.2.2.1 p0,ow ty22 f0 o.2.2.2.2.2.2.2.1 q0,ow ty27 g0 o.2.2.2.2.2.2.2.2 r0,Box O [.int .i64 0,.slice none 0 0,.int .i64 0,.int .i64 0,.int .i64 0,.slice none 0 0,.slice none 0 0,.slice none 0 0] 29]∧F=[(1,sl v0 x1 d1),(2,.int .i64 x2),(6,.pointer (some ⟨O,0,none⟩)),(8,.pointer (some ⟨t0,0,none⟩)),(9,.int .i64 o.1)]) Q0 ⟨v2,H2,y2,J2,B2,K2,C2,L2,(W1.taken 6),rfl⟩ ?_;rintro o F W2 _ g2 ⟨d0,o0,e0,p0,f0,q0,g0,r0,q,rfl⟩ j c0;unfold zf at j;refine sq<|sq<|rg<|rr 3 ?_;refine rn<|ci j (fun j=>?_) (fun j=>?_)
          · refine sp<|sq<|bk<|sq<|rg ?_;obtain⟨L,U0,j⟩:=bS j;refine ca z7Y (z4B (Ext.refl _) (z5 (⟨o.2.1,o.2.2.2.2.2.1,o.2.2.1,o.2.2.2.1,o.2.2.2.2.1,o.2.2.2.2.2.2.1,o.2.2.2.2.2.2.2.1,o.2.2.2.2.2.2.2.2⟩:D.Channel) ((q.bring 1 rfl).own) ((q.bring 2 rfl).own) ((q.bring 3 rfl).own) ((q.bring 4 rfl).own)) ((q.bring 0 rfl).box) U0) (fun Q2 m2 y0=>?_);obtain⟨u0,b1,rfl,B0⟩:=y0;have y:=q.join B0;refine rr 1 ?_;refine rn<|sq<|sq<|rg<|rr 3 ?_;refine rn<|ci j (fun j=>?_) (fun j=>?_)
            · refine sq<|rg<|lN ((y.bring 1 rfl).box) ?_;have G0:=y.bring 6 rfl;refine so (A:=[]) G0 0 (fun X2 a0=>?_);refine rr 1 ?_;refine rn<|rt ?_;cases j;cases c0;have hm:some _=some _:=hm;cases hm;exact⟨_,.cons (ra ((a0.bring 0 rfl).box)) (.cons (.tmp rfl) .nil),d0,o0,e0,p0,f0,q0,g0,r0,rfl,(a0.sel [3,4,5,6])⟩
            · refine sp<|sq<|rg<|rr 1 ?_;refine rn<|sq<|sq<|rg<|rr 3 ?_;refine rn<|ct (fun(s0:Int) F w9=>z1G fuel o L s0=some g2∧Ext m2 w9∧St w w9 [ow ty69 u0 L b1,Box t0 [.int .i64 o.2.1,sl d0 o.2.2.2.2.2.1 o0,.int .i64 o.2.2.1,.int .i64 o.2.2.2.1,.int .i64 o.2.2.2.2.1,sl e0 o.2.2.2.2.2.2.1 p0,sl f0 o.2.2.2.2.2.2.2.1 q0,sl g0 o.2.2.2.2.2.2.2.2 r0] 29,ow ty22 d0 o.2.2.2.2.2.1 o0,ow ty27 e0 o.2.2.2.2.2.2.1 p0,ow ty22 f0 o.2.2.2.2.2.2.2.1 q0,ow ty27 g0 o.2.2.2.2.2.2.2.2 r0,Box O [.int .i64 0,.slice none 0 0,.int .i64 0,.int .i64 0,.int .i64 0,.slice none 0 0,.slice none 0 0,.slice none 0 0] 29]∧F=[(1,sl v0 x1 d1),(2,.int .i64 x2),(6,.pointer (some ⟨O,0,none⟩)),(8,.pointer (some ⟨t0,0,none⟩)),(9,.int .i64 o.1),(10,sl u0 L b1),(11,.int .i64 s0)]) ?_ ?_
              · rintro s0 F Y2 ⟨j,t2,b0,rfl⟩;unfold z1G at j;refine rg<|rr 2 ?_;obtain⟨e1,V0,j⟩:=bS j;refine ix (Ext.refl _) ((b0.bring 0 rfl).own) V0 (fun M2 p2 M0 S0=>?_);have B1:=z3n S0;subst B1;refine lN M0 ?_;obtain⟨O2,W0,j⟩:=bS j;refine ca z73 (z4K (W:=w) (RR:=_) (x0:=(⟨o.2.1,o.2.2.2.2.2.1,o.2.2.1,o.2.2.2.1,o.2.2.2.2.1,o.2.2.2.2.2.2.1,o.2.2.2.2.2.2.2.1,o.2.2.2.2.2.2.2.2⟩:D.Channel)) (x1:=e1) (((((b0.bring 5 rfl).bring 5 rfl).bring 5 rfl).bring 5 rfl).bring 5 rfl) (ty40.ext hE (z1W e1)) W0) (fun R2 a3 C0=>?_);obtain⟨t1,a2,u1,b2,v1,d2,y1,e2,rfl,H0⟩:=C0;refine rn<|rg<|rr 3 ?_;refine rn ?_;cases j;exact⟨_,_,rfl,⟨t1,a2,u1,b2,v1,d2,y1,e2,(H0.sel [0,1,2,3,4,6]),rfl⟩,rfl⟩
              · refine ci j (fun j=>?_) (fun j=>?_)
                · refine rg<|rr 4 ?_;obtain⟨O0,j⟩:=iS j;refine qt (qRem (of_decide_eq_true O0)) ?_;obtain⟨n2,X0,j⟩:=bS j;refine ix (hE.trans y.ext) s2 X0 (fun N2 q2 N0 T0=>?_);cases T0;refine l1 (At.ext (hE.trans y.ext) N0) 0 ?_;refine rr 2 ?_;obtain⟨P0,j⟩:=iS j;refine qt (qRem (of_decide_eq_true P0)) ?_;refine rr 1 ?_;refine rn ?_;exact⟨n2.tmod (L.length:Int),_,⟨j,(Ext.refl _),y,rfl⟩,rfl⟩
                · refine sp ?_;exact⟨0,_,⟨j,(Ext.refl _),y,rfl⟩,rfl⟩
          · refine xt ?_;cases j;exact⟨_,_,⟨d0,o0,e0,p0,f0,q0,g0,r0,c0,q,rfl⟩,rfl⟩
    · refine rg<|rr 1 ?_;obtain⟨P2,Y0,hm⟩:=bS hm;refine ca z9u (z5u (hE.trans j0.ext) s2 Y0) (fun S2 b3 D0=>?_);obtain⟨rfl,G⟩:=D0;have H:=j0.join G;refine rr 2 ?_;refine rb 18 hm (fun hm=>?_) (fun hm=>?_)
      · refine rr 4 ?_;refine rn ?_;exact⟨true,_,⟨hm,G.ext,H,rfl⟩,rfl⟩
      · refine rr 1 ?_;obtain⟨i2,a1,hm⟩:=bS hm;refine ca z4b (z2n (hE.trans H.ext)  a1) (fun T2 c3 E0=>?_);obtain⟨rfl,X⟩:=E0;have J0:=H.join X;refine rr 2 ?_;refine rn ?_;exact⟨!i2,_,⟨hm,(G.ext.trans X.ext),J0,rfl⟩,rfl⟩

theorem z9z:Enters Try.prog 26:=⟨_,_,Try.func26,rfl,by kernel_rfl⟩
def z3X (fuel:Nat) (x0:D.Channel):Option (Bool):=some (x0.Base == (x0.Messages.length:Int))

theorem z6c {W w:World}(hE:Ext W w){z:Addr}{q:List Value}{x0:D.Channel}(H:ty29.ro W q x0) (y:At W z q){fuel:Nat}{r:Bool}(hm:z3X fuel x0=some r):
    Calls Try.prog 26 ⟨[.pointer (some z)]⟩ w (Ret fun v w8=>v=.bool r∧St w w8 []):=by
  obtain⟨A1,k2,A4,k5,A7,X,J,Y,G,h3,h6,L,O⟩:=z11 H;subst G;refine into Try.func26 13 _ ?_;unfold z3X at hm;have hS:=St.start w;refine sq<|rg<|rr 1 ?_;refine rn<|sq<|dn 0 mixed 11 [([],2047),([0],2046),([1],2045),([2],2043),([],2047),([4],2031),([5],2015),([6],1983),([7],1919),([3,8],1783),([9,0,1,2,3,4,5,6,7,8,9],1535)] hS.ext (fun j=>?_);have o:=hS.step (Ext.draw _);refine dr 5 j [0,1,2,4,5,6] ?_;refine dl j 3 (At.ext (hE.trans hS.ext) y) 2 ?_;refine dl j 7 (At.ext (hE.trans hS.ext) y) 1 ?_;refine dr 0 j [8,9,10] ?_;refine dw [2] ?_;refine dd j ?_;refine rt ?_;cases hm;exact⟨_,.cons (.tmp rfl) .nil,rfl,o⟩

theorem z9y:Enters Try.prog 28:=⟨_,_,Try.func28,rfl,by kernel_rfl⟩
def z3W (fuel:Nat) (x0:D.Channel):Option (D.ChannelEvent):=(if(decide ((x0.Flight.length:Int)>0))=true then some (⟨3,0⟩:D.ChannelEvent) else((z2p fuel x0).bind fun j=>(if j=true then some (⟨1,0⟩:D.ChannelEvent) else some (⟨2,0⟩:D.ChannelEvent))))

theorem z6b {W w:World}(hE:Ext W w){b0:Addr}{Y:List Value}{x0:D.Channel}(a0:ty29.ro W Y x0) (Z:At W b0 Y){fuel:Nat}{r:D.ChannelEvent}(hm:z3W fuel x0=some r):
    Calls Try.prog 28 ⟨[.pointer (some b0)]⟩ w (Ret fun v w8=>v=.agg ⟨[.int .i64 r.Kind,.int .i64 r.Index]⟩∧St w w8 []):=by
  obtain⟨A1,k2,A4,k5,A7,j0,d0,k0,c0,h3,h6,g0,i0⟩:=z11 a0;subst c0;refine into Try.func28 14 _ ?_;unfold z3W at hm;have hS:=St.start w;refine sq<|rg<|nw hS (fun f0 q0 e0 j=>?_);refine rn<|sq<|sq<|rg<|rr 3 ?_;refine l1 (At.ext (hE.trans j.ext) Z) 7 ?_;refine rr 2 ?_;refine rn<|ci hm (fun hm=>?_) (fun hm=>?_)
  · refine sq<|rg<|qt (qb) ?_;have J:=j.bring 0 rfl;refine so (A:=[]) J 0 (fun r0 o=>?_);refine rn<|rt ?_;cases hm;exact⟨_,.cons (ra ((o.bring 0 rfl).box)) .nil,rfl,(o.taken 0)⟩
  · refine sp<|sq<|sq<|rg<|rr 1 ?_;obtain⟨o0,X,hm⟩:=bS hm;refine ca z7V (z4n (hE.trans j.ext) a0 Z X) (fun p0 s0 G=>?_);obtain⟨rfl,H⟩:=G;have q:=j.join H;refine rn<|ci hm (fun hm=>?_) (fun hm=>?_)
    · refine sq<|rg<|qt (qb) ?_;have L:=q.bring 0 rfl;refine so (A:=[]) L 0 (fun t0 y=>?_);refine rn<|rt ?_;cases hm;exact⟨_,.cons (ra ((y.bring 0 rfl).box)) .nil,rfl,(y.taken 0)⟩
    · refine sp<|sq<|rg<|qt (qb) ?_;have O:=q.bring 0 rfl;refine so (A:=[]) O 0 (fun u0 z=>?_);refine rn<|rt ?_;cases hm;exact⟨_,.cons (ra ((z.bring 0 rfl).box)) .nil,rfl,(z.taken 0)⟩

theorem z9M:Enters Try.prog 7:=⟨_,_,Try.func7,rfl,by kernel_rfl⟩
def z3e (fuel:Nat) (j:Int × Int × Int × Int × Int × (List ByteArray) × (List D.Packet) × (List ByteArray) × (List D.Packet)):Option (D.Channel × Int × Int):=some ((⟨j.2.1,j.2.2.2.2.2.1,j.2.2.1,j.2.2.2.1,j.2.2.2.2.1,j.2.2.2.2.2.2.1,j.2.2.2.2.2.2.2.1,j.2.2.2.2.2.2.2.2⟩:D.Channel),j.1,0)
def zt (fuel:Nat) (x1:Int) (j:Int × Int × Int × Int × Int × (List ByteArray) × (List D.Packet) × (List ByteArray) × (List D.Packet)):Option (Rd (Int × Int × Int × Int × Int × (List ByteArray) × (List D.Packet) × (List ByteArray) × (List D.Packet)) (Int × Int × Int × Int × Int × (List ByteArray) × (List D.Packet) × (List ByteArray) × (List D.Packet)) (D.Channel × Int × Int)):=((z3X fuel (⟨j.2.1,j.2.2.2.2.2.1,j.2.2.1,j.2.2.2.1,j.2.2.2.2.1,j.2.2.2.2.2.2.1,j.2.2.2.2.2.2.2.1,j.2.2.2.2.2.2.2.2⟩:D.Channel)).bind fun q=>(if(!q)=true then(if(j.1 == x1)=true then some (.ret ((⟨0,[],0,0,0,[],[],[]⟩:D.Channel),0,12)) else((z3W fuel (⟨j.2.1,j.2.2.2.2.2.1,j.2.2.1,j.2.2.2.1,j.2.2.2.2.1,j.2.2.2.2.2.2.1,j.2.2.2.2.2.2.2.1,j.2.2.2.2.2.2.2.2⟩:D.Channel)).bind fun y=>((z2G fuel (⟨j.2.1,j.2.2.2.2.2.1,j.2.2.1,j.2.2.2.1,j.2.2.2.2.1,j.2.2.2.2.2.2.1,j.2.2.2.2.2.2.2.1,j.2.2.2.2.2.2.2.2⟩:D.Channel) y).bind fun o=>some (.next (w64 (j.1+1),o.Window,o.Base,o.Next,o.Expected,o.Messages,o.Early,o.Delivered,o.Flight))))) else some (.brk (j.1,j.2.1,j.2.2.1,j.2.2.2.1,j.2.2.2.2.1,j.2.2.2.2.2.1,j.2.2.2.2.2.2.1,j.2.2.2.2.2.2.2.1,j.2.2.2.2.2.2.2.2))))
def z2v (fuel:Nat) (x0:D.Channel) (x1:Int):Option (D.Channel × Int × Int):=((z1c fuel x0).bind fun q=>(if(!q)=true then some ((⟨0,[],0,0,0,[],[],[]⟩:D.Channel),0,1) else((zZ fuel x1 0 2000).bind fun y=>(if(!y)=true then some ((⟨0,[],0,0,0,[],[],[]⟩:D.Channel),0,2) else((z2Y fuel x0).bind fun j=>((iter (zt fuel x1) fuel (0,j.Window,j.Base,j.Next,j.Expected,j.Messages,j.Early,j.Delivered,j.Flight)).bind fun o=>aft o (z3e fuel)))))))

theorem z5i {W w:World}(hE:Ext W w){R1:List Value}{x0:D.Channel}{x1:Int}(b1:ty29.ro W R1 x0){fuel:Nat}{r:D.Channel × Int × Int}(hm:z2v fuel x0 x1=some r):
    Calls Try.prog 7 ⟨[.agg ⟨R1⟩,.int .i64 x1]⟩ w (Ret fun v w8=>∃ A0 k0 A1 k1 A2 k2 A3 k3,v=.tuple ⟨[.agg ⟨[.int .i64 r.1.Window,sl A0 r.1.Messages k0,.int .i64 r.1.Base,.int .i64 r.1.Next,.int .i64 r.1.Expected,sl A1 r.1.Early k1,sl A2 r.1.Delivered k2,sl A3 r.1.Flight k3]⟩,.int .i64 r.2.1,.int .i64 r.2.2]⟩∧St w w8 [ow ty22 A0 r.1.Messages k0,ow ty27 A1 r.1.Early k1,ow ty22 A2 r.1.Delivered k2,ow ty27 A3 r.1.Flight k3]):=by
  obtain⟨A1,k2,A4,k5,A7,E2,t2,F2,W1,h3,h6,C2,D2⟩:=z11 b1;subst W1;refine into Try.func7 29 _ ?_;unfold z2v at hm;have hS:=St.start w;refine sq<|rg<|nw hS (fun B2 N2 u2 m1=>?_);refine nw m1 (fun N0 O2 v2 Z=>?_);refine rr 2 ?_;refine rn<|sq<|sq<|rg ?_;obtain⟨G2,J1,hm⟩:=bS hm;refine ca z75 (z4J (Ext.refl _) (ty29.ext (hE.trans Z.ext) b1) ((Z.bring 1 rfl).box) J1) (fun K2 P2 d1=>?_);obtain⟨rfl,e1⟩:=d1;have a0:=Z.join e1;refine rr 1 ?_;refine rn<|ci hm (fun hm=>?_) (fun hm=>?_)
  · refine sq<|rg<|qt (qb) ?_;have n1:=a0.bring 0 rfl;refine so (A:=[]) n1 0 (fun Q2 t0=>?_);refine rr 2 ?_;refine rn<|rt ?_;cases hm;have p1:=t0.nilSl tStr 9;have s1:=p1.nilSl ty77 77;have t1:=s1.nilSl tStr 9;have u1:=t1.nilSl ty77 77;exact⟨_,.cons (ra ((t0.bring 0 rfl).box)) (.cons (.tmp rfl) (.cons (.tmp rfl) .nil)),none,0,none,0,none,0,none,0,rfl,(u1.sel [3,2,1,0])⟩
  · refine sp<|sq<|sq<|rg<|rr 1 ?_;obtain⟨H2,K1,hm⟩:=bS hm;refine ca z4b (z2n (hE.trans a0.ext)  K1) (fun L2 R2 f1=>?_);obtain⟨rfl,g1⟩:=f1;have H:=a0.join g1;refine rr 1 ?_;refine rn<|ci hm (fun hm=>?_) (fun hm=>?_)
    · refine sq<|rg<|qt (qb) ?_;have v1:=H.bring 0 rfl;refine so (A:=[]) v1 0 (fun S2 u0=>?_);refine rr 2 ?_;refine rn<|rt ?_;cases hm;have y1:=u0.nilSl tStr 9;have B1:=y1.nilSl ty77 77;have C1:=B1.nilSl tStr 9;have D1:=C1.nilSl ty77 77;exact⟨_,.cons (ra ((u0.bring 0 rfl).box)) (.cons (.tmp rfl) (.cons (.tmp rfl) .nil)),none,0,none,0,none,0,none,0,rfl,(D1.sel [3,2,1,0])⟩
    · refine sp<|sq<|rg ?_;obtain⟨J2,L1,hm⟩:=bS hm;refine ca z74 (z4x (Ext.refl _) (ty29.ext (hE.trans H.ext) b1) ((H.bring 1 rfl).box) L1) (fun M2 T2 i1=>?_);obtain⟨S1,X1,T1,Y1,U1,a2,V1,b2,rfl,j1⟩:=i1;have E1:=H.join j1;refine nw E1 (fun O0 U2 y2 F1=>?_);have G1:=F1.bring 0 rfl;refine so (A:=[]) G1 0 (fun V2 H1=>?_);refine rn<|sq<|rg<|rr 1 ?_;refine rn<|sq ?_;obtain⟨Q1,v0,hm⟩:=bS hm;refine ct (fun(z:Int × Int × Int × Int × Int × (List ByteArray) × (List D.Packet) × (List ByteArray) × (List D.Packet)) F w9=>∃ K0 T0 L0 U0 M0 V0 G J,Q1=.inl z∧St w w9 [Box O0 [.int .i64 z.2.1,sl K0 z.2.2.2.2.2.1 T0,.int .i64 z.2.2.1,.int .i64 z.2.2.2.1,.int .i64 z.2.2.2.2.1,sl L0 z.2.2.2.2.2.2.1 U0,sl M0 z.2.2.2.2.2.2.2.1 V0,sl G z.2.2.2.2.2.2.2.2 J] 29,ow ty22 K0 z.2.2.2.2.2.1 T0,ow ty27 L0 z.2.2.2.2.2.2.1 U0,ow ty22 M0 z.2.2.2.2.2.2.2.1 V0,ow ty27 G z.2.2.2.2.2.2.2.2 J,Box N0 [.int .i64 0,.slice none 0 0,.int .i64 0,.int .i64 0,.int .i64 0,.slice none 0 0,.slice none 0 0,.slice none 0 0] 29]∧F=[(4,.pointer (some ⟨N0,0,none⟩)),(7,.pointer (some ⟨O0,0,none⟩)),(8,.int .i64 z.1)]) ?_ ?_
      · rintro z F m2 ⟨K0,T0,L0,U0,M0,V0,G,J,y0,L,rfl⟩;subst y0;rw [z13] at hm;unfold z3e at hm;refine sq<|rg<|lN ((L.bring 0 rfl).box) ?_;refine rr 1 ?_;have g0:=L.bring 5 rfl;refine so (A:=[]) g0 0 (fun n2 O=>?_);refine rr 2 ?_;refine rn<|rt ?_;cases hm;exact⟨_,.cons (ra ((O.bring 0 rfl).box)) (.cons (.tmp rfl) (.cons (.tmp rfl) .nil)),K0,T0,L0,U0,M0,V0,G,J,rfl,(O.sel [2,3,4,5])⟩
      · refine bk<|wk [1,4,7,8] ?_;refine it (fun(o:Int × Int × Int × Int × Int × (List ByteArray) × (List D.Packet) × (List ByteArray) × (List D.Packet)) F w9=>∃ F0 P0 G0 Q0 H0 R0 J0 S0,St w w9 [Box O0 [.int .i64 o.2.1,sl F0 o.2.2.2.2.2.1 P0,.int .i64 o.2.2.1,.int .i64 o.2.2.2.1,.int .i64 o.2.2.2.2.1,sl G0 o.2.2.2.2.2.2.1 Q0,sl H0 o.2.2.2.2.2.2.2.1 R0,sl J0 o.2.2.2.2.2.2.2.2 S0] 29,ow ty22 F0 o.2.2.2.2.2.1 P0,ow ty27 G0 o.2.2.2.2.2.2.1 Q0,ow ty22 H0 o.2.2.2.2.2.2.2.1 R0,ow ty27 J0 o.2.2.2.2.2.2.2.2 S0,Box N0 [.int .i64 0,.slice none 0 0,.int .i64 0,.int .i64 0,.int .i64 0,.slice none 0 0,.slice none 0 0,.slice none 0 0] 29]∧F=[(1,.int .i64 x1),(4,.pointer (some ⟨N0,0,none⟩)),(7,.pointer (some ⟨O0,0,none⟩)),(8,.int .i64 o.1)]) v0 ⟨S1,X1,T1,Y1,U1,a2,V1,b2,(H1.taken 6),rfl⟩ ?_;rintro o F o2 _ d2 ⟨F0,P0,G0,Q0,H0,R0,J0,S0,y,rfl⟩ j Y;unfold zt at j;refine sq<|sq<|rg ?_;obtain⟨e2,B0,j⟩:=bS j;refine ca z9z (z6c (Ext.refl _) (z5 (⟨o.2.1,o.2.2.2.2.2.1,o.2.2.1,o.2.2.2.1,o.2.2.2.2.1,o.2.2.2.2.2.2.1,o.2.2.2.2.2.2.2.1,o.2.2.2.2.2.2.2.2⟩:D.Channel) ((y.bring 1 rfl).own) ((y.bring 2 rfl).own) ((y.bring 3 rfl).own) ((y.bring 4 rfl).own)) ((y.bring 0 rfl).box) B0) (fun g2 p2 b0=>?_);obtain⟨rfl,c0⟩:=b0;have q:=y.join c0;refine rr 1 ?_;refine rn<|ci j (fun j=>?_) (fun j=>?_)
        · refine sp<|bk<|sq<|sq<|rg<|rr 3 ?_;refine rn<|ci j (fun j=>?_) (fun j=>?_)
          · refine sq<|rg<|qt (qb) ?_;have i0:=q.bring 5 rfl;refine so (A:=[]) i0 0 (fun q2 X=>?_);refine rr 2 ?_;refine rn<|rt ?_;cases j;cases Y;have hm:some _=some _:=hm;cases hm;have j0:=X.nilSl tStr 9;have o0:=j0.nilSl ty77 77;have p0:=o0.nilSl tStr 9;have q0:=p0.nilSl ty77 77;exact⟨_,.cons (ra ((X.bring 0 rfl).box)) (.cons (.tmp rfl) (.cons (.tmp rfl) .nil)),none,0,none,0,none,0,none,0,rfl,(q0.sel [3,2,1,0])⟩
          · refine sp<|sq<|rg ?_;obtain⟨E0,C0,j⟩:=bS j;refine ca z9y (z6b (Ext.refl _) (z5 (⟨o.2.1,o.2.2.2.2.2.1,o.2.2.1,o.2.2.2.1,o.2.2.2.2.1,o.2.2.2.2.2.2.1,o.2.2.2.2.2.2.2.1,o.2.2.2.2.2.2.2.2⟩:D.Channel) ((q.bring 1 rfl).own) ((q.bring 2 rfl).own) ((q.bring 3 rfl).own) ((q.bring 4 rfl).own)) ((q.bring 0 rfl).box) C0) (fun i2 r2 d0=>?_);obtain⟨rfl,e0⟩:=d0;have r0:=q.join e0;obtain⟨f2,D0,j⟩:=bS j;refine ca z73 (z4K (W:=w) (RR:=_) (x0:=(⟨o.2.1,o.2.2.2.2.2.1,o.2.2.1,o.2.2.2.1,o.2.2.2.2.1,o.2.2.2.2.2.2.1,o.2.2.2.2.2.2.2.1,o.2.2.2.2.2.2.2.2⟩:D.Channel)) (x1:=E0) r0 (ty40.ext hE (z1W E0)) D0) (fun j2 s2 f0=>?_);obtain⟨W0,M1,X0,N1,Y0,O1,a1,P1,rfl,s0⟩:=f0;refine rn<|rg<|rr 3 ?_;refine rn ?_;cases j;exact⟨_,_,rfl,⟨W0,M1,X0,N1,Y0,O1,a1,P1,s0,rfl⟩,rfl⟩
        · refine xt ?_;cases j;exact⟨_,_,⟨F0,P0,G0,Q0,H0,R0,J0,S0,Y,q,rfl⟩,rfl⟩

end Go.E


namespace Go.E
open Go.RowKit
set_option linter.unusedVariables false
set_option linter.unusedSimpArgs false

theorem z5W:∀ {cs:List Value},oneCells cs=true→∀ v,v∈cs→v.oneCell'=true
  | [],_,v,h=>by cases h
  | u::us,h,v,hv=>by
    unfold oneCells at h
    split at h
    · rename_i hu
      rcases List.mem_cons.1 hv with rfl | hv
      · exact hu
      · exact z5W h v hv
    · cases h

def rowPut (cells:List Value) (d:Nat) (cs:List Value):List Value:=cells.take d++(cs++cells.drop (d+cs.length))
theorem z5M {cells cs:List Value}{d:Nat}(h:d+cs.length≤cells.length):(rowPut cells d cs).length=cells.length:=by
  unfold rowPut
  simp only [List.length_append,List.length_take,List.length_drop]
  omega
theorem z8g {cells cs:List Value}{d:Nat}(h:d+cs.length≤cells.length):setAt cells d cs=some (rowPut cells d cs):=by
  have e:cells=cells.take d++(((cells.drop d).take cs.length)++cells.drop (d+cs.length)):=by
    rw [← List.drop_drop,List.take_append_drop,List.take_append_drop]
  have hl:(cells.take d).length=d:=by rw [List.length_take];omega
  have:=z6e cs (cells.take d) ((cells.drop d).take cs.length) (cells.drop (d+cs.length)) (by rw [List.length_take,List.length_drop];omega)
  rw [hl,← e] at this
  exact this

section
variable {P:Program}{n:Nat}{Q:Post}{F:Fr}{W w:World}{ops rest:List Oper}{o:Oper}{T:TT}(ht:TTok P T){B:List Res}{g e:Nat}{cells:List Value}

theorem St.rowPut (hS:St W w (Box g cells e::B)){d:Nat}{cs:List Value}(hfit:d+cs.length≤cells.length) (h1:∀ v,v∈cs→v.oneCell'=true):
    ∃ w',(storeCells ⟨g,d,none⟩ cs).run P w=.ok () w'∧St W w' (Box g (Go.E.rowPut cells d cs) e::B):=by
  obtain⟨G,⟨hG,hh⟩,_,hlo⟩:=hS.sep.head
  obtain⟨w',r1,r2,r3,r4,r5,r6,r7⟩:=z1A (P:=P) g d e cs 0 w cells _ (z5v _ h1) hh (by rw [Nat.add_zero];exact z8g hfit)
  have hge:W.heap.size≤g:=hlo g (by rw [hG];simp)
  refine⟨w',r1,⟨r5.trans hS.ext.os,r6.trans hS.ext.tape,r7.trans hS.ext.output,by rw [r4];exact hS.le,fun k hk=>?_⟩,?_⟩
  · rw [r3 k (by omega)];exact hS.ext.block k hk
  · refine hS.sep.upd hS.le fun G' hG' _ _=>?_
    obtain⟨e1,_⟩:=hG'
    exact⟨[g],⟨rfl,r2⟩,by simp,fun b hb=>.inl (by rw [e1];exact hb),fun b hb hn=>r3 b (by rintro rfl;exact hn (by rw [e1];simp))⟩
theorem St.rowAt (hS:St W w (Box g cells e::B)) (d:Nat):At w ⟨g,d,none⟩ (cells.drop d):=fun j u hu=>by
  have h:=hS.box (d+j) u (by rw [List.getElem?_drop] at hu;exact hu)
  rw [z4u] at h ⊢
  simpa using h
theorem At.take {w:World}{a:Addr}{cs:List Value}(h:At w a cs) (m:Nat):At w a (cs.take m):=fun j u hu=>by
  rw [List.getElem?_take] at hu
  split at hu
  · exact h j u hu
  · cases hu

include ht

theorem z6m (hS:St W w (Box g cells e::B)){t t' ty:Nat}{i j:TI}(hi:T.get t=some i) (hd:i.d=.slice e) (hj:T.get e=some j){d dl dc sl sc:Nat}{a:Addr}{cs:List Value}(hat:At w a cs)
    (hn:cs.length=Nat.min sl dl*j.size) (hfit:d+cs.length≤cells.length) (h1:∀ v,v∈cs→v.oneCell'=true):
    ∃ w',(Builtin.copy_ #[t,t'] ty #[.slice (some ⟨g,d,none⟩) dl dc,.slice (some a) sl sc]).run P w=.ok (goInt (Nat.min sl dl)) w'∧St W w' (Box g (Go.E.rowPut cells d cs) e::B):=by
  obtain⟨w',h2,h3⟩:=St.rowPut (P:=P) hS hfit h1
  refine⟨w',?_,h3⟩
  have hl:=run_loadCells_list (P:=P) w a cs hat
  simp [Builtin.copy_,run_underlying (ht.slice hi hd),Builtin.lenOf,Builtin.firstCells,ht.sizeOf hj,← hn,hl,h2]

theorem z5F (hS:St W w (Box g cells e::B)){t ty:Nat}{i j:TI}(hi:T.get t=some i) (hd:i.d=.slice e) (hj:T.get e=some j){o1 sl k m c:Nat}{a:Addr}{cs:List Value}(hat:At w a cs)
    (hn:cs.length=m*j.size) (hroom:sl+m≤k) (hfit:o1+sl*j.size+cs.length≤cells.length) (h1:∀ v,v∈cs→v.oneCell'=true):
    ∃ w',(Builtin.append_ #[t,t] ty #[.slice (some ⟨g,o1,none⟩) sl k,.slice (some a) m c]).run P w=.ok (.slice (some ⟨g,o1,none⟩) (sl+m) k) w'∧St W w' (Box g (Go.E.rowPut cells (o1+sl*j.size) cs) e::B):=by
  obtain⟨w',h2,h3⟩:=St.rowPut (P:=P) hS hfit h1
  obtain⟨jj,hjj,hsz,hby,zz,hzz,hzc⟩:=ht.info hj
  refine⟨w',?_,h3⟩
  have hf:=run_firstCells_some (P:=P) w jj.size m a m c cs (by rw [hsz];exact hn) hat
  simp [Builtin.append_,run_underlying (ht.slice hi hd),sizeOf,typeInfo,hjj,Builtin.lenOf,hroom,hf,z4u]
  rw [hsz,h2]
  simp

theorem z6B (hS:St W w B){t ty:Nat}{i j:TI}(hi:T.get t=some i) (hd:i.d=.slice e) (hj:T.get e=some j){sl k m c:Nat}{a b:Addr}{cs os:List Value}(hat:At w a cs) (hbt:At w b os)
    (hn:cs.length=m*j.size) (ho:os.length=sl*j.size) (hroom:k<sl+m) (hsm:(sl+m)*j.bytes≤140737488355328) (q:sl+m≤maxLen):
    ∃ g k' rs w',(Builtin.append_ #[t,t] ty #[.slice (some b) sl k,.slice (some a) m c]).run P w=.ok (.slice (some ⟨g,0,none⟩) (sl+m) k') w'∧St W w' (Box g (os++(cs++rs)) e::B)∧sl+m≤k'∧k'≤maxLen∧rs.length=(k' - (sl+m))*j.size:=by
  obtain⟨jj,hjj,hsz,hby,zz,hzz,hzc⟩:=ht.info hj
  have hmx:maxLen=9223372036854775807:=rfl
  have hfit:Builtin.nextslicecap (sl+m) k*jj.bytes≤281474976710656:=by
    have h2:Builtin.nextslicecap (sl+m) k≤2*(sl+m):=nextslicecap_le hroom
    rw [hby]
    calc Builtin.nextslicecap (sl+m) k*j.bytes≤2*(sl+m)*j.bytes:=Nat.mul_le_mul_right _ h2
      _=2*((sl+m)*j.bytes):=by rw [Nat.mul_assoc]
      _≤281474976710656:=by omega
  have hr:=run_append_grow (P:=P) w t ty e jj zz (ht.slice hi hd) hjj hzz b sl k os (by rw [hsz];exact ho) hbt a m c cs (by rw [hsz];exact hn) hat hroom (by omega) hfit
  have hge:=grownCap_ge w (sl+m) k e
  have hle:=grownCap_le_maxLen w (sl+m) k e q
  refine⟨w.heap.size,grownCap w (sl+m) k e,(Builtin.zeroCells zz.cells (grownCap w (sl+m) k e - (sl+m))).toList,_,hr,?_,hge,hle,?_⟩
  · have h3:=(hS.step (Ext.draw w)).new (os++(cs++(Builtin.zeroCells zz.cells (grownCap w (sl+m) k e - (sl+m))).toList)) e
    have e2:(⟨os++(cs++(Builtin.zeroCells zz.cells (grownCap w (sl+m) k e - (sl+m))).toList)⟩:Array Value)=os.toArray++cs.toArray++Builtin.zeroCells zz.cells (grownCap w (sl+m) k e - (sl+m)):=by
      apply Array.ext'
      simp
    rw [e2] at h3
    exact h3
  · rw [Array.length_toList,size_zeroCells]
    congr 1
    rw [← Array.length_toList,hzc,ht.zlen hj]
end
end Go.E


namespace Go.E
open Go.RowKit
set_option linter.unusedVariables false
set_option linter.unusedSimpArgs false

def tSlO {α:Type}(e:TypeId) (T:Ty α):Ty (List α) where
  size:=1
  ro:=(tSl e T).ro
  own:=fun w cs xs G=>∃ A k,cs=[.slice A xs.length k]∧((A=none∧k=0∧xs=[]∧G=[])∨
    ∃ g pre els rest K,A=some ⟨g,pre.length,none⟩∧w.heap[g]? = some (.cells ⟨pre++(els++rest)⟩ e (0,0))∧xs.length≤k∧k≤maxLen∧k*T.size≤(els++rest).length∧ElsO T w els xs K∧G=g::K)
  req:=T.req
  len:=(tSl e T).len
  lenO:=by rintro _ _ _ _ ⟨_,_,rfl,_⟩;rfl
  ext:=(tSl e T).ext
  own_ro:=by
    rintro w _ xs G ⟨A,k,rfl,h⟩ hq
    rcases h with⟨rfl,rfl,rfl,rfl⟩ | ⟨g,pre,els,rest,K,rfl,hh,h1,h2,h4,h5,rfl⟩
    · exact⟨none,0,[],rfl,Nat.le_refl _,rfl,fun h=>absurd rfl h⟩
    · refine⟨_,k,els,rfl,h1,h5.els hq,fun _=>⟨_,rfl,fun j u hu=>?_⟩⟩
      have hj:=(List.getElem?_eq_some_iff.1 hu).1
      rw [z4u,cell_of_row w g _ _ e (0,0) hh]
      simp only [List.getElem?_toArray]
      rw [List.getElem?_append_right (by omega),Nat.add_sub_cancel_left,List.getElem?_append_left hj]
      exact hu
  loc:=by
    rintro w w' _ xs G ⟨A,k,rfl,h⟩ hs
    refine⟨A,k,rfl,?_⟩
    rcases h with⟨rfl,rfl,rfl,rfl⟩ | ⟨g,pre,els,rest,K,rfl,hh,h1,h2,h4,h5,rfl⟩
    · exact .inl ⟨rfl,rfl,rfl,rfl⟩
    · exact .inr ⟨g,pre,els,rest,K,rfl,by rw [hs g (by simp)];exact hh,h1,h2,h4,h5.loc fun b hb=>hs b (by simp [hb]),rfl⟩
  lt:=by
    rintro w _ xs G ⟨A,k,rfl,h⟩ b hb
    rcases h with⟨rfl,rfl,rfl,rfl⟩ | ⟨g,pre,els,rest,K,rfl,hh,h1,h2,h4,h5,rfl⟩
    · cases hb
    · rcases List.mem_cons.1 hb with rfl | hb
      · rcases Nat.lt_or_ge b w.heap.size with h | h
        · exact h
        · rw [Array.getElem?_eq_none h] at hh;cases hh
      · exact h5.lt b hb
  one:=(tSl e T).one
  oneO:=by
    rintro _ _ _ _ ⟨_,_,rfl,_⟩ u hu
    simp only [List.mem_singleton] at hu;subst hu;rfl
instance {W:World}{α:Type}{e:TypeId}{T:Ty α}[Reads W T]:Reads W (tSlO e T):=⟨fun h=>Reads.req (T:=T) h⟩

section
variable {α:Type}{U:Ty α}{W w w':World}{B:List Res}{e:Nat}{A:Option Addr}{n k:Nat}{xs:List α}

theorem St.shrink {R R':Res}(h:St W w (R::B)) (hu:∀ G,R.A w G→∃ G',R'.A w G'∧G'.Nodup∧∀ g,g∈G'→g∈G):St W w (R'::B):=
  ⟨h.ext,h.sep.upd h.le fun G hG _ _=>by
    obtain⟨G',h1,h2,h3⟩:=hu G hG
    exact⟨G',h1,h2,fun g hg=>.inl (h3 g hg),fun _ _ _=>rfl⟩⟩
theorem St.toO (h:St W w (Own (tSl e U) [.slice A n k] xs::B)):St W w (Own (tSlO e U) [.slice A n k] xs::B):=h.conv fun G hG=>by
  obtain⟨v,els,hv,ho,K,hk,rfl⟩:=hG
  simp only [List.cons.injEq,and_true] at hv
  subst hv
  rcases ho.2 with⟨hv,hn⟩ | ⟨g,cap,cur,hv,_,hh,hnc,hmax,hsz,htk⟩
  · simp only [Value.slice.injEq] at hv
    obtain⟨rfl,rfl,rfl⟩:=hv
    have hx:=List.eq_nil_of_length_eq_zero hn
    subst hx
    obtain⟨_,rfl⟩:=hk
    exact⟨none,0,rfl,.inl ⟨rfl,rfl,rfl,by simp [Value.ownBlock]⟩⟩
  · simp only [Value.slice.injEq] at hv
    obtain⟨rfl,rfl,rfl⟩:=hv
    refine⟨_,k,rfl,.inr ⟨g,[],els,cur.toList.drop (xs.length*U.size),K,rfl,?_,hnc,hmax,?_,hk,by simp [Value.ownBlock]⟩⟩
    · rw [hh,List.nil_append,← htk,List.take_append_drop]
    · rw [← htk,List.take_append_drop];simpa using Nat.le_of_eq hsz.symm
theorem ElsO.any {cs:List Value}(h:ElsO U w cs xs []):ElsO U w' cs xs []:=h.loc fun g hg=>by cases hg

theorem St.openO [Reads W U] (hfl:Flat U) (h:St W w (Own (tSlO e U) [.slice A n k] xs::B)):n=xs.length∧((A=none∧k=0∧xs=[])∨
    ∃ g pre els rest,A=some ⟨g,pre.length,none⟩∧St W w (Box g (pre++(els++rest)) e::B)∧xs.length≤k∧k≤maxLen∧k*U.size≤(els++rest).length∧ElsO U w els xs []):=by
  obtain⟨G,⟨A',k',hv,hc⟩,_⟩:=h.sep.head
  simp only [List.cons.injEq,Value.slice.injEq,and_true] at hv
  obtain⟨rfl,rfl,rfl⟩:=hv
  refine⟨rfl,?_⟩
  rcases hc with⟨h1,h2,h3,_⟩ | ⟨g,pre,els,rest,K,rfl,hh,h1,h2,h4,h5,rfl⟩
  · exact .inl ⟨h1,h2,h3⟩
  · refine .inr ⟨g,pre,els,rest,rfl,h.shrink fun G' hG'=>?_,h1,h2,h4,(h5.els (Reads.req h.ext)).flat hfl⟩
    obtain⟨A'',k'',hv',hc'⟩:=hG'
    simp only [List.cons.injEq,Value.slice.injEq,and_true] at hv'
    obtain⟨hA,_,_⟩:=hv'
    rcases hc' with⟨h1',_⟩ | ⟨g',pre',els',rest',K',hA',hh',_,_,_,_,rfl⟩
    · rw [h1'] at hA;cases hA
    · rw [← hA] at hA'
      simp only [Option.some.injEq,Addr.mk.injEq,and_true] at hA'
      obtain⟨rfl,_⟩:=hA'
      exact⟨[g],⟨rfl,hh⟩,by simp,fun b hb=>by rw [List.mem_singleton.1 hb];simp⟩

theorem St.shutO {g:Nat}{pre els rest:List Value}(h:St W w (Box g (pre++(els++rest)) e::B)) (h1:xs.length≤k) (h2:k≤maxLen) (h4:k*U.size≤(els++rest).length) (h5:ElsO U w els xs []):
    St W w (Own (tSlO e U) [.slice (some ⟨g,pre.length,none⟩) xs.length k] xs::B):=h.conv fun G hG=>by
  obtain⟨rfl,hh⟩:=hG
  exact⟨_,k,rfl,.inr ⟨g,pre,els,rest,[],rfl,hh,h1,h2,h4,h5,rfl⟩⟩

theorem St.shutSl {g:Nat}{els rest:List Value}(h:St W w (Box g (els++rest) e::B)) (h1:xs.length≤k) (h2:k≤maxLen) (h4:(els++rest).length=k*U.size) (h5:ElsO U w els xs []):
    St W w (Own (tSl e U) [.slice (some ⟨g,0,none⟩) xs.length k] xs::B):=h.conv fun G hG=>by
  obtain⟨rfl,hh⟩:=hG
  exact z4D hh h1 h2 h4 h5.length h5

theorem St.openSlR [Reads W U] (hfl:Flat U) (h:St W w (Own (tSl e U) [.slice A n k] xs::B)) (hne:xs≠[]):n=xs.length∧
    ∃ g els rest,A=some ⟨g,0,none⟩∧St W w (Box g (els++rest) e::B)∧xs.length≤k∧k≤maxLen∧(els++rest).length=k*U.size∧ElsO U w els xs []:=by
  obtain⟨G,hG,_⟩:=h.sep.head
  obtain⟨g,cap,els,rest,K,hv,hh,h1,h2,h4,h5,h6,_⟩:=z4E hG hne
  simp only [Value.slice.injEq] at hv
  obtain⟨rfl,rfl,rfl⟩:=hv
  refine⟨rfl,g,els,rest,rfl,h.shrink fun G' hG'=>?_,h1,h2,h4,(h6.els (Reads.req h.ext)).flat hfl⟩
  obtain⟨g',cap',els',rest',K',hv',hh',_,_,_,_,_,rfl⟩:=z4E hG' hne
  simp only [Value.slice.injEq,Option.some.injEq,Addr.mk.injEq,and_true] at hv'
  obtain⟨rfl,_⟩:=hv'
  exact⟨[g],⟨rfl,hh⟩,by simp,fun b hb=>by rw [List.mem_singleton.1 hb];simp⟩
theorem z3Y {g d c l s:Nat}(h:c≠l):cutA (some ⟨g,d,none⟩) c l s=some ⟨g,d+l*s,none⟩:=by
  unfold cutA
  rw [if_neg h,Option.map_some,z4u]
theorem z6v {g d c s:Nat}:cutA (some ⟨g,d,none⟩) c 0 s=some ⟨g,d,none⟩:=by
  unfold cutA
  split
  · rfl
  · rw [Option.map_some,z4u];simp

theorem St.cutO [Reads W U] (hfl:Flat U) (h:St W w (Own (tSlO e U) [.slice A n k] xs::B)){l:Nat}(hl:l≤xs.length):St W w (Own (tSlO e U) [.slice (cutA A k l U.size) (n - l) (k - l)] (xs.drop l)::B):=by
  obtain⟨rfl,h1 | ⟨g,pre,els,rest,rfl,h2,h3,h4,h5,h6⟩⟩:=h.openO hfl
  · obtain⟨rfl,rfl,rfl⟩:=h1
    have:l=0:=by simpa using hl
    subst this
    simpa [cutA] using h
  · have he:=h6.length
    have hd:ElsO U w (els.drop (l*U.size)) (xs.drop l) []:=((h6.els (Reads.req h.ext)).drop l hl).flat hfl
    have hls:l*U.size≤xs.length*U.size:=Nat.mul_le_mul_right _ hl
    have hxl:xs.length - l=(xs.drop l).length:=by rw [List.length_drop]
    rw [hxl]
    by_cases hk:k=l
    · subst hk
      have e1:(xs.drop k)=[]:=List.drop_of_length_le (by omega)
      rw [e1] at hd ⊢
      obtain⟨e2,_⟩:=hd
      unfold cutA
      rw [if_pos rfl]
      refine St.shutO (els:=[]) (rest:=els++rest) (by simpa using h2) (Nat.zero_le _) (by omega) (by simp) ⟨rfl,rfl⟩
    · rw [z3Y hk]
      have e3:pre++(els++rest)=(pre++els.take (l*U.size))++(els.drop (l*U.size)++rest):=by
        rw [List.append_assoc,← List.append_assoc (els.take _),List.take_append_drop]
      rw [e3] at h2
      have e4:(pre++els.take (l*U.size)).length=pre.length+l*U.size:=by
        rw [List.length_append,List.length_take,he];omega
      have h7:=St.shutO (k:=k - l) h2 (by rw [List.length_drop];omega) (by omega) (by
        rw [List.length_append,List.length_drop]
        rw [List.length_append] at h5
        rw [Nat.sub_mul]
        omega) hd
      rw [e4] at h7
      exact h7
end

section
variable {P:Program}{T:TT}(ht:TTok P T){n:Nat}{F:Fr}{w:World}{o:Oper}
include ht
theorem Quiet.sliceV {t e:Nat}{x:Operand}{lo hi:Option Operand}{i j:TI}{A:Option Addr}{len c:Nat}(ho:o.op=.slice t x lo hi none)
    (hi':T.get t=some i) (hd:i.d=.slice e) (hj:T.get e=some j) (hx:F.ev x=some (.slice A len c))
    {l h:Nat}(hl:(lo=none∧l=0)∨∃ y k,lo=some y∧F.ev y=some (.int k (l:Int))) (hh:(hi=none∧h=len)∨∃ y k,hi=some y∧F.ev y=some (.int k (h:Int)))
    (h1:l≤h) (h2:h≤c):Quiet P n F w o (.slice (cutA A c l j.size) (h - l) (c - l)):=by
  intro a w' ha _
  unfold execOp cutA
  rw [ho]
  have q:∀ (k:IntKind) (m y:Nat) (cd:BoundsCode),m≤y→(Instr.sliceBound (.int k (m:Int)) y cd).run P w'=.ok m w':=fun k m y cd hmy=>by
    simp [Instr.sliceBound,asIntOf,hmy]
  rcases hl with⟨rfl,rfl⟩ | ⟨y,k,rfl,hy⟩<;>rcases hh with⟨rfl,rfl⟩ | ⟨y',k',rfl,hy'⟩
  · simp [ha.ev hx,Instr.sliceAt,Instr.slice,Go.underlying,ht.slice hi' hd,Instr.sliceBounds,ht.sizeOf hj]
  · simp [ha.ev hx,ha.ev hy',Instr.sliceAt,Instr.slice,Go.underlying,ht.slice hi' hd,Instr.sliceBounds,ht.sizeOf hj,q,h2]
  · simp [ha.ev hx,ha.ev hy,Instr.sliceAt,Instr.slice,Go.underlying,ht.slice hi' hd,Instr.sliceBounds,ht.sizeOf hj,q,h1]
  · simp [ha.ev hx,ha.ev hy,ha.ev hy',Instr.sliceAt,Instr.slice,Go.underlying,ht.slice hi' hd,Instr.sliceBounds,ht.sizeOf hj,q,h2,h1]
theorem Quiet.slice3 {t e:Nat}{x y1 y2 y3:Operand}{i j:TI}{A:Option Addr}{len c:Nat}(ho:o.op=.slice t x (some y1) (some y2) (some y3))
    (hi':T.get t=some i) (hd:i.d=.slice e) (hj:T.get e=some j) (hx:F.ev x=some (.slice A len c)){k1 k2 k3:IntKind}{l h m:Nat}
    (e1:F.ev y1=some (.int k1 (l:Int))) (e2:F.ev y2=some (.int k2 (h:Int))) (e3:F.ev y3=some (.int k3 (m:Int)))
    (h1:l≤h) (h2:h≤m) (h3:m≤c):Quiet P n F w o (.slice (cutA A m l j.size) (h - l) (m - l)):=by
  intro a w' ha _
  unfold execOp cutA
  rw [ho]
  have q:∀ (k:IntKind) (m y:Nat) (cd:BoundsCode),m≤y→(Instr.sliceBound (.int k (m:Int)) y cd).run P w'=.ok m w':=fun k m y cd hmy=>by
    simp [Instr.sliceBound,asIntOf,hmy]
  simp [ha.ev hx,ha.ev e1,ha.ev e2,ha.ev e3,Instr.sliceAt,Instr.slice,Go.underlying,ht.slice hi' hd,Instr.sliceBounds,ht.sizeOf hj,q,h1,h2,h3]
end


section
variable {P:Program}{T:TT}(ht:TTok P T){n:Nat}{Q:Post}{F:Fr}{W w:World}{ops rest:List Oper}{o:Oper}{B:List Res}{g e:Nat}{cells:List Value}
include ht
theorem RW.copyBox (hS:St W w (Box g cells e::B)) (hg:guardOf ops F o=some true){t t':Nat}{x y:Operand}{i j:TI}(ho:o.op=.call { callee:=.builtin .copy,args:=#[x,y],argTypes:=#[t,t'] }) (hi:T.get t=some i) (hd:i.d=.slice e) (hj:T.get e=some j){d dl dc sl sc:Nat}{a:Addr}{cs:List Value}
    (hx:F.ev x=some (.slice (some ⟨g,d,none⟩) dl dc)) (hy:F.ev y=some (.slice (some a) sl sc)) (hat:At w a cs) (hn:cs.length=Nat.min sl dl*j.size) (hfit:d+cs.length≤cells.length) (h1:∀ v,v∈cs→v.oneCell'=true){d':Nat}(hd':o.dst=some d') (hn':Nat.blt d' n=true)
    (h:∀ w',St W w' (Box g (rowPut cells d cs) e::B)→RW P n ops Q rest ((d',goInt (Nat.min sl dl))::F) w'):RW P n ops Q (o::rest) F w:=by
  obtain⟨w',r1,r2⟩:=z6m (P:=P) (ty:=o.type) (t':=t') ht hS hi hd hj hat (dc:=dc) (sc:=sc) hn hfit h1
  refine RW.ok (w':=w') hg (fun a ha=>?_) hd' hn' (h w' r2)
  unfold execOp
  rw [ho]
  simp [resolve,invoke,builtin,ha.ev hx,ha.ev hy]
  rw [r1]
  simp
theorem LM.copyBox (hS:St W w (Box g cells e::B)){wm fuel kk mm ii:Nat}{w0:World}{sk:List (List Nat × Nat)}(hsk:skOf ops=sk∧ops.length=kk) (m':Nat) (hm':mm ||| 2 ^ ii=m') (hwi:wm.testBit ii=true) (hni:nthv ops ii=some o) (hg:guardOf ops F o=some true){t t':Nat}{x y:Operand}{i j:TI}(ho:o.op=.call { callee:=.builtin .copy,args:=#[x,y],argTypes:=#[t,t'] }) (hi:T.get t=some i) (hd:i.d=.slice e) (hj:T.get e=some j){d dl dc sl sc:Nat}{a:Addr}{cs:List Value}
    (hx:F.ev x=some (.slice (some ⟨g,d,none⟩) dl dc)) (hy:F.ev y=some (.slice (some a) sl sc)) (hat:At w a cs) (hn:cs.length=Nat.min sl dl*j.size) (hfit:d+cs.length≤cells.length) (h1:∀ v,v∈cs→v.oneCell'=true){d':Nat}(hd':o.dst=some d') (hn':Nat.blt d' n=true)
    (h:∀ w',St W w' (Box g (rowPut cells d cs) e::B)→DM P n ops Q W w0 wm fuel kk m' ((d',goInt (Nat.min sl dl))::F) w'):LM P n ops Q W w0 wm fuel kk mm ii F w:=by
  obtain⟨w',r1,r2⟩:=z6m (P:=P) (ty:=o.type) (t':=t') ht hS hi hd hj hat (dc:=dc) (sc:=sc) hn hfit h1
  refine LM.okWD hsk m' hm' hwi hni hg (w':=w') (fun a ha=>?_) hd' hn' r2.ext (h w' r2)
  unfold execOp
  rw [ho]
  simp [resolve,invoke,builtin,ha.ev hx,ha.ev hy]
  rw [r1]
  simp
theorem RW.appendBox (hS:St W w (Box g cells e::B)) (hg:guardOf ops F o=some true){t:Nat}{x y:Operand}{i j:TI}(ho:o.op=.call { callee:=.builtin .append,args:=#[x,y],argTypes:=#[t,t] }) (hi:T.get t=some i) (hd:i.d=.slice e) (hj:T.get e=some j){o1 sl k m c:Nat}{a:Addr}{cs:List Value}
    (hx:F.ev x=some (.slice (some ⟨g,o1,none⟩) sl k)) (hy:F.ev y=some (.slice (some a) m c)) (hat:At w a cs) (hn:cs.length=m*j.size) (hroom:sl+m≤k) (hfit:o1+sl*j.size+cs.length≤cells.length) (h1:∀ v,v∈cs→v.oneCell'=true){d':Nat}(hd':o.dst=some d') (hn':Nat.blt d' n=true)
    (h:∀ w',St W w' (Box g (rowPut cells (o1+sl*j.size) cs) e::B)→RW P n ops Q rest ((d',.slice (some ⟨g,o1,none⟩) (sl+m) k)::F) w'):RW P n ops Q (o::rest) F w:=by
  obtain⟨w',r1,r2⟩:=z5F (P:=P) (ty:=o.type) ht hS hi hd hj hat (c:=c) hn hroom hfit h1
  refine RW.ok (w':=w') hg (fun a ha=>?_) hd' hn' (h w' r2)
  unfold execOp
  rw [ho]
  simp [resolve,invoke,builtin,ha.ev hx,ha.ev hy]
  rw [r1]
  simp
theorem LM.appendBox (hS:St W w (Box g cells e::B)){wm fuel kk mm ii:Nat}{w0:World}{sk:List (List Nat × Nat)}(hsk:skOf ops=sk∧ops.length=kk) (m':Nat) (hm':mm ||| 2 ^ ii=m') (hwi:wm.testBit ii=true) (hni:nthv ops ii=some o) (hg:guardOf ops F o=some true){t:Nat}{x y:Operand}{i j:TI}(ho:o.op=.call { callee:=.builtin .append,args:=#[x,y],argTypes:=#[t,t] }) (hi:T.get t=some i) (hd:i.d=.slice e) (hj:T.get e=some j){o1 sl k m c:Nat}{a:Addr}{cs:List Value}
    (hx:F.ev x=some (.slice (some ⟨g,o1,none⟩) sl k)) (hy:F.ev y=some (.slice (some a) m c)) (hat:At w a cs) (hn:cs.length=m*j.size) (hroom:sl+m≤k) (hfit:o1+sl*j.size+cs.length≤cells.length) (h1:∀ v,v∈cs→v.oneCell'=true){d':Nat}(hd':o.dst=some d') (hn':Nat.blt d' n=true)
    (h:∀ w',St W w' (Box g (rowPut cells (o1+sl*j.size) cs) e::B)→DM P n ops Q W w0 wm fuel kk m' ((d',.slice (some ⟨g,o1,none⟩) (sl+m) k)::F) w'):LM P n ops Q W w0 wm fuel kk mm ii F w:=by
  obtain⟨w',r1,r2⟩:=z5F (P:=P) (ty:=o.type) ht hS hi hd hj hat (c:=c) hn hroom hfit h1
  refine LM.okWD hsk m' hm' hwi hni hg (w':=w') (fun a ha=>?_) hd' hn' r2.ext (h w' r2)
  unfold execOp
  rw [ho]
  simp [resolve,invoke,builtin,ha.ev hx,ha.ev hy]
  rw [r1]
  simp
theorem RW.appendGrow (hS:St W w B) (hg:guardOf ops F o=some true){t:Nat}{x y:Operand}{i j:TI}(ho:o.op=.call { callee:=.builtin .append,args:=#[x,y],argTypes:=#[t,t] }) (hi:T.get t=some i) (hd:i.d=.slice e) (hj:T.get e=some j){sl k m c:Nat}{a b:Addr}{cs os:List Value}
    (hx:F.ev x=some (.slice (some b) sl k)) (hy:F.ev y=some (.slice (some a) m c)) (hat:At w a cs) (hbt:At w b os) (hn:cs.length=m*j.size) (hos:os.length=sl*j.size) (hroom:k<sl+m) (hsm:(sl+m)*j.bytes≤140737488355328) (q:sl+m≤maxLen){d':Nat}(hd':o.dst=some d') (hn':Nat.blt d' n=true)
    (h:∀ g k' rs w',St W w' (Box g (os++(cs++rs)) e::B)→sl+m≤k'→k'≤maxLen→rs.length=(k' - (sl+m))*j.size→RW P n ops Q rest ((d',.slice (some ⟨g,0,none⟩) (sl+m) k')::F) w'):RW P n ops Q (o::rest) F w:=by
  obtain⟨g,k',rs,w',r1,r2,r3,r4,r5⟩:=z6B (P:=P) (ty:=o.type) ht hS hi hd hj hat hbt (c:=c) hn hos hroom hsm q
  refine RW.ok (w':=w') hg (fun a ha=>?_) hd' hn' (h g k' rs w' r2 r3 r4 r5)
  unfold execOp
  rw [ho]
  simp [resolve,invoke,builtin,ha.ev hx,ha.ev hy]
  rw [r1]
  simp
theorem RW.clearBox (hS:St W w (Box g cells e::B)) (hg:guardOf ops F o=some true){t:Nat}{x:Operand}{i j:TI}(ho:o.op=.call { callee:=.builtin .clear,args:=#[x],argTypes:=#[t] }) (hi:T.get t=some i) (hd:i.d=.slice e) (hj:T.get e=some j){d k:Nat}
    (hx:F.ev x=some (.slice (some ⟨g,d,none⟩) 1 k)) (hfit:d+j.size≤cells.length) (h1:∀ v,v∈j.zero→v.oneCell'=true) (hd':o.dst=none)
    (h:∀ w',St W w' (Box g (rowPut cells d j.zero) e::B)→RW P n ops Q rest F w'):RW P n ops Q (o::rest) F w:=by
  have hz:=ht.zlen hj
  obtain⟨w',r1,r2⟩:=St.rowPut (P:=P) hS (cs:=j.zero) (d:=d) (by rw [hz];exact hfit) h1
  obtain⟨jj,hjj,hsz,hby,zz,hzz,hzc⟩:=ht.info hj
  have ez:(Builtin.zeroCells zz.cells 1).toList=j.zero:=by
    have:(Builtin.zeroCells zz.cells 1)=zz.cells:=by
      unfold Builtin.zeroCells
      apply Array.ext
      · simp
      · intro i h1 h2
        simp only [Nat.one_mul,Array.size_map,Array.size_range] at h1
        simp [Nat.mod_eq_of_lt h1,h1]
    rw [this,hzc]
  refine RW.ok0 (v:=.tuple #[]) (w':=w') hg (fun a ha=>?_) hd' (h w' r2)
  unfold execOp
  rw [ho]
  simp [resolve,invoke,builtin,ha.ev hx,Builtin.clear_,run_underlying (ht.slice hi hd),zeroValue,typeInfo,hjj,hzz,ez,r1]
end

section
variable {P:Program}{T:TT}(ht:TTok P T){n:Nat}{Q:Post}{F:Fr}{W w:World}{ops rest:List Oper}{o:Oper}{B:List Res}{g e:Nat}{cells:List Value}
include ht

theorem z6A (hS:St W w B){t tn ty:Nat}{kn kd:IntKind}(htn:P.underlying tn=some (.int kn)){i j:TI}(hi:T.get t=some i) (hd:i.d=.slice e) (hj:T.get e=some j){sl k m:Nat}{b:Addr}{os:List Value}(hbt:At w b os)
    (ho:os.length=sl*j.size) (hm:0<m) (hpos:0<j.size) (hroom:k<sl+m) (hsm:(sl+m)*j.bytes≤140737488355328) (q:sl+m≤maxLen):
    ∃ g k' zs rs w',(Builtin.append_ #[t,tn] ty #[.slice (some b) sl k,.int kd (m:Int)]).run P w=.ok (.slice (some ⟨g,0,none⟩) (sl+m) k') w'∧St W w' (Box g (os++(zs++rs)) e::B)∧sl+m≤k'∧k'≤maxLen∧zs.length=m*j.size∧rs.length=(k' - (sl+m))*j.size:=by
  obtain⟨jj,hjj,hsz,hby,zz,hzz,hzc⟩:=ht.info hj
  have hmx:maxLen=9223372036854775807:=rfl
  have hfit:Builtin.nextslicecap (sl+m) k*jj.bytes≤281474976710656:=by
    have h2:Builtin.nextslicecap (sl+m) k≤2*(sl+m):=nextslicecap_le hroom
    rw [hby]
    calc Builtin.nextslicecap (sl+m) k*j.bytes≤2*(sl+m)*j.bytes:=Nat.mul_le_mul_right _ h2
      _=2*((sl+m)*j.bytes):=by rw [Nat.mul_assoc]
      _≤281474976710656:=by omega
  have hge:=grownCap_ge w (sl+m) k e
  have hle:=grownCap_le_maxLen w (sl+m) k e q
  have hzl:zz.cells.size=j.size:=by rw [← Array.length_toList,hzc,ht.zlen hj]
  have hr:(Builtin.append_ #[t,tn] ty #[.slice (some b) sl k,.int kd (m:Int)]).run P w=.ok (.slice (some ⟨w.heap.size,0,none⟩) (sl+m) (grownCap w (sl+m) k e))
      (w.drew.alloc (.cells (os.toArray++Builtin.zeroCells zz.cells m++Builtin.zeroCells zz.cells (grownCap w (sl+m) k e - (sl+m))) e)):=by
    have hn:¬ (sl+m≤k):=by omega
    have y:m≠0:=by omega
    have hw:IntKind.i64.wrap (m:Int)=m:=by rw [IntKind.wrap_i64];omega
    have h63':¬ (9223372036854775807<((sl:Int)+(m:Int))):=by omega
    have h48':¬ (281474976710656<Builtin.nextslicecap (sl+m) k*jj.bytes):=by omega
    have hmb:m*jj.bytes≤(sl+m)*jj.bytes:=Nat.mul_le_mul_right _ (by omega)
    have h48i:¬ (281474976710656<(m:Int)*(jj.bytes:Int)):=by
      rw [← Int.natCast_mul]
      rw [hby] at hmb ⊢
      omega
    have hneg:¬ ((m:Int)<0):=by omega
    have hns:¬ (m*jj.size=0):=Nat.mul_ne_zero y (by omega)
    have hfo:=run_firstCells_some (P:=P) w.drew jj.size sl b sl k os (by rw [hsz];exact ho) (fun j v h=>by simpa using hbt j v h)
    simp [Builtin.append_,run_underlying (ht.slice hi hd),run_underlying htn,sizeOf,typeInfo,zeroValue,hjj,hzz,asInt,asIntOf,hw,hn,hneg,hns,h63',h48',h48i,Question.forced,hfo,newRow,grownCap]
  refine⟨w.heap.size,grownCap w (sl+m) k e,(Builtin.zeroCells zz.cells m).toList,(Builtin.zeroCells zz.cells (grownCap w (sl+m) k e - (sl+m))).toList,_,hr,?_,hge,hle,?_,?_⟩
  · have h3:=(hS.step (Ext.draw w)).new (os++((Builtin.zeroCells zz.cells m).toList++(Builtin.zeroCells zz.cells (grownCap w (sl+m) k e - (sl+m))).toList)) e
    have e2:(⟨os++((Builtin.zeroCells zz.cells m).toList++(Builtin.zeroCells zz.cells (grownCap w (sl+m) k e - (sl+m))).toList)⟩:Array Value)=os.toArray++Builtin.zeroCells zz.cells m++Builtin.zeroCells zz.cells (grownCap w (sl+m) k e - (sl+m)):=by
      apply Array.ext'
      simp
    rw [e2] at h3
    exact h3
  · rw [Array.length_toList,size_zeroCells,hzl]
  · rw [Array.length_toList,size_zeroCells,hzl]
theorem RW.appendMake (hS:St W w B) (hg:guardOf ops F o=some true){t tn:Nat}{kn kd:IntKind}(htn:P.underlying tn=some (.int kn)){x y:Operand}{i j:TI}(hop:o.op=.call { callee:=.builtin .append,args:=#[x,y],argTypes:=#[t,tn] }) (hi:T.get t=some i) (hd:i.d=.slice e) (hj:T.get e=some j){sl k m:Nat}{b:Addr}{os:List Value}
    (hx:F.ev x=some (.slice (some b) sl k)) (hy:F.ev y=some (.int kd (m:Int))) (hbt:At w b os)
    (ho:os.length=sl*j.size) (hm:0<m) (hpos:0<j.size) (hroom:k<sl+m) (hsm:(sl+m)*j.bytes≤140737488355328) (q:sl+m≤maxLen){d':Nat}(hd':o.dst=some d') (hn':Nat.blt d' n=true)
    (h:∀ g k' zs rs w',St W w' (Box g (os++(zs++rs)) e::B)→sl+m≤k'→k'≤maxLen→zs.length=m*j.size→rs.length=(k' - (sl+m))*j.size→RW P n ops Q rest ((d',.slice (some ⟨g,0,none⟩) (sl+m) k')::F) w'):RW P n ops Q (o::rest) F w:=by
  obtain⟨g,k',zs,rs,w',r1,r2,r3,r4,r5,r6⟩:=z6A (P:=P) (ty:=o.type) (kd:=kd) ht hS htn hi hd hj hbt ho hm hpos hroom hsm q
  refine RW.ok (w':=w') hg (fun a ha=>?_) hd' hn' (h g k' zs rs w' r2 r3 r4 r5 r6)
  unfold execOp
  rw [hop]
  simp [resolve,invoke,builtin,ha.ev hx,ha.ev hy]
  rw [r1]
  simp
theorem Quiet.capV {t:Nat}{x:Operand}{i:TI}{A:Option Addr}{l c:Nat}(ho:o.op=.call { callee:=.builtin .cap,args:=#[x],argTypes:=#[t] }) (hi:T.get t=some i) (hd:i.d=.slice e) (hx:F.ev x=some (.slice A l c)):Quiet P n F w o (.int .i64 (c:Int)):=by
  intro a w' ha _
  unfold execOp
  rw [ho]
  simp [resolve,invoke,builtin,ha.ev hx,Builtin.cap_,run_underlying (ht.slice hi hd),goInt]
end
theorem z6L {w:World}{g e:Nat}{cells:Array Value}(h:w.heap[g]? = some (.cells cells e (0,0))) (d:Nat):w.frozen? ⟨g,d,none⟩=false:=frozen_of_row w g d cells e h
theorem z7d {w:World}{g e:Nat}{cells:Array Value}(h:w.heap[g]? = some (.cells cells e (0,0))):w.shape? g=some (e,cells.size):=by
  simp [World.shape?,h]

section
variable {P:Program}{n:Nat}{F:Fr}{w:World}{o:Oper}
theorem Quiet.maxI {t t':Nat}{x y:Operand}{k k':IntKind}{a b:Int}(ho:o.op=.call { callee:=.builtin .max,args:=#[x,y],argTypes:=#[t,t'] }) (hx:F.ev x=some (.int k a)) (hy:F.ev y=some (.int k' b)):Quiet P n F w o (.int k (if b>a then b else a)):=by
  intro c w' hc _
  unfold execOp
  rw [ho]
  simp [resolve,invoke,builtin,hc.ev hx,hc.ev hy,Builtin.max_,Builtin.max2]
theorem Quiet.shr1 {t u:Nat}{x y:Operand}{k k':IntKind}{a:Int}(ho:o.op=.binOp .shr t x y u) (hx:F.ev x=some (.int k a)) (hy:F.ev y=some (.int k' 1)) (hk:1≤k.bits):Quiet P n F w o (.int k (a.fdiv 2)):=by
  intro c w' hc _
  unfold execOp
  rw [ho]
  have hg:(eqGuard .shr t x y (.int k a) (.int k' 1)).run P w'=.ok () w':=by unfold eqGuard;simp
  have hm:min 1 k.bits=1:=by omega
  simp [hc.ev hx,hc.ev hy,hg,binOp,Op.shift,hm]
end
theorem St.cutO2 {α:Type}{U:Ty α}{W w:World}{B:List Res}{e:Nat}{A:Option Addr}{n k:Nat}{xs:List α}[Reads W U] (h:St W w (Own (tSlO e U) [.slice A n k] xs::B)) (hfl:Flat U){l:Nat}(hl:l≤xs.length):St W w (Own (tSlO e U) [.slice (cutA A k l U.size) ((xs.take xs.length).drop l).length (k - l)] ((xs.take xs.length).drop l)::B):=by
  have hn:=(h.openO hfl).1
  have h2:=h.cutO hfl hl
  rw [List.take_length,List.length_drop,← hn]
  exact h2
end Go.E


namespace Go.E
open Go.RowKit Go.Proofs
set_option linter.unusedVariables false
set_option linter.unusedSimpArgs false
set_option maxHeartbeats 2000000

theorem z9h:Enters Try.prog 66:=⟨_,_,Try.func66,rfl,by kernel_rfl⟩
theorem z5X:Flat ty77:=Flat.map (Flat.pair Flat.bool (Flat.pair Flat.int (Flat.pair Flat.str Flat.unit)))
theorem z8z {w:World}{els:List Value}{xs:List D.Packet}(h:ElsO ty77 w els xs []):∀ v,v∈els→v.oneCell'=true:=h.one

theorem z8o {els rest zs:List Value}{s i n:Nat}(hl:els.length=n*s) (hi:i<n) (hz:zs.length=s) (hr:(els++rest).length≥n*s):
    ∃ rest',rowPut (rowPut (els++rest) (0+i*s) (els.drop ((i+1)*s))) (0+(i+(n - (i+1)))*s) zs=(els.take (i*s)++els.drop ((i+1)*s))++rest'∧((els.take (i*s)++els.drop ((i+1)*s))++rest').length=(els++rest).length:=by
  have h1:(i+1)*s≤n*s:=Nat.mul_le_mul_right _ hi
  have h2:i*s+s=(i+1)*s:=by rw [Nat.succ_mul]
  have h3:(i+(n - (i+1)))*s+s=n*s:=by rw [← Nat.succ_mul];congr 1;omega
  have h4:i*s≤(i+(n - (i+1)))*s:=Nat.mul_le_mul_right _ (by omega)
  have e1:rowPut (els++rest) (0+i*s) (els.drop ((i+1)*s))=(els.take (i*s)++els.drop ((i+1)*s))++(els++rest).drop (n*s - s):=by
    unfold rowPut
    rw [Nat.zero_add,List.take_append_of_le_length (by omega),List.length_drop,hl,List.append_assoc]
    congr 3
    omega
  have e2:(els.take (i*s)++els.drop ((i+1)*s)).length=n*s - s:=by
    rw [List.length_append,List.length_take,List.length_drop,hl];omega
  rw [e1]
  generalize els.take (i*s)++els.drop ((i+1)*s)=L at e2 ⊢
  have e3:(i+(n - (i+1)))*s=L.length:=by omega
  refine⟨zs++(els++rest).drop (n*s),?_,?_⟩
  · unfold rowPut
    rw [Nat.zero_add,e3,List.take_left',hz,List.drop_append,List.drop_drop,List.drop_of_length_le (by omega),List.nil_append]
    · congr 3
      omega
    · rfl
  · rw [List.length_append,e2,List.length_append,hz,List.length_drop]
    omega
def zn (fuel:Nat) (x0:(List D.Packet)) (x1:Int) (x2:Int):Option ((List D.Packet)):=if decide (0≤x1∧x2=x1+1∧x1<(x0.length:Int)∧(x0.length:Int)≤4294967296)=true then some (x0.eraseIdx x1.toNat) else none
set_option maxRecDepth 100000 in
theorem z3m {W w:World}{RR:List Res}{q:Option Addr}{o:Nat}{x0:(List D.Packet)}{x1 x2:Int}(hS:St W w (Own ty27 [.slice q x0.length o] x0::RR)){fuel:Nat}{r:(List D.Packet)}(hm:zn fuel x0 x1 x2=some r):
    Calls Try.prog 66 ⟨[.slice q x0.length o,.int .i64 x1,.int .i64 x2]⟩ w (Ret fun v w8=>∃ A0 k0,v=.slice A0 r.length k0∧St W w8 (Own ty27 [.slice A0 r.length k0] r::RR)):=by
  unfold zn at hm
  by_cases hk:decide (0≤x1∧x2=x1+1∧x1<(x0.length:Int)∧(x0.length:Int)≤4294967296)=true
  case neg=>rw [if_neg hk] at hm;cases hm
  rw [if_pos hk] at hm
  obtain⟨h0,rfl,h1,h2⟩:=of_decide_eq_true hk
  obtain⟨i,rfl⟩:∃ i:Nat,x1=(i:Int):=⟨x1.toNat,by omega⟩
  rw [Int.toNat_natCast] at hm
  cases hm
  obtain⟨_,g,els,rest,rfl,hB,g1,g2,g3,g4⟩:=hS.openSlR z5X (by rintro rfl;simp at h1;omega)
  have hel:=g4.length
  have z:ty77.size=3:=rfl
  rw [z] at hel g3
  have hi:i<x0.length:=by omega
  rw [show(i:Int)+1=((i+1:Nat):Int) from rfl]
  refine Calls.into Try.func66 rfl 33 rfl rfl _ rfl ?_
  refine WP.seq ?_
  refine WP.region ?_
  refine RW.run ttok 1 rfl ?_
  refine RW.nil ?_
  refine WP.seq ?_
  refine WP.region ?_
  refine RW.run ttok 5 rfl ?_
  refine RW.quiet rfl (Quiet.slice3 ttok (l:=i) (h:=i+1) (m:=x0.length) rfl rfl rfl rfl rfl rfl rfl rfl (by omega) (by omega) g1) rfl rfl ?_
  refine RW.nil ?_
  refine WP.seq ?_
  refine WP.seq ?_
  refine WP.region ?_
  refine RW.run ttok 3 rfl ?_
  refine RW.nil ?_
  refine WP.cond false (by show((some (Value.bool ((i:Int) == ((i+1:Nat):Int))))=some (.bool false));rw [show((i:Int) == ((i+1:Nat):Int))=false by simp;omega]) (fun hc=>by cases hc) (fun _=>?_)
  refine WP.skip ?_
  refine WP.seq ?_
  refine WP.region ?_
  refine RW.run ttok 3 rfl ?_
  refine RW.nil ?_
  refine WP.seq ?_
  refine WP.drawnM 64 mixed 8 (by kernel_rfl) (by kernel_rfl) [([],255),([],255),([0,1],252),([],255),([],255),([3,4],231),([2,5],219),([6,6,0,1,2,3,4,5,6],182)] (by kernel_rfl) hB.ext (fun hsk1=>?_)
  have hB2:=hB.step (Ext.draw _)
  refine DM.run (fuel:=4) ttok hsk1 [0,1,3,4] 27 (by kernel_rfl) (by kernel_rfl) rfl ?_
  refine DM.quiet hsk1 2 31 (by kernel_rfl) (by kernel_rfl) (by kernel_rfl) (by kernel_rfl) rfl (by kernel_rfl) rfl (Quiet.sliceV ttok (l:=0) (h:=i) rfl rfl rfl rfl rfl (.inl ⟨rfl,rfl⟩) (.inr ⟨_,_,rfl,rfl⟩) (Nat.zero_le _) (by omega)) rfl rfl ?_
  refine DM.know (u:=.slice (some ⟨g,0,none⟩) i o) 22 rfl (by rw [z6v];rfl) ?_
  refine DM.quiet hsk1 5 63 (by kernel_rfl) (by kernel_rfl) (by kernel_rfl) (by kernel_rfl) rfl (by kernel_rfl) rfl (Quiet.sliceV ttok (l:=i+1) (h:=x0.length) rfl rfl rfl rfl rfl (.inr ⟨_,_,rfl,rfl⟩) (.inl ⟨rfl,rfl⟩) (by omega) g1) rfl rfl ?_
  obtain⟨a,ha,hat⟩:∃ a,cutA (some ⟨g,0,none⟩) o (i+1) 3=some a∧At { w with drawn:=w.drawn+1 } a (els.drop ((i+1)*3)):=by
    by_cases y:o=i+1
    · refine⟨⟨g,0,none⟩,by unfold cutA;rw [if_pos y],fun j u hu=>?_⟩
      rw [List.drop_of_length_le (by omega)] at hu
      simp at hu
    · refine⟨⟨g,0+(i+1)*3,none⟩,z3Y y,?_⟩
      have h9:=(hB2.rowAt (0+(i+1)*3)).take (els.drop ((i+1)*3)).length
      rw [Nat.zero_add,List.drop_append_of_le_length (by omega),List.take_left' rfl] at h9
      rw [Nat.zero_add]
      exact h9
  refine DM.know (u:=.slice (some a) (x0.length - (i+1)) (o - (i+1))) 25 rfl (by show Value.slice (cutA (some ⟨g,0,none⟩) o (i+1) 3) _ _=_;rw [ha]) ?_
  refine DM.one hsk1 6 (by kernel_rfl) (LM.appendBox ttok hB2 hsk1 127 (by kernel_rfl) (by kernel_rfl) rfl rfl rfl rfl rfl rfl rfl rfl hat (by show _=_*3;rw [List.length_drop];omega) (by omega) (by show 0+i*3+_≤_;rw [List.length_drop,List.length_append];omega) (fun v hv=>z8z g4 v (List.mem_of_mem_drop hv)) rfl rfl (fun w3 hB3=>?_))
  have hB3':St W w3 (Box g (rowPut (els++rest) (0+i*3) (els.drop ((i+1)*3))) 77::RR):=hB3
  refine DM.run (fuel:=0) ttok hsk1 [7] 255 (by kernel_rfl) (by kernel_rfl) rfl ?_
  refine DM.done hsk1 (by kernel_rfl) ?_
  refine WP.seq ?_
  refine WP.region ?_
  refine RW.run ttok 4 rfl ?_
  refine RW.quiet rfl (Quiet.sliceV ttok (l:=i+(x0.length - (i+1))) (h:=x0.length) rfl rfl rfl rfl rfl (.inr ⟨_,_,rfl,rfl⟩) (.inr ⟨_,_,rfl,rfl⟩) (by omega) g1) rfl rfl ?_
  refine RW.know (u:=.slice (some ⟨g,0+(i+(x0.length - (i+1)))*3,none⟩) 1 (o - (i+(x0.length - (i+1))))) 31 rfl (by show Value.slice (cutA (some ⟨g,0,none⟩) o (i+(x0.length - (i+1))) 3) _ _=_;rw [z3Y (by omega),show x0.length - (i+(x0.length - (i+1)))=1 by omega]) ?_
  have hlen:(rowPut (els++rest) (0+i*3) (els.drop ((i+1)*3))).length=(els++rest).length:=z5M (by rw [List.length_drop,List.length_append];omega)
  refine RW.clearBox ttok hB3' rfl rfl rfl rfl rfl rfl (by show _+3≤_;omega) (z5W (by kernel_rfl)) rfl (fun w4 hB4=>?_)
  refine RW.nil ?_
  refine WP.seq ?_
  refine WP.region ?_
  refine RW.run ttok 2 rfl ?_
  refine RW.nil ?_
  refine WP.ret ?_
  obtain⟨rest',r1,r2⟩:=z8o (els:=els) (rest:=rest) (zs:=[.bool false,.int .i64 0,.string ⟨#[]⟩]) hel hi rfl (by rw [List.length_append];omega)
  have hB5:St W w4 (Box g ((els.take (i*3)++els.drop ((i+1)*3))++rest') 77::RR):=by rw [← r1];exact hB4
  have hx:x0.eraseIdx i=x0.take i++x0.drop (i+1):=List.eraseIdx_eq_take_drop_succ x0 i
  have hle:(x0.eraseIdx i).length=i+(x0.length - (i+1)):=by rw [hx,List.length_append,List.length_take,List.length_drop];omega
  have h5:=g4.els (Reads.req hS.ext)
  have h6:ElsO ty77 w4 (els.take (i*3)++els.drop ((i+1)*3)) (x0.eraseIdx i) []:=by
    rw [hx]
    exact((((h5.take i (by omega)).flat z5X).append ((h5.drop (i+1) (by omega)).flat z5X)):ElsO ty77 w _ _ ([]++[])).any
  exact⟨_,.cons (.tmp rfl) .nil,some ⟨g,0,none⟩,o,by rw [hle];rfl,hB5.shutSl (by omega) g2 (by rw [r2];exact g3) h6⟩
end Go.E


namespace Go.E
open Go.RowKit Go.Proofs
set_option linter.unusedVariables false
set_option linter.unusedSimpArgs false

theorem z4C {c1 es c2 cs:List Value}{d:Nat}(hd:d=c1.length) (h:es.length=cs.length):rowPut (c1++(es++c2)) d cs=c1++(cs++c2):=by
  subst hd
  have e1:(c1++(es++c2)).take c1.length=c1:=List.take_left' rfl
  have e2:(c1++(es++c2)).drop (c1.length+cs.length)=c2:=by
    rw [← h,← List.append_assoc]
    exact List.drop_left' (by simp)
  unfold rowPut
  rw [e1,e2]
theorem z7F {pre a b rest ys:List Value}{s:Nat}(hy:ys.length=s) (hr:s≤rest.length):
    rowPut (rowPut (pre++((a++b)++rest)) (pre.length+(a.length+s)) b) (pre.length+a.length) ys=pre++((a++(ys++b))++rest.drop s):=by
  have e0:b++rest=(b++rest).take s++(((b++rest).drop s).take b.length++rest.drop s):=by
    have h1:(b++rest).drop (s+b.length)=rest.drop s:=by
      rw [Nat.add_comm,← List.drop_drop,List.drop_left']
      rfl
    rw [← h1,← List.drop_drop,List.take_append_drop,List.take_append_drop]
  have hx:((b++rest).take s).length=s:=by rw [List.length_take,List.length_append];omega
  have hz:(((b++rest).drop s).take b.length).length=b.length:=by rw [List.length_take,List.length_drop,List.length_append];omega
  generalize (b++rest).take s=X at e0 hx
  generalize ((b++rest).drop s).take b.length=Y at e0 hz
  have e1:pre++((a++b)++rest)=(pre++(a++X))++(Y++rest.drop s):=by
    rw [List.append_assoc a,e0]
    simp [List.append_assoc]
  rw [e1,z4C (by simp [hx]) hz]
  have e2:(pre++(a++X))++(b++rest.drop s)=(pre++a)++(X++(b++rest.drop s)):=by simp [List.append_assoc]
  rw [e2,z4C (by simp) (by rw [hx,hy])]
  simp [List.append_assoc]
theorem z7G {a b zs rs ys:List Value}{s:Nat}(hy:ys.length=s) (hz:zs.length=s+b.length):
    rowPut (rowPut (a++(zs++rs)) (0+a.length) ys) (0+(a.length+s)) b=[]++((a++(ys++b))++rs):=by
  have e0:zs=zs.take s++zs.drop s:=(List.take_append_drop s zs).symm
  have h1:(zs.take s).length=s:=by rw [List.length_take];omega
  have h2:(zs.drop s).length=b.length:=by rw [List.length_drop];omega
  generalize zs.take s=z1 at e0 h1
  generalize zs.drop s=z2 at e0 h2
  subst e0
  rw [show a++((z1++z2)++rs)=a++(z1++(z2++rs)) by simp [List.append_assoc],z4C (by simp) (by rw [h1,hy])]
  rw [show a++(ys++(z2++rs))=(a++ys)++(z2++rs) by simp [List.append_assoc],z4C (by simp [hy]) h2]
  simp [List.append_assoc]
theorem z8i {pre els rest ys:List Value}{s:Nat}(hy:ys.length=s) (hr:s≤rest.length):rowPut (pre++(els++rest)) (pre.length+els.length) ys=pre++((els++ys)++rest.drop s):=by
  rw [← List.append_assoc,← List.take_append_drop s rest,z4C (by simp) (by rw [List.length_take];omega)]
  rw [List.take_append_drop]
  simp [List.append_assoc]
end Go.E


