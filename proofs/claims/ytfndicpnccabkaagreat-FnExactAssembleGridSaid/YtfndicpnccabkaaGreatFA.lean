/- Models of functions and proofs that the code runs as they say (written by program). Conditions: the model gives a value. -/
import Derived.Test.YtfndicpnccabkaaGreatField
namespace Go.E
open Go.RowKit Go.Proofs
set_option linter.unusedVariables false
set_option linter.unusedSimpArgs false
set_option maxHeartbeats 2000000
set_option maxRecDepth 100000

theorem zkr:Enters Tryz.prog 217:=⟨_,_,Tryz.func217,rfl,by kernel_rfl⟩
def z2X (fuel:Nat) (x0:D.Agent):Option (Int):=(if(x0.Kind == 9)=true then some (w64 ((x0.Ports.length:Int) - 1)) else some 0)

theorem zbN {W:Base}{w:World}(hE:Ext W w){G:Addr}{o:List Value}{x0:D.Agent}(H:z6b.ro W o x0) (q:At W G o){fuel:Nat}{r:Int}(hm:z2X fuel x0=some r):
  Calls Tryz.prog 217 ⟨[.pointer (some G)]⟩ w (Ret fun v w8=>v=.int .i64 r∧St w w8 []):=by
 obtain⟨A1,k2,A4,k5,e7,h3,h6⟩:=zU H;subst e7;refine into Tryz.func217 14 _ ?_;unfold z2X at hm;have hS:=St.start w;refine sq<|rg<|rr 1 ?_;refine rn<|sq<|sq<|rg<|rr 3 ?_;refine l1 (At.ext (hE.trans hS.ext) q) 0 ?_;refine rr 1 ?_;refine rn<|ci hm (fun hm=>?_) (fun hm=>?_)
 ·refine sq<|rg<|rr 3 ?_;refine l1 (At.ext (hE.trans hS.ext) q) 4 ?_;refine rr 3 ?_;refine rn<|rt ?_;cases hm;exact⟨_,.cons (.tmp rfl) .nil,rfl,hS⟩
 ·refine sp<|sq<|rg<|rr 1 ?_;refine rn<|rt ?_;cases hm;exact⟨_,.cons (.tmp rfl) .nil,rfl,hS⟩

theorem z5x:Enters Tryz.prog 65:=⟨_,_,Tryz.func65,rfl,by kernel_rfl⟩
def zF (fuel:Nat) (x0:Int) (x1:Int) (x2:Int):Option (Bool):=(if(decide (x0≥x1))=true then some (decide (x0≤x2)) else some false)

theorem zW {W:Base}{w:World}(hE:Ext W w){x0:Int}{x1:Int}{x2:Int}  {fuel:Nat}{r:Bool}(hm:zF fuel x0 x1 x2=some r):
  Calls Tryz.prog 65 ⟨[.int .i64 x0,.int .i64 x1,.int .i64 x2]⟩ w (Ret fun v w8=>v=.bool r∧St w w8 []):=by
 refine into Tryz.func65 15 _ ?_;unfold zF at hm;have hS:=St.start w;refine sq<|rg<|rr 1 ?_;refine rn<|sq<|rg<|rr 4 ?_;refine rb 10 hm (fun hm=>?_) (fun hm=>?_)
 ·refine rr 5 ?_;refine rn<|rt ?_;cases hm;exact⟨_,.cons (.tmp rfl) .nil,rfl,hS⟩
 ·refine rr 5 ?_;refine rn<|rt ?_;cases hm;exact⟨_,.cons (.tmp rfl) .nil,rfl,hS⟩

theorem zks:Enters Tryz.prog 216:=⟨_,_,Tryz.func216,rfl,by kernel_rfl⟩
def z54 (fuel:Nat) (o:Bool):Option Int:=(if o=true then some 3 else some 0)
def z52 (fuel:Nat) (o:Bool):Option Int:=z54 fuel o
def z51 (fuel:Nat) (o:Bool):Option Int:=z52 fuel o
def z56 (fuel:Nat) (x0:Int) (o:Bool):Option Int:=(if o=true then some 2 else(if(x0 == 2)=true then z54 fuel (x0 == 2) else(if(x0 == 3)=true then z52 fuel (x0 == 3) else(if(x0 == 4)=true then z51 fuel (x0 == 4) else z51 fuel (x0 == 7)))))
def z4Z (fuel:Nat) (x0:Int) (o:Bool):Option Int:=z56 fuel x0 o
def z58 (fuel:Nat) (x0:Int) (o:Bool):Option Int:=(if o=true then some 1 else(if(x0 == 8)=true then z56 fuel x0 (x0 == 8) else(if(x0 == 10)=true then z4Z fuel x0 (x0 == 10) else z4Z fuel x0 (x0 == 11))))
def z4Y (fuel:Nat) (x0:Int) (o:Bool):Option Int:=z58 fuel x0 o
def z4X (fuel:Nat) (x0:Int) (o:Bool):Option Int:=z4Y fuel x0 o
def z4C (fuel:Nat) (x0:Int) (x1:Int):Option (Int):=(if(x0 == 9)=true then((zF fuel x1 0 3).bind fun r1=>(if r1=true then some (w64 (1+x1)) else some 0)) else(if(x1 != 0)=true then some 0 else(if(x0 == 1)=true then z58 fuel x0 (x0 == 1) else(if(x0 == 5)=true then z4Y fuel x0 (x0 == 5) else(if(x0 == 6)=true then z4X fuel x0 (x0 == 6) else z4X fuel x0 (x0 == 12))))))

theorem zd5 {W:Base}{w:World}(hE:Ext W w){x0:Int}{x1:Int}  {fuel:Nat}{r:Int}(hm:z4C fuel x0 x1=some r):
  Calls Tryz.prog 216 ⟨[.int .i64 x0,.int .i64 x1]⟩ w (Ret fun v w8=>v=.int .i64 r∧St w w8 []):=by
 refine into Tryz.func216 28 _ ?_;unfold z4C at hm;have hS:=St.start w;refine sq<|rg<|rr 1 ?_;refine rn<|sq<|sq<|rg<|rr 2 ?_;refine rn<|ci hm (fun hm=>?_) (fun hm=>?_)
 ·refine sq<|sq<|rg<|rr 1 ?_;obtain⟨r1,E0,hm⟩:=bS hm;refine ca z5x (zW (hE.trans hS.ext)  E0) (fun v3 w4 C0=>?_);obtain⟨rfl,D0⟩:=C0;have u0:=hS.join D0;refine rn<|ci hm (fun hm=>?_) (fun hm=>?_)
  ·refine sq<|rg<|rr 3 ?_;refine rn<|rt ?_;cases hm;exact⟨_,.cons (.tmp rfl) .nil,rfl,u0⟩
  ·refine sp<|sq<|rg<|rr 1 ?_;refine rn<|rt ?_;cases hm;exact⟨_,.cons (.tmp rfl) .nil,rfl,u0⟩
 ·refine sp<|sq<|sq<|rg<|rr 2 ?_;refine rn<|ci hm (fun hm=>?_) (fun hm=>?_)
  ·refine sq<|rg<|rr 1 ?_;refine rn<|rt ?_;cases hm;exact⟨_,.cons (.tmp rfl) .nil,rfl,hS⟩
  ·refine sp<|sq<|sq<|rg<|rr 1 ?_;refine rn<|bk<|sq<|sq<|rg<|rr 2 ?_;refine rn<|ct (fun(p0:Bool) F w9=>z58 fuel x0 p0=some r∧Ext w w9∧St w w9 []∧F=[(13,.int .i64 x0),(14,.bool p0)]) ?_ ?_
   ·rintro p0 F v0 ⟨hm,y0,q,rfl⟩;unfold z58 at hm;refine ci hm (fun hm=>?_) (fun hm=>?_)
    ·refine sq<|rg<|rr 1 ?_;refine rn<|rt ?_;cases hm;exact⟨_,.cons (.tmp rfl) .nil,rfl,q⟩
    ·refine sq<|sq<|rg<|rr 2 ?_;refine rn<|ct (fun(q0:Bool) F w9=>z56 fuel x0 q0=some r∧Ext v0 w9∧St w w9 []∧F=[(13,.int .i64 x0),(19,.bool q0)]) ?_ ?_
     ·rintro q0 F t0 ⟨hm,A0,o,rfl⟩;unfold z56 at hm;refine ci hm (fun hm=>?_) (fun hm=>?_)
      ·refine sq<|rg<|rr 1 ?_;refine rn<|rt ?_;cases hm;exact⟨_,.cons (.tmp rfl) .nil,rfl,o⟩
      ·refine sq<|sq<|rg<|rr 2 ?_;refine rn<|ct (fun(r0:Bool) F w9=>z54 fuel r0=some r∧Ext t0 w9∧St w w9 []∧F=[(23,.bool r0)]) ?_ ?_
       ·rintro r0 F F0 ⟨hm,B0,G,rfl⟩;unfold z54 at hm;refine ci hm (fun hm=>?_) (fun hm=>?_)
        ·refine sq<|rg<|rr 1 ?_;refine rn<|rt ?_;cases hm;exact⟨_,.cons (.tmp rfl) .nil,rfl,G⟩
        ·refine sp<|sq<|rg<|rr 1 ?_;refine rn<|rt ?_;cases hm;exact⟨_,.cons (.tmp rfl) .nil,rfl,G⟩
       ·refine ci hm (fun hm=>?_) (fun hm=>?_)
        ·refine sp ?_;exact⟨(x0 == 2),_,⟨hm,(Ext.refl _),o,rfl⟩,rfl⟩
        ·refine sq<|rg<|rr 2 ?_;refine rn<|ct (fun(H:Bool) F w9=>z52 fuel H=some r∧Ext t0 w9∧St w w9 []∧F=[(23,.bool H)]) ?_ ?_
         ·rintro H F G0 ⟨hm,a0,g0,rfl⟩;unfold z52 at hm;exact⟨H,_,⟨hm,a0,g0,rfl⟩,rfl⟩
         ·refine ci hm (fun hm=>?_) (fun hm=>?_)
          ·refine sp ?_;exact⟨(x0 == 3),_,⟨hm,(Ext.refl _),o,rfl⟩,rfl⟩
          ·refine sq<|rg<|rr 2 ?_;refine rn<|ct (fun(O:Bool) F w9=>z51 fuel O=some r∧Ext t0 w9∧St w w9 []∧F=[(23,.bool O)]) ?_ ?_
           ·rintro O F H0 ⟨hm,b0,i0,rfl⟩;unfold z51 at hm;exact⟨O,_,⟨hm,b0,i0,rfl⟩,rfl⟩
           ·refine ci hm (fun hm=>?_) (fun hm=>?_)
            ·refine sp ?_;exact⟨(x0 == 4),_,⟨hm,(Ext.refl _),o,rfl⟩,rfl⟩
            ·refine rg<|rr 2 ?_;refine rn ?_;exact⟨(x0 == 7),_,⟨hm,(Ext.refl _),o,rfl⟩,rfl⟩
     ·refine ci hm (fun hm=>?_) (fun hm=>?_)
      ·refine sp ?_;exact⟨(x0 == 8),_,⟨hm,(Ext.refl _),q,rfl⟩,rfl⟩
      ·refine sq<|rg<|rr 2 ?_;refine rn<|ct (fun(X:Bool) F w9=>z4Z fuel x0 X=some r∧Ext v0 w9∧St w w9 []∧F=[(13,.int .i64 x0),(19,.bool X)]) ?_ ?_
       ·rintro X F J0 ⟨hm,c0,j0,rfl⟩;unfold z4Z at hm;exact⟨X,_,⟨hm,c0,j0,rfl⟩,rfl⟩
       ·refine ci hm (fun hm=>?_) (fun hm=>?_)
        ·refine sp ?_;exact⟨(x0 == 10),_,⟨hm,(Ext.refl _),q,rfl⟩,rfl⟩
        ·refine rg<|rr 2 ?_;refine rn ?_;exact⟨(x0 == 11),_,⟨hm,(Ext.refl _),q,rfl⟩,rfl⟩
   ·refine ci hm (fun hm=>?_) (fun hm=>?_)
    ·refine sp ?_;exact⟨(x0 == 1),_,⟨hm,(Ext.refl _),hS,rfl⟩,rfl⟩
    ·refine sq<|rg<|rr 2 ?_;refine rn<|ct (fun(Y:Bool) F w9=>z4Y fuel x0 Y=some r∧Ext w w9∧St w w9 []∧F=[(13,.int .i64 x0),(14,.bool Y)]) ?_ ?_
     ·rintro Y F K0 ⟨hm,e0,k0,rfl⟩;unfold z4Y at hm;exact⟨Y,_,⟨hm,e0,k0,rfl⟩,rfl⟩
     ·refine ci hm (fun hm=>?_) (fun hm=>?_)
      ·refine sp ?_;exact⟨(x0 == 5),_,⟨hm,(Ext.refl _),hS,rfl⟩,rfl⟩
      ·refine sq<|rg<|rr 2 ?_;refine rn<|ct (fun(Z:Bool) F w9=>z4X fuel x0 Z=some r∧Ext w w9∧St w w9 []∧F=[(13,.int .i64 x0),(14,.bool Z)]) ?_ ?_
       ·rintro Z F L0 ⟨hm,f0,o0,rfl⟩;unfold z4X at hm;exact⟨Z,_,⟨hm,f0,o0,rfl⟩,rfl⟩
       ·refine ci hm (fun hm=>?_) (fun hm=>?_)
        ·refine sp ?_;exact⟨(x0 == 6),_,⟨hm,(Ext.refl _),hS,rfl⟩,rfl⟩
        ·refine rg<|rr 2 ?_;refine rn ?_;exact⟨(x0 == 12),_,⟨hm,(Ext.refl _),hS,rfl⟩,rfl⟩

theorem zka:Enters Tryz.prog 242:=⟨_,_,Tryz.func242,rfl,by kernel_rfl⟩
def z4n (fuel:Nat) (t1:Bool):Option Bool:=(if t1=true then some true else some false)
def z4m (fuel:Nat) (t6:Bool):Option Bool:=z4n fuel t6
def z4k (fuel:Nat) (o:Bool):Option Bool:=z4m fuel o
def z4j (fuel:Nat) (o:Bool):Option Bool:=z4k fuel o
def z4i (fuel:Nat) (o:Bool):Option Bool:=z4j fuel o
def z4h (fuel:Nat) (o:Bool):Option Bool:=z4i fuel o
def z4g (fuel:Nat) (o:Bool):Option Bool:=z4h fuel o
def z4f (fuel:Nat) (o:Bool):Option Bool:=z4g fuel o
def z6k (fuel:Nat) (x0:Int):Option (Bool):=(if(x0 == 2)=true then z4n fuel (x0 == 2) else(if(x0 == 3)=true then z4m fuel (x0 == 3) else(if(x0 == 4)=true then z4k fuel (x0 == 4) else(if(x0 == 7)=true then z4j fuel (x0 == 7) else(if(x0 == 8)=true then z4i fuel (x0 == 8) else(if(x0 == 9)=true then z4h fuel (x0 == 9) else(if(x0 == 10)=true then z4g fuel (x0 == 10) else(if(x0 == 11)=true then z4f fuel (x0 == 11) else z4f fuel (x0 == 12)))))))))

theorem zcq {W:Base}{w:World}(hE:Ext W w){x0:Int}  {fuel:Nat}{r:Bool}(hm:z6k fuel x0=some r):
  Calls Tryz.prog 242 ⟨[.int .i64 x0]⟩ w (Ret fun v w8=>v=.bool r∧St w w8 []):=by
 refine into Tryz.func242 14 _ ?_;unfold z6k at hm;have hS:=St.start w;refine sq<|rg<|rr 1 ?_;refine rn<|sq<|sq<|rg<|rr 1 ?_;refine rn<|bk<|sq<|sq<|rg<|rr 2 ?_;refine rn<|ct (fun(t1:Bool) F w9=>z4n fuel t1=some r∧Ext w w9∧St w w9 []∧F=[(4,.bool t1)]) ?_ ?_
 ·rintro t1 F w4 ⟨hm,t0,q0,rfl⟩;unfold z4n at hm;refine ci hm (fun hm=>?_) (fun hm=>?_)
  ·refine sq<|rg<|rr 1 ?_;refine rn<|rt ?_;cases hm;exact⟨_,.cons (.tmp rfl) .nil,rfl,q0⟩
  ·refine sp<|sq<|rg<|rr 1 ?_;refine rn<|rt ?_;cases hm;exact⟨_,.cons (.tmp rfl) .nil,rfl,q0⟩
 ·refine ci hm (fun hm=>?_) (fun hm=>?_)
  ·refine sp ?_;exact⟨(x0 == 2),_,⟨hm,(Ext.refl _),hS,rfl⟩,rfl⟩
  ·refine sq<|rg<|rr 2 ?_;refine rn<|ct (fun(t6:Bool) F w9=>z4m fuel t6=some r∧Ext w w9∧St w w9 []∧F=[(4,.bool t6)]) ?_ ?_
   ·rintro t6 F u0 ⟨hm,r0,f0,rfl⟩;unfold z4m at hm;exact⟨t6,_,⟨hm,r0,f0,rfl⟩,rfl⟩
   ·refine ci hm (fun hm=>?_) (fun hm=>?_)
    ·refine sp ?_;exact⟨(x0 == 3),_,⟨hm,(Ext.refl _),hS,rfl⟩,rfl⟩
    ·refine sq<|rg<|rr 2 ?_;refine rn<|ct (fun(o:Bool) F w9=>z4k fuel o=some r∧Ext w w9∧St w w9 []∧F=[(4,.bool o)]) ?_ ?_
     ·rintro o F v0 ⟨hm,Y,g0,rfl⟩;unfold z4k at hm;exact⟨o,_,⟨hm,Y,g0,rfl⟩,rfl⟩
     ·refine ci hm (fun hm=>?_) (fun hm=>?_)
      ·refine sp ?_;exact⟨(x0 == 4),_,⟨hm,(Ext.refl _),hS,rfl⟩,rfl⟩
      ·refine sq<|rg<|rr 2 ?_;refine rn<|ct (fun(q:Bool) F w9=>z4j fuel q=some r∧Ext w w9∧St w w9 []∧F=[(4,.bool q)]) ?_ ?_
       ·rintro q F y0 ⟨hm,Z,i0,rfl⟩;unfold z4j at hm;exact⟨q,_,⟨hm,Z,i0,rfl⟩,rfl⟩
       ·refine ci hm (fun hm=>?_) (fun hm=>?_)
        ·refine sp ?_;exact⟨(x0 == 7),_,⟨hm,(Ext.refl _),hS,rfl⟩,rfl⟩
        ·refine sq<|rg<|rr 2 ?_;refine rn<|ct (fun(G:Bool) F w9=>z4i fuel G=some r∧Ext w w9∧St w w9 []∧F=[(4,.bool G)]) ?_ ?_
         ·rintro G F A0 ⟨hm,a0,j0,rfl⟩;unfold z4i at hm;exact⟨G,_,⟨hm,a0,j0,rfl⟩,rfl⟩
         ·refine ci hm (fun hm=>?_) (fun hm=>?_)
          ·refine sp ?_;exact⟨(x0 == 8),_,⟨hm,(Ext.refl _),hS,rfl⟩,rfl⟩
          ·refine sq<|rg<|rr 2 ?_;refine rn<|ct (fun(H:Bool) F w9=>z4h fuel H=some r∧Ext w w9∧St w w9 []∧F=[(4,.bool H)]) ?_ ?_
           ·rintro H F B0 ⟨hm,b0,k0,rfl⟩;unfold z4h at hm;exact⟨H,_,⟨hm,b0,k0,rfl⟩,rfl⟩
           ·refine ci hm (fun hm=>?_) (fun hm=>?_)
            ·refine sp ?_;exact⟨(x0 == 9),_,⟨hm,(Ext.refl _),hS,rfl⟩,rfl⟩
            ·refine sq<|rg<|rr 2 ?_;refine rn<|ct (fun(O:Bool) F w9=>z4g fuel O=some r∧Ext w w9∧St w w9 []∧F=[(4,.bool O)]) ?_ ?_
             ·rintro O F C0 ⟨hm,c0,o0,rfl⟩;unfold z4g at hm;exact⟨O,_,⟨hm,c0,o0,rfl⟩,rfl⟩
             ·refine ci hm (fun hm=>?_) (fun hm=>?_)
              ·refine sp ?_;exact⟨(x0 == 10),_,⟨hm,(Ext.refl _),hS,rfl⟩,rfl⟩
              ·refine sq<|rg<|rr 2 ?_;refine rn<|ct (fun(X:Bool) F w9=>z4f fuel X=some r∧Ext w w9∧St w w9 []∧F=[(4,.bool X)]) ?_ ?_
               ·rintro X F D0 ⟨hm,e0,p0,rfl⟩;unfold z4f at hm;exact⟨X,_,⟨hm,e0,p0,rfl⟩,rfl⟩
               ·refine ci hm (fun hm=>?_) (fun hm=>?_)
                ·refine sp ?_;exact⟨(x0 == 11),_,⟨hm,(Ext.refl _),hS,rfl⟩,rfl⟩
                ·refine rg<|rr 2 ?_;refine rn ?_;exact⟨(x0 == 12),_,⟨hm,(Ext.refl _),hS,rfl⟩,rfl⟩

theorem zk9:Enters Tryz.prog 243:=⟨_,_,Tryz.func243,rfl,by kernel_rfl⟩
def z84 (fuel:Nat) (x0:Int):Option (Bool):=((zF fuel x0 1 12).bind fun r1=>some r1)

theorem zd4 {W:Base}{w:World}(hE:Ext W w){x0:Int}  {fuel:Nat}{r:Bool}(hm:z84 fuel x0=some r):
  Calls Tryz.prog 243 ⟨[.int .i64 x0]⟩ w (Ret fun v w8=>v=.bool r∧St w w8 []):=by
 refine into Tryz.func243 5 _ ?_;unfold z84 at hm;have hS:=St.start w;refine sq<|rg<|rr 1 ?_;refine rn<|sq<|rg<|rr 1 ?_;obtain⟨r1,H,hm⟩:=bS hm;refine ca z5x (zW (hE.trans hS.ext)  H) (fun v3 w4 o=>?_);obtain⟨rfl,q⟩:=o;have G:=hS.join q;refine rr 1 ?_;refine rn<|rt ?_;cases hm;exact⟨_,.cons (.tmp rfl) .nil,rfl,G⟩

theorem zkq:Enters Tryz.prog 218:=⟨_,_,Tryz.func218,rfl,by kernel_rfl⟩
def z6j (fuel:Nat) (x0:Int) (x1:Int):Option (Bool):=((z6k fuel x0).bind fun r1=>(if r1=true then((zF fuel x1 0 8).bind fun o=>some o) else((z84 fuel x0).bind fun q=>(if q=true then some (x1 == 0) else some false))))

theorem zcp {W:Base}{w:World}(hE:Ext W w){x0:Int}{x1:Int}  {fuel:Nat}{r:Bool}(hm:z6j fuel x0 x1=some r):
  Calls Tryz.prog 218 ⟨[.int .i64 x0,.int .i64 x1]⟩ w (Ret fun v w8=>v=.bool r∧St w w8 []):=by
 refine into Tryz.func218 15 _ ?_;unfold z6j at hm;have hS:=St.start w;refine sq<|rg<|rr 1 ?_;refine rn<|sq<|sq<|rg<|rr 1 ?_;obtain⟨r1,e0,hm⟩:=bS hm;refine ca zka (zcq (hE.trans hS.ext)  e0) (fun v3 w4 b0=>?_);obtain⟨rfl,c0⟩:=b0;have q:=hS.join c0;refine rn<|ci hm (fun hm=>?_) (fun hm=>?_)
 ·refine sq<|rg<|rr 1 ?_;obtain⟨f0,Z,hm⟩:=bS hm;refine ca z5x (zW (hE.trans q.ext)  Z) (fun i0 k0 G=>?_);obtain⟨rfl,H⟩:=G;have Y:=q.join H;refine rr 1 ?_;refine rn<|rt ?_;cases hm;exact⟨_,.cons (.tmp rfl) .nil,rfl,Y⟩
 ·refine sp<|sq<|rg<|rr 1 ?_;obtain⟨g0,a0,hm⟩:=bS hm;refine ca zk9 (zd4 (hE.trans q.ext)  a0) (fun j0 o0 O=>?_);obtain⟨rfl,X⟩:=O;have o:=q.join X;refine rr 1 ?_;refine rb 11 hm (fun hm=>?_) (fun hm=>?_)
  ·refine rr 4 ?_;refine rn<|rt ?_;cases hm;exact⟨_,.cons (.tmp rfl) .nil,rfl,o⟩
  ·refine rr 4 ?_;refine rn<|rt ?_;cases hm;exact⟨_,.cons (.tmp rfl) .nil,rfl,o⟩

theorem zgd:Enters Tryz.prog 244:=⟨_,_,Tryz.func244,rfl,by kernel_rfl⟩
def z6E (fuel:Nat) (x0:Int):Option (Bool):=((zF fuel x0 0 23).bind fun r1=>some r1)

theorem zaM {W:Base}{w:World}(hE:Ext W w){x0:Int}  {fuel:Nat}{r:Bool}(hm:z6E fuel x0=some r):
  Calls Tryz.prog 244 ⟨[.int .i64 x0]⟩ w (Ret fun v w8=>v=.bool r∧St w w8 []):=by
 refine into Tryz.func244 5 _ ?_;unfold z6E at hm;have hS:=St.start w;refine sq<|rg<|rr 1 ?_;refine rn<|sq<|rg<|rr 1 ?_;obtain⟨r1,H,hm⟩:=bS hm;refine ca z5x (zW (hE.trans hS.ext)  H) (fun v3 w4 o=>?_);obtain⟨rfl,q⟩:=o;have G:=hS.join q;refine rr 1 ?_;refine rn<|rt ?_;cases hm;exact⟨_,.cons (.tmp rfl) .nil,rfl,G⟩

theorem zkp:Enters Tryz.prog 219:=⟨_,_,Tryz.func219,rfl,by kernel_rfl⟩
def z6G (fuel:Nat) (o:Unit):Option Bool:=some true
def z2Z (fuel:Nat) (x0:D.Agent) (o:Int):Option (Rd (Int) (Unit) (Bool)):=(if(decide (o<(x0.Data.length:Int)))=true then((idx x0.Data o).bind fun G=>((z6E fuel G).bind fun q=>(if(!q)=true then some (.ret false) else some (.next (w64 (o+1)))))) else some (.brk ()))
def zv (fuel:Nat) (x0:D.Agent) (q:Bool):Option Bool:=(if q=true then some false else((iter (z2Z fuel x0) fuel 0).bind fun o=>aft o (z6G fuel)))
def z1m (fuel:Nat) (x0:D.Agent) (G:Bool):Option Bool:=(if G=true then(if(x0.Value != 0)=true then zv fuel x0 true else(if(x0.Kind == 11)=true then(if((x0.Data.length:Int) != 2)=true then zv fuel x0 true else(if(x0.Kind == 10)=true then((zF fuel (x0.Data.length:Int) 1 4).bind fun o=>zv fuel x0 (!o)) else zv fuel x0 false)) else(if(x0.Kind == 10)=true then((zF fuel (x0.Data.length:Int) 1 4).bind fun q=>zv fuel x0 (!q)) else zv fuel x0 false))) else(if(x0.Value == 0)=true then some ((x0.Data.length:Int) == 0) else some false))
def zB (fuel:Nat) (x0:D.Agent):Option (Bool):=(if(x0.Kind == 6)=true then(if((x0.Data.length:Int) == 0)=true then((zF fuel x0.Value (-2147483648) 2147483647).bind fun o=>some o) else some false) else(if(x0.Kind == 7)=true then(if((x0.Data.length:Int) == 0)=true then((zF fuel x0.Value 1 6).bind fun q=>some q) else some false) else(if(x0.Kind == 8)=true then(if((x0.Data.length:Int) == 1)=true then((zF fuel x0.Value 1 6).bind fun G=>(if G=true then((idx x0.Data 0).bind fun Y=>((zF fuel Y (-2147483648) 2147483647).bind fun H=>some H)) else some false)) else some false) else(if(x0.Kind == 9)=true then(if((x0.Data.length:Int) == 0)=true then((zF fuel x0.Value 0 3).bind fun O=>some O) else some false) else(if(x0.Kind == 12)=true then(if((x0.Data.length:Int) == 0)=true then((z6E fuel x0.Value).bind fun X=>some X) else some false) else(if(x0.Kind == 10)=true then z1m fuel x0 (x0.Kind == 10) else z1m fuel x0 (x0.Kind == 11)))))))

theorem zb8 {W:Base}{w:World}(hE:Ext W w){q0:Addr}{n1:List Value}{x0:D.Agent}(y1:z6b.ro W n1 x0) (G:At W q0 n1){fuel:Nat}{r:Bool}(hm:zB fuel x0=some r):
  Calls Tryz.prog 219 ⟨[.pointer (some q0)]⟩ w (Ret fun v w8=>v=.bool r∧St w w8 []):=by
 obtain⟨A1,k2,A4,k5,e7,h3,h6⟩:=zU y1;subst e7;refine into Tryz.func219 162 _ ?_;unfold zB at hm;have hS:=St.start w;refine sq<|rg<|rr 1 ?_;refine rn<|sq<|sq<|rg<|rr 3 ?_;refine l1 (At.ext (hE.trans hS.ext) G) 0 ?_;refine rn<|bk<|sq<|rg<|rr 2 ?_;refine rn<|ci hm (fun hm=>?_) (fun hm=>?_)
 ·refine sq<|rg<|rr 3 ?_;refine l1 (At.ext (hE.trans hS.ext) G) 3 ?_;refine rr 3 ?_;refine rb 16 hm (fun hm=>?_) (fun hm=>?_)
  ·refine rr 3 ?_;refine l1 (At.ext (hE.trans hS.ext) G) 2 ?_;obtain⟨P1,U0,hm⟩:=bS hm;refine ca z5x (zW (hE.trans hS.ext)  U0) (fun W1 f2 r0=>?_);obtain⟨rfl,t0⟩:=r0;have H0:=hS.join t0;refine rr 2 ?_;refine rn<|rt ?_;cases hm;exact⟨_,.cons (.tmp rfl) .nil,rfl,H0⟩
  ·refine rr 7 ?_;refine rn<|rt ?_;cases hm;exact⟨_,.cons (.tmp rfl) .nil,rfl,hS⟩
 ·refine sq<|rg<|rr 2 ?_;refine rn<|ci hm (fun hm=>?_) (fun hm=>?_)
  ·refine sq<|rg<|rr 3 ?_;refine l1 (At.ext (hE.trans hS.ext) G) 3 ?_;refine rr 3 ?_;refine rb 31 hm (fun hm=>?_) (fun hm=>?_)
   ·refine rr 3 ?_;refine l1 (At.ext (hE.trans hS.ext) G) 2 ?_;obtain⟨Q1,V0,hm⟩:=bS hm;refine ca z5x (zW (hE.trans hS.ext)  V0) (fun X1 g2 u0=>?_);obtain⟨rfl,v0⟩:=u0;have J0:=hS.join v0;refine rr 2 ?_;refine rn<|rt ?_;cases hm;exact⟨_,.cons (.tmp rfl) .nil,rfl,J0⟩
   ·refine rr 7 ?_;refine rn<|rt ?_;cases hm;exact⟨_,.cons (.tmp rfl) .nil,rfl,hS⟩
  ·refine sq<|rg<|rr 2 ?_;refine rn<|ci hm (fun hm=>?_) (fun hm=>?_)
   ·refine sq<|rg<|rr 3 ?_;refine l1 (At.ext (hE.trans hS.ext) G) 3 ?_;refine rr 3 ?_;refine rb 46 hm (fun hm=>?_) (fun hm=>?_)
    ·refine rr 3 ?_;refine l1 (At.ext (hE.trans hS.ext) G) 2 ?_;obtain⟨R1,X0,hm⟩:=bS hm;refine ca z5x (zW (hE.trans hS.ext)  X0) (fun Y1 i2 y0=>?_);obtain⟨rfl,A0⟩:=y0;have O:=hS.join A0;refine rr 2 ?_;refine rb 53 hm (fun hm=>?_) (fun hm=>?_)
     ·refine rr 3 ?_;refine l1 (At.ext (hE.trans O.ext) G) 3 ?_;obtain⟨q2,Y0,hm⟩:=bS hm;refine ix (hE.trans O.ext) h3 Y0 (fun N1 u1 O0 S0=>?_);cases S0;refine l1 (At.ext (hE.trans O.ext) O0) 0 ?_;obtain⟨S1,a1,hm⟩:=bS hm;refine ca z5x (zW (hE.trans O.ext)  a1) (fun a2 j2 B0=>?_);obtain⟨rfl,C0⟩:=B0;have K0:=O.join C0;refine rr 2 ?_;refine rn<|rt ?_;cases hm;exact⟨_,.cons (.tmp rfl) .nil,rfl,K0⟩
     ·refine rr 9 ?_;refine rn<|rt ?_;cases hm;exact⟨_,.cons (.tmp rfl) .nil,rfl,O⟩
    ·refine rr 16 ?_;refine rn<|rt ?_;cases hm;exact⟨_,.cons (.tmp rfl) .nil,rfl,hS⟩
   ·refine sq<|rg<|rr 2 ?_;refine rn<|ci hm (fun hm=>?_) (fun hm=>?_)
    ·refine sq<|rg<|rr 3 ?_;refine l1 (At.ext (hE.trans hS.ext) G) 3 ?_;refine rr 3 ?_;refine rb 70 hm (fun hm=>?_) (fun hm=>?_)
     ·refine rr 3 ?_;refine l1 (At.ext (hE.trans hS.ext) G) 2 ?_;obtain⟨T1,b1,hm⟩:=bS hm;refine ca z5x (zW (hE.trans hS.ext)  b1) (fun b2 m2 D0=>?_);obtain⟨rfl,E0⟩:=D0;have L0:=hS.join E0;refine rr 2 ?_;refine rn<|rt ?_;cases hm;exact⟨_,.cons (.tmp rfl) .nil,rfl,L0⟩
     ·refine rr 7 ?_;refine rn<|rt ?_;cases hm;exact⟨_,.cons (.tmp rfl) .nil,rfl,hS⟩
    ·refine sq<|rg<|rr 2 ?_;refine rn<|ci hm (fun hm=>?_) (fun hm=>?_)
     ·refine sq<|rg<|rr 3 ?_;refine l1 (At.ext (hE.trans hS.ext) G) 3 ?_;refine rr 3 ?_;refine rb 85 hm (fun hm=>?_) (fun hm=>?_)
      ·refine rr 3 ?_;refine l1 (At.ext (hE.trans hS.ext) G) 2 ?_;obtain⟨U1,d1,hm⟩:=bS hm;refine ca zgd (zaM (hE.trans hS.ext)  d1) (fun d2 n2 F0=>?_);obtain⟨rfl,G0⟩:=F0;have M0:=hS.join G0;refine rr 2 ?_;refine rn<|rt ?_;cases hm;exact⟨_,.cons (.tmp rfl) .nil,rfl,M0⟩
      ·refine rr 7 ?_;refine rn<|rt ?_;cases hm;exact⟨_,.cons (.tmp rfl) .nil,rfl,hS⟩
     ·refine sq<|sq<|rg<|rr 2 ?_;refine rn<|ct (fun(j1:Bool) F w9=>z1m fuel x0 j1=some r∧Ext w w9∧St w w9 []∧F=[(0,.pointer (some q0)),(92,.bool j1)]) ?_ ?_
      ·rintro j1 F L1 ⟨hm,B1,o,rfl⟩;unfold z1m at hm;refine ci hm (fun hm=>?_) (fun hm=>?_)
       ·refine sq<|sq<|ct (fun(m1:Bool) F w9=>zv fuel x0 m1=some r∧Ext L1 w9∧St w w9 []∧F=[(0,.pointer (some q0)),(130,.bool m1)]) ?_ ?_
        ·rintro m1 F t1 ⟨hm,C1,j0,rfl⟩;unfold zv at hm;refine ci hm (fun hm=>?_) (fun hm=>?_)
         ·refine sq<|rg<|rr 1 ?_;refine rn<|rt ?_;cases hm;exact⟨_,.cons (.tmp rfl) .nil,rfl,j0⟩
         ·refine sp<|sq<|sq<|rg<|rr 1 ?_;refine rn ?_;obtain⟨E1,Q0,hm⟩:=bS hm;refine ct (fun(s1:Unit) F w9=>E1=.inl s1∧Ext t1 w9∧St w w9 []∧F=[]) ?_ ?_
          ·rintro s1 F o2 ⟨R0,D1,N0,rfl⟩;subst R0;rw [z6] at hm;unfold z6G at hm;refine sq<|rg<|rr 1 ?_;refine rn<|rt ?_;cases hm;exact⟨_,.cons (.tmp rfl) .nil,rfl,N0⟩
          ·refine bk<|wk [0,3] ?_;refine it (fun(p1:Int) F w9=>Ext t1 w9∧St w w9 []∧F=[(0,.pointer (some q0)),(3,.int .i64 p1)]) Q0 ⟨(Ext.refl _),j0,rfl⟩ ?_;rintro p1 F p2 _ M1 ⟨b0,H,rfl⟩ q k0;unfold z2Z at q;refine sq<|sq<|rg<|rr 4 ?_;refine l1 (At.ext (hE.trans H.ext) G) 3 ?_;refine rr 2 ?_;refine rn<|ci q (fun q=>?_) (fun q=>?_)
           ·refine sp<|sq<|bk<|sq<|rg<|rr 3 ?_;refine l1 (At.ext (hE.trans H.ext) G) 3 ?_;refine rr 1 ?_;obtain⟨r2,e1,q⟩:=bS q;refine ix (hE.trans H.ext) h3 e1 (fun O1 v1 P0 T0=>?_);cases T0;refine l1 (At.ext (hE.trans H.ext) P0) 0 ?_;obtain⟨V1,f1,q⟩:=bS q;refine ca zgd (zaM (hE.trans H.ext)  f1) (fun e2 H1 c0=>?_);obtain⟨rfl,X⟩:=c0;have a0:=H.join X;refine rr 1 ?_;refine rn<|ci q (fun q=>?_) (fun q=>?_)
            ·refine sq<|rg<|rr 1 ?_;refine rn<|rt ?_;cases q;cases k0;have hm:some _=some _:=hm;cases hm;exact⟨_,.cons (.tmp rfl) .nil,rfl,a0⟩
            ·refine sp<|rg<|rr 3 ?_;refine rn ?_;cases q;exact⟨_,_,rfl,⟨(b0.trans X.ext),a0,rfl⟩,rfl⟩
           ·refine xt ?_;cases q;exact⟨_,_,⟨k0,b0,H,rfl⟩,rfl⟩
        ·refine rg<|rr 3 ?_;refine l1 (At.ext (hE.trans o.ext) G) 2 ?_;refine rr 2 ?_;refine rb 100 hm (fun hm=>?_) (fun hm=>?_)
         ·refine rr 30 ?_;refine rn ?_;exact⟨true,_,⟨hm,(Ext.refl _),o,rfl⟩,rfl⟩
         ·refine rr 3 ?_;refine l1 (At.ext (hE.trans o.ext) G) 0 ?_;refine rr 2 ?_;refine rb 106 hm (fun hm=>?_) (fun hm=>?_)
          ·refine rr 3 ?_;refine l1 (At.ext (hE.trans o.ext) G) 3 ?_;refine rr 5 ?_;refine rb 115 hm (fun hm=>?_) (fun hm=>?_)
           ·refine rr 15 ?_;refine rn ?_;exact⟨true,_,⟨hm,(Ext.refl _),o,rfl⟩,rfl⟩
           ·refine rr 3 ?_;refine l1 (At.ext (hE.trans o.ext) G) 0 ?_;refine rr 2 ?_;refine rb 121 hm (fun hm=>?_) (fun hm=>?_)
            ·refine rr 3 ?_;refine l1 (At.ext (hE.trans o.ext) G) 3 ?_;refine rr 1 ?_;obtain⟨g1,o0,hm⟩:=bS hm;refine ca z5x (zW (hE.trans o.ext)  o0) (fun F1 J1 e0=>?_);obtain⟨rfl,Y⟩:=e0;have g0:=o.join Y;refine rr 3 ?_;refine rn ?_;exact⟨!g1,_,⟨hm,Y.ext,g0,rfl⟩,rfl⟩
            ·refine rr 9 ?_;refine rn ?_;exact⟨false,_,⟨hm,(Ext.refl _),o,rfl⟩,rfl⟩
          ·refine rr 12 ?_;refine l1 (At.ext (hE.trans o.ext) G) 0 ?_;refine rr 2 ?_;refine rb 121 hm (fun hm=>?_) (fun hm=>?_)
           ·refine rr 3 ?_;refine l1 (At.ext (hE.trans o.ext) G) 3 ?_;refine rr 1 ?_;obtain⟨i1,p0,hm⟩:=bS hm;refine ca z5x (zW (hE.trans o.ext)  p0) (fun G1 K1 f0=>?_);obtain⟨rfl,Z⟩:=f0;have i0:=o.join Z;refine rr 3 ?_;refine rn ?_;exact⟨!i1,_,⟨hm,Z.ext,i0,rfl⟩,rfl⟩
           ·refine rr 9 ?_;refine rn ?_;exact⟨false,_,⟨hm,(Ext.refl _),o,rfl⟩,rfl⟩
       ·refine sp<|sq<|rg<|rr 3 ?_;refine l1 (At.ext (hE.trans o.ext) G) 2 ?_;refine rr 2 ?_;refine rb 154 hm (fun hm=>?_) (fun hm=>?_)
        ·refine rr 3 ?_;refine l1 (At.ext (hE.trans o.ext) G) 3 ?_;refine rr 4 ?_;refine rn<|rt ?_;cases hm;exact⟨_,.cons (.tmp rfl) .nil,rfl,o⟩
        ·refine rr 8 ?_;refine rn<|rt ?_;cases hm;exact⟨_,.cons (.tmp rfl) .nil,rfl,o⟩
      ·refine ci hm (fun hm=>?_) (fun hm=>?_)
       ·refine sp ?_;exact⟨(x0.Kind == 10),_,⟨hm,(Ext.refl _),hS,rfl⟩,rfl⟩
       ·refine rg<|rr 2 ?_;refine rn ?_;exact⟨(x0.Kind == 11),_,⟨hm,(Ext.refl _),hS,rfl⟩,rfl⟩

theorem zkP:Enters Tryz.prog 180:=⟨_,_,Tryz.func180,rfl,by kernel_rfl⟩
def z3G (fuel:Nat) (x0:D.Agent):Option (Bool):=((z2X fuel x0).bind fun q=>((z4C fuel x0.Kind q).bind fun o=>(if(decide (o>0))=true then(if((x0.Ports.length:Int) == o)=true then((z6j fuel x0.Kind x0.Level).bind fun G=>(if G=true then((zB fuel x0).bind fun H=>some H) else some false)) else some false) else some false)))

theorem zco {W:Base}{w:World}(hE:Ext W w){v0:Addr}{u0:List Value}{x0:D.Agent}(f0:z6b.ro W u0 x0) (X:At W v0 u0){fuel:Nat}{r:Bool}(hm:z3G fuel x0=some r):
  Calls Tryz.prog 180 ⟨[.pointer (some v0)]⟩ w (Ret fun v w8=>v=.bool r∧St w w8 []):=by
 obtain⟨A1,k2,A4,k5,e7,h3,h6⟩:=zU f0;subst e7;refine into Tryz.func180 37 _ ?_;unfold z3G at hm;have hS:=St.start w;refine sq<|rg<|rr 1 ?_;refine rn<|sq<|dn 0 mixed 8 [([],255),([0],254),([1],253),([2],251),([],255),([4],239),([3,5,5],215),([6,6,0,1,2,3,4,5,6],191)] hS.ext (fun q=>?_);have c0:=hS.step (Ext.draw _);refine dr 4 q [0,1,2,4] ?_;refine dl q 3 (At.ext (hE.trans hS.ext) X) 0 ?_;obtain⟨y0,p0,hm⟩:=bS hm;refine o1 q 5 (mc q zkr (zbN (hE.trans c0.ext) f0 X p0) (fun D0 H0 g0=>?_));obtain⟨rfl,Y⟩:=g0;refine⟨Y.ext,?_⟩;have e0:=c0.join Y;obtain⟨A0,q0,hm⟩:=bS hm;refine o1 q 6 (mc q zks (zd5 (hE.trans e0.ext)  q0) (fun E0 J0 i0=>?_));obtain⟨rfl,Z⟩:=i0;refine⟨Z.ext,?_⟩;have G:=e0.join Z;refine dr 0 q [7] ?_;refine dw [0,3] ?_;refine dd q ?_;refine sq<|dn 0 mixed 27 [([],134217727),([0],134217726),([1],134217725),([2],134217723),([3,2],134217715),([4,2],134217707),([5,2],134217691),([6,2],134217659),([2],134217723),([7,8,2],134217339),([2,9],134217211),([10,2],134216703),([11],134215679),([12,11],134211583),([13,11],134207487),([14,11],134199295),([11],134215679),([16,11],134150143),([17,11],134084607),([18,11],133953535),([15,19,11,11],133658623),([11,20],133167103),([21,20],132120575),([22],130023423),([23,22,22],121634815),([22,24],113246207),([25,24,0,1,2,3,4,5,6,7,8,9,10,11,12,13,14,15,16,17,18,19,20,21,22,23,24,25],100663295)] G.ext (fun o=>?_);have H:=G.step (Ext.draw _);refine dr 24 o [0,1,2] ?_;refine db 13 hm (fun hm=>?_) (fun hm=>?_)
 ·refine dr 20 o [3,4,5,8] ?_;refine dl o 6 (At.ext (hE.trans G.ext) X) 4 ?_;refine dr 15 o [7,9,10,11] ?_;refine dw [0,22] ?_;refine db 22 hm (fun hm=>?_) (fun hm=>?_)
  ·refine dr 9 o [12,13,14,16,17,18] ?_;refine dl o 15 (At.ext (hE.trans G.ext) X) 0 ?_;refine dl o 19 (At.ext (hE.trans G.ext) X) 1 ?_;obtain⟨B0,r0,hm⟩:=bS hm;refine o1 o 20 (mc o zkq (zcp (hE.trans H.ext)  r0) (fun F0 K0 j0=>?_));obtain⟨rfl,a0⟩:=j0;refine⟨a0.ext,?_⟩;have O:=H.join a0;refine dr 4 o [21,22] ?_;refine dw [0,33] ?_;refine db 33 hm (fun hm=>?_) (fun hm=>?_)
   ·refine dr 3 o [23] ?_;obtain⟨C0,t0,hm⟩:=bS hm;refine o1 o 24 (mc o zkp (zb8 (hE.trans O.ext) f0 X t0) (fun G0 L0 k0=>?_));obtain⟨rfl,b0⟩:=k0;refine⟨b0.ext,?_⟩;have o0:=O.join b0;refine dr 0 o [25,26] ?_;refine dd o ?_;refine rt ?_;cases hm;exact⟨_,.cons (.tmp rfl) .nil,rfl,o0⟩
   ·refine dr 0 o [23,24,25,26] ?_;refine dd o ?_;refine rt ?_;cases hm;exact⟨_,.cons (.tmp rfl) .nil,rfl,O⟩
  ·refine dr 0 o [12,13,14,15,16,17,18,19,20,21,22,23,24,25,26] ?_;refine dw [2] ?_;refine dd o ?_;refine rt ?_;cases hm;exact⟨_,.cons (.tmp rfl) .nil,rfl,H⟩
 ·refine dr 0 o [3,4,5,6,7,8,9,10,11,12,13,14,15,16,17,18,19,20,21,22,23,24,25,26] ?_;refine dw [2] ?_;refine dd o ?_;refine rt ?_;cases hm;exact⟨_,.cons (.tmp rfl) .nil,rfl,H⟩

theorem zkn:Enters Tryz.prog 222:=⟨_,_,Tryz.func222,rfl,by kernel_rfl⟩
def z6w (fuel:Nat) (x0:Int) (x1:Int):Option (Int):=(if(x0 == 9)=true then some (w64 (x1 - 1)) else some 0)

theorem zcr {W:Base}{w:World}(hE:Ext W w){x0:Int}{x1:Int}  {fuel:Nat}{r:Int}(hm:z6w fuel x0 x1=some r):
  Calls Tryz.prog 222 ⟨[.int .i64 x0,.int .i64 x1]⟩ w (Ret fun v w8=>v=.int .i64 r∧St w w8 []):=by
 refine into Tryz.func222 9 _ ?_;unfold z6w at hm;have hS:=St.start w;refine sq<|rg<|rr 1 ?_;refine rn<|sq<|sq<|rg<|rr 2 ?_;refine rn<|ci hm (fun hm=>?_) (fun hm=>?_)
 ·refine sq<|rg<|rr 3 ?_;refine rn<|rt ?_;cases hm;exact⟨_,.cons (.tmp rfl) .nil,rfl,hS⟩
 ·refine sp<|sq<|rg<|rr 1 ?_;refine rn<|rt ?_;cases hm;exact⟨_,.cons (.tmp rfl) .nil,rfl,hS⟩

theorem zdG:Enters Tryz.prog 245:=⟨_,_,Tryz.func245,rfl,by kernel_rfl⟩
def z5w (fuel:Nat) (x0:Int):Option (Bool):=(if(decide (x0≥1))=true then some (decide (x0≤12)) else some false)

theorem z9m {W:Base}{w:World}(hE:Ext W w){x0:Int}  {fuel:Nat}{r:Bool}(hm:z5w fuel x0=some r):
  Calls Tryz.prog 245 ⟨[.int .i64 x0]⟩ w (Ret fun v w8=>v=.bool r∧St w w8 []):=by
 refine into Tryz.func245 9 _ ?_;unfold z5w at hm;have hS:=St.start w;refine sq<|rg<|rr 1 ?_;refine rn<|sq<|rg<|rr 3 ?_;refine rb 5 hm (fun hm=>?_) (fun hm=>?_)
 ·refine rr 4 ?_;refine rn<|rt ?_;cases hm;exact⟨_,.cons (.tmp rfl) .nil,rfl,hS⟩
 ·refine rr 4 ?_;refine rn<|rt ?_;cases hm;exact⟨_,.cons (.tmp rfl) .nil,rfl,hS⟩

theorem zko:Enters Tryz.prog 221:=⟨_,_,Tryz.func221,rfl,by kernel_rfl⟩
def z1i (fuel:Nat) (x0:Int) (t6:Bool):Option Int:=(if t6=true then some 0 else((idx ([0,1,3,3,3,1,1,3,2,0,2,2,1]:List Int) x0).bind fun o=>some o))
def z2p (fuel:Nat) (x0:Int) (x1:Int) (t1:Bool):Option Int:=(if t1=true then some (w64 (x1+1)) else((z5w fuel x0).bind fun o=>(if(!o)=true then z1i fuel x0 true else(if(x0 == 9)=true then z1i fuel x0 true else z1i fuel x0 (x1 != 0)))))
def z5P (fuel:Nat) (x0:Int) (x1:Int):Option (Int):=(if(x0 == 9)=true then(if(decide (x1≥0))=true then z2p fuel x0 x1 (decide (x1≤3)) else z2p fuel x0 x1 false) else z2p fuel x0 x1 false)

theorem zdx {W:Base}{w:World}(hE:Ext W w){x0:Int}{x1:Int}  {fuel:Nat}{r:Int}(hm:z5P fuel x0 x1=some r):
  Calls Tryz.prog 221 ⟨[.int .i64 x0,.int .i64 x1]⟩ w (Ret fun v w8=>v=.int .i64 r∧St w w8 []):=by
 refine into Tryz.func221 33 _ ?_;unfold z5P at hm;have hS:=St.start w;refine sq<|rg<|rr 1 ?_;refine rn<|sq<|bk<|sq<|ct (fun(t1:Bool) F w9=>z2p fuel x0 x1 t1=some r∧Ext w w9∧St w w9 []∧F=[(0,.int .i64 x0),(1,.int .i64 x1),(5,.bool t1)]) ?_ ?_
 ·rintro t1 F w4 ⟨hm,Z,X,rfl⟩;unfold z2p at hm;refine ci hm (fun hm=>?_) (fun hm=>?_)
  ·refine sq<|rg<|rr 3 ?_;refine rn<|rt ?_;cases hm;exact⟨_,.cons (.tmp rfl) .nil,rfl,X⟩
  ·refine sq<|ct (fun(t6:Bool) F w9=>z1i fuel x0 t6=some r∧Ext w4 w9∧St w w9 []∧F=[(0,.int .i64 x0),(18,.bool t6)]) ?_ ?_
   ·rintro t6 F e0 ⟨hm,a0,G,rfl⟩;unfold z1i at hm;refine ci hm (fun hm=>?_) (fun hm=>?_)
    ·refine sq<|rg<|rr 1 ?_;refine rn<|rt ?_;cases hm;exact⟨_,.cons (.tmp rfl) .nil,rfl,G⟩
    ·refine sp<|sq<|rg<|qt (qBuildK (cs:=[.int .i64 0,.int .i64 1,.int .i64 3,.int .i64 3,.int .i64 3,.int .i64 1,.int .i64 1,.int .i64 3,.int .i64 2,.int .i64 0,.int .i64 2,.int .i64 2,.int .i64 1])) ?_;refine rr 1 ?_;obtain⟨g0,H,hm⟩:=bS hm;refine qt (Quiet.arrIdx ttok (xs:=([0,1,3,3,3,1,1,3,2,0,2,2,1]:List Int)) (e:=2) rfl (by kernel_rfl) rfl rfl rfl rfl rfl rfl (zo H).1 (zo H).2) ?_;refine rr 1 ?_;refine rn<|rt ?_;cases hm;exact⟨_,.cons (.tmp rfl) .nil,rfl,G⟩
   ·refine rg<|rr 1 ?_;obtain⟨b0,Y,hm⟩:=bS hm;refine ca zdG (z9m (hE.trans X.ext)  Y) (fun c0 f0 O=>?_);obtain⟨rfl,o⟩:=O;have q:=X.join o;refine rr 2 ?_;refine rb 22 hm (fun hm=>?_) (fun hm=>?_)
    ·refine rr 8 ?_;refine rn ?_;exact⟨true,_,⟨hm,o.ext,q,rfl⟩,rfl⟩
    ·refine rr 4 ?_;refine rb 26 hm (fun hm=>?_) (fun hm=>?_)
     ·refine rr 4 ?_;refine rn ?_;exact⟨true,_,⟨hm,o.ext,q,rfl⟩,rfl⟩
     ·refine rr 4 ?_;refine rn ?_;exact⟨(x1 != 0),_,⟨hm,o.ext,q,rfl⟩,rfl⟩
 ·refine rg<|rr 3 ?_;refine rb 8 hm (fun hm=>?_) (fun hm=>?_)
  ·refine rr 4 ?_;refine rb 12 hm (fun hm=>?_) (fun hm=>?_)
   ·refine rr 4 ?_;refine rn ?_;exact⟨decide (x1≤3),_,⟨hm,(Ext.refl _),hS,rfl⟩,rfl⟩
   ·refine rr 4 ?_;refine rn ?_;exact⟨false,_,⟨hm,(Ext.refl _),hS,rfl⟩,rfl⟩
  ·refine rr 8 ?_;refine rn ?_;exact⟨false,_,⟨hm,(Ext.refl _),hS,rfl⟩,rfl⟩

theorem zk8:Enters Tryz.prog 246:=⟨_,_,Tryz.func246,rfl,by kernel_rfl⟩
def z6z (fuel:Nat) (x0:Int):Option (Bool):=((z5w fuel x0).bind fun r1=>(if r1=true then(if(x0 != 1)=true then(if(x0 != 5)=true then some (x0 != 6) else some false) else some false) else some false))

theorem zcu {W:Base}{w:World}(hE:Ext W w){x0:Int}  {fuel:Nat}{r:Bool}(hm:z6z fuel x0=some r):
  Calls Tryz.prog 246 ⟨[.int .i64 x0]⟩ w (Ret fun v w8=>v=.bool r∧St w w8 []):=by
 refine into Tryz.func246 17 _ ?_;unfold z6z at hm;have hS:=St.start w;refine sq<|rg<|rr 1 ?_;refine rn<|sq<|rg<|rr 1 ?_;obtain⟨r1,H,hm⟩:=bS hm;refine ca zdG (z9m (hE.trans hS.ext)  H) (fun v3 w4 q=>?_);obtain⟨rfl,G⟩:=q;have o:=hS.join G;refine rr 1 ?_;refine rb 5 hm (fun hm=>?_) (fun hm=>?_)
 ·refine rr 4 ?_;refine rb 9 hm (fun hm=>?_) (fun hm=>?_)
  ·refine rr 4 ?_;refine rb 13 hm (fun hm=>?_) (fun hm=>?_)
   ·refine rr 4 ?_;refine rn<|rt ?_;cases hm;exact⟨_,.cons (.tmp rfl) .nil,rfl,o⟩
   ·refine rr 4 ?_;refine rn<|rt ?_;cases hm;exact⟨_,.cons (.tmp rfl) .nil,rfl,o⟩
  ·refine rr 8 ?_;refine rn<|rt ?_;cases hm;exact⟨_,.cons (.tmp rfl) .nil,rfl,o⟩
 ·refine rr 12 ?_;refine rn<|rt ?_;cases hm;exact⟨_,.cons (.tmp rfl) .nil,rfl,o⟩

theorem zk7:Enters Tryz.prog 247:=⟨_,_,Tryz.func247,rfl,by kernel_rfl⟩
def z6U (fuel:Nat) (x0:Int):Option (Bool):=(if(decide (x0≥0))=true then some (decide (x0≤8)) else some false)

theorem zdw {W:Base}{w:World}(hE:Ext W w){x0:Int}  {fuel:Nat}{r:Bool}(hm:z6U fuel x0=some r):
  Calls Tryz.prog 247 ⟨[.int .i64 x0]⟩ w (Ret fun v w8=>v=.bool r∧St w w8 []):=by
 refine into Tryz.func247 9 _ ?_;unfold z6U at hm;have hS:=St.start w;refine sq<|rg<|rr 1 ?_;refine rn<|sq<|rg<|rr 3 ?_;refine rb 5 hm (fun hm=>?_) (fun hm=>?_)
 ·refine rr 4 ?_;refine rn<|rt ?_;cases hm;exact⟨_,.cons (.tmp rfl) .nil,rfl,hS⟩
 ·refine rr 4 ?_;refine rn<|rt ?_;cases hm;exact⟨_,.cons (.tmp rfl) .nil,rfl,hS⟩

theorem zkm:Enters Tryz.prog 223:=⟨_,_,Tryz.func223,rfl,by kernel_rfl⟩
def z5H (fuel:Nat) (x0:Int) (x1:Int):Option (Bool):=((z5w fuel x0).bind fun r1=>(if r1=true then(if(x1 == 0)=true then some true else((z6z fuel x0).bind fun o=>(if o=true then((z6U fuel x1).bind fun q=>some q) else some false))) else some false))

theorem zbW {W:Base}{w:World}(hE:Ext W w){x0:Int}{x1:Int}  {fuel:Nat}{r:Bool}(hm:z5H fuel x0 x1=some r):
  Calls Tryz.prog 223 ⟨[.int .i64 x0,.int .i64 x1]⟩ w (Ret fun v w8=>v=.bool r∧St w w8 []):=by
 refine into Tryz.func223 19 _ ?_;unfold z5H at hm;have hS:=St.start w;refine sq<|rg<|rr 1 ?_;refine rn<|sq<|rg<|rr 1 ?_;obtain⟨r1,e0,hm⟩:=bS hm;refine ca zdG (z9m (hE.trans hS.ext)  e0) (fun v3 w4 b0=>?_);obtain⟨rfl,c0⟩:=b0;have q:=hS.join c0;refine rr 1 ?_;refine rb 7 hm (fun hm=>?_) (fun hm=>?_)
 ·refine rr 3 ?_;refine rb 10 hm (fun hm=>?_) (fun hm=>?_)
  ·refine rr 9 ?_;refine rn<|rt ?_;cases hm;exact⟨_,.cons (.tmp rfl) .nil,rfl,q⟩
  ·refine rr 1 ?_;obtain⟨f0,Z,hm⟩:=bS hm;refine ca zk8 (zcu (hE.trans q.ext)  Z) (fun i0 k0 G=>?_);obtain⟨rfl,H⟩:=G;have o:=q.join H;refine rr 1 ?_;refine rb 13 hm (fun hm=>?_) (fun hm=>?_)
   ·refine rr 1 ?_;obtain⟨g0,a0,hm⟩:=bS hm;refine ca zk7 (zdw (hE.trans o.ext)  a0) (fun j0 o0 O=>?_);obtain⟨rfl,X⟩:=O;have Y:=o.join X;refine rr 4 ?_;refine rn<|rt ?_;cases hm;exact⟨_,.cons (.tmp rfl) .nil,rfl,Y⟩
   ·refine rr 6 ?_;refine rn<|rt ?_;cases hm;exact⟨_,.cons (.tmp rfl) .nil,rfl,o⟩
 ·refine rr 12 ?_;refine rn<|rt ?_;cases hm;exact⟨_,.cons (.tmp rfl) .nil,rfl,q⟩

theorem zkt:Enters Tryz.prog 215:=⟨_,_,Tryz.func215,rfl,by kernel_rfl⟩
def z1W (fuel:Nat) (t2:Unit):Option Int:=some (-1)
def zG (fuel:Nat) (x0:(List Int)) (x1:Int→Option Bool) (s1:Int):Option (Rd (Int) (Unit) (Int)):=(if(decide (s1<(x0.length:Int)))=true then((idx x0 s1).bind fun q=>((x1 q).bind fun o=>(if o=true then some (.ret s1) else some (.next (w64 (s1+1)))))) else some (.brk ()))
def z1p (fuel:Nat) (x0:(List Int)) (x1:Int→Option Bool):Option (Int):=((iter (zG fuel x0 x1) fuel 0).bind fun o=>aft o (z1W fuel))

theorem z7Z {W:Base}{w:World}(hE:Ext W w){X:Option Addr}{i0:Nat}{x0:(List Int)}{f1_:Nat}{u1_:List Value}{x1:Int→Option Bool}(p0:ty45.ro W [sl X x0 i0] x0) (j0:Enters Tryz.prog f1_∧∀ {w9:World},Ext W w9→∀ {z0:Int}{y9:Bool},x1 z0=some y9→Calls Tryz.prog f1_ ⟨[.int .i64 z0]++u1_⟩ w9 (Ret fun v w8=>v=.bool y9∧St w9 w8 [])){fuel:Nat}{r:Int}(hm:z1p fuel x0 x1=some r):
  Calls Tryz.prog 215 ⟨[sl X x0 i0,.func (.func f1_) #[] ⟨u1_⟩]⟩ w (Ret fun v w8=>v=.int .i64 r∧St w w8 []):=by
 refine into Tryz.func215 19 _ ?_;unfold z1p at hm;have hS:=St.start w;refine sq<|rg<|rr 1 ?_;refine rn<|sq<|sq<|rg<|rr 3 ?_;refine rn ?_;obtain⟨q0,b0,hm⟩:=bS hm;refine ct (fun(t2:Unit) F w9=>q0=.inl t2∧Ext w w9∧St w w9 []∧F=[]) ?_ ?_
 ·rintro t2 F w7 ⟨c0,r0,Z,rfl⟩;subst c0;rw [z6] at hm;unfold z1W at hm;refine sq<|rg<|rr 1 ?_;refine rn<|rt ?_;cases hm;exact⟨_,.cons (.tmp rfl) .nil,rfl,Z⟩
 ·refine bk<|wk [0,1,7,8] ?_;refine it (fun(s1:Int) F w9=>Ext w w9∧St w w9 []∧F=[(0,sl X x0 i0),(1,.func (.func f1_) #[] ⟨u1_⟩),(7,.int .i64 (x0.length:Int)),(8,.int .i64 s1)]) b0 ⟨(Ext.refl _),hS,rfl⟩ ?_;rintro s1 F A0 _ t0 ⟨k0,q,rfl⟩ o O;unfold zG at o;refine sq<|rg<|rr 1 ?_;refine rn<|sq<|ci o (fun o=>?_) (fun o=>?_)
  ·refine sp<|sq<|bk<|sq<|rg<|rr 2 ?_;refine rn<|sq<|rg<|rr 3 ?_;obtain⟨C0,f0,o⟩:=bS o;refine ix (hE.trans q.ext) p0 f0 (fun u0 o0 a0 e0=>?_);cases e0;refine l1 (At.ext (hE.trans q.ext) a0) 0 ?_;obtain⟨v0,g0,o⟩:=bS o;refine ca j0.1 (j0.2 (hE.trans q.ext)  g0) (fun y0 B0 Y=>?_);obtain⟨rfl,G⟩:=Y;have H:=q.join G;refine rn<|ci o (fun o=>?_) (fun o=>?_)
   ·refine sq<|rg<|rr 2 ?_;refine rn<|rt ?_;cases o;cases O;have hm:some _=some _:=hm;cases hm;exact⟨_,.cons (.tmp rfl) .nil,rfl,H⟩
   ·refine sp<|rg<|rr 2 ?_;refine rn ?_;cases o;exact⟨_,_,rfl,⟨(k0.trans G.ext),H,rfl⟩,rfl⟩
  ·refine xt ?_;cases o;exact⟨_,_,⟨O,k0,q,rfl⟩,rfl⟩

theorem zkQ:Enters Tryz.prog 175:=⟨_,_,Tryz.func175,rfl,by kernel_rfl⟩
def zH (fuel:Nat) (x0:(List Int)) (x1:Int→Option Bool):Option (Bool):=((z1p fuel x0 x1).bind fun r1=>some (decide (r1≥0)))

theorem z7k {W:Base}{w:World}(hE:Ext W w){o:Option Addr}{q:Nat}{x0:(List Int)}{f1_:Nat}{u1_:List Value}{x1:Int→Option Bool}(G:ty45.ro W [sl o x0 q] x0) (H:Enters Tryz.prog f1_∧∀ {w9:World},Ext W w9→∀ {z0:Int}{y9:Bool},x1 z0=some y9→Calls Tryz.prog f1_ ⟨[.int .i64 z0]++u1_⟩ w9 (Ret fun v w8=>v=.bool y9∧St w9 w8 [])){fuel:Nat}{r:Bool}(hm:zH fuel x0 x1=some r):
  Calls Tryz.prog 175 ⟨[sl o x0 q,.func (.func f1_) #[] ⟨u1_⟩]⟩ w (Ret fun v w8=>v=.bool r∧St w w8 []):=by
 refine into Tryz.func175 9 _ ?_;unfold zH at hm;have hS:=St.start w;refine sq<|rg<|rr 1 ?_;refine rn<|sq<|rg<|rr 2 ?_;obtain⟨r1,Z,hm⟩:=bS hm;refine ca zkt (z7Z (hE.trans hS.ext) G H Z) (fun v3 w4 O=>?_);obtain⟨rfl,X⟩:=O;have Y:=hS.join X;refine rr 2 ?_;refine rn<|rt ?_;cases hm;exact⟨_,.cons (.tmp rfl) .nil,rfl,Y⟩

theorem zgh:Enters Tryz.prog 225:=⟨_,_,Tryz.func225,rfl,by kernel_rfl⟩
def z3v (fuel:Nat) (x0:Int):Option (Bool):=(if(decide (x0≥0))=true then some (decide (x0<24)) else some false)

theorem z9e {W:Base}{w:World}(hE:Ext W w){x0:Int}  {fuel:Nat}{r:Bool}(hm:z3v fuel x0=some r):
  Calls Tryz.prog 225 ⟨[.int .i64 x0]⟩ w (Ret fun v w8=>v=.bool r∧St w w8 []):=by
 refine into Tryz.func225 9 _ ?_;unfold z3v at hm;have hS:=St.start w;refine sq<|rg<|rr 1 ?_;refine rn<|sq<|rg<|rr 3 ?_;refine rb 5 hm (fun hm=>?_) (fun hm=>?_)
 ·refine rr 4 ?_;refine rn<|rt ?_;cases hm;exact⟨_,.cons (.tmp rfl) .nil,rfl,hS⟩
 ·refine rr 4 ?_;refine rn<|rt ?_;cases hm;exact⟨_,.cons (.tmp rfl) .nil,rfl,hS⟩

theorem zkk:Enters Tryz.prog 224:=⟨_,_,Tryz.func224,rfl,by kernel_rfl⟩
def z4N (fuel:Nat) (x0:Int):Option (Bool):=((z3v fuel x0).bind fun r1=>some (!r1))

theorem zad {W:Base}{w:World}(hE:Ext W w){x0:Int}  {fuel:Nat}{r:Bool}(hm:z4N fuel x0=some r):
  Calls Tryz.prog 224 ⟨[.int .i64 x0]⟩ w (Ret fun v w8=>v=.bool r∧St w w8 []):=by
 refine into Tryz.func224 6 _ ?_;unfold z4N at hm;have hS:=St.start w;refine sq<|rg<|rr 1 ?_;refine rn<|sq<|rg<|rr 1 ?_;obtain⟨r1,H,hm⟩:=bS hm;refine ca zgh (z9e (hE.trans hS.ext)  H) (fun v3 w4 o=>?_);obtain⟨rfl,q⟩:=o;have G:=hS.join q;refine rr 2 ?_;refine rn<|rt ?_;cases hm;exact⟨_,.cons (.tmp rfl) .nil,rfl,G⟩

theorem zgg:Enters Tryz.prog 226:=⟨_,_,Tryz.func226,rfl,by kernel_rfl⟩
def z7g (fuel:Nat) (x0:Int):Option (Bool):=(if(decide (x0≥(-2147483648)))=true then some (decide (x0≤2147483647)) else some false)

theorem zbq {W:Base}{w:World}(hE:Ext W w){x0:Int}  {fuel:Nat}{r:Bool}(hm:z7g fuel x0=some r):
  Calls Tryz.prog 226 ⟨[.int .i64 x0]⟩ w (Ret fun v w8=>v=.bool r∧St w w8 []):=by
 refine into Tryz.func226 9 _ ?_;unfold z7g at hm;have hS:=St.start w;refine sq<|rg<|rr 1 ?_;refine rn<|sq<|rg<|rr 3 ?_;refine rb 5 hm (fun hm=>?_) (fun hm=>?_)
 ·refine rr 4 ?_;refine rn<|rt ?_;cases hm;exact⟨_,.cons (.tmp rfl) .nil,rfl,hS⟩
 ·refine rr 4 ?_;refine rn<|rt ?_;cases hm;exact⟨_,.cons (.tmp rfl) .nil,rfl,hS⟩

theorem zgf:Enters Tryz.prog 227:=⟨_,_,Tryz.func227,rfl,by kernel_rfl⟩
def z3u (fuel:Nat) (x0:Int):Option (Bool):=(if(decide (x0≥1))=true then some (decide (x0≤6)) else some false)

theorem z9d {W:Base}{w:World}(hE:Ext W w){x0:Int}  {fuel:Nat}{r:Bool}(hm:z3u fuel x0=some r):
  Calls Tryz.prog 227 ⟨[.int .i64 x0]⟩ w (Ret fun v w8=>v=.bool r∧St w w8 []):=by
 refine into Tryz.func227 9 _ ?_;unfold z3u at hm;have hS:=St.start w;refine sq<|rg<|rr 1 ?_;refine rn<|sq<|rg<|rr 3 ?_;refine rb 5 hm (fun hm=>?_) (fun hm=>?_)
 ·refine rr 4 ?_;refine rn<|rt ?_;cases hm;exact⟨_,.cons (.tmp rfl) .nil,rfl,hS⟩
 ·refine rr 4 ?_;refine rn<|rt ?_;cases hm;exact⟨_,.cons (.tmp rfl) .nil,rfl,hS⟩

theorem zkO:Enters Tryz.prog 183:=⟨_,_,Tryz.func183,rfl,by kernel_rfl⟩
def z3g (fuel:Nat) (o:Bool × Bool):Option Bool:=(if o.1=true then some o.2 else some false)
def z3f (fuel:Nat) (o:Bool × Bool):Option Bool:=z3g fuel (o.1,o.2)
def z3e (fuel:Nat) (o:Bool × Bool):Option Bool:=z3f fuel (o.1,o.2)
def z3d (fuel:Nat) (x0:D.Agent) (o:Bool):Option Bool:=z3e fuel (o,((x0.Data.length:Int) == 0))
def z3c (fuel:Nat) (o:Bool × Bool):Option Bool:=z3e fuel (o.1,o.2)
def z24 (fuel:Nat) (x0:D.Agent) (o:Bool):Option Bool:=z3c fuel ((x0.Value == 0),o)
def z3b (fuel:Nat) (o:Bool × Bool):Option Bool:=z3c fuel (o.1,o.2)
def z3a (fuel:Nat) (x0:D.Agent) (o:Bool):Option Bool:=z3b fuel ((x0.Value == 0),o)
def z2F (fuel:Nat) (x0:D.Agent) (o:Bool):Option Bool:=z3b fuel (o,((x0.Data.length:Int) == 0))
def z1n (fuel:Nat) (x0:D.Agent) (Y:Bool):Option Bool:=(if Y=true then some false else((zH fuel x0.Data (fun y0=>z4N fuel y0)).bind fun q=>(if(x0.Kind == 6)=true then((z7g fuel x0.Value).bind fun G=>z3g fuel (G,((x0.Data.length:Int) == 0))) else(if(x0.Kind == 7)=true then((z3u fuel x0.Value).bind fun H=>z3f fuel (H,((x0.Data.length:Int) == 0))) else(if(x0.Kind == 8)=true then((z3u fuel x0.Value).bind fun O=>(if O=true then(if((x0.Data.length:Int) == 1)=true then((idx x0.Data 0).bind fun Z=>((z7g fuel Z).bind fun X=>some X)) else some false) else some false)) else(if(x0.Kind == 9)=true then(if(decide (x0.Value≥0))=true then z3d fuel x0 (decide (x0.Value<4)) else z3d fuel x0 false) else(if(x0.Kind == 10)=true then(if(decide ((x0.Data.length:Int)≥1))=true then(if(decide ((x0.Data.length:Int)≤4))=true then z24 fuel x0 (!q) else z24 fuel x0 false) else z24 fuel x0 false) else(if(x0.Kind == 11)=true then(if((x0.Data.length:Int) == 2)=true then z3a fuel x0 (!q) else z3a fuel x0 false) else(if(x0.Kind == 12)=true then((z3v fuel x0.Value).bind fun o=>z2F fuel x0 o) else z2F fuel x0 (x0.Value == 0))))))))))
def z2o (fuel:Nat) (x0:D.Agent):Option (Bool):=(if((x0.Ports.length:Int) == 0)=true then z1n fuel x0 true else((z6w fuel x0.Kind (x0.Ports.length:Int)).bind fun o=>((z5P fuel x0.Kind o).bind fun q=>(if(q != (x0.Ports.length:Int))=true then z1n fuel x0 true else((z5H fuel x0.Kind x0.Level).bind fun G=>z1n fuel x0 (!G))))))

theorem zbo {W:Base}{w:World}(hE:Ext W w){N1:List Value}{x0:D.Agent}(R1:z6b.ro W N1 x0){fuel:Nat}{r:Bool}(hm:z2o fuel x0=some r):
  Calls Tryz.prog 183 ⟨[.agg ⟨N1⟩]⟩ w (Ret fun v w8=>v=.bool r∧St w w8 []):=by
 obtain⟨A1,k2,A4,k5,e7,h3,h6⟩:=zU R1;subst e7;refine into Tryz.func183 117 _ ?_;unfold z2o at hm;have hS:=St.start w;refine sq<|rg<|nw hS (fun O1 i2 q2 G=>?_);refine rr 1 ?_;refine rn<|sq<|sq<|ct (fun(M1:Bool) F w9=>z1n fuel x0 M1=some r∧Ext i2 w9∧St w w9 [Box O1 [.int .i64 x0.Kind,.int .i64 x0.Level,.int .i64 x0.Value,sl A1 x0.Data k2,sl A4 x0.Ports k5] 118]∧F=[(1,.pointer (some ⟨O1,0,none⟩)),(32,.bool M1)]) ?_ ?_
 ·rintro M1 F C2 ⟨hm,S1,c0,rfl⟩;unfold z1n at hm;refine ci hm (fun hm=>?_) (fun hm=>?_)
  ·refine sq<|rg<|rr 1 ?_;refine rn<|rt ?_;cases hm;exact⟨_,.cons (.tmp rfl) .nil,rfl,(c0.taken 0)⟩
  ·refine sp<|sq<|dn 0 mixed 9 [([],511),([0],510),([1],509),([],511),([3],503),([4],495),([5],479),([2,0,1,2],507),([6,7,0,1,2,3,4,5,6,7],447)] c0.ext (fun Y=>?_);have k0:=c0.step (Ext.draw _);refine dr 7 Y [0,3] ?_;refine dl Y 1 ((c0.bring 0 rfl).box) 2 ?_;refine dr 4 Y [2,7] ?_;refine dl Y 4 ((c0.bring 0 rfl).box) 3 ?_;refine dr 0 Y [5,6,8] ?_;refine dw [1,3,4] ?_;refine dd Y ?_;refine sq<|rg<|rr 1 ?_;refine l1 ((k0.bring 0 rfl).box) 3 ?_;obtain⟨P1,D1,hm⟩:=bS hm;refine ca zkQ (z7k (hE.trans k0.ext) h3 ⟨zkk,fun e9=>(fun  U1=>zad (Ext.refl _)  U1)⟩ D1) (fun u2 g0 a1=>?_);obtain⟨rfl,b1⟩:=a1;have q:=k0.join b1;refine rr 2 ?_;refine rn<|sq<|sq<|rg<|rr 1 ?_;refine l1 ((q.bring 0 rfl).box) 0 ?_;refine rn<|bk<|sq<|rg<|rr 2 ?_;refine rn<|ct (fun(Q0:Bool × Bool) F w9=>z3g fuel Q0=some r∧Ext g0 w9∧St w w9 []∧F=[(3,.bool Q0.1),(4,.bool Q0.2)]) ?_ ?_
   ·rintro Q0 F D2 ⟨hm,T1,L0,rfl⟩;unfold z3g at hm;refine sq<|rg<|rr 2 ?_;refine rb 114 hm (fun hm=>?_) (fun hm=>?_)
    ·refine rr 3 ?_;refine rn<|rt ?_;cases hm;exact⟨_,.cons (.tmp rfl) .nil,rfl,L0⟩
    ·refine rr 3 ?_;refine rn<|rt ?_;cases hm;exact⟨_,.cons (.tmp rfl) .nil,rfl,L0⟩
   ·refine ci hm (fun hm=>?_) (fun hm=>?_)
    ·refine rg<|rr 1 ?_;refine l1 ((q.bring 0 rfl).box) 2 ?_;obtain⟨X1,E1,hm⟩:=bS hm;refine ca zgg (zbq (hE.trans q.ext)  E1) (fun v2 E2 d1=>?_);obtain⟨rfl,D0⟩:=d1;have m1:=q.join D0;refine rr 1 ?_;refine rn ?_;exact⟨(X1,((x0.Data.length:Int) == 0)),_,⟨hm,D0.ext,(m1.taken 0),rfl⟩,rfl⟩
    ·refine sq<|rg<|rr 2 ?_;refine rn<|ct (fun(o0:Bool × Bool) F w9=>z3f fuel o0=some r∧Ext g0 w9∧St w w9 []∧F=[(3,.bool o0.1),(4,.bool o0.2)]) ?_ ?_
     ·rintro o0 F F2 ⟨hm,T0,n1,rfl⟩;unfold z3f at hm;exact⟨(o0.1,o0.2),_,⟨hm,T0,n1,rfl⟩,rfl⟩
     ·refine ci hm (fun hm=>?_) (fun hm=>?_)
      ·refine rg<|rr 1 ?_;refine l1 ((q.bring 0 rfl).box) 2 ?_;obtain⟨Y1,F1,hm⟩:=bS hm;refine ca zgf (z9d (hE.trans q.ext)  F1) (fun y2 G2 e1=>?_);obtain⟨rfl,E0⟩:=e1;have p1:=q.join E0;refine rr 1 ?_;refine rn ?_;exact⟨(Y1,((x0.Data.length:Int) == 0)),_,⟨hm,E0.ext,(p1.taken 0),rfl⟩,rfl⟩
      ·refine sq<|rg<|rr 2 ?_;refine rn<|ci hm (fun hm=>?_) (fun hm=>?_)
       ·refine sq<|rg<|rr 1 ?_;refine l1 ((q.bring 0 rfl).box) 2 ?_;obtain⟨s2,G1,hm⟩:=bS hm;refine ca zgf (z9d (hE.trans q.ext)  G1) (fun A2 H2 f1=>?_);obtain⟨rfl,g1⟩:=f1;have H:=q.join g1;refine rr 1 ?_;refine rb 61 hm (fun hm=>?_) (fun hm=>?_)
        ·refine rr 1 ?_;refine l1 ((H.bring 0 rfl).box) 3 ?_;refine rr 4 ?_;refine rb 67 hm (fun hm=>?_) (fun hm=>?_)
         ·refine rr 1 ?_;refine l1 ((H.bring 0 rfl).box) 3 ?_;obtain⟨O2,H1,hm⟩:=bS hm;refine ix (hE.trans H.ext) h3 H1 (fun r2 Q1 B1 C1=>?_);cases C1;refine l1 (At.ext (hE.trans H.ext) B1) 0 ?_;obtain⟨t2,J1,hm⟩:=bS hm;refine ca zgg (zbq (hE.trans H.ext)  J1) (fun B2 J2 i1=>?_);obtain⟨rfl,j1⟩:=i1;have s1:=H.join j1;refine rr 2 ?_;refine rn<|rt ?_;cases hm;exact⟨_,.cons (.tmp rfl) .nil,rfl,(s1.taken 0)⟩
         ·refine rr 7 ?_;refine rn<|rt ?_;cases hm;exact⟨_,.cons (.tmp rfl) .nil,rfl,(H.taken 0)⟩
        ·refine rr 13 ?_;refine rn<|rt ?_;cases hm;exact⟨_,.cons (.tmp rfl) .nil,rfl,(H.taken 0)⟩
       ·refine sq<|rg<|rr 2 ?_;refine rn<|ct (fun(p0:Bool × Bool) F w9=>z3e fuel p0=some r∧Ext g0 w9∧St w w9 []∧F=[(3,.bool p0.1),(4,.bool p0.2)]) ?_ ?_
        ·rintro p0 F K2 ⟨hm,U0,t1,rfl⟩;unfold z3e at hm;exact⟨(p0.1,p0.2),_,⟨hm,U0,t1,rfl⟩,rfl⟩
        ·refine ci hm (fun hm=>?_) (fun hm=>?_)
         ·refine ct (fun(R0:Bool) F w9=>z3d fuel x0 R0=some r∧Ext g0 w9∧St w w9 []∧F=[(3,.bool R0),(4,.bool ((x0.Data.length:Int) == 0))]) ?_ ?_
          ·rintro R0 F L2 ⟨hm,V0,u1,rfl⟩;unfold z3d at hm;exact⟨(R0,((x0.Data.length:Int) == 0)),_,⟨hm,V0,u1,rfl⟩,rfl⟩
          ·refine rg<|rr 1 ?_;refine l1 ((q.bring 0 rfl).box) 2 ?_;refine rr 2 ?_;refine rb 79 hm (fun hm=>?_) (fun hm=>?_)
           ·refine rr 1 ?_;refine l1 ((q.bring 0 rfl).box) 2 ?_;refine rr 3 ?_;refine rn ?_;exact⟨decide (x0.Value<4),_,⟨hm,(Ext.refl _),(q.taken 0),rfl⟩,rfl⟩
           ·refine rr 5 ?_;refine rn ?_;exact⟨false,_,⟨hm,(Ext.refl _),(q.taken 0),rfl⟩,rfl⟩
         ·refine sq<|rg<|rr 2 ?_;refine rn<|ct (fun(q0:Bool × Bool) F w9=>z3c fuel q0=some r∧Ext g0 w9∧St w w9 []∧F=[(3,.bool q0.1),(4,.bool q0.2)]) ?_ ?_
          ·rintro q0 F M2 ⟨hm,X0,v1,rfl⟩;unfold z3c at hm;exact⟨(q0.1,q0.2),_,⟨hm,X0,v1,rfl⟩,rfl⟩
          ·refine ci hm (fun hm=>?_) (fun hm=>?_)
           ·refine ct (fun(S0:Bool) F w9=>z24 fuel x0 S0=some r∧Ext g0 w9∧St w w9 []∧F=[(3,.bool (x0.Value == 0)),(4,.bool S0)]) ?_ ?_
            ·rintro S0 F N2 ⟨hm,Y0,y1,rfl⟩;unfold z24 at hm;exact⟨((x0.Value == 0),S0),_,⟨hm,Y0,y1,rfl⟩,rfl⟩
            ·refine rg<|rr 1 ?_;refine l1 ((q.bring 0 rfl).box) 3 ?_;refine rr 3 ?_;refine rb 90 hm (fun hm=>?_) (fun hm=>?_)
             ·refine rr 1 ?_;refine l1 ((q.bring 0 rfl).box) 3 ?_;refine rr 4 ?_;refine rb 96 hm (fun hm=>?_) (fun hm=>?_)
              ·refine rr 3 ?_;refine rn ?_;exact⟨!P1,_,⟨hm,(Ext.refl _),(q.taken 0),rfl⟩,rfl⟩
              ·refine rr 3 ?_;refine rn ?_;exact⟨false,_,⟨hm,(Ext.refl _),(q.taken 0),rfl⟩,rfl⟩
             ·refine rr 9 ?_;refine rn ?_;exact⟨false,_,⟨hm,(Ext.refl _),(q.taken 0),rfl⟩,rfl⟩
           ·refine sq<|rg<|rr 2 ?_;refine rn<|ct (fun(r0:Bool × Bool) F w9=>z3b fuel r0=some r∧Ext g0 w9∧St w w9 []∧F=[(3,.bool r0.1),(4,.bool r0.2)]) ?_ ?_
            ·rintro r0 F f2 ⟨hm,t0,F0,rfl⟩;unfold z3b at hm;exact⟨(r0.1,r0.2),_,⟨hm,t0,F0,rfl⟩,rfl⟩
            ·refine ci hm (fun hm=>?_) (fun hm=>?_)
             ·refine ct (fun(e0:Bool) F w9=>z3a fuel x0 e0=some r∧Ext g0 w9∧St w w9 []∧F=[(3,.bool (x0.Value == 0)),(4,.bool e0)]) ?_ ?_
              ·rintro e0 F g2 ⟨hm,u0,G0,rfl⟩;unfold z3a at hm;exact⟨((x0.Value == 0),e0),_,⟨hm,u0,G0,rfl⟩,rfl⟩
              ·refine rg<|rr 1 ?_;refine l1 ((q.bring 0 rfl).box) 3 ?_;refine rr 3 ?_;refine rb 105 hm (fun hm=>?_) (fun hm=>?_)
               ·refine rr 3 ?_;refine rn ?_;exact⟨!P1,_,⟨hm,(Ext.refl _),(q.taken 0),rfl⟩,rfl⟩
               ·refine rr 3 ?_;refine rn ?_;exact⟨false,_,⟨hm,(Ext.refl _),(q.taken 0),rfl⟩,rfl⟩
             ·refine sq<|rg<|rr 2 ?_;refine rn<|ct (fun(f0:Bool) F w9=>z2F fuel x0 f0=some r∧Ext g0 w9∧St w w9 []∧F=[(3,.bool f0),(4,.bool ((x0.Data.length:Int) == 0))]) ?_ ?_
              ·rintro f0 F j2 ⟨hm,v0,H0,rfl⟩;unfold z2F at hm;exact⟨(f0,((x0.Data.length:Int) == 0)),_,⟨hm,v0,H0,rfl⟩,rfl⟩
              ·refine ci hm (fun hm=>?_) (fun hm=>?_)
               ·refine rg<|rr 1 ?_;refine l1 ((q.bring 0 rfl).box) 2 ?_;obtain⟨K1,M0,hm⟩:=bS hm;refine ca zgh (z9e (hE.trans q.ext)  M0) (fun a2 m2 y0=>?_);obtain⟨rfl,i0⟩:=y0;have J0:=q.join i0;refine rr 1 ?_;refine rn ?_;exact⟨K1,_,⟨hm,i0.ext,(J0.taken 0),rfl⟩,rfl⟩
               ·refine sp ?_;exact⟨(x0.Value == 0),_,⟨hm,(Ext.refl _),(q.taken 0),rfl⟩,rfl⟩
 ·refine dn 0 mixed 27 [([],134217727),([0],134217726),([1],134217725),([2],134217723),([3],134217719),([4],134217711),([5,4],134217679),([4],134217711),([7,4],134217583),([4],134217711),([9,4],134217199),([10,4],134216687),([8,11,4,4],134215407),([6,12,12,4],134213551),([4],134217711),([14,4],134201327),([15,4],134184943),([13,16,4],134143983),([4,17],134086639),([18,13],133955583),([19],133693439),([20,19],132644863),([19],133693439),([22,19],129499135),([21,23,19,19],123207679),([24,19],116916223),([19,25],100139007)] G.ext (fun o=>?_);have a0:=G.step (Ext.draw _);refine dr 26 o [0] ?_;refine dl o 1 ((G.bring 0 rfl).box) 4 ?_;refine dr 22 o [2,3,4] ?_;refine dw [1,10] ?_;refine db 10 hm (fun hm=>?_) (fun hm=>?_)
  ·refine dr 0 o [5,6,7,8,9,10,11,12,13,14,15,16,17,18,19,20,21,22,23,24,25,26] ?_;refine dw [1,32] ?_;refine dd o ?_;exact⟨true,_,⟨hm,(Ext.draw _),a0,rfl⟩,rfl⟩
  ·refine dr 18 o [5,7,9,14] ?_;refine dl o 6 ((G.bring 0 rfl).box) 0 ?_;refine dl o 8 ((G.bring 0 rfl).box) 0 ?_;refine dl o 10 ((G.bring 0 rfl).box) 4 ?_;refine dr 14 o [11] ?_;refine dl o 15 ((G.bring 0 rfl).box) 4 ?_;refine dr 12 o [16] ?_;refine dw [1,10,12,14,17,22] ?_;obtain⟨V1,N0,hm⟩:=bS hm;refine o1 o 12 (mc o zkn (zcr (hE.trans a0.ext)  N0) (fun b2 n2 A0=>?_));obtain⟨rfl,O⟩:=A0;refine⟨O.ext,?_⟩;have j0:=a0.join O;obtain⟨W1,O0,hm⟩:=bS hm;refine o1 o 13 (mc o zko (zdx (hE.trans j0.ext)  O0) (fun d2 o2 B0=>?_));obtain⟨rfl,X⟩:=B0;refine⟨X.ext,?_⟩;have b0:=j0.join X;refine dr 7 o [17,18,19] ?_;refine dw [1,25] ?_;refine db 25 hm (fun hm=>?_) (fun hm=>?_)
   ·refine dr 0 o [20,21,22,23,24,25,26] ?_;refine dw [1,32] ?_;refine dd o ?_;exact⟨true,_,⟨hm,(((Ext.draw _).trans O.ext).trans X.ext),b0,rfl⟩,rfl⟩
   ·refine dr 5 o [20,22] ?_;refine dl o 21 ((G.bring 0 rfl).box) 0 ?_;refine dl o 23 ((G.bring 0 rfl).box) 1 ?_;obtain⟨L1,P0,hm⟩:=bS hm;refine o1 o 24 (mc o zkm (zbW (hE.trans b0.ext)  P0) (fun e2 p2 C0=>?_));obtain⟨rfl,Z⟩:=C0;refine⟨Z.ext,?_⟩;have K0:=b0.join Z;refine dr 0 o [25,26] ?_;refine dw [1,32] ?_;refine dd o ?_;exact⟨!L1,_,⟨hm,((((Ext.draw _).trans O.ext).trans X.ext).trans Z.ext),K0,rfl⟩,rfl⟩

end Go.E


