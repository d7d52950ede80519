/- Models of functions and proofs that the code runs as they say (written by program). Conditions: the model gives a value. -/
import Derived.Test.YtfndicpnccabkaaGreatField
namespace Go.E
open Go.RowKit Go.Proofs
set_option linter.unusedVariables false
set_option linter.unusedSimpArgs false
set_option maxHeartbeats 2000000
set_option maxRecDepth 100000

theorem zde:Enters Tryz.prog 217:=⟨_,_,Tryz.func217,rfl,by kernel_rfl⟩
def z1S (fuel:Nat) (x0:D.Agent):Option (Int):=(if(x0.Kind == 9)=true then some (w64 ((x0.Ports.length:Int) - 1)) else some 0)

theorem z8d {W w:World}(hE:Ext W w){G:Addr}{o:List Value}{x0:D.Agent}(H:z77.ro W o x0) (z:At W G o){fuel:Nat}{r:Int}(hm:z1S fuel x0=some r):
  Calls Tryz.prog 217 ⟨[.pointer (some G)]⟩ w (Ret fun v w8=>v=.int .i64 r∧St w w8 []):=by
 obtain⟨A1,k2,A4,k5,e7,h3,h6⟩:=zG H;subst e7;refine into Tryz.func217 14 _ ?_;unfold z1S at hm;have hS:=St.start w;refine sq<|rg<|rr 1 ?_;refine rn<|sq<|sq<|rg<|rr 3 ?_;refine l1 (At.ext (hE.trans hS.ext) z) 0 ?_;refine rr 1 ?_;refine rn<|ci hm (fun hm=>?_) (fun hm=>?_)
 ·refine sq<|rg<|rr 3 ?_;refine l1 (At.ext (hE.trans hS.ext) z) 4 ?_;refine rr 3 ?_;refine rn<|rt ?_;cases hm;exact⟨_,.cons (.tmp rfl) .nil,rfl,hS⟩
 ·refine sp<|sq<|rg<|rr 1 ?_;refine rn<|rt ?_;cases hm;exact⟨_,.cons (.tmp rfl) .nil,rfl,hS⟩

theorem z3u:Enters Tryz.prog 65:=⟨_,_,Tryz.func65,rfl,by kernel_rfl⟩
def zo (fuel:Nat) (x0:Int) (x1:Int) (x2:Int):Option (Bool):=(if(decide (x0≥x1))=true then some (decide (x0≤x2)) else some false)

theorem zD {W w:World}(hE:Ext W w){x0:Int}{x1:Int}{x2:Int}  {fuel:Nat}{r:Bool}(hm:zo fuel x0 x1 x2=some r):
  Calls Tryz.prog 65 ⟨[.int .i64 x0,.int .i64 x1,.int .i64 x2]⟩ w (Ret fun v w8=>v=.bool r∧St w w8 []):=by
 refine into Tryz.func65 15 _ ?_;unfold zo at hm;have hS:=St.start w;refine sq<|rg<|rr 1 ?_;refine rn<|sq<|rg<|rr 4 ?_;refine rb 10 hm (fun hm=>?_) (fun hm=>?_)
 ·refine rr 5 ?_;refine rn<|rt ?_;cases hm;exact⟨_,.cons (.tmp rfl) .nil,rfl,hS⟩
 ·refine rr 5 ?_;refine rn<|rt ?_;cases hm;exact⟨_,.cons (.tmp rfl) .nil,rfl,hS⟩

theorem zdf:Enters Tryz.prog 216:=⟨_,_,Tryz.func216,rfl,by kernel_rfl⟩
def z3D (fuel:Nat) (o:Bool):Option Int:=(if o=true then some 3 else some 0)
def z3C (fuel:Nat) (o:Bool):Option Int:=z3D fuel o
def z3B (fuel:Nat) (o:Bool):Option Int:=z3C fuel o
def z3E (fuel:Nat) (x0:Int) (o:Bool):Option Int:=(if o=true then some 2 else(if(x0 == 2)=true then z3D fuel (x0 == 2) else(if(x0 == 3)=true then z3C fuel (x0 == 3) else(if(x0 == 4)=true then z3B fuel (x0 == 4) else z3B fuel (x0 == 7)))))
def z3A (fuel:Nat) (x0:Int) (o:Bool):Option Int:=z3E fuel x0 o
def z3F (fuel:Nat) (x0:Int) (o:Bool):Option Int:=(if o=true then some 1 else(if(x0 == 8)=true then z3E fuel x0 (x0 == 8) else(if(x0 == 10)=true then z3A fuel x0 (x0 == 10) else z3A fuel x0 (x0 == 11))))
def z3z (fuel:Nat) (x0:Int) (o:Bool):Option Int:=z3F fuel x0 o
def z3y (fuel:Nat) (x0:Int) (o:Bool):Option Int:=z3z fuel x0 o
def z3g (fuel:Nat) (x0:Int) (x1:Int):Option (Int):=(if(x0 == 9)=true then((zo fuel x1 0 3).bind fun r1=>(if r1=true then some (w64 (1+x1)) else some 0)) else(if(x1 != 0)=true then some 0 else(if(x0 == 1)=true then z3F fuel x0 (x0 == 1) else(if(x0 == 5)=true then z3z fuel x0 (x0 == 5) else(if(x0 == 6)=true then z3y fuel x0 (x0 == 6) else z3y fuel x0 (x0 == 12))))))

theorem z95 {W w:World}(hE:Ext W w){x0:Int}{x1:Int}  {fuel:Nat}{r:Int}(hm:z3g fuel x0 x1=some r):
  Calls Tryz.prog 216 ⟨[.int .i64 x0,.int .i64 x1]⟩ w (Ret fun v w8=>v=.int .i64 r∧St w w8 []):=by
 refine into Tryz.func216 28 _ ?_;unfold z3g at hm;have hS:=St.start w;refine sq<|rg<|rr 1 ?_;refine rn<|sq<|sq<|rg<|rr 2 ?_;refine rn<|ci hm (fun hm=>?_) (fun hm=>?_)
 ·refine sq<|sq<|rg<|rr 1 ?_;obtain⟨r1,C0,hm⟩:=bS hm;refine ca z3u (zD (hE.trans hS.ext)  C0) (fun v3 w4 A0=>?_);obtain⟨rfl,B0⟩:=A0;have r0:=hS.join B0;refine rn<|ci hm (fun hm=>?_) (fun hm=>?_)
  ·refine sq<|rg<|rr 3 ?_;refine rn<|rt ?_;cases hm;exact⟨_,.cons (.tmp rfl) .nil,rfl,r0⟩
  ·refine sp<|sq<|rg<|rr 1 ?_;refine rn<|rt ?_;cases hm;exact⟨_,.cons (.tmp rfl) .nil,rfl,r0⟩
 ·refine sp<|sq<|sq<|rg<|rr 2 ?_;refine rn<|ci hm (fun hm=>?_) (fun hm=>?_)
  ·refine sq<|rg<|rr 1 ?_;refine rn<|rt ?_;cases hm;exact⟨_,.cons (.tmp rfl) .nil,rfl,hS⟩
  ·refine sp<|sq<|sq<|rg<|rr 1 ?_;refine rn<|bk<|sq<|sq<|rg<|rr 2 ?_;refine rn<|ct (fun(k0:Bool) F w9=>z3F fuel x0 k0=some r∧Ext w w9∧St w w9 []∧F=[(13,.int .i64 x0),(14,.bool k0)]) ?_ ?_
   ·rintro k0 F t0 ⟨hm,u0,z,rfl⟩;unfold z3F at hm;refine ci hm (fun hm=>?_) (fun hm=>?_)
    ·refine sq<|rg<|rr 1 ?_;refine rn<|rt ?_;cases hm;exact⟨_,.cons (.tmp rfl) .nil,rfl,z⟩
    ·refine sq<|sq<|rg<|rr 2 ?_;refine rn<|ct (fun(o0:Bool) F w9=>z3E fuel x0 o0=some r∧Ext t0 w9∧St w w9 []∧F=[(13,.int .i64 x0),(19,.bool o0)]) ?_ ?_
     ·rintro o0 F q0 ⟨hm,v0,o,rfl⟩;unfold z3E at hm;refine ci hm (fun hm=>?_) (fun hm=>?_)
      ·refine sq<|rg<|rr 1 ?_;refine rn<|rt ?_;cases hm;exact⟨_,.cons (.tmp rfl) .nil,rfl,o⟩
      ·refine sq<|sq<|rg<|rr 2 ?_;refine rn<|ct (fun(p0:Bool) F w9=>z3D fuel p0=some r∧Ext q0 w9∧St w w9 []∧F=[(23,.bool p0)]) ?_ ?_
       ·rintro p0 F D0 ⟨hm,y0,G,rfl⟩;unfold z3D at hm;refine ci hm (fun hm=>?_) (fun hm=>?_)
        ·refine sq<|rg<|rr 1 ?_;refine rn<|rt ?_;cases hm;exact⟨_,.cons (.tmp rfl) .nil,rfl,G⟩
        ·refine sp<|sq<|rg<|rr 1 ?_;refine rn<|rt ?_;cases hm;exact⟨_,.cons (.tmp rfl) .nil,rfl,G⟩
       ·refine ci hm (fun hm=>?_) (fun hm=>?_)
        ·refine sp ?_;exact⟨(x0 == 2),_,⟨hm,(Ext.refl _),o,rfl⟩,rfl⟩
        ·refine sq<|rg<|rr 2 ?_;refine rn<|ct (fun(H:Bool) F w9=>z3C fuel H=some r∧Ext q0 w9∧St w w9 []∧F=[(23,.bool H)]) ?_ ?_
         ·rintro H F E0 ⟨hm,Y,d0,rfl⟩;unfold z3C at hm;exact⟨H,_,⟨hm,Y,d0,rfl⟩,rfl⟩
         ·refine ci hm (fun hm=>?_) (fun hm=>?_)
          ·refine sp ?_;exact⟨(x0 == 3),_,⟨hm,(Ext.refl _),o,rfl⟩,rfl⟩
          ·refine sq<|rg<|rr 2 ?_;refine rn<|ct (fun(L:Bool) F w9=>z3B fuel L=some r∧Ext q0 w9∧St w w9 []∧F=[(23,.bool L)]) ?_ ?_
           ·rintro L F F0 ⟨hm,Z,f0,rfl⟩;unfold z3B at hm;exact⟨L,_,⟨hm,Z,f0,rfl⟩,rfl⟩
           ·refine ci hm (fun hm=>?_) (fun hm=>?_)
            ·refine sp ?_;exact⟨(x0 == 4),_,⟨hm,(Ext.refl _),o,rfl⟩,rfl⟩
            ·refine rg<|rr 2 ?_;refine rn ?_;exact⟨(x0 == 7),_,⟨hm,(Ext.refl _),o,rfl⟩,rfl⟩
     ·refine ci hm (fun hm=>?_) (fun hm=>?_)
      ·refine sp ?_;exact⟨(x0 == 8),_,⟨hm,(Ext.refl _),z,rfl⟩,rfl⟩
      ·refine sq<|rg<|rr 2 ?_;refine rn<|ct (fun(M:Bool) F w9=>z3A fuel x0 M=some r∧Ext t0 w9∧St w w9 []∧F=[(13,.int .i64 x0),(19,.bool M)]) ?_ ?_
       ·rintro M F G0 ⟨hm,a0,g0,rfl⟩;unfold z3A at hm;exact⟨M,_,⟨hm,a0,g0,rfl⟩,rfl⟩
       ·refine ci hm (fun hm=>?_) (fun hm=>?_)
        ·refine sp ?_;exact⟨(x0 == 10),_,⟨hm,(Ext.refl _),z,rfl⟩,rfl⟩
        ·refine rg<|rr 2 ?_;refine rn ?_;exact⟨(x0 == 11),_,⟨hm,(Ext.refl _),z,rfl⟩,rfl⟩
   ·refine ci hm (fun hm=>?_) (fun hm=>?_)
    ·refine sp ?_;exact⟨(x0 == 1),_,⟨hm,(Ext.refl _),hS,rfl⟩,rfl⟩
    ·refine sq<|rg<|rr 2 ?_;refine rn<|ct (fun(O:Bool) F w9=>z3z fuel x0 O=some r∧Ext w w9∧St w w9 []∧F=[(13,.int .i64 x0),(14,.bool O)]) ?_ ?_
     ·rintro O F H0 ⟨hm,b0,i0,rfl⟩;unfold z3z at hm;exact⟨O,_,⟨hm,b0,i0,rfl⟩,rfl⟩
     ·refine ci hm (fun hm=>?_) (fun hm=>?_)
      ·refine sp ?_;exact⟨(x0 == 5),_,⟨hm,(Ext.refl _),hS,rfl⟩,rfl⟩
      ·refine sq<|rg<|rr 2 ?_;refine rn<|ct (fun(X:Bool) F w9=>z3y fuel x0 X=some r∧Ext w w9∧St w w9 []∧F=[(13,.int .i64 x0),(14,.bool X)]) ?_ ?_
       ·rintro X F J0 ⟨hm,c0,j0,rfl⟩;unfold z3y at hm;exact⟨X,_,⟨hm,c0,j0,rfl⟩,rfl⟩
       ·refine ci hm (fun hm=>?_) (fun hm=>?_)
        ·refine sp ?_;exact⟨(x0 == 6),_,⟨hm,(Ext.refl _),hS,rfl⟩,rfl⟩
        ·refine rg<|rr 2 ?_;refine rn ?_;exact⟨(x0 == 12),_,⟨hm,(Ext.refl _),hS,rfl⟩,rfl⟩

theorem zd3:Enters Tryz.prog 242:=⟨_,_,Tryz.func242,rfl,by kernel_rfl⟩
def z32 (fuel:Nat) (t1:Bool):Option Bool:=(if t1=true then some true else some false)
def z31 (fuel:Nat) (t6:Bool):Option Bool:=z32 fuel t6
def z30 (fuel:Nat) (o:Bool):Option Bool:=z31 fuel o
def z2Z (fuel:Nat) (o:Bool):Option Bool:=z30 fuel o
def z2Y (fuel:Nat) (o:Bool):Option Bool:=z2Z fuel o
def z2X (fuel:Nat) (o:Bool):Option Bool:=z2Y fuel o
def z2W (fuel:Nat) (o:Bool):Option Bool:=z2X fuel o
def z2V (fuel:Nat) (o:Bool):Option Bool:=z2W fuel o
def z4B (fuel:Nat) (x0:Int):Option (Bool):=(if(x0 == 2)=true then z32 fuel (x0 == 2) else(if(x0 == 3)=true then z31 fuel (x0 == 3) else(if(x0 == 4)=true then z30 fuel (x0 == 4) else(if(x0 == 7)=true then z2Z fuel (x0 == 7) else(if(x0 == 8)=true then z2Y fuel (x0 == 8) else(if(x0 == 9)=true then z2X fuel (x0 == 9) else(if(x0 == 10)=true then z2W fuel (x0 == 10) else(if(x0 == 11)=true then z2V fuel (x0 == 11) else z2V fuel (x0 == 12)))))))))

theorem z8D {W w:World}(hE:Ext W w){x0:Int}  {fuel:Nat}{r:Bool}(hm:z4B fuel x0=some r):
  Calls Tryz.prog 242 ⟨[.int .i64 x0]⟩ w (Ret fun v w8=>v=.bool r∧St w w8 []):=by
 refine into Tryz.func242 14 _ ?_;unfold z4B at hm;have hS:=St.start w;refine sq<|rg<|rr 1 ?_;refine rn<|sq<|sq<|rg<|rr 1 ?_;refine rn<|bk<|sq<|sq<|rg<|rr 2 ?_;refine rn<|ct (fun(t1:Bool) F w9=>z32 fuel t1=some r∧Ext w w9∧St w w9 []∧F=[(4,.bool t1)]) ?_ ?_
 ·rintro t1 F w4 ⟨hm,q0,o0,rfl⟩;unfold z32 at hm;refine ci hm (fun hm=>?_) (fun hm=>?_)
  ·refine sq<|rg<|rr 1 ?_;refine rn<|rt ?_;cases hm;exact⟨_,.cons (.tmp rfl) .nil,rfl,o0⟩
  ·refine sp<|sq<|rg<|rr 1 ?_;refine rn<|rt ?_;cases hm;exact⟨_,.cons (.tmp rfl) .nil,rfl,o0⟩
 ·refine ci hm (fun hm=>?_) (fun hm=>?_)
  ·refine sp ?_;exact⟨(x0 == 2),_,⟨hm,(Ext.refl _),hS,rfl⟩,rfl⟩
  ·refine sq<|rg<|rr 2 ?_;refine rn<|ct (fun(t6:Bool) F w9=>z31 fuel t6=some r∧Ext w w9∧St w w9 []∧F=[(4,.bool t6)]) ?_ ?_
   ·rintro t6 F r0 ⟨hm,p0,c0,rfl⟩;unfold z31 at hm;exact⟨t6,_,⟨hm,p0,c0,rfl⟩,rfl⟩
   ·refine ci hm (fun hm=>?_) (fun hm=>?_)
    ·refine sp ?_;exact⟨(x0 == 3),_,⟨hm,(Ext.refl _),hS,rfl⟩,rfl⟩
    ·refine sq<|rg<|rr 2 ?_;refine rn<|ct (fun(o:Bool) F w9=>z30 fuel o=some r∧Ext w w9∧St w w9 []∧F=[(4,.bool o)]) ?_ ?_
     ·rintro o F t0 ⟨hm,O,d0,rfl⟩;unfold z30 at hm;exact⟨o,_,⟨hm,O,d0,rfl⟩,rfl⟩
     ·refine ci hm (fun hm=>?_) (fun hm=>?_)
      ·refine sp ?_;exact⟨(x0 == 4),_,⟨hm,(Ext.refl _),hS,rfl⟩,rfl⟩
      ·refine sq<|rg<|rr 2 ?_;refine rn<|ct (fun(z:Bool) F w9=>z2Z fuel z=some r∧Ext w w9∧St w w9 []∧F=[(4,.bool z)]) ?_ ?_
       ·rintro z F u0 ⟨hm,X,f0,rfl⟩;unfold z2Z at hm;exact⟨z,_,⟨hm,X,f0,rfl⟩,rfl⟩
       ·refine ci hm (fun hm=>?_) (fun hm=>?_)
        ·refine sp ?_;exact⟨(x0 == 7),_,⟨hm,(Ext.refl _),hS,rfl⟩,rfl⟩
        ·refine sq<|rg<|rr 2 ?_;refine rn<|ct (fun(G:Bool) F w9=>z2Y fuel G=some r∧Ext w w9∧St w w9 []∧F=[(4,.bool G)]) ?_ ?_
         ·rintro G F v0 ⟨hm,Y,g0,rfl⟩;unfold z2Y at hm;exact⟨G,_,⟨hm,Y,g0,rfl⟩,rfl⟩
         ·refine ci hm (fun hm=>?_) (fun hm=>?_)
          ·refine sp ?_;exact⟨(x0 == 8),_,⟨hm,(Ext.refl _),hS,rfl⟩,rfl⟩
          ·refine sq<|rg<|rr 2 ?_;refine rn<|ct (fun(H:Bool) F w9=>z2X fuel H=some r∧Ext w w9∧St w w9 []∧F=[(4,.bool H)]) ?_ ?_
           ·rintro H F y0 ⟨hm,Z,i0,rfl⟩;unfold z2X at hm;exact⟨H,_,⟨hm,Z,i0,rfl⟩,rfl⟩
           ·refine ci hm (fun hm=>?_) (fun hm=>?_)
            ·refine sp ?_;exact⟨(x0 == 9),_,⟨hm,(Ext.refl _),hS,rfl⟩,rfl⟩
            ·refine sq<|rg<|rr 2 ?_;refine rn<|ct (fun(L:Bool) F w9=>z2W fuel L=some r∧Ext w w9∧St w w9 []∧F=[(4,.bool L)]) ?_ ?_
             ·rintro L F A0 ⟨hm,a0,j0,rfl⟩;unfold z2W at hm;exact⟨L,_,⟨hm,a0,j0,rfl⟩,rfl⟩
             ·refine ci hm (fun hm=>?_) (fun hm=>?_)
              ·refine sp ?_;exact⟨(x0 == 10),_,⟨hm,(Ext.refl _),hS,rfl⟩,rfl⟩
              ·refine sq<|rg<|rr 2 ?_;refine rn<|ct (fun(M:Bool) F w9=>z2V fuel M=some r∧Ext w w9∧St w w9 []∧F=[(4,.bool M)]) ?_ ?_
               ·rintro M F B0 ⟨hm,b0,k0,rfl⟩;unfold z2V at hm;exact⟨M,_,⟨hm,b0,k0,rfl⟩,rfl⟩
               ·refine ci hm (fun hm=>?_) (fun hm=>?_)
                ·refine sp ?_;exact⟨(x0 == 11),_,⟨hm,(Ext.refl _),hS,rfl⟩,rfl⟩
                ·refine rg<|rr 2 ?_;refine rn ?_;exact⟨(x0 == 12),_,⟨hm,(Ext.refl _),hS,rfl⟩,rfl⟩

theorem zd2:Enters Tryz.prog 243:=⟨_,_,Tryz.func243,rfl,by kernel_rfl⟩
def z5Q (fuel:Nat) (x0:Int):Option (Bool):=((zo fuel x0 1 12).bind fun r1=>some r1)

theorem z94 {W w:World}(hE:Ext W w){x0:Int}  {fuel:Nat}{r:Bool}(hm:z5Q fuel x0=some r):
  Calls Tryz.prog 243 ⟨[.int .i64 x0]⟩ w (Ret fun v w8=>v=.bool r∧St w w8 []):=by
 refine into Tryz.func243 5 _ ?_;unfold z5Q at hm;have hS:=St.start w;refine sq<|rg<|rr 1 ?_;refine rn<|sq<|rg<|rr 1 ?_;obtain⟨r1,H,hm⟩:=bS hm;refine ca z3u (zD (hE.trans hS.ext)  H) (fun v3 w4 o=>?_);obtain⟨rfl,z⟩:=o;have G:=hS.join z;refine rr 1 ?_;refine rn<|rt ?_;cases hm;exact⟨_,.cons (.tmp rfl) .nil,rfl,G⟩

theorem zdd:Enters Tryz.prog 218:=⟨_,_,Tryz.func218,rfl,by kernel_rfl⟩
def z4A (fuel:Nat) (x0:Int) (x1:Int):Option (Bool):=((z4B fuel x0).bind fun r1=>(if r1=true then((zo fuel x1 0 8).bind fun o=>some o) else((z5Q fuel x0).bind fun z=>(if z=true then some (x1 == 0) else some false))))

theorem z8C {W w:World}(hE:Ext W w){x0:Int}{x1:Int}  {fuel:Nat}{r:Bool}(hm:z4A fuel x0 x1=some r):
  Calls Tryz.prog 218 ⟨[.int .i64 x0,.int .i64 x1]⟩ w (Ret fun v w8=>v=.bool r∧St w w8 []):=by
 refine into Tryz.func218 15 _ ?_;unfold z4A at hm;have hS:=St.start w;refine sq<|rg<|rr 1 ?_;refine rn<|sq<|sq<|rg<|rr 1 ?_;obtain⟨r1,b0,hm⟩:=bS hm;refine ca zd3 (z8D (hE.trans hS.ext)  b0) (fun v3 w4 Z=>?_);obtain⟨rfl,a0⟩:=Z;have z:=hS.join a0;refine rn<|ci hm (fun hm=>?_) (fun hm=>?_)
 ·refine sq<|rg<|rr 1 ?_;obtain⟨c0,X,hm⟩:=bS hm;refine ca z3u (zD (hE.trans z.ext)  X) (fun f0 i0 G=>?_);obtain⟨rfl,H⟩:=G;have O:=z.join H;refine rr 1 ?_;refine rn<|rt ?_;cases hm;exact⟨_,.cons (.tmp rfl) .nil,rfl,O⟩
 ·refine sp<|sq<|rg<|rr 1 ?_;obtain⟨d0,Y,hm⟩:=bS hm;refine ca zd2 (z94 (hE.trans z.ext)  Y) (fun g0 j0 L=>?_);obtain⟨rfl,M⟩:=L;have o:=z.join M;refine rr 1 ?_;refine rb 11 hm (fun hm=>?_) (fun hm=>?_)
  ·refine rr 4 ?_;refine rn<|rt ?_;cases hm;exact⟨_,.cons (.tmp rfl) .nil,rfl,o⟩
  ·refine rr 4 ?_;refine rn<|rt ?_;cases hm;exact⟨_,.cons (.tmp rfl) .nil,rfl,o⟩

theorem zaW:Enters Tryz.prog 244:=⟨_,_,Tryz.func244,rfl,by kernel_rfl⟩
def z4R (fuel:Nat) (x0:Int):Option (Bool):=((zo fuel x0 0 23).bind fun r1=>some r1)

theorem z7w {W w:World}(hE:Ext W w){x0:Int}  {fuel:Nat}{r:Bool}(hm:z4R fuel x0=some r):
  Calls Tryz.prog 244 ⟨[.int .i64 x0]⟩ w (Ret fun v w8=>v=.bool r∧St w w8 []):=by
 refine into Tryz.func244 5 _ ?_;unfold z4R at hm;have hS:=St.start w;refine sq<|rg<|rr 1 ?_;refine rn<|sq<|rg<|rr 1 ?_;obtain⟨r1,H,hm⟩:=bS hm;refine ca z3u (zD (hE.trans hS.ext)  H) (fun v3 w4 o=>?_);obtain⟨rfl,z⟩:=o;have G:=hS.join z;refine rr 1 ?_;refine rn<|rt ?_;cases hm;exact⟨_,.cons (.tmp rfl) .nil,rfl,G⟩

theorem zdc:Enters Tryz.prog 219:=⟨_,_,Tryz.func219,rfl,by kernel_rfl⟩
def z4X (fuel:Nat) (o:Unit):Option Bool:=some true
def z1U (fuel:Nat) (x0:D.Agent) (o:Int):Option (Rd (Int) (Unit) (Bool)):=(if(decide (o<(x0.Data.length:Int)))=true then((idx x0.Data o).bind fun G=>((z4R fuel G).bind fun z=>(if(!z)=true then some (.ret false) else some (.next (w64 (o+1)))))) else some (.brk ()))
def zp (fuel:Nat) (x0:D.Agent) (z:Bool):Option Bool:=(if z=true then some false else((iter (z1U fuel x0) fuel 0).bind fun o=>aft o (z4X fuel)))
def zV (fuel:Nat) (x0:D.Agent) (G:Bool):Option Bool:=(if G=true then(if(x0.Value != 0)=true then zp fuel x0 true else(if(x0.Kind == 11)=true then(if((x0.Data.length:Int) != 2)=true then zp fuel x0 true else(if(x0.Kind == 10)=true then((zo fuel (x0.Data.length:Int) 1 4).bind fun o=>zp fuel x0 (!o)) else zp fuel x0 false)) else(if(x0.Kind == 10)=true then((zo fuel (x0.Data.length:Int) 1 4).bind fun z=>zp fuel x0 (!z)) else zp fuel x0 false))) else(if(x0.Value == 0)=true then some ((x0.Data.length:Int) == 0) else some false))
def zu (fuel:Nat) (x0:D.Agent):Option (Bool):=(if(x0.Kind == 6)=true then(if((x0.Data.length:Int) == 0)=true then((zo fuel x0.Value (-2147483648) 2147483647).bind fun o=>some o) else some false) else(if(x0.Kind == 7)=true then(if((x0.Data.length:Int) == 0)=true then((zo fuel x0.Value 1 6).bind fun z=>some z) else some false) else(if(x0.Kind == 8)=true then(if((x0.Data.length:Int) == 1)=true then((zo fuel x0.Value 1 6).bind fun G=>(if G=true then((idx x0.Data 0).bind fun O=>((zo fuel O (-2147483648) 2147483647).bind fun H=>some H)) else some false)) else some false) else(if(x0.Kind == 9)=true then(if((x0.Data.length:Int) == 0)=true then((zo fuel x0.Value 0 3).bind fun L=>some L) else some false) else(if(x0.Kind == 12)=true then(if((x0.Data.length:Int) == 0)=true then((z4R fuel x0.Value).bind fun M=>some M) else some false) else(if(x0.Kind == 10)=true then zV fuel x0 (x0.Kind == 10) else zV fuel x0 (x0.Kind == 11)))))))

theorem z7L {W w:World}(hE:Ext W w){o0:Addr}{j1:List Value}{x0:D.Agent}(t1:z77.ro W j1 x0) (G:At W o0 j1){fuel:Nat}{r:Bool}(hm:zu fuel x0=some r):
  Calls Tryz.prog 219 ⟨[.pointer (some o0)]⟩ w (Ret fun v w8=>v=.bool r∧St w w8 []):=by
 obtain⟨A1,k2,A4,k5,e7,h3,h6⟩:=zG t1;subst e7;refine into Tryz.func219 162 _ ?_;unfold zu at hm;have hS:=St.start w;refine sq<|rg<|rr 1 ?_;refine rn<|sq<|sq<|rg<|rr 3 ?_;refine l1 (At.ext (hE.trans hS.ext) G) 0 ?_;refine rn<|bk<|sq<|rg<|rr 2 ?_;refine rn<|ci hm (fun hm=>?_) (fun hm=>?_)
 ·refine sq<|rg<|rr 3 ?_;refine l1 (At.ext (hE.trans hS.ext) G) 3 ?_;refine rr 3 ?_;refine rb 16 hm (fun hm=>?_) (fun hm=>?_)
  ·refine rr 3 ?_;refine l1 (At.ext (hE.trans hS.ext) G) 2 ?_;obtain⟨M1,T0,hm⟩:=bS hm;refine ca z3u (zD (hE.trans hS.ext)  T0) (fun T1 b2 p0=>?_);obtain⟨rfl,q0⟩:=p0;have F0:=hS.join q0;refine rr 2 ?_;refine rn<|rt ?_;cases hm;exact⟨_,.cons (.tmp rfl) .nil,rfl,F0⟩
  ·refine rr 7 ?_;refine rn<|rt ?_;cases hm;exact⟨_,.cons (.tmp rfl) .nil,rfl,hS⟩
 ·refine sq<|rg<|rr 2 ?_;refine rn<|ci hm (fun hm=>?_) (fun hm=>?_)
  ·refine sq<|rg<|rr 3 ?_;refine l1 (At.ext (hE.trans hS.ext) G) 3 ?_;refine rr 3 ?_;refine rb 31 hm (fun hm=>?_) (fun hm=>?_)
   ·refine rr 3 ?_;refine l1 (At.ext (hE.trans hS.ext) G) 2 ?_;obtain⟨N1,U0,hm⟩:=bS hm;refine ca z3u (zD (hE.trans hS.ext)  U0) (fun U1 d2 r0=>?_);obtain⟨rfl,t0⟩:=r0;have G0:=hS.join t0;refine rr 2 ?_;refine rn<|rt ?_;cases hm;exact⟨_,.cons (.tmp rfl) .nil,rfl,G0⟩
   ·refine rr 7 ?_;refine rn<|rt ?_;cases hm;exact⟨_,.cons (.tmp rfl) .nil,rfl,hS⟩
  ·refine sq<|rg<|rr 2 ?_;refine rn<|ci hm (fun hm=>?_) (fun hm=>?_)
   ·refine sq<|rg<|rr 3 ?_;refine l1 (At.ext (hE.trans hS.ext) G) 3 ?_;refine rr 3 ?_;refine rb 46 hm (fun hm=>?_) (fun hm=>?_)
    ·refine rr 3 ?_;refine l1 (At.ext (hE.trans hS.ext) G) 2 ?_;obtain⟨O1,V0,hm⟩:=bS hm;refine ca z3u (zD (hE.trans hS.ext)  V0) (fun V1 e2 u0=>?_);obtain⟨rfl,v0⟩:=u0;have L:=hS.join v0;refine rr 2 ?_;refine rb 53 hm (fun hm=>?_) (fun hm=>?_)
     ·refine rr 3 ?_;refine l1 (At.ext (hE.trans L.ext) G) 3 ?_;obtain⟨n2,W0,hm⟩:=bS hm;refine ix (hE.trans L.ext) h3 W0 (fun K1 p1 M0 Q0=>?_);cases Q0;refine l1 (At.ext (hE.trans L.ext) M0) 0 ?_;obtain⟨P1,X0,hm⟩:=bS hm;refine ca z3u (zD (hE.trans L.ext)  X0) (fun W1 f2 y0=>?_);obtain⟨rfl,A0⟩:=y0;have H0:=L.join A0;refine rr 2 ?_;refine rn<|rt ?_;cases hm;exact⟨_,.cons (.tmp rfl) .nil,rfl,H0⟩
     ·refine rr 9 ?_;refine rn<|rt ?_;cases hm;exact⟨_,.cons (.tmp rfl) .nil,rfl,L⟩
    ·refine rr 16 ?_;refine rn<|rt ?_;cases hm;exact⟨_,.cons (.tmp rfl) .nil,rfl,hS⟩
   ·refine sq<|rg<|rr 2 ?_;refine rn<|ci hm (fun hm=>?_) (fun hm=>?_)
    ·refine sq<|rg<|rr 3 ?_;refine l1 (At.ext (hE.trans hS.ext) G) 3 ?_;refine rr 3 ?_;refine rb 70 hm (fun hm=>?_) (fun hm=>?_)
     ·refine rr 3 ?_;refine l1 (At.ext (hE.trans hS.ext) G) 2 ?_;obtain⟨Q1,Y0,hm⟩:=bS hm;refine ca z3u (zD (hE.trans hS.ext)  Y0) (fun X1 g2 B0=>?_);obtain⟨rfl,C0⟩:=B0;have J0:=hS.join C0;refine rr 2 ?_;refine rn<|rt ?_;cases hm;exact⟨_,.cons (.tmp rfl) .nil,rfl,J0⟩
     ·refine rr 7 ?_;refine rn<|rt ?_;cases hm;exact⟨_,.cons (.tmp rfl) .nil,rfl,hS⟩
    ·refine sq<|rg<|rr 2 ?_;refine rn<|ci hm (fun hm=>?_) (fun hm=>?_)
     ·refine sq<|rg<|rr 3 ?_;refine l1 (At.ext (hE.trans hS.ext) G) 3 ?_;refine rr 3 ?_;refine rb 85 hm (fun hm=>?_) (fun hm=>?_)
      ·refine rr 3 ?_;refine l1 (At.ext (hE.trans hS.ext) G) 2 ?_;obtain⟨R1,a1,hm⟩:=bS hm;refine ca zaW (z7w (hE.trans hS.ext)  a1) (fun Y1 i2 D0=>?_);obtain⟨rfl,E0⟩:=D0;have K0:=hS.join E0;refine rr 2 ?_;refine rn<|rt ?_;cases hm;exact⟨_,.cons (.tmp rfl) .nil,rfl,K0⟩
      ·refine rr 7 ?_;refine rn<|rt ?_;cases hm;exact⟨_,.cons (.tmp rfl) .nil,rfl,hS⟩
     ·refine sq<|sq<|rg<|rr 2 ?_;refine rn<|ct (fun(g1:Bool) F w9=>zV fuel x0 g1=some r∧Ext w w9∧St w w9 []∧F=[(0,.pointer (some o0)),(92,.bool g1)]) ?_ ?_
      ·rintro g1 F H1 ⟨hm,u1,o,rfl⟩;unfold zV at hm;refine ci hm (fun hm=>?_) (fun hm=>?_)
       ·refine sq<|sq<|ct (fun(i1:Bool) F w9=>zp fuel x0 i1=some r∧Ext H1 w9∧St w w9 []∧F=[(0,.pointer (some o0)),(130,.bool i1)]) ?_ ?_
        ·rintro i1 F n1 ⟨hm,v1,g0,rfl⟩;unfold zp at hm;refine ci hm (fun hm=>?_) (fun hm=>?_)
         ·refine sq<|rg<|rr 1 ?_;refine rn<|rt ?_;cases hm;exact⟨_,.cons (.tmp rfl) .nil,rfl,g0⟩
         ·refine sp<|sq<|sq<|rg<|rr 1 ?_;refine rn ?_;obtain⟨B1,O0,hm⟩:=bS hm;refine ct (fun(m1:Unit) F w9=>B1=.inl m1∧Ext n1 w9∧St w w9 []∧F=[]) ?_ ?_
          ·rintro m1 F j2 ⟨P0,y1,L0,rfl⟩;subst P0;rw [z8] at hm;unfold z4X at hm;refine sq<|rg<|rr 1 ?_;refine rn<|rt ?_;cases hm;exact⟨_,.cons (.tmp rfl) .nil,rfl,L0⟩
          ·refine bk<|wk [0,3] ?_;refine it (fun(k1:Int) F w9=>Ext n1 w9∧St w w9 []∧F=[(0,.pointer (some o0)),(3,.int .i64 k1)]) O0 ⟨(Ext.refl _),g0,rfl⟩ ?_;rintro k1 F m2 _ J1 ⟨Z,H,rfl⟩ z i0;unfold z1U at z;refine sq<|sq<|rg<|rr 4 ?_;refine l1 (At.ext (hE.trans H.ext) G) 3 ?_;refine rr 2 ?_;refine rn<|ci z (fun z=>?_) (fun z=>?_)
           ·refine sp<|sq<|bk<|sq<|rg<|rr 3 ?_;refine l1 (At.ext (hE.trans H.ext) G) 3 ?_;refine rr 1 ?_;obtain⟨o2,b1,z⟩:=bS z;refine ix (hE.trans H.ext) h3 b1 (fun L1 s1 N0 R0=>?_);cases R0;refine l1 (At.ext (hE.trans H.ext) N0) 0 ?_;obtain⟨S1,d1,z⟩:=bS z;refine ca zaW (z7w (hE.trans H.ext)  d1) (fun a2 E1 a0=>?_);obtain⟨rfl,M⟩:=a0;have Y:=H.join M;refine rr 1 ?_;refine rn<|ci z (fun z=>?_) (fun z=>?_)
            ·refine sq<|rg<|rr 1 ?_;refine rn<|rt ?_;cases z;cases i0;have hm:some _=some _:=hm;cases hm;exact⟨_,.cons (.tmp rfl) .nil,rfl,Y⟩
            ·refine sp<|rg<|rr 3 ?_;refine rn ?_;cases z;exact⟨_,_,rfl,⟨(Z.trans M.ext),Y,rfl⟩,rfl⟩
           ·refine xt ?_;cases z;exact⟨_,_,⟨i0,Z,H,rfl⟩,rfl⟩
        ·refine rg<|rr 3 ?_;refine l1 (At.ext (hE.trans o.ext) G) 2 ?_;refine rr 2 ?_;refine rb 100 hm (fun hm=>?_) (fun hm=>?_)
         ·refine rr 30 ?_;refine rn ?_;exact⟨true,_,⟨hm,(Ext.refl _),o,rfl⟩,rfl⟩
         ·refine rr 3 ?_;refine l1 (At.ext (hE.trans o.ext) G) 0 ?_;refine rr 2 ?_;refine rb 106 hm (fun hm=>?_) (fun hm=>?_)
          ·refine rr 3 ?_;refine l1 (At.ext (hE.trans o.ext) G) 3 ?_;refine rr 5 ?_;refine rb 115 hm (fun hm=>?_) (fun hm=>?_)
           ·refine rr 15 ?_;refine rn ?_;exact⟨true,_,⟨hm,(Ext.refl _),o,rfl⟩,rfl⟩
           ·refine rr 3 ?_;refine l1 (At.ext (hE.trans o.ext) G) 0 ?_;refine rr 2 ?_;refine rb 121 hm (fun hm=>?_) (fun hm=>?_)
            ·refine rr 3 ?_;refine l1 (At.ext (hE.trans o.ext) G) 3 ?_;refine rr 1 ?_;obtain⟨e1,j0,hm⟩:=bS hm;refine ca z3u (zD (hE.trans o.ext)  j0) (fun C1 F1 b0=>?_);obtain⟨rfl,O⟩:=b0;have d0:=o.join O;refine rr 3 ?_;refine rn ?_;exact⟨!e1,_,⟨hm,O.ext,d0,rfl⟩,rfl⟩
            ·refine rr 9 ?_;refine rn ?_;exact⟨false,_,⟨hm,(Ext.refl _),o,rfl⟩,rfl⟩
          ·refine rr 12 ?_;refine l1 (At.ext (hE.trans o.ext) G) 0 ?_;refine rr 2 ?_;refine rb 121 hm (fun hm=>?_) (fun hm=>?_)
           ·refine rr 3 ?_;refine l1 (At.ext (hE.trans o.ext) G) 3 ?_;refine rr 1 ?_;obtain⟨f1,k0,hm⟩:=bS hm;refine ca z3u (zD (hE.trans o.ext)  k0) (fun D1 G1 c0=>?_);obtain⟨rfl,X⟩:=c0;have f0:=o.join X;refine rr 3 ?_;refine rn ?_;exact⟨!f1,_,⟨hm,X.ext,f0,rfl⟩,rfl⟩
           ·refine rr 9 ?_;refine rn ?_;exact⟨false,_,⟨hm,(Ext.refl _),o,rfl⟩,rfl⟩
       ·refine sp<|sq<|rg<|rr 3 ?_;refine l1 (At.ext (hE.trans o.ext) G) 2 ?_;refine rr 2 ?_;refine rb 154 hm (fun hm=>?_) (fun hm=>?_)
        ·refine rr 3 ?_;refine l1 (At.ext (hE.trans o.ext) G) 3 ?_;refine rr 4 ?_;refine rn<|rt ?_;cases hm;exact⟨_,.cons (.tmp rfl) .nil,rfl,o⟩
        ·refine rr 8 ?_;refine rn<|rt ?_;cases hm;exact⟨_,.cons (.tmp rfl) .nil,rfl,o⟩
      ·refine ci hm (fun hm=>?_) (fun hm=>?_)
       ·refine sp ?_;exact⟨(x0.Kind == 10),_,⟨hm,(Ext.refl _),hS,rfl⟩,rfl⟩
       ·refine rg<|rr 2 ?_;refine rn ?_;exact⟨(x0.Kind == 11),_,⟨hm,(Ext.refl _),hS,rfl⟩,rfl⟩

theorem zdr:Enters Tryz.prog 180:=⟨_,_,Tryz.func180,rfl,by kernel_rfl⟩
def z2n (fuel:Nat) (x0:D.Agent):Option (Bool):=((z1S fuel x0).bind fun z=>((z3g fuel x0.Kind z).bind fun o=>(if(decide (o>0))=true then(if((x0.Ports.length:Int) == o)=true then((z4A fuel x0.Kind x0.Level).bind fun G=>(if G=true then((zu fuel x0).bind fun H=>some H) else some false)) else some false) else some false)))

theorem z8B {W w:World}(hE:Ext W w){t0:Addr}{r0:List Value}{x0:D.Agent}(c0:z77.ro W r0 x0) (M:At W t0 r0){fuel:Nat}{r:Bool}(hm:z2n fuel x0=some r):
  Calls Tryz.prog 180 ⟨[.pointer (some t0)]⟩ w (Ret fun v w8=>v=.bool r∧St w w8 []):=by
 obtain⟨A1,k2,A4,k5,e7,h3,h6⟩:=zG c0;subst e7;refine into Tryz.func180 37 _ ?_;unfold z2n at hm;have hS:=St.start w;refine sq<|rg<|rr 1 ?_;refine rn<|sq<|dn 0 mixed 8 [([],255),([0],254),([1],253),([2],251),([],255),([4],239),([3,5,5],215),([6,6,0,1,2,3,4,5,6],191)] hS.ext (fun z=>?_);have a0:=hS.step (Ext.draw _);refine dr 4 z [0,1,2,4] ?_;refine dl z 3 (At.ext (hE.trans hS.ext) M) 0 ?_;obtain⟨u0,k0,hm⟩:=bS hm;refine o1 z 5 (mc z zde (z8d (hE.trans a0.ext) c0 M k0) (fun B0 F0 d0=>?_));obtain⟨rfl,O⟩:=d0;refine⟨O.ext,?_⟩;have b0:=a0.join O;obtain⟨v0,o0,hm⟩:=bS hm;refine o1 z 6 (mc z zdf (z95 (hE.trans b0.ext)  o0) (fun C0 G0 f0=>?_));obtain⟨rfl,X⟩:=f0;refine⟨X.ext,?_⟩;have G:=b0.join X;refine dr 0 z [7] ?_;refine dw [0,3] ?_;refine dd z ?_;refine sq<|dn 0 mixed 27 [([],134217727),([0],134217726),([1],134217725),([2],134217723),([3,2],134217715),([4,2],134217707),([5,2],134217691),([6,2],134217659),([2],134217723),([7,8,2],134217339),([2,9],134217211),([10,2],134216703),([11],134215679),([12,11],134211583),([13,11],134207487),([14,11],134199295),([11],134215679),([16,11],134150143),([17,11],134084607),([18,11],133953535),([15,19,11,11],133658623),([11,20],133167103),([21,20],132120575),([22],130023423),([23,22,22],121634815),([22,24],113246207),([25,24,0,1,2,3,4,5,6,7,8,9,10,11,12,13,14,15,16,17,18,19,20,21,22,23,24,25],100663295)] G.ext (fun o=>?_);have H:=G.step (Ext.draw _);refine dr 24 o [0,1,2] ?_;refine db 13 hm (fun hm=>?_) (fun hm=>?_)
 ·refine dr 20 o [3,4,5,8] ?_;refine dl o 6 (At.ext (hE.trans G.ext) M) 4 ?_;refine dr 15 o [7,9,10,11] ?_;refine dw [0,22] ?_;refine db 22 hm (fun hm=>?_) (fun hm=>?_)
  ·refine dr 9 o [12,13,14,16,17,18] ?_;refine dl o 15 (At.ext (hE.trans G.ext) M) 0 ?_;refine dl o 19 (At.ext (hE.trans G.ext) M) 1 ?_;obtain⟨y0,p0,hm⟩:=bS hm;refine o1 o 20 (mc o zdd (z8C (hE.trans H.ext)  p0) (fun D0 H0 g0=>?_));obtain⟨rfl,Y⟩:=g0;refine⟨Y.ext,?_⟩;have L:=H.join Y;refine dr 4 o [21,22] ?_;refine dw [0,33] ?_;refine db 33 hm (fun hm=>?_) (fun hm=>?_)
   ·refine dr 3 o [23] ?_;obtain⟨A0,q0,hm⟩:=bS hm;refine o1 o 24 (mc o zdc (z7L (hE.trans L.ext) c0 M q0) (fun E0 J0 i0=>?_));obtain⟨rfl,Z⟩:=i0;refine⟨Z.ext,?_⟩;have j0:=L.join Z;refine dr 0 o [25,26] ?_;refine dd o ?_;refine rt ?_;cases hm;exact⟨_,.cons (.tmp rfl) .nil,rfl,j0⟩
   ·refine dr 0 o [23,24,25,26] ?_;refine dd o ?_;refine rt ?_;cases hm;exact⟨_,.cons (.tmp rfl) .nil,rfl,L⟩
  ·refine dr 0 o [12,13,14,15,16,17,18,19,20,21,22,23,24,25,26] ?_;refine dw [2] ?_;refine dd o ?_;refine rt ?_;cases hm;exact⟨_,.cons (.tmp rfl) .nil,rfl,H⟩
 ·refine dr 0 o [3,4,5,6,7,8,9,10,11,12,13,14,15,16,17,18,19,20,21,22,23,24,25,26] ?_;refine dw [2] ?_;refine dd o ?_;refine rt ?_;cases hm;exact⟨_,.cons (.tmp rfl) .nil,rfl,H⟩

theorem zd9:Enters Tryz.prog 222:=⟨_,_,Tryz.func222,rfl,by kernel_rfl⟩
def z4K (fuel:Nat) (x0:Int) (x1:Int):Option (Int):=(if(x0 == 9)=true then some (w64 (x1 - 1)) else some 0)

theorem z8J {W w:World}(hE:Ext W w){x0:Int}{x1:Int}  {fuel:Nat}{r:Int}(hm:z4K fuel x0 x1=some r):
  Calls Tryz.prog 222 ⟨[.int .i64 x0,.int .i64 x1]⟩ w (Ret fun v w8=>v=.int .i64 r∧St w w8 []):=by
 refine into Tryz.func222 9 _ ?_;unfold z4K at hm;have hS:=St.start w;refine sq<|rg<|rr 1 ?_;refine rn<|sq<|sq<|rg<|rr 2 ?_;refine rn<|ci hm (fun hm=>?_) (fun hm=>?_)
 ·refine sq<|rg<|rr 3 ?_;refine rn<|rt ?_;cases hm;exact⟨_,.cons (.tmp rfl) .nil,rfl,hS⟩
 ·refine sp<|sq<|rg<|rr 1 ?_;refine rn<|rt ?_;cases hm;exact⟨_,.cons (.tmp rfl) .nil,rfl,hS⟩

theorem z9r:Enters Tryz.prog 245:=⟨_,_,Tryz.func245,rfl,by kernel_rfl⟩
def z3Z (fuel:Nat) (x0:Int):Option (Bool):=(if(decide (x0≥1))=true then some (decide (x0≤12)) else some false)

theorem z6N {W w:World}(hE:Ext W w){x0:Int}  {fuel:Nat}{r:Bool}(hm:z3Z fuel x0=some r):
  Calls Tryz.prog 245 ⟨[.int .i64 x0]⟩ w (Ret fun v w8=>v=.bool r∧St w w8 []):=by
 refine into Tryz.func245 9 _ ?_;unfold z3Z at hm;have hS:=St.start w;refine sq<|rg<|rr 1 ?_;refine rn<|sq<|rg<|rr 3 ?_;refine rb 5 hm (fun hm=>?_) (fun hm=>?_)
 ·refine rr 4 ?_;refine rn<|rt ?_;cases hm;exact⟨_,.cons (.tmp rfl) .nil,rfl,hS⟩
 ·refine rr 4 ?_;refine rn<|rt ?_;cases hm;exact⟨_,.cons (.tmp rfl) .nil,rfl,hS⟩

theorem zda:Enters Tryz.prog 221:=⟨_,_,Tryz.func221,rfl,by kernel_rfl⟩
def zS (fuel:Nat) (x0:Int) (t6:Bool):Option Int:=(if t6=true then some 0 else((idx ([0,1,3,3,3,1,1,3,2,0,2,2,1]:List Int) x0).bind fun o=>some o))
def z1v (fuel:Nat) (x0:Int) (x1:Int) (t1:Bool):Option Int:=(if t1=true then some (w64 (x1+1)) else((z3Z fuel x0).bind fun o=>(if(!o)=true then zS fuel x0 true else(if(x0 == 9)=true then zS fuel x0 true else zS fuel x0 (x1 != 0)))))
def z4g (fuel:Nat) (x0:Int) (x1:Int):Option (Int):=(if(x0 == 9)=true then(if(decide (x1≥0))=true then z1v fuel x0 x1 (decide (x1≤3)) else z1v fuel x0 x1 false) else z1v fuel x0 x1 false)

theorem z9m {W w:World}(hE:Ext W w){x0:Int}{x1:Int}  {fuel:Nat}{r:Int}(hm:z4g fuel x0 x1=some r):
  Calls Tryz.prog 221 ⟨[.int .i64 x0,.int .i64 x1]⟩ w (Ret fun v w8=>v=.int .i64 r∧St w w8 []):=by
 refine into Tryz.func221 33 _ ?_;unfold z4g at hm;have hS:=St.start w;refine sq<|rg<|rr 1 ?_;refine rn<|sq<|bk<|sq<|ct (fun(t1:Bool) F w9=>z1v fuel x0 x1 t1=some r∧Ext w w9∧St w w9 []∧F=[(0,.int .i64 x0),(1,.int .i64 x1),(5,.bool t1)]) ?_ ?_
 ·rintro t1 F w4 ⟨hm,X,M,rfl⟩;unfold z1v at hm;refine ci hm (fun hm=>?_) (fun hm=>?_)
  ·refine sq<|rg<|rr 3 ?_;refine rn<|rt ?_;cases hm;exact⟨_,.cons (.tmp rfl) .nil,rfl,M⟩
  ·refine sq<|ct (fun(t6:Bool) F w9=>zS fuel x0 t6=some r∧Ext w4 w9∧St w w9 []∧F=[(0,.int .i64 x0),(18,.bool t6)]) ?_ ?_
   ·rintro t6 F b0 ⟨hm,Y,G,rfl⟩;unfold zS at hm;refine ci hm (fun hm=>?_) (fun hm=>?_)
    ·refine sq<|rg<|rr 1 ?_;refine rn<|rt ?_;cases hm;exact⟨_,.cons (.tmp rfl) .nil,rfl,G⟩
    ·refine sp<|sq<|rg<|qt (qBuildK (cs:=[.int .i64 0,.int .i64 1,.int .i64 3,.int .i64 3,.int .i64 3,.int .i64 1,.int .i64 1,.int .i64 3,.int .i64 2,.int .i64 0,.int .i64 2,.int .i64 2,.int .i64 1])) ?_;refine rr 1 ?_;obtain⟨d0,H,hm⟩:=bS hm;refine qt (Quiet.arrIdx ttok (xs:=([0,1,3,3,3,1,1,3,2,0,2,2,1]:List Int)) (e:=2) rfl (by kernel_rfl) rfl rfl rfl rfl rfl rfl (z5 H).1 (z5 H).2) ?_;refine rr 1 ?_;refine rn<|rt ?_;cases hm;exact⟨_,.cons (.tmp rfl) .nil,rfl,G⟩
   ·refine rg<|rr 1 ?_;obtain⟨Z,O,hm⟩:=bS hm;refine ca z9r (z6N (hE.trans M.ext)  O) (fun a0 c0 L=>?_);obtain⟨rfl,o⟩:=L;have z:=M.join o;refine rr 2 ?_;refine rb 22 hm (fun hm=>?_) (fun hm=>?_)
    ·refine rr 8 ?_;refine rn ?_;exact⟨true,_,⟨hm,o.ext,z,rfl⟩,rfl⟩
    ·refine rr 4 ?_;refine rb 26 hm (fun hm=>?_) (fun hm=>?_)
     ·refine rr 4 ?_;refine rn ?_;exact⟨true,_,⟨hm,o.ext,z,rfl⟩,rfl⟩
     ·refine rr 4 ?_;refine rn ?_;exact⟨(x1 != 0),_,⟨hm,o.ext,z,rfl⟩,rfl⟩
 ·refine rg<|rr 3 ?_;refine rb 8 hm (fun hm=>?_) (fun hm=>?_)
  ·refine rr 4 ?_;refine rb 12 hm (fun hm=>?_) (fun hm=>?_)
   ·refine rr 4 ?_;refine rn ?_;exact⟨decide (x1≤3),_,⟨hm,(Ext.refl _),hS,rfl⟩,rfl⟩
   ·refine rr 4 ?_;refine rn ?_;exact⟨false,_,⟨hm,(Ext.refl _),hS,rfl⟩,rfl⟩
  ·refine rr 8 ?_;refine rn ?_;exact⟨false,_,⟨hm,(Ext.refl _),hS,rfl⟩,rfl⟩

theorem zd1:Enters Tryz.prog 246:=⟨_,_,Tryz.func246,rfl,by kernel_rfl⟩
def z4M (fuel:Nat) (x0:Int):Option (Bool):=((z3Z fuel x0).bind fun r1=>(if r1=true then(if(x0 != 1)=true then(if(x0 != 5)=true then some (x0 != 6) else some false) else some false) else some false))

theorem z8L {W w:World}(hE:Ext W w){x0:Int}  {fuel:Nat}{r:Bool}(hm:z4M fuel x0=some r):
  Calls Tryz.prog 246 ⟨[.int .i64 x0]⟩ w (Ret fun v w8=>v=.bool r∧St w w8 []):=by
 refine into Tryz.func246 17 _ ?_;unfold z4M at hm;have hS:=St.start w;refine sq<|rg<|rr 1 ?_;refine rn<|sq<|rg<|rr 1 ?_;obtain⟨r1,H,hm⟩:=bS hm;refine ca z9r (z6N (hE.trans hS.ext)  H) (fun v3 w4 z=>?_);obtain⟨rfl,G⟩:=z;have o:=hS.join G;refine rr 1 ?_;refine rb 5 hm (fun hm=>?_) (fun hm=>?_)
 ·refine rr 4 ?_;refine rb 9 hm (fun hm=>?_) (fun hm=>?_)
  ·refine rr 4 ?_;refine rb 13 hm (fun hm=>?_) (fun hm=>?_)
   ·refine rr 4 ?_;refine rn<|rt ?_;cases hm;exact⟨_,.cons (.tmp rfl) .nil,rfl,o⟩
   ·refine rr 4 ?_;refine rn<|rt ?_;cases hm;exact⟨_,.cons (.tmp rfl) .nil,rfl,o⟩
  ·refine rr 8 ?_;refine rn<|rt ?_;cases hm;exact⟨_,.cons (.tmp rfl) .nil,rfl,o⟩
 ·refine rr 12 ?_;refine rn<|rt ?_;cases hm;exact⟨_,.cons (.tmp rfl) .nil,rfl,o⟩

theorem zd0:Enters Tryz.prog 247:=⟨_,_,Tryz.func247,rfl,by kernel_rfl⟩
def z59 (fuel:Nat) (x0:Int):Option (Bool):=(if(decide (x0≥0))=true then some (decide (x0≤8)) else some false)

theorem z9j {W w:World}(hE:Ext W w){x0:Int}  {fuel:Nat}{r:Bool}(hm:z59 fuel x0=some r):
  Calls Tryz.prog 247 ⟨[.int .i64 x0]⟩ w (Ret fun v w8=>v=.bool r∧St w w8 []):=by
 refine into Tryz.func247 9 _ ?_;unfold z59 at hm;have hS:=St.start w;refine sq<|rg<|rr 1 ?_;refine rn<|sq<|rg<|rr 3 ?_;refine rb 5 hm (fun hm=>?_) (fun hm=>?_)
 ·refine rr 4 ?_;refine rn<|rt ?_;cases hm;exact⟨_,.cons (.tmp rfl) .nil,rfl,hS⟩
 ·refine rr 4 ?_;refine rn<|rt ?_;cases hm;exact⟨_,.cons (.tmp rfl) .nil,rfl,hS⟩

theorem zd8:Enters Tryz.prog 223:=⟨_,_,Tryz.func223,rfl,by kernel_rfl⟩
def z4b (fuel:Nat) (x0:Int) (x1:Int):Option (Bool):=((z3Z fuel x0).bind fun r1=>(if r1=true then(if(x1 == 0)=true then some true else((z4M fuel x0).bind fun o=>(if o=true then((z59 fuel x1).bind fun z=>some z) else some false))) else some false))

theorem z8m {W w:World}(hE:Ext W w){x0:Int}{x1:Int}  {fuel:Nat}{r:Bool}(hm:z4b fuel x0 x1=some r):
  Calls Tryz.prog 223 ⟨[.int .i64 x0,.int .i64 x1]⟩ w (Ret fun v w8=>v=.bool r∧St w w8 []):=by
 refine into Tryz.func223 19 _ ?_;unfold z4b at hm;have hS:=St.start w;refine sq<|rg<|rr 1 ?_;refine rn<|sq<|rg<|rr 1 ?_;obtain⟨r1,b0,hm⟩:=bS hm;refine ca z9r (z6N (hE.trans hS.ext)  b0) (fun v3 w4 Z=>?_);obtain⟨rfl,a0⟩:=Z;have z:=hS.join a0;refine rr 1 ?_;refine rb 7 hm (fun hm=>?_) (fun hm=>?_)
 ·refine rr 3 ?_;refine rb 10 hm (fun hm=>?_) (fun hm=>?_)
  ·refine rr 9 ?_;refine rn<|rt ?_;cases hm;exact⟨_,.cons (.tmp rfl) .nil,rfl,z⟩
  ·refine rr 1 ?_;obtain⟨c0,X,hm⟩:=bS hm;refine ca zd1 (z8L (hE.trans z.ext)  X) (fun f0 i0 G=>?_);obtain⟨rfl,H⟩:=G;have o:=z.join H;refine rr 1 ?_;refine rb 13 hm (fun hm=>?_) (fun hm=>?_)
   ·refine rr 1 ?_;obtain⟨d0,Y,hm⟩:=bS hm;refine ca zd0 (z9j (hE.trans o.ext)  Y) (fun g0 j0 L=>?_);obtain⟨rfl,M⟩:=L;have O:=o.join M;refine rr 4 ?_;refine rn<|rt ?_;cases hm;exact⟨_,.cons (.tmp rfl) .nil,rfl,O⟩
   ·refine rr 6 ?_;refine rn<|rt ?_;cases hm;exact⟨_,.cons (.tmp rfl) .nil,rfl,o⟩
 ·refine rr 12 ?_;refine rn<|rt ?_;cases hm;exact⟨_,.cons (.tmp rfl) .nil,rfl,z⟩

theorem zdg:Enters Tryz.prog 215:=⟨_,_,Tryz.func215,rfl,by kernel_rfl⟩
def z19 (fuel:Nat) (t2:Unit):Option Int:=some (-1)
def zw (fuel:Nat) (x0:(List Int)) (x1:Int→Option Bool) (s1:Int):Option (Rd (Int) (Unit) (Int)):=(if(decide (s1<(x0.length:Int)))=true then((idx x0 s1).bind fun z=>((x1 z).bind fun o=>(if o=true then some (.ret s1) else some (.next (w64 (s1+1)))))) else some (.brk ()))
def zZ (fuel:Nat) (x0:(List Int)) (x1:Int→Option Bool):Option (Int):=((iter (zw fuel x0 x1) fuel 0).bind fun o=>aft o (z19 fuel))

theorem z5P {W w:World}(hE:Ext W w){M:Option Addr}{f0:Nat}{x0:(List Int)}{f1_:Nat}{u1_:List Value}{x1:Int→Option Bool}(k0:ty45.ro W [sl M x0 f0] x0) (g0:Enters Tryz.prog f1_∧∀ {w9:World},Ext W w9→∀ {z0:Int}{y9:Bool},x1 z0=some y9→Calls Tryz.prog f1_ ⟨[.int .i64 z0]++u1_⟩ w9 (Ret fun v w8=>v=.bool y9∧St w9 w8 [])){fuel:Nat}{r:Int}(hm:zZ fuel x0 x1=some r):
  Calls Tryz.prog 215 ⟨[sl M x0 f0,.func (.func f1_) #[] ⟨u1_⟩]⟩ w (Ret fun v w8=>v=.int .i64 r∧St w w8 []):=by
 refine into Tryz.func215 19 _ ?_;unfold zZ at hm;have hS:=St.start w;refine sq<|rg<|rr 1 ?_;refine rn<|sq<|sq<|rg<|rr 3 ?_;refine rn ?_;obtain⟨o0,Z,hm⟩:=bS hm;refine ct (fun(t2:Unit) F w9=>o0=.inl t2∧Ext w w9∧St w w9 []∧F=[]) ?_ ?_
 ·rintro t2 F w7 ⟨a0,p0,X,rfl⟩;subst a0;rw [z8] at hm;unfold z19 at hm;refine sq<|rg<|rr 1 ?_;refine rn<|rt ?_;cases hm;exact⟨_,.cons (.tmp rfl) .nil,rfl,X⟩
 ·refine bk<|wk [0,1,7,8] ?_;refine it (fun(s1:Int) F w9=>Ext w w9∧St w w9 []∧F=[(0,sl M x0 f0),(1,.func (.func f1_) #[] ⟨u1_⟩),(7,.int .i64 (x0.length:Int)),(8,.int .i64 s1)]) Z ⟨(Ext.refl _),hS,rfl⟩ ?_;rintro s1 F v0 _ q0 ⟨i0,z,rfl⟩ o L;unfold zw at o;refine sq<|rg<|rr 1 ?_;refine rn<|sq<|ci o (fun o=>?_) (fun o=>?_)
  ·refine sp<|sq<|bk<|sq<|rg<|rr 2 ?_;refine rn<|sq<|rg<|rr 3 ?_;obtain⟨A0,c0,o⟩:=bS o;refine ix (hE.trans z.ext) k0 c0 (fun r0 j0 Y b0=>?_);cases b0;refine l1 (At.ext (hE.trans z.ext) Y) 0 ?_;obtain⟨t0,d0,o⟩:=bS o;refine ca g0.1 (g0.2 (hE.trans z.ext)  d0) (fun u0 y0 O=>?_);obtain⟨rfl,G⟩:=O;have H:=z.join G;refine rn<|ci o (fun o=>?_) (fun o=>?_)
   ·refine sq<|rg<|rr 2 ?_;refine rn<|rt ?_;cases o;cases L;have hm:some _=some _:=hm;cases hm;exact⟨_,.cons (.tmp rfl) .nil,rfl,H⟩
   ·refine sp<|rg<|rr 2 ?_;refine rn ?_;cases o;exact⟨_,_,rfl,⟨(i0.trans G.ext),H,rfl⟩,rfl⟩
  ·refine xt ?_;cases o;exact⟨_,_,⟨L,i0,z,rfl⟩,rfl⟩

theorem zb3:Enters Tryz.prog 175:=⟨_,_,Tryz.func175,rfl,by kernel_rfl⟩
def zj (fuel:Nat) (x0:(List Int)) (x1:Int→Option Bool):Option (Bool):=((zZ fuel x0 x1).bind fun r1=>some (decide (r1≥0)))

theorem z2E {W w:World}(hE:Ext W w){o:Option Addr}{z:Nat}{x0:(List Int)}{f1_:Nat}{u1_:List Value}{x1:Int→Option Bool}(G:ty45.ro W [sl o x0 z] x0) (H:Enters Tryz.prog f1_∧∀ {w9:World},Ext W w9→∀ {z0:Int}{y9:Bool},x1 z0=some y9→Calls Tryz.prog f1_ ⟨[.int .i64 z0]++u1_⟩ w9 (Ret fun v w8=>v=.bool y9∧St w9 w8 [])){fuel:Nat}{r:Bool}(hm:zj fuel x0 x1=some r):
  Calls Tryz.prog 175 ⟨[sl o x0 z,.func (.func f1_) #[] ⟨u1_⟩]⟩ w (Ret fun v w8=>v=.bool r∧St w w8 []):=by
 refine into Tryz.func175 9 _ ?_;unfold zj at hm;have hS:=St.start w;refine sq<|rg<|rr 1 ?_;refine rn<|sq<|rg<|rr 2 ?_;obtain⟨r1,X,hm⟩:=bS hm;refine ca zdg (z5P (hE.trans hS.ext) G H X) (fun v3 w4 L=>?_);obtain⟨rfl,M⟩:=L;have O:=hS.join M;refine rr 2 ?_;refine rn<|rt ?_;cases hm;exact⟨_,.cons (.tmp rfl) .nil,rfl,O⟩

theorem zaZ:Enters Tryz.prog 225:=⟨_,_,Tryz.func225,rfl,by kernel_rfl⟩
def z2h (fuel:Nat) (x0:Int):Option (Bool):=(if(decide (x0≥0))=true then some (decide (x0<24)) else some false)

theorem z6G {W w:World}(hE:Ext W w){x0:Int}  {fuel:Nat}{r:Bool}(hm:z2h fuel x0=some r):
  Calls Tryz.prog 225 ⟨[.int .i64 x0]⟩ w (Ret fun v w8=>v=.bool r∧St w w8 []):=by
 refine into Tryz.func225 9 _ ?_;unfold z2h at hm;have hS:=St.start w;refine sq<|rg<|rr 1 ?_;refine rn<|sq<|rg<|rr 3 ?_;refine rb 5 hm (fun hm=>?_) (fun hm=>?_)
 ·refine rr 4 ?_;refine rn<|rt ?_;cases hm;exact⟨_,.cons (.tmp rfl) .nil,rfl,hS⟩
 ·refine rr 4 ?_;refine rn<|rt ?_;cases hm;exact⟨_,.cons (.tmp rfl) .nil,rfl,hS⟩

theorem zd7:Enters Tryz.prog 224:=⟨_,_,Tryz.func224,rfl,by kernel_rfl⟩
def z3o (fuel:Nat) (x0:Int):Option (Bool):=((z2h fuel x0).bind fun r1=>some (!r1))

theorem z7h {W w:World}(hE:Ext W w){x0:Int}  {fuel:Nat}{r:Bool}(hm:z3o fuel x0=some r):
  Calls Tryz.prog 224 ⟨[.int .i64 x0]⟩ w (Ret fun v w8=>v=.bool r∧St w w8 []):=by
 refine into Tryz.func224 6 _ ?_;unfold z3o at hm;have hS:=St.start w;refine sq<|rg<|rr 1 ?_;refine rn<|sq<|rg<|rr 1 ?_;obtain⟨r1,H,hm⟩:=bS hm;refine ca zaZ (z6G (hE.trans hS.ext)  H) (fun v3 w4 o=>?_);obtain⟨rfl,z⟩:=o;have G:=hS.join z;refine rr 2 ?_;refine rn<|rt ?_;cases hm;exact⟨_,.cons (.tmp rfl) .nil,rfl,G⟩

theorem zaY:Enters Tryz.prog 226:=⟨_,_,Tryz.func226,rfl,by kernel_rfl⟩
def z5p (fuel:Nat) (x0:Int):Option (Bool):=(if(decide (x0≥(-2147483648)))=true then some (decide (x0≤2147483647)) else some false)

theorem z7X {W w:World}(hE:Ext W w){x0:Int}  {fuel:Nat}{r:Bool}(hm:z5p fuel x0=some r):
  Calls Tryz.prog 226 ⟨[.int .i64 x0]⟩ w (Ret fun v w8=>v=.bool r∧St w w8 []):=by
 refine into Tryz.func226 9 _ ?_;unfold z5p at hm;have hS:=St.start w;refine sq<|rg<|rr 1 ?_;refine rn<|sq<|rg<|rr 3 ?_;refine rb 5 hm (fun hm=>?_) (fun hm=>?_)
 ·refine rr 4 ?_;refine rn<|rt ?_;cases hm;exact⟨_,.cons (.tmp rfl) .nil,rfl,hS⟩
 ·refine rr 4 ?_;refine rn<|rt ?_;cases hm;exact⟨_,.cons (.tmp rfl) .nil,rfl,hS⟩

theorem zaX:Enters Tryz.prog 227:=⟨_,_,Tryz.func227,rfl,by kernel_rfl⟩
def z2g (fuel:Nat) (x0:Int):Option (Bool):=(if(decide (x0≥1))=true then some (decide (x0≤6)) else some false)

theorem z6F {W w:World}(hE:Ext W w){x0:Int}  {fuel:Nat}{r:Bool}(hm:z2g fuel x0=some r):
  Calls Tryz.prog 227 ⟨[.int .i64 x0]⟩ w (Ret fun v w8=>v=.bool r∧St w w8 []):=by
 refine into Tryz.func227 9 _ ?_;unfold z2g at hm;have hS:=St.start w;refine sq<|rg<|rr 1 ?_;refine rn<|sq<|rg<|rr 3 ?_;refine rb 5 hm (fun hm=>?_) (fun hm=>?_)
 ·refine rr 4 ?_;refine rn<|rt ?_;cases hm;exact⟨_,.cons (.tmp rfl) .nil,rfl,hS⟩
 ·refine rr 4 ?_;refine rn<|rt ?_;cases hm;exact⟨_,.cons (.tmp rfl) .nil,rfl,hS⟩

theorem zb2:Enters Tryz.prog 183:=⟨_,_,Tryz.func183,rfl,by kernel_rfl⟩
def z26 (fuel:Nat) (o:Bool × Bool):Option Bool:=(if o.1=true then some o.2 else some false)
def z25 (fuel:Nat) (o:Bool × Bool):Option Bool:=z26 fuel (o.1,o.2)
def z24 (fuel:Nat) (o:Bool × Bool):Option Bool:=z25 fuel (o.1,o.2)
def z23 (fuel:Nat) (x0:D.Agent) (o:Bool):Option Bool:=z24 fuel (o,((x0.Data.length:Int) == 0))
def z22 (fuel:Nat) (o:Bool × Bool):Option Bool:=z24 fuel (o.1,o.2)
def z1h (fuel:Nat) (x0:D.Agent) (o:Bool):Option Bool:=z22 fuel ((x0.Value == 0),o)
def z21 (fuel:Nat) (o:Bool × Bool):Option Bool:=z22 fuel (o.1,o.2)
def z20 (fuel:Nat) (x0:D.Agent) (o:Bool):Option Bool:=z21 fuel ((x0.Value == 0),o)
def z1D (fuel:Nat) (x0:D.Agent) (o:Bool):Option Bool:=z21 fuel (o,((x0.Data.length:Int) == 0))
def zW (fuel:Nat) (x0:D.Agent) (O:Bool):Option Bool:=(if O=true then some false else((zj fuel x0.Data (fun y0=>z3o fuel y0)).bind fun z=>(if(x0.Kind == 6)=true then((z5p fuel x0.Value).bind fun G=>z26 fuel (G,((x0.Data.length:Int) == 0))) else(if(x0.Kind == 7)=true then((z2g fuel x0.Value).bind fun H=>z25 fuel (H,((x0.Data.length:Int) == 0))) else(if(x0.Kind == 8)=true then((z2g fuel x0.Value).bind fun L=>(if L=true then(if((x0.Data.length:Int) == 1)=true then((idx x0.Data 0).bind fun X=>((z5p fuel X).bind fun M=>some M)) else some false) else some false)) else(if(x0.Kind == 9)=true then(if(decide (x0.Value≥0))=true then z23 fuel x0 (decide (x0.Value<4)) else z23 fuel x0 false) else(if(x0.Kind == 10)=true then(if(decide ((x0.Data.length:Int)≥1))=true then(if(decide ((x0.Data.length:Int)≤4))=true then z1h fuel x0 (!z) else z1h fuel x0 false) else z1h fuel x0 false) else(if(x0.Kind == 11)=true then(if((x0.Data.length:Int) == 2)=true then z20 fuel x0 (!z) else z20 fuel x0 false) else(if(x0.Kind == 12)=true then((z2h fuel x0.Value).bind fun o=>z1D fuel x0 o) else z1D fuel x0 (x0.Value == 0))))))))))
def z16 (fuel:Nat) (x0:D.Agent):Option (Bool):=(if((x0.Ports.length:Int) == 0)=true then zW fuel x0 true else((z4K fuel x0.Kind (x0.Ports.length:Int)).bind fun o=>((z4g fuel x0.Kind o).bind fun z=>(if(z != (x0.Ports.length:Int))=true then zW fuel x0 true else((z4b fuel x0.Kind x0.Level).bind fun G=>zW fuel x0 (!G))))))

theorem z6D {W w:World}(hE:Ext W w){K1:List Value}{x0:D.Agent}(O1:z77.ro W K1 x0){fuel:Nat}{r:Bool}(hm:z16 fuel x0=some r):
  Calls Tryz.prog 183 ⟨[.agg ⟨K1⟩]⟩ w (Ret fun v w8=>v=.bool r∧St w w8 []):=by
 obtain⟨A1,k2,A4,k5,e7,h3,h6⟩:=zG O1;subst e7;refine into Tryz.func183 117 _ ?_;unfold z16 at hm;have hS:=St.start w;refine sq<|rg<|nw hS (fun L1 e2 n2 G=>?_);refine rr 1 ?_;refine rn<|sq<|sq<|ct (fun(J1:Bool) F w9=>zW fuel x0 J1=some r∧Ext e2 w9∧St w w9 [Box L1 [.int .i64 x0.Kind,.int .i64 x0.Level,.int .i64 x0.Value,sl A1 x0.Data k2,sl A4 x0.Ports k5] 118]∧F=[(1,.pointer (some ⟨L1,0,none⟩)),(32,.bool J1)]) ?_ ?_
 ·rintro J1 F A2 ⟨hm,P1,a0,rfl⟩;unfold zW at hm;refine ci hm (fun hm=>?_) (fun hm=>?_)
  ·refine sq<|rg<|rr 1 ?_;refine rn<|rt ?_;cases hm;exact⟨_,.cons (.tmp rfl) .nil,rfl,(a0.taken 0)⟩
  ·refine sp<|sq<|dn 0 mixed 9 [([],511),([0],510),([1],509),([],511),([3],503),([4],495),([5],479),([2,0,1,2],507),([6,7,0,1,2,3,4,5,6,7],447)] a0.ext (fun O=>?_);have i0:=a0.step (Ext.draw _);refine dr 7 O [0,3] ?_;refine dl O 1 ((a0.bring 0 rfl).box) 2 ?_;refine dr 4 O [2,7] ?_;refine dl O 4 ((a0.bring 0 rfl).box) 3 ?_;refine dr 0 O [5,6,8] ?_;refine dw [1,3,4] ?_;refine dd O ?_;refine sq<|rg<|rr 1 ?_;refine l1 ((i0.bring 0 rfl).box) 3 ?_;obtain⟨M1,y1,hm⟩:=bS hm;refine ca zb3 (z2E (hE.trans i0.ext) h3 ⟨zd7,fun e9=>(fun  R1=>z7h (Ext.refl _)  R1)⟩ y1) (fun r2 d0 X0=>?_);obtain⟨rfl,Y0⟩:=X0;have z:=i0.join Y0;refine rr 2 ?_;refine rn<|sq<|sq<|rg<|rr 1 ?_;refine l1 ((z.bring 0 rfl).box) 0 ?_;refine rn<|bk<|sq<|rg<|rr 2 ?_;refine rn<|ct (fun(O0:Bool × Bool) F w9=>z26 fuel O0=some r∧Ext d0 w9∧St w w9 []∧F=[(3,.bool O0.1),(4,.bool O0.2)]) ?_ ?_
   ·rintro O0 F B2 ⟨hm,Q1,J0,rfl⟩;unfold z26 at hm;refine sq<|rg<|rr 2 ?_;refine rb 114 hm (fun hm=>?_) (fun hm=>?_)
    ·refine rr 3 ?_;refine rn<|rt ?_;cases hm;exact⟨_,.cons (.tmp rfl) .nil,rfl,J0⟩
    ·refine rr 3 ?_;refine rn<|rt ?_;cases hm;exact⟨_,.cons (.tmp rfl) .nil,rfl,J0⟩
   ·refine ci hm (fun hm=>?_) (fun hm=>?_)
    ·refine rg<|rr 1 ?_;refine l1 ((z.bring 0 rfl).box) 2 ?_;obtain⟨U1,B1,hm⟩:=bS hm;refine ca zaY (z7X (hE.trans z.ext)  B1) (fun t2 C2 a1=>?_);obtain⟨rfl,B0⟩:=a1;have i1:=z.join B0;refine rr 1 ?_;refine rn ?_;exact⟨(U1,((x0.Data.length:Int) == 0)),_,⟨hm,B0.ext,(i1.taken 0),rfl⟩,rfl⟩
    ·refine sq<|rg<|rr 2 ?_;refine rn<|ct (fun(j0:Bool × Bool) F w9=>z25 fuel j0=some r∧Ext d0 w9∧St w w9 []∧F=[(3,.bool j0.1),(4,.bool j0.2)]) ?_ ?_
     ·rintro j0 F D2 ⟨hm,R0,j1,rfl⟩;unfold z25 at hm;exact⟨(j0.1,j0.2),_,⟨hm,R0,j1,rfl⟩,rfl⟩
     ·refine ci hm (fun hm=>?_) (fun hm=>?_)
      ·refine rg<|rr 1 ?_;refine l1 ((z.bring 0 rfl).box) 2 ?_;obtain⟨V1,C1,hm⟩:=bS hm;refine ca zaX (z6F (hE.trans z.ext)  C1) (fun u2 E2 b1=>?_);obtain⟨rfl,C0⟩:=b1;have k1:=z.join C0;refine rr 1 ?_;refine rn ?_;exact⟨(V1,((x0.Data.length:Int) == 0)),_,⟨hm,C0.ext,(k1.taken 0),rfl⟩,rfl⟩
      ·refine sq<|rg<|rr 2 ?_;refine rn<|ci hm (fun hm=>?_) (fun hm=>?_)
       ·refine sq<|rg<|rr 1 ?_;refine l1 ((z.bring 0 rfl).box) 2 ?_;obtain⟨p2,D1,hm⟩:=bS hm;refine ca zaX (z6F (hE.trans z.ext)  D1) (fun v2 F2 d1=>?_);obtain⟨rfl,e1⟩:=d1;have H:=z.join e1;refine rr 1 ?_;refine rb 61 hm (fun hm=>?_) (fun hm=>?_)
        ·refine rr 1 ?_;refine l1 ((H.bring 0 rfl).box) 3 ?_;refine rr 4 ?_;refine rb 67 hm (fun hm=>?_) (fun hm=>?_)
         ·refine rr 1 ?_;refine l1 ((H.bring 0 rfl).box) 3 ?_;obtain⟨M2,E1,hm⟩:=bS hm;refine ix (hE.trans H.ext) h3 E1 (fun o2 N1 u1 v1=>?_);cases v1;refine l1 (At.ext (hE.trans H.ext) u1) 0 ?_;obtain⟨q2,F1,hm⟩:=bS hm;refine ca zaY (z7X (hE.trans H.ext)  F1) (fun y2 G2 f1=>?_);obtain⟨rfl,g1⟩:=f1;have m1:=H.join g1;refine rr 2 ?_;refine rn<|rt ?_;cases hm;exact⟨_,.cons (.tmp rfl) .nil,rfl,(m1.taken 0)⟩
         ·refine rr 7 ?_;refine rn<|rt ?_;cases hm;exact⟨_,.cons (.tmp rfl) .nil,rfl,(H.taken 0)⟩
        ·refine rr 13 ?_;refine rn<|rt ?_;cases hm;exact⟨_,.cons (.tmp rfl) .nil,rfl,(H.taken 0)⟩
       ·refine sq<|rg<|rr 2 ?_;refine rn<|ct (fun(k0:Bool × Bool) F w9=>z24 fuel k0=some r∧Ext d0 w9∧St w w9 []∧F=[(3,.bool k0.1),(4,.bool k0.2)]) ?_ ?_
        ·rintro k0 F H2 ⟨hm,T0,n1,rfl⟩;unfold z24 at hm;exact⟨(k0.1,k0.2),_,⟨hm,T0,n1,rfl⟩,rfl⟩
        ·refine ci hm (fun hm=>?_) (fun hm=>?_)
         ·refine ct (fun(P0:Bool) F w9=>z23 fuel x0 P0=some r∧Ext d0 w9∧St w w9 []∧F=[(3,.bool P0),(4,.bool ((x0.Data.length:Int) == 0))]) ?_ ?_
          ·rintro P0 F J2 ⟨hm,U0,p1,rfl⟩;unfold z23 at hm;exact⟨(P0,((x0.Data.length:Int) == 0)),_,⟨hm,U0,p1,rfl⟩,rfl⟩
          ·refine rg<|rr 1 ?_;refine l1 ((z.bring 0 rfl).box) 2 ?_;refine rr 2 ?_;refine rb 79 hm (fun hm=>?_) (fun hm=>?_)
           ·refine rr 1 ?_;refine l1 ((z.bring 0 rfl).box) 2 ?_;refine rr 3 ?_;refine rn ?_;exact⟨decide (x0.Value<4),_,⟨hm,(Ext.refl _),(z.taken 0),rfl⟩,rfl⟩
           ·refine rr 5 ?_;refine rn ?_;exact⟨false,_,⟨hm,(Ext.refl _),(z.taken 0),rfl⟩,rfl⟩
         ·refine sq<|rg<|rr 2 ?_;refine rn<|ct (fun(o0:Bool × Bool) F w9=>z22 fuel o0=some r∧Ext d0 w9∧St w w9 []∧F=[(3,.bool o0.1),(4,.bool o0.2)]) ?_ ?_
          ·rintro o0 F K2 ⟨hm,V0,s1,rfl⟩;unfold z22 at hm;exact⟨(o0.1,o0.2),_,⟨hm,V0,s1,rfl⟩,rfl⟩
          ·refine ci hm (fun hm=>?_) (fun hm=>?_)
           ·refine ct (fun(Q0:Bool) F w9=>z1h fuel x0 Q0=some r∧Ext d0 w9∧St w w9 []∧F=[(3,.bool (x0.Value == 0)),(4,.bool Q0)]) ?_ ?_
            ·rintro Q0 F L2 ⟨hm,W0,t1,rfl⟩;unfold z1h at hm;exact⟨((x0.Value == 0),Q0),_,⟨hm,W0,t1,rfl⟩,rfl⟩
            ·refine rg<|rr 1 ?_;refine l1 ((z.bring 0 rfl).box) 3 ?_;refine rr 3 ?_;refine rb 90 hm (fun hm=>?_) (fun hm=>?_)
             ·refine rr 1 ?_;refine l1 ((z.bring 0 rfl).box) 3 ?_;refine rr 4 ?_;refine rb 96 hm (fun hm=>?_) (fun hm=>?_)
              ·refine rr 3 ?_;refine rn ?_;exact⟨!M1,_,⟨hm,(Ext.refl _),(z.taken 0),rfl⟩,rfl⟩
              ·refine rr 3 ?_;refine rn ?_;exact⟨false,_,⟨hm,(Ext.refl _),(z.taken 0),rfl⟩,rfl⟩
             ·refine rr 9 ?_;refine rn ?_;exact⟨false,_,⟨hm,(Ext.refl _),(z.taken 0),rfl⟩,rfl⟩
           ·refine sq<|rg<|rr 2 ?_;refine rn<|ct (fun(p0:Bool × Bool) F w9=>z21 fuel p0=some r∧Ext d0 w9∧St w w9 []∧F=[(3,.bool p0.1),(4,.bool p0.2)]) ?_ ?_
            ·rintro p0 F b2 ⟨hm,q0,D0,rfl⟩;unfold z21 at hm;exact⟨(p0.1,p0.2),_,⟨hm,q0,D0,rfl⟩,rfl⟩
            ·refine ci hm (fun hm=>?_) (fun hm=>?_)
             ·refine ct (fun(b0:Bool) F w9=>z20 fuel x0 b0=some r∧Ext d0 w9∧St w w9 []∧F=[(3,.bool (x0.Value == 0)),(4,.bool b0)]) ?_ ?_
              ·rintro b0 F d2 ⟨hm,r0,E0,rfl⟩;unfold z20 at hm;exact⟨((x0.Value == 0),b0),_,⟨hm,r0,E0,rfl⟩,rfl⟩
              ·refine rg<|rr 1 ?_;refine l1 ((z.bring 0 rfl).box) 3 ?_;refine rr 3 ?_;refine rb 105 hm (fun hm=>?_) (fun hm=>?_)
               ·refine rr 3 ?_;refine rn ?_;exact⟨!M1,_,⟨hm,(Ext.refl _),(z.taken 0),rfl⟩,rfl⟩
               ·refine rr 3 ?_;refine rn ?_;exact⟨false,_,⟨hm,(Ext.refl _),(z.taken 0),rfl⟩,rfl⟩
             ·refine sq<|rg<|rr 2 ?_;refine rn<|ct (fun(c0:Bool) F w9=>z1D fuel x0 c0=some r∧Ext d0 w9∧St w w9 []∧F=[(3,.bool c0),(4,.bool ((x0.Data.length:Int) == 0))]) ?_ ?_
              ·rintro c0 F f2 ⟨hm,t0,F0,rfl⟩;unfold z1D at hm;exact⟨(c0,((x0.Data.length:Int) == 0)),_,⟨hm,t0,F0,rfl⟩,rfl⟩
              ·refine ci hm (fun hm=>?_) (fun hm=>?_)
               ·refine rg<|rr 1 ?_;refine l1 ((z.bring 0 rfl).box) 2 ?_;obtain⟨G1,K0,hm⟩:=bS hm;refine ca zaZ (z6G (hE.trans z.ext)  K0) (fun W1 g2 u0=>?_);obtain⟨rfl,f0⟩:=u0;have G0:=z.join f0;refine rr 1 ?_;refine rn ?_;exact⟨G1,_,⟨hm,f0.ext,(G0.taken 0),rfl⟩,rfl⟩
               ·refine sp ?_;exact⟨(x0.Value == 0),_,⟨hm,(Ext.refl _),(z.taken 0),rfl⟩,rfl⟩
 ·refine dn 0 mixed 27 [([],134217727),([0],134217726),([1],134217725),([2],134217723),([3],134217719),([4],134217711),([5,4],134217679),([4],134217711),([7,4],134217583),([4],134217711),([9,4],134217199),([10,4],134216687),([8,11,4,4],134215407),([6,12,12,4],134213551),([4],134217711),([14,4],134201327),([15,4],134184943),([13,16,4],134143983),([4,17],134086639),([18,13],133955583),([19],133693439),([20,19],132644863),([19],133693439),([22,19],129499135),([21,23,19,19],123207679),([24,19],116916223),([19,25],100139007)] G.ext (fun o=>?_);have Y:=G.step (Ext.draw _);refine dr 26 o [0] ?_;refine dl o 1 ((G.bring 0 rfl).box) 4 ?_;refine dr 22 o [2,3,4] ?_;refine dw [1,10] ?_;refine db 10 hm (fun hm=>?_) (fun hm=>?_)
  ·refine dr 0 o [5,6,7,8,9,10,11,12,13,14,15,16,17,18,19,20,21,22,23,24,25,26] ?_;refine dw [1,32] ?_;refine dd o ?_;exact⟨true,_,⟨hm,(Ext.draw _),Y,rfl⟩,rfl⟩
  ·refine dr 18 o [5,7,9,14] ?_;refine dl o 6 ((G.bring 0 rfl).box) 0 ?_;refine dl o 8 ((G.bring 0 rfl).box) 0 ?_;refine dl o 10 ((G.bring 0 rfl).box) 4 ?_;refine dr 14 o [11] ?_;refine dl o 15 ((G.bring 0 rfl).box) 4 ?_;refine dr 12 o [16] ?_;refine dw [1,10,12,14,17,22] ?_;obtain⟨S1,L0,hm⟩:=bS hm;refine o1 o 12 (mc o zd9 (z8J (hE.trans Y.ext)  L0) (fun X1 i2 v0=>?_));obtain⟨rfl,L⟩:=v0;refine⟨L.ext,?_⟩;have g0:=Y.join L;obtain⟨T1,M0,hm⟩:=bS hm;refine o1 o 13 (mc o zda (z9m (hE.trans g0.ext)  M0) (fun Y1 j2 y0=>?_));obtain⟨rfl,M⟩:=y0;refine⟨M.ext,?_⟩;have Z:=g0.join M;refine dr 7 o [17,18,19] ?_;refine dw [1,25] ?_;refine db 25 hm (fun hm=>?_) (fun hm=>?_)
   ·refine dr 0 o [20,21,22,23,24,25,26] ?_;refine dw [1,32] ?_;refine dd o ?_;exact⟨true,_,⟨hm,(((Ext.draw _).trans L.ext).trans M.ext),Z,rfl⟩,rfl⟩
   ·refine dr 5 o [20,22] ?_;refine dl o 21 ((G.bring 0 rfl).box) 0 ?_;refine dl o 23 ((G.bring 0 rfl).box) 1 ?_;obtain⟨H1,N0,hm⟩:=bS hm;refine o1 o 24 (mc o zd8 (z8m (hE.trans Z.ext)  N0) (fun a2 m2 A0=>?_));obtain⟨rfl,X⟩:=A0;refine⟨X.ext,?_⟩;have H0:=Z.join X;refine dr 0 o [25,26] ?_;refine dw [1,32] ?_;refine dd o ?_;exact⟨!H1,_,⟨hm,((((Ext.draw _).trans L.ext).trans M.ext).trans X.ext),H0,rfl⟩,rfl⟩

end Go.E


