/- Models of functions and proofs that the code runs as they say (written by program). Conditions: the model gives a value. -/
import Derived.Test.YtijgffjimnbcpaaGreatField
namespace Go.E
open Go.RowKit Go.Proofs
set_option linter.unusedVariables false
set_option linter.unusedSimpArgs false
set_option maxHeartbeats 2000000
set_option maxRecDepth 100000

theorem zcu:Enters Tryz.prog 185:=⟨_,_,Tryz.func185,rfl,by kernel_rfl⟩
def z1k (fuel:Nat) (x0:D.Agent):Option (Int):=(if(x0.Kind == 9)=true then some (w64 ((x0.Ports.length:Int) - 1)) else some 0)

theorem z7f {W w:World}(hE:Ext W w){G:Addr}{d:List Value}{x0:D.Agent}(H:z6g.ro W d x0) (z:At W G d){fuel:Nat}{r:Int}(hm:z1k fuel x0=some r):
  Calls Tryz.prog 185 ⟨[.pointer (some G)]⟩ w (Ret fun v w8=>v=.int .i64 r∧St w w8 []):=by
 obtain⟨A1,k2,A4,k5,e7,h3,h6⟩:=ze H;subst e7;refine into Tryz.func185 14 _ ?_;unfold z1k at hm;have hS:=St.start w;refine sq<|rg<|rr 1 ?_;refine rn<|sq<|sq<|rg<|rr 3 ?_;refine l1 (At.ext (hE.trans hS.ext) z) 0 ?_;refine rr 1 ?_;refine rn<|ci hm (fun hm=>?_) (fun hm=>?_)
 ·refine sq<|rg<|rr 3 ?_;refine l1 (At.ext (hE.trans hS.ext) z) 4 ?_;refine rr 3 ?_;refine rn<|rt ?_;cases hm;exact⟨_,.cons (.tmp rfl) .nil,rfl,hS⟩
 ·refine sp<|sq<|rg<|rr 1 ?_;refine rn<|rt ?_;cases hm;exact⟨_,.cons (.tmp rfl) .nil,rfl,hS⟩

theorem z2o:Enters Tryz.prog 57:=⟨_,_,Tryz.func57,rfl,by kernel_rfl⟩
def zd (fuel:Nat) (x0:Int) (x1:Int) (x2:Int):Option (Bool):=(if(decide (x0≥x1))=true then some (decide (x0≤x2)) else some false)

theorem zh {W w:World}(hE:Ext W w){x0:Int}{x1:Int}{x2:Int}  {fuel:Nat}{r:Bool}(hm:zd fuel x0 x1 x2=some r):
  Calls Tryz.prog 57 ⟨[.int .i64 x0,.int .i64 x1,.int .i64 x2]⟩ w (Ret fun v w8=>v=.bool r∧St w w8 []):=by
 refine into Tryz.func57 15 _ ?_;unfold zd at hm;have hS:=St.start w;refine sq<|rg<|rr 1 ?_;refine rn<|sq<|rg<|rr 4 ?_;refine rb 10 hm (fun hm=>?_) (fun hm=>?_)
 ·refine rr 5 ?_;refine rn<|rt ?_;cases hm;exact⟨_,.cons (.tmp rfl) .nil,rfl,hS⟩
 ·refine rr 5 ?_;refine rn<|rt ?_;cases hm;exact⟨_,.cons (.tmp rfl) .nil,rfl,hS⟩

theorem zcv:Enters Tryz.prog 184:=⟨_,_,Tryz.func184,rfl,by kernel_rfl⟩
def z2E (fuel:Nat) (d:Bool):Option Int:=(if d=true then some 3 else some 0)
def z2D (fuel:Nat) (d:Bool):Option Int:=z2E fuel d
def z2C (fuel:Nat) (d:Bool):Option Int:=z2D fuel d
def z2F (fuel:Nat) (x0:Int) (d:Bool):Option Int:=(if d=true then some 2 else(if(x0 == 2)=true then z2E fuel (x0 == 2) else(if(x0 == 3)=true then z2D fuel (x0 == 3) else(if(x0 == 4)=true then z2C fuel (x0 == 4) else z2C fuel (x0 == 7)))))
def z2B (fuel:Nat) (x0:Int) (d:Bool):Option Int:=z2F fuel x0 d
def z2G (fuel:Nat) (x0:Int) (d:Bool):Option Int:=(if d=true then some 1 else(if(x0 == 8)=true then z2F fuel x0 (x0 == 8) else(if(x0 == 10)=true then z2B fuel x0 (x0 == 10) else z2B fuel x0 (x0 == 11))))
def z2A (fuel:Nat) (x0:Int) (d:Bool):Option Int:=z2G fuel x0 d
def z2z (fuel:Nat) (x0:Int) (d:Bool):Option Int:=z2A fuel x0 d
def z2p (fuel:Nat) (x0:Int) (x1:Int):Option (Int):=(if(x0 == 9)=true then((zd fuel x1 0 3).bind fun r1=>(if r1=true then some (w64 (1+x1)) else some 0)) else(if(x1 != 0)=true then some 0 else(if(x0 == 1)=true then z2G fuel x0 (x0 == 1) else(if(x0 == 5)=true then z2A fuel x0 (x0 == 5) else(if(x0 == 6)=true then z2z fuel x0 (x0 == 6) else z2z fuel x0 (x0 == 12))))))

theorem z7Y {W w:World}(hE:Ext W w){x0:Int}{x1:Int}  {fuel:Nat}{r:Int}(hm:z2p fuel x0 x1=some r):
  Calls Tryz.prog 184 ⟨[.int .i64 x0,.int .i64 x1]⟩ w (Ret fun v w8=>v=.int .i64 r∧St w w8 []):=by
 refine into Tryz.func184 28 _ ?_;unfold z2p at hm;have hS:=St.start w;refine sq<|rg<|rr 1 ?_;refine rn<|sq<|sq<|rg<|rr 2 ?_;refine rn<|ci hm (fun hm=>?_) (fun hm=>?_)
 ·refine sq<|sq<|rg<|rr 1 ?_;obtain⟨r1,C0,hm⟩:=bS hm;refine ca z2o (zh (hE.trans hS.ext)  C0) (fun v3 w4 A0=>?_);obtain⟨rfl,B0⟩:=A0;have r0:=hS.join B0;refine rn<|ci hm (fun hm=>?_) (fun hm=>?_)
  ·refine sq<|rg<|rr 3 ?_;refine rn<|rt ?_;cases hm;exact⟨_,.cons (.tmp rfl) .nil,rfl,r0⟩
  ·refine sp<|sq<|rg<|rr 1 ?_;refine rn<|rt ?_;cases hm;exact⟨_,.cons (.tmp rfl) .nil,rfl,r0⟩
 ·refine sp<|sq<|sq<|rg<|rr 2 ?_;refine rn<|ci hm (fun hm=>?_) (fun hm=>?_)
  ·refine sq<|rg<|rr 1 ?_;refine rn<|rt ?_;cases hm;exact⟨_,.cons (.tmp rfl) .nil,rfl,hS⟩
  ·refine sp<|sq<|sq<|rg<|rr 1 ?_;refine rn<|bk<|sq<|sq<|rg<|rr 2 ?_;refine rn<|ct (fun(k0:Bool) F w9=>z2G fuel x0 k0=some r∧Ext w w9∧St w w9 []∧F=[(13,.int .i64 x0),(14,.bool k0)]) ?_ ?_
   ·rintro k0 F t0 ⟨hm,u0,z,rfl⟩;unfold z2G at hm;refine ci hm (fun hm=>?_) (fun hm=>?_)
    ·refine sq<|rg<|rr 1 ?_;refine rn<|rt ?_;cases hm;exact⟨_,.cons (.tmp rfl) .nil,rfl,z⟩
    ·refine sq<|sq<|rg<|rr 2 ?_;refine rn<|ct (fun(o0:Bool) F w9=>z2F fuel x0 o0=some r∧Ext t0 w9∧St w w9 []∧F=[(13,.int .i64 x0),(19,.bool o0)]) ?_ ?_
     ·rintro o0 F q0 ⟨hm,v0,d,rfl⟩;unfold z2F at hm;refine ci hm (fun hm=>?_) (fun hm=>?_)
      ·refine sq<|rg<|rr 1 ?_;refine rn<|rt ?_;cases hm;exact⟨_,.cons (.tmp rfl) .nil,rfl,d⟩
      ·refine sq<|sq<|rg<|rr 2 ?_;refine rn<|ct (fun(p0:Bool) F w9=>z2E fuel p0=some r∧Ext q0 w9∧St w w9 []∧F=[(23,.bool p0)]) ?_ ?_
       ·rintro p0 F D0 ⟨hm,y0,G,rfl⟩;unfold z2E at hm;refine ci hm (fun hm=>?_) (fun hm=>?_)
        ·refine sq<|rg<|rr 1 ?_;refine rn<|rt ?_;cases hm;exact⟨_,.cons (.tmp rfl) .nil,rfl,G⟩
        ·refine sp<|sq<|rg<|rr 1 ?_;refine rn<|rt ?_;cases hm;exact⟨_,.cons (.tmp rfl) .nil,rfl,G⟩
       ·refine ci hm (fun hm=>?_) (fun hm=>?_)
        ·refine sp ?_;exact⟨(x0 == 2),_,⟨hm,(Ext.refl _),d,rfl⟩,rfl⟩
        ·refine sq<|rg<|rr 2 ?_;refine rn<|ct (fun(H:Bool) F w9=>z2D fuel H=some r∧Ext q0 w9∧St w w9 []∧F=[(23,.bool H)]) ?_ ?_
         ·rintro H F E0 ⟨hm,Y,e0,rfl⟩;unfold z2D at hm;exact⟨H,_,⟨hm,Y,e0,rfl⟩,rfl⟩
         ·refine ci hm (fun hm=>?_) (fun hm=>?_)
          ·refine sp ?_;exact⟨(x0 == 3),_,⟨hm,(Ext.refl _),d,rfl⟩,rfl⟩
          ·refine sq<|rg<|rr 2 ?_;refine rn<|ct (fun(L:Bool) F w9=>z2C fuel L=some r∧Ext q0 w9∧St w w9 []∧F=[(23,.bool L)]) ?_ ?_
           ·rintro L F F0 ⟨hm,Z,f0,rfl⟩;unfold z2C at hm;exact⟨L,_,⟨hm,Z,f0,rfl⟩,rfl⟩
           ·refine ci hm (fun hm=>?_) (fun hm=>?_)
            ·refine sp ?_;exact⟨(x0 == 4),_,⟨hm,(Ext.refl _),d,rfl⟩,rfl⟩
            ·refine rg<|rr 2 ?_;refine rn ?_;exact⟨(x0 == 7),_,⟨hm,(Ext.refl _),d,rfl⟩,rfl⟩
     ·refine ci hm (fun hm=>?_) (fun hm=>?_)
      ·refine sp ?_;exact⟨(x0 == 8),_,⟨hm,(Ext.refl _),z,rfl⟩,rfl⟩
      ·refine sq<|rg<|rr 2 ?_;refine rn<|ct (fun(M:Bool) F w9=>z2B fuel x0 M=some r∧Ext t0 w9∧St w w9 []∧F=[(13,.int .i64 x0),(19,.bool M)]) ?_ ?_
       ·rintro M F G0 ⟨hm,a0,g0,rfl⟩;unfold z2B at hm;exact⟨M,_,⟨hm,a0,g0,rfl⟩,rfl⟩
       ·refine ci hm (fun hm=>?_) (fun hm=>?_)
        ·refine sp ?_;exact⟨(x0 == 10),_,⟨hm,(Ext.refl _),z,rfl⟩,rfl⟩
        ·refine rg<|rr 2 ?_;refine rn ?_;exact⟨(x0 == 11),_,⟨hm,(Ext.refl _),z,rfl⟩,rfl⟩
   ·refine ci hm (fun hm=>?_) (fun hm=>?_)
    ·refine sp ?_;exact⟨(x0 == 1),_,⟨hm,(Ext.refl _),hS,rfl⟩,rfl⟩
    ·refine sq<|rg<|rr 2 ?_;refine rn<|ct (fun(O:Bool) F w9=>z2A fuel x0 O=some r∧Ext w w9∧St w w9 []∧F=[(13,.int .i64 x0),(14,.bool O)]) ?_ ?_
     ·rintro O F H0 ⟨hm,b0,i0,rfl⟩;unfold z2A at hm;exact⟨O,_,⟨hm,b0,i0,rfl⟩,rfl⟩
     ·refine ci hm (fun hm=>?_) (fun hm=>?_)
      ·refine sp ?_;exact⟨(x0 == 5),_,⟨hm,(Ext.refl _),hS,rfl⟩,rfl⟩
      ·refine sq<|rg<|rr 2 ?_;refine rn<|ct (fun(X:Bool) F w9=>z2z fuel x0 X=some r∧Ext w w9∧St w w9 []∧F=[(13,.int .i64 x0),(14,.bool X)]) ?_ ?_
       ·rintro X F J0 ⟨hm,d0,j0,rfl⟩;unfold z2z at hm;exact⟨X,_,⟨hm,d0,j0,rfl⟩,rfl⟩
       ·refine ci hm (fun hm=>?_) (fun hm=>?_)
        ·refine sp ?_;exact⟨(x0 == 6),_,⟨hm,(Ext.refl _),hS,rfl⟩,rfl⟩
        ·refine rg<|rr 2 ?_;refine rn ?_;exact⟨(x0 == 12),_,⟨hm,(Ext.refl _),hS,rfl⟩,rfl⟩

theorem za8:Enters Tryz.prog 162:=⟨_,_,Tryz.func162,rfl,by kernel_rfl⟩
def z2d (fuel:Nat) (t1:Bool):Option Bool:=(if t1=true then some true else some false)
def z2c (fuel:Nat) (t6:Bool):Option Bool:=z2d fuel t6
def z2b (fuel:Nat) (d:Bool):Option Bool:=z2c fuel d
def z2a (fuel:Nat) (d:Bool):Option Bool:=z2b fuel d
def z29 (fuel:Nat) (d:Bool):Option Bool:=z2a fuel d
def z28 (fuel:Nat) (d:Bool):Option Bool:=z29 fuel d
def z27 (fuel:Nat) (d:Bool):Option Bool:=z28 fuel d
def z26 (fuel:Nat) (d:Bool):Option Bool:=z27 fuel d
def z2H (fuel:Nat) (x0:Int):Option (Bool):=(if(x0 == 2)=true then z2d fuel (x0 == 2) else(if(x0 == 3)=true then z2c fuel (x0 == 3) else(if(x0 == 4)=true then z2b fuel (x0 == 4) else(if(x0 == 7)=true then z2a fuel (x0 == 7) else(if(x0 == 8)=true then z29 fuel (x0 == 8) else(if(x0 == 9)=true then z28 fuel (x0 == 9) else(if(x0 == 10)=true then z27 fuel (x0 == 10) else(if(x0 == 11)=true then z26 fuel (x0 == 11) else z26 fuel (x0 == 12)))))))))

theorem z6e {W w:World}(hE:Ext W w){x0:Int}  {fuel:Nat}{r:Bool}(hm:z2H fuel x0=some r):
  Calls Tryz.prog 162 ⟨[.int .i64 x0]⟩ w (Ret fun v w8=>v=.bool r∧St w w8 []):=by
 refine into Tryz.func162 14 _ ?_;unfold z2H at hm;have hS:=St.start w;refine sq<|rg<|rr 1 ?_;refine rn<|sq<|sq<|rg<|rr 1 ?_;refine rn<|bk<|sq<|sq<|rg<|rr 2 ?_;refine rn<|ct (fun(t1:Bool) F w9=>z2d fuel t1=some r∧Ext w w9∧St w w9 []∧F=[(4,.bool t1)]) ?_ ?_
 ·rintro t1 F w4 ⟨hm,q0,o0,rfl⟩;unfold z2d at hm;refine ci hm (fun hm=>?_) (fun hm=>?_)
  ·refine sq<|rg<|rr 1 ?_;refine rn<|rt ?_;cases hm;exact⟨_,.cons (.tmp rfl) .nil,rfl,o0⟩
  ·refine sp<|sq<|rg<|rr 1 ?_;refine rn<|rt ?_;cases hm;exact⟨_,.cons (.tmp rfl) .nil,rfl,o0⟩
 ·refine ci hm (fun hm=>?_) (fun hm=>?_)
  ·refine sp ?_;exact⟨(x0 == 2),_,⟨hm,(Ext.refl _),hS,rfl⟩,rfl⟩
  ·refine sq<|rg<|rr 2 ?_;refine rn<|ct (fun(t6:Bool) F w9=>z2c fuel t6=some r∧Ext w w9∧St w w9 []∧F=[(4,.bool t6)]) ?_ ?_
   ·rintro t6 F r0 ⟨hm,p0,d0,rfl⟩;unfold z2c at hm;exact⟨t6,_,⟨hm,p0,d0,rfl⟩,rfl⟩
   ·refine ci hm (fun hm=>?_) (fun hm=>?_)
    ·refine sp ?_;exact⟨(x0 == 3),_,⟨hm,(Ext.refl _),hS,rfl⟩,rfl⟩
    ·refine sq<|rg<|rr 2 ?_;refine rn<|ct (fun(d:Bool) F w9=>z2b fuel d=some r∧Ext w w9∧St w w9 []∧F=[(4,.bool d)]) ?_ ?_
     ·rintro d F t0 ⟨hm,O,e0,rfl⟩;unfold z2b at hm;exact⟨d,_,⟨hm,O,e0,rfl⟩,rfl⟩
     ·refine ci hm (fun hm=>?_) (fun hm=>?_)
      ·refine sp ?_;exact⟨(x0 == 4),_,⟨hm,(Ext.refl _),hS,rfl⟩,rfl⟩
      ·refine sq<|rg<|rr 2 ?_;refine rn<|ct (fun(z:Bool) F w9=>z2a fuel z=some r∧Ext w w9∧St w w9 []∧F=[(4,.bool z)]) ?_ ?_
       ·rintro z F u0 ⟨hm,X,f0,rfl⟩;unfold z2a at hm;exact⟨z,_,⟨hm,X,f0,rfl⟩,rfl⟩
       ·refine ci hm (fun hm=>?_) (fun hm=>?_)
        ·refine sp ?_;exact⟨(x0 == 7),_,⟨hm,(Ext.refl _),hS,rfl⟩,rfl⟩
        ·refine sq<|rg<|rr 2 ?_;refine rn<|ct (fun(G:Bool) F w9=>z29 fuel G=some r∧Ext w w9∧St w w9 []∧F=[(4,.bool G)]) ?_ ?_
         ·rintro G F v0 ⟨hm,Y,g0,rfl⟩;unfold z29 at hm;exact⟨G,_,⟨hm,Y,g0,rfl⟩,rfl⟩
         ·refine ci hm (fun hm=>?_) (fun hm=>?_)
          ·refine sp ?_;exact⟨(x0 == 8),_,⟨hm,(Ext.refl _),hS,rfl⟩,rfl⟩
          ·refine sq<|rg<|rr 2 ?_;refine rn<|ct (fun(H:Bool) F w9=>z28 fuel H=some r∧Ext w w9∧St w w9 []∧F=[(4,.bool H)]) ?_ ?_
           ·rintro H F y0 ⟨hm,Z,i0,rfl⟩;unfold z28 at hm;exact⟨H,_,⟨hm,Z,i0,rfl⟩,rfl⟩
           ·refine ci hm (fun hm=>?_) (fun hm=>?_)
            ·refine sp ?_;exact⟨(x0 == 9),_,⟨hm,(Ext.refl _),hS,rfl⟩,rfl⟩
            ·refine sq<|rg<|rr 2 ?_;refine rn<|ct (fun(L:Bool) F w9=>z27 fuel L=some r∧Ext w w9∧St w w9 []∧F=[(4,.bool L)]) ?_ ?_
             ·rintro L F A0 ⟨hm,a0,j0,rfl⟩;unfold z27 at hm;exact⟨L,_,⟨hm,a0,j0,rfl⟩,rfl⟩
             ·refine ci hm (fun hm=>?_) (fun hm=>?_)
              ·refine sp ?_;exact⟨(x0 == 10),_,⟨hm,(Ext.refl _),hS,rfl⟩,rfl⟩
              ·refine sq<|rg<|rr 2 ?_;refine rn<|ct (fun(M:Bool) F w9=>z26 fuel M=some r∧Ext w w9∧St w w9 []∧F=[(4,.bool M)]) ?_ ?_
               ·rintro M F B0 ⟨hm,b0,k0,rfl⟩;unfold z26 at hm;exact⟨M,_,⟨hm,b0,k0,rfl⟩,rfl⟩
               ·refine ci hm (fun hm=>?_) (fun hm=>?_)
                ·refine sp ?_;exact⟨(x0 == 11),_,⟨hm,(Ext.refl _),hS,rfl⟩,rfl⟩
                ·refine rg<|rr 2 ?_;refine rn ?_;exact⟨(x0 == 12),_,⟨hm,(Ext.refl _),hS,rfl⟩,rfl⟩

theorem zch:Enters Tryz.prog 206:=⟨_,_,Tryz.func206,rfl,by kernel_rfl⟩
def z4X (fuel:Nat) (x0:Int):Option (Bool):=((zd fuel x0 1 12).bind fun r1=>some r1)

theorem z7X {W w:World}(hE:Ext W w){x0:Int}  {fuel:Nat}{r:Bool}(hm:z4X fuel x0=some r):
  Calls Tryz.prog 206 ⟨[.int .i64 x0]⟩ w (Ret fun v w8=>v=.bool r∧St w w8 []):=by
 refine into Tryz.func206 5 _ ?_;unfold z4X at hm;have hS:=St.start w;refine sq<|rg<|rr 1 ?_;refine rn<|sq<|rg<|rr 1 ?_;obtain⟨r1,H,hm⟩:=bS hm;refine ca z2o (zh (hE.trans hS.ext)  H) (fun v3 w4 d=>?_);obtain⟨rfl,z⟩:=d;have G:=hS.join z;refine rr 1 ?_;refine rn<|rt ?_;cases hm;exact⟨_,.cons (.tmp rfl) .nil,rfl,G⟩

theorem zct:Enters Tryz.prog 186:=⟨_,_,Tryz.func186,rfl,by kernel_rfl⟩
def z3B (fuel:Nat) (x0:Int) (x1:Int):Option (Bool):=((z2H fuel x0).bind fun r1=>(if r1=true then((zd fuel x1 0 8).bind fun d=>some d) else((z4X fuel x0).bind fun z=>(if z=true then some (x1 == 0) else some false))))

theorem z7B {W w:World}(hE:Ext W w){x0:Int}{x1:Int}  {fuel:Nat}{r:Bool}(hm:z3B fuel x0 x1=some r):
  Calls Tryz.prog 186 ⟨[.int .i64 x0,.int .i64 x1]⟩ w (Ret fun v w8=>v=.bool r∧St w w8 []):=by
 refine into Tryz.func186 15 _ ?_;unfold z3B at hm;have hS:=St.start w;refine sq<|rg<|rr 1 ?_;refine rn<|sq<|sq<|rg<|rr 1 ?_;obtain⟨r1,b0,hm⟩:=bS hm;refine ca za8 (z6e (hE.trans hS.ext)  b0) (fun v3 w4 Z=>?_);obtain⟨rfl,a0⟩:=Z;have z:=hS.join a0;refine rn<|ci hm (fun hm=>?_) (fun hm=>?_)
 ·refine sq<|rg<|rr 1 ?_;obtain⟨d0,X,hm⟩:=bS hm;refine ca z2o (zh (hE.trans z.ext)  X) (fun f0 i0 G=>?_);obtain⟨rfl,H⟩:=G;have O:=z.join H;refine rr 1 ?_;refine rn<|rt ?_;cases hm;exact⟨_,.cons (.tmp rfl) .nil,rfl,O⟩
 ·refine sp<|sq<|rg<|rr 1 ?_;obtain⟨e0,Y,hm⟩:=bS hm;refine ca zch (z7X (hE.trans z.ext)  Y) (fun g0 j0 L=>?_);obtain⟨rfl,M⟩:=L;have d:=z.join M;refine rr 1 ?_;refine rb 11 hm (fun hm=>?_) (fun hm=>?_)
  ·refine rr 4 ?_;refine rn<|rt ?_;cases hm;exact⟨_,.cons (.tmp rfl) .nil,rfl,d⟩
  ·refine rr 4 ?_;refine rn<|rt ?_;cases hm;exact⟨_,.cons (.tmp rfl) .nil,rfl,d⟩

theorem za2:Enters Tryz.prog 207:=⟨_,_,Tryz.func207,rfl,by kernel_rfl⟩
def z3P (fuel:Nat) (x0:Int):Option (Bool):=((zd fuel x0 0 23).bind fun r1=>some r1)

theorem z6G {W w:World}(hE:Ext W w){x0:Int}  {fuel:Nat}{r:Bool}(hm:z3P fuel x0=some r):
  Calls Tryz.prog 207 ⟨[.int .i64 x0]⟩ w (Ret fun v w8=>v=.bool r∧St w w8 []):=by
 refine into Tryz.func207 5 _ ?_;unfold z3P at hm;have hS:=St.start w;refine sq<|rg<|rr 1 ?_;refine rn<|sq<|rg<|rr 1 ?_;obtain⟨r1,H,hm⟩:=bS hm;refine ca z2o (zh (hE.trans hS.ext)  H) (fun v3 w4 d=>?_);obtain⟨rfl,z⟩:=d;have G:=hS.join z;refine rr 1 ?_;refine rn<|rt ?_;cases hm;exact⟨_,.cons (.tmp rfl) .nil,rfl,G⟩

theorem zcs:Enters Tryz.prog 187:=⟨_,_,Tryz.func187,rfl,by kernel_rfl⟩
def z40 (fuel:Nat) (d:Unit):Option Bool:=some true
def z1n (fuel:Nat) (x0:D.Agent) (d:Int):Option (Rd (Int) (Unit) (Bool)):=(if(decide (d<(x0.Data.length:Int)))=true then((idx x0.Data d).bind fun G=>((z3P fuel G).bind fun z=>(if(!z)=true then some (.ret false) else some (.next (w64 (d+1)))))) else some (.brk ()))
def zf (fuel:Nat) (x0:D.Agent) (d:Bool):Option Bool:=(if d=true then some false else((iter (z1n fuel x0) fuel 0).bind fun o=>aft o (z40 fuel)))
def zw (fuel:Nat) (x0:D.Agent) (G:Bool):Option Bool:=(if G=true then(if(x0.Value != 0)=true then zf fuel x0 true else(if(x0.Kind == 11)=true then(if((x0.Data.length:Int) != 2)=true then zf fuel x0 true else(if(x0.Kind == 10)=true then((zd fuel (x0.Data.length:Int) 1 4).bind fun d=>zf fuel x0 (!d)) else zf fuel x0 false)) else(if(x0.Kind == 10)=true then((zd fuel (x0.Data.length:Int) 1 4).bind fun z=>zf fuel x0 (!z)) else zf fuel x0 false))) else(if(x0.Value == 0)=true then some ((x0.Data.length:Int) == 0) else some false))
def zg (fuel:Nat) (x0:D.Agent):Option (Bool):=(if(x0.Kind == 6)=true then(if((x0.Data.length:Int) == 0)=true then((zd fuel x0.Value (-2147483648) 2147483647).bind fun d=>some d) else some false) else(if(x0.Kind == 7)=true then(if((x0.Data.length:Int) == 0)=true then((zd fuel x0.Value 1 6).bind fun z=>some z) else some false) else(if(x0.Kind == 8)=true then(if((x0.Data.length:Int) == 1)=true then((zd fuel x0.Value 1 6).bind fun G=>(if G=true then((idx x0.Data 0).bind fun O=>((zd fuel O (-2147483648) 2147483647).bind fun H=>some H)) else some false)) else some false) else(if(x0.Kind == 9)=true then(if((x0.Data.length:Int) == 0)=true then((zd fuel x0.Value 0 3).bind fun L=>some L) else some false) else(if(x0.Kind == 12)=true then(if((x0.Data.length:Int) == 0)=true then((z3P fuel x0.Value).bind fun M=>some M) else some false) else(if(x0.Kind == 10)=true then zw fuel x0 (x0.Kind == 10) else zw fuel x0 (x0.Kind == 11)))))))

theorem z71 {W w:World}(hE:Ext W w){o0:Addr}{k1:List Value}{x0:D.Agent}(v1:z6g.ro W k1 x0) (G:At W o0 k1){fuel:Nat}{r:Bool}(hm:zg fuel x0=some r):
  Calls Tryz.prog 187 ⟨[.pointer (some o0)]⟩ w (Ret fun v w8=>v=.bool r∧St w w8 []):=by
 obtain⟨A1,k2,A4,k5,e7,h3,h6⟩:=ze v1;subst e7;refine into Tryz.func187 162 _ ?_;unfold zg at hm;have hS:=St.start w;refine sq<|rg<|rr 1 ?_;refine rn<|sq<|sq<|rg<|rr 3 ?_;refine l1 (At.ext (hE.trans hS.ext) G) 0 ?_;refine rn<|bk<|sq<|rg<|rr 2 ?_;refine rn<|ci hm (fun hm=>?_) (fun hm=>?_)
 ·refine sq<|rg<|rr 3 ?_;refine l1 (At.ext (hE.trans hS.ext) G) 3 ?_;refine rr 3 ?_;refine rb 16 hm (fun hm=>?_) (fun hm=>?_)
  ·refine rr 3 ?_;refine l1 (At.ext (hE.trans hS.ext) G) 2 ?_;obtain⟨O1,T0,hm⟩:=bS hm;refine ca z2o (zh (hE.trans hS.ext)  T0) (fun V1 f2 p0=>?_);obtain⟨rfl,q0⟩:=p0;have F0:=hS.join q0;refine rr 2 ?_;refine rn<|rt ?_;cases hm;exact⟨_,.cons (.tmp rfl) .nil,rfl,F0⟩
  ·refine rr 7 ?_;refine rn<|rt ?_;cases hm;exact⟨_,.cons (.tmp rfl) .nil,rfl,hS⟩
 ·refine sq<|rg<|rr 2 ?_;refine rn<|ci hm (fun hm=>?_) (fun hm=>?_)
  ·refine sq<|rg<|rr 3 ?_;refine l1 (At.ext (hE.trans hS.ext) G) 3 ?_;refine rr 3 ?_;refine rb 31 hm (fun hm=>?_) (fun hm=>?_)
   ·refine rr 3 ?_;refine l1 (At.ext (hE.trans hS.ext) G) 2 ?_;obtain⟨P1,U0,hm⟩:=bS hm;refine ca z2o (zh (hE.trans hS.ext)  U0) (fun W1 g2 r0=>?_);obtain⟨rfl,t0⟩:=r0;have G0:=hS.join t0;refine rr 2 ?_;refine rn<|rt ?_;cases hm;exact⟨_,.cons (.tmp rfl) .nil,rfl,G0⟩
   ·refine rr 7 ?_;refine rn<|rt ?_;cases hm;exact⟨_,.cons (.tmp rfl) .nil,rfl,hS⟩
  ·refine sq<|rg<|rr 2 ?_;refine rn<|ci hm (fun hm=>?_) (fun hm=>?_)
   ·refine sq<|rg<|rr 3 ?_;refine l1 (At.ext (hE.trans hS.ext) G) 3 ?_;refine rr 3 ?_;refine rb 46 hm (fun hm=>?_) (fun hm=>?_)
    ·refine rr 3 ?_;refine l1 (At.ext (hE.trans hS.ext) G) 2 ?_;obtain⟨Q1,V0,hm⟩:=bS hm;refine ca z2o (zh (hE.trans hS.ext)  V0) (fun X1 i2 u0=>?_);obtain⟨rfl,v0⟩:=u0;have L:=hS.join v0;refine rr 2 ?_;refine rb 53 hm (fun hm=>?_) (fun hm=>?_)
     ·refine rr 3 ?_;refine l1 (At.ext (hE.trans L.ext) G) 3 ?_;obtain⟨q2,W0,hm⟩:=bS hm;refine ix (hE.trans L.ext) h3 W0 (fun M1 t1 N0 R0=>?_);cases R0;refine l1 (At.ext (hE.trans L.ext) N0) 0 ?_;obtain⟨R1,X0,hm⟩:=bS hm;refine ca z2o (zh (hE.trans L.ext)  X0) (fun Y1 j2 y0=>?_);obtain⟨rfl,A0⟩:=y0;have H0:=L.join A0;refine rr 2 ?_;refine rn<|rt ?_;cases hm;exact⟨_,.cons (.tmp rfl) .nil,rfl,H0⟩
     ·refine rr 9 ?_;refine rn<|rt ?_;cases hm;exact⟨_,.cons (.tmp rfl) .nil,rfl,L⟩
    ·refine rr 16 ?_;refine rn<|rt ?_;cases hm;exact⟨_,.cons (.tmp rfl) .nil,rfl,hS⟩
   ·refine sq<|rg<|rr 2 ?_;refine rn<|ci hm (fun hm=>?_) (fun hm=>?_)
    ·refine sq<|rg<|rr 3 ?_;refine l1 (At.ext (hE.trans hS.ext) G) 3 ?_;refine rr 3 ?_;refine rb 70 hm (fun hm=>?_) (fun hm=>?_)
     ·refine rr 3 ?_;refine l1 (At.ext (hE.trans hS.ext) G) 2 ?_;obtain⟨S1,Y0,hm⟩:=bS hm;refine ca z2o (zh (hE.trans hS.ext)  Y0) (fun a2 m2 B0=>?_);obtain⟨rfl,C0⟩:=B0;have J0:=hS.join C0;refine rr 2 ?_;refine rn<|rt ?_;cases hm;exact⟨_,.cons (.tmp rfl) .nil,rfl,J0⟩
     ·refine rr 7 ?_;refine rn<|rt ?_;cases hm;exact⟨_,.cons (.tmp rfl) .nil,rfl,hS⟩
    ·refine sq<|rg<|rr 2 ?_;refine rn<|ci hm (fun hm=>?_) (fun hm=>?_)
     ·refine sq<|rg<|rr 3 ?_;refine l1 (At.ext (hE.trans hS.ext) G) 3 ?_;refine rr 3 ?_;refine rb 85 hm (fun hm=>?_) (fun hm=>?_)
      ·refine rr 3 ?_;refine l1 (At.ext (hE.trans hS.ext) G) 2 ?_;obtain⟨T1,a1,hm⟩:=bS hm;refine ca za2 (z6G (hE.trans hS.ext)  a1) (fun d2 n2 D0=>?_);obtain⟨rfl,E0⟩:=D0;have K0:=hS.join E0;refine rr 2 ?_;refine rn<|rt ?_;cases hm;exact⟨_,.cons (.tmp rfl) .nil,rfl,K0⟩
      ·refine rr 7 ?_;refine rn<|rt ?_;cases hm;exact⟨_,.cons (.tmp rfl) .nil,rfl,hS⟩
     ·refine sq<|sq<|rg<|rr 2 ?_;refine rn<|ct (fun(i1:Bool) F w9=>zw fuel x0 i1=some r∧Ext w w9∧St w w9 []∧F=[(0,.pointer (some o0)),(92,.bool i1)]) ?_ ?_
      ·rintro i1 F K1 ⟨hm,y1,d,rfl⟩;unfold zw at hm;refine ci hm (fun hm=>?_) (fun hm=>?_)
       ·refine sq<|sq<|ct (fun(j1:Bool) F w9=>zf fuel x0 j1=some r∧Ext K1 w9∧St w w9 []∧F=[(0,.pointer (some o0)),(130,.bool j1)]) ?_ ?_
        ·rintro j1 F p1 ⟨hm,B1,g0,rfl⟩;unfold zf at hm;refine ci hm (fun hm=>?_) (fun hm=>?_)
         ·refine sq<|rg<|rr 1 ?_;refine rn<|rt ?_;cases hm;exact⟨_,.cons (.tmp rfl) .nil,rfl,g0⟩
         ·refine sp<|sq<|sq<|rg<|rr 1 ?_;refine rn ?_;obtain⟨D1,P0,hm⟩:=bS hm;refine ct (fun(n1:Unit) F w9=>D1=.inl n1∧Ext p1 w9∧St w w9 []∧F=[]) ?_ ?_
          ·rintro n1 F o2 ⟨Q0,C1,L0,rfl⟩;subst Q0;rw [z6] at hm;unfold z40 at hm;refine sq<|rg<|rr 1 ?_;refine rn<|rt ?_;cases hm;exact⟨_,.cons (.tmp rfl) .nil,rfl,L0⟩
          ·refine bk<|wk [0,3] ?_;refine it (fun(m1:Int) F w9=>Ext p1 w9∧St w w9 []∧F=[(0,.pointer (some o0)),(3,.int .i64 m1)]) P0 ⟨(Ext.refl _),g0,rfl⟩ ?_;rintro m1 F p2 _ L1 ⟨Z,H,rfl⟩ z i0;unfold z1n at z;refine sq<|sq<|rg<|rr 4 ?_;refine l1 (At.ext (hE.trans H.ext) G) 3 ?_;refine rr 2 ?_;refine rn<|ci z (fun z=>?_) (fun z=>?_)
           ·refine sp<|sq<|bk<|sq<|rg<|rr 3 ?_;refine l1 (At.ext (hE.trans H.ext) G) 3 ?_;refine rr 1 ?_;obtain⟨r2,d1,z⟩:=bS z;refine ix (hE.trans H.ext) h3 d1 (fun N1 u1 O0 S0=>?_);cases S0;refine l1 (At.ext (hE.trans H.ext) O0) 0 ?_;obtain⟨U1,e1,z⟩:=bS z;refine ca za2 (z6G (hE.trans H.ext)  e1) (fun e2 G1 a0=>?_);obtain⟨rfl,M⟩:=a0;have Y:=H.join M;refine rr 1 ?_;refine rn<|ci z (fun z=>?_) (fun z=>?_)
            ·refine sq<|rg<|rr 1 ?_;refine rn<|rt ?_;cases z;cases i0;have hm:some _=some _:=hm;cases hm;exact⟨_,.cons (.tmp rfl) .nil,rfl,Y⟩
            ·refine sp<|rg<|rr 3 ?_;refine rn ?_;cases z;exact⟨_,_,rfl,⟨(Z.trans M.ext),Y,rfl⟩,rfl⟩
           ·refine xt ?_;cases z;exact⟨_,_,⟨i0,Z,H,rfl⟩,rfl⟩
        ·refine rg<|rr 3 ?_;refine l1 (At.ext (hE.trans d.ext) G) 2 ?_;refine rr 2 ?_;refine rb 100 hm (fun hm=>?_) (fun hm=>?_)
         ·refine rr 30 ?_;refine rn ?_;exact⟨true,_,⟨hm,(Ext.refl _),d,rfl⟩,rfl⟩
         ·refine rr 3 ?_;refine l1 (At.ext (hE.trans d.ext) G) 0 ?_;refine rr 2 ?_;refine rb 106 hm (fun hm=>?_) (fun hm=>?_)
          ·refine rr 3 ?_;refine l1 (At.ext (hE.trans d.ext) G) 3 ?_;refine rr 5 ?_;refine rb 115 hm (fun hm=>?_) (fun hm=>?_)
           ·refine rr 15 ?_;refine rn ?_;exact⟨true,_,⟨hm,(Ext.refl _),d,rfl⟩,rfl⟩
           ·refine rr 3 ?_;refine l1 (At.ext (hE.trans d.ext) G) 0 ?_;refine rr 2 ?_;refine rb 121 hm (fun hm=>?_) (fun hm=>?_)
            ·refine rr 3 ?_;refine l1 (At.ext (hE.trans d.ext) G) 3 ?_;refine rr 1 ?_;obtain⟨f1,j0,hm⟩:=bS hm;refine ca z2o (zh (hE.trans d.ext)  j0) (fun E1 H1 b0=>?_);obtain⟨rfl,O⟩:=b0;have e0:=d.join O;refine rr 3 ?_;refine rn ?_;exact⟨!f1,_,⟨hm,O.ext,e0,rfl⟩,rfl⟩
            ·refine rr 9 ?_;refine rn ?_;exact⟨false,_,⟨hm,(Ext.refl _),d,rfl⟩,rfl⟩
          ·refine rr 12 ?_;refine l1 (At.ext (hE.trans d.ext) G) 0 ?_;refine rr 2 ?_;refine rb 121 hm (fun hm=>?_) (fun hm=>?_)
           ·refine rr 3 ?_;refine l1 (At.ext (hE.trans d.ext) G) 3 ?_;refine rr 1 ?_;obtain⟨g1,k0,hm⟩:=bS hm;refine ca z2o (zh (hE.trans d.ext)  k0) (fun F1 J1 d0=>?_);obtain⟨rfl,X⟩:=d0;have f0:=d.join X;refine rr 3 ?_;refine rn ?_;exact⟨!g1,_,⟨hm,X.ext,f0,rfl⟩,rfl⟩
           ·refine rr 9 ?_;refine rn ?_;exact⟨false,_,⟨hm,(Ext.refl _),d,rfl⟩,rfl⟩
       ·refine sp<|sq<|rg<|rr 3 ?_;refine l1 (At.ext (hE.trans d.ext) G) 2 ?_;refine rr 2 ?_;refine rb 154 hm (fun hm=>?_) (fun hm=>?_)
        ·refine rr 3 ?_;refine l1 (At.ext (hE.trans d.ext) G) 3 ?_;refine rr 4 ?_;refine rn<|rt ?_;cases hm;exact⟨_,.cons (.tmp rfl) .nil,rfl,d⟩
        ·refine rr 8 ?_;refine rn<|rt ?_;cases hm;exact⟨_,.cons (.tmp rfl) .nil,rfl,d⟩
      ·refine ci hm (fun hm=>?_) (fun hm=>?_)
       ·refine sp ?_;exact⟨(x0.Kind == 10),_,⟨hm,(Ext.refl _),hS,rfl⟩,rfl⟩
       ·refine rg<|rr 2 ?_;refine rn ?_;exact⟨(x0.Kind == 11),_,⟨hm,(Ext.refl _),hS,rfl⟩,rfl⟩

theorem zcD:Enters Tryz.prog 160:=⟨_,_,Tryz.func160,rfl,by kernel_rfl⟩
def z1K (fuel:Nat) (x0:D.Agent):Option (Bool):=((z1k fuel x0).bind fun z=>((z2p fuel x0.Kind z).bind fun d=>(if(decide (d>0))=true then(if((x0.Ports.length:Int) == d)=true then((z3B fuel x0.Kind x0.Level).bind fun G=>(if G=true then((zg fuel x0).bind fun H=>some H) else some false)) else some false) else some false)))

theorem z7A {W w:World}(hE:Ext W w){t0:Addr}{r0:List Value}{x0:D.Agent}(d0:z6g.ro W r0 x0) (M:At W t0 r0){fuel:Nat}{r:Bool}(hm:z1K fuel x0=some r):
  Calls Tryz.prog 160 ⟨[.pointer (some t0)]⟩ w (Ret fun v w8=>v=.bool r∧St w w8 []):=by
 obtain⟨A1,k2,A4,k5,e7,h3,h6⟩:=ze d0;subst e7;refine into Tryz.func160 37 _ ?_;unfold z1K at hm;have hS:=St.start w;refine sq<|rg<|rr 1 ?_;refine rn<|sq<|dn 0 mixed 8 [([],255),([0],254),([1],253),([2],251),([],255),([4],239),([3,5,5],215),([6,6,0,1,2,3,4,5,6],191)] hS.ext (fun z=>?_);have a0:=hS.step (Ext.draw _);refine dr 4 z [0,1,2,4] ?_;refine dl z 3 (At.ext (hE.trans hS.ext) M) 0 ?_;obtain⟨u0,k0,hm⟩:=bS hm;refine o1 z 5 (mc z zcu (z7f (hE.trans a0.ext) d0 M k0) (fun B0 F0 e0=>?_));obtain⟨rfl,O⟩:=e0;refine⟨O.ext,?_⟩;have b0:=a0.join O;obtain⟨v0,o0,hm⟩:=bS hm;refine o1 z 6 (mc z zcv (z7Y (hE.trans b0.ext)  o0) (fun C0 G0 f0=>?_));obtain⟨rfl,X⟩:=f0;refine⟨X.ext,?_⟩;have G:=b0.join X;refine dr 0 z [7] ?_;refine dw [0,3] ?_;refine dd z ?_;refine sq<|dn 0 mixed 27 [([],134217727),([0],134217726),([1],134217725),([2],134217723),([3,2],134217715),([4,2],134217707),([5,2],134217691),([6,2],134217659),([2],134217723),([7,8,2],134217339),([2,9],134217211),([10,2],134216703),([11],134215679),([12,11],134211583),([13,11],134207487),([14,11],134199295),([11],134215679),([16,11],134150143),([17,11],134084607),([18,11],133953535),([15,19,11,11],133658623),([11,20],133167103),([21,20],132120575),([22],130023423),([23,22,22],121634815),([22,24],113246207),([25,24,0,1,2,3,4,5,6,7,8,9,10,11,12,13,14,15,16,17,18,19,20,21,22,23,24,25],100663295)] G.ext (fun d=>?_);have H:=G.step (Ext.draw _);refine dr 24 d [0,1,2] ?_;refine db 13 hm (fun hm=>?_) (fun hm=>?_)
 ·refine dr 20 d [3,4,5,8] ?_;refine dl d 6 (At.ext (hE.trans G.ext) M) 4 ?_;refine dr 15 d [7,9,10,11] ?_;refine dw [0,22] ?_;refine db 22 hm (fun hm=>?_) (fun hm=>?_)
  ·refine dr 9 d [12,13,14,16,17,18] ?_;refine dl d 15 (At.ext (hE.trans G.ext) M) 0 ?_;refine dl d 19 (At.ext (hE.trans G.ext) M) 1 ?_;obtain⟨y0,p0,hm⟩:=bS hm;refine o1 d 20 (mc d zct (z7B (hE.trans H.ext)  p0) (fun D0 H0 g0=>?_));obtain⟨rfl,Y⟩:=g0;refine⟨Y.ext,?_⟩;have L:=H.join Y;refine dr 4 d [21,22] ?_;refine dw [0,33] ?_;refine db 33 hm (fun hm=>?_) (fun hm=>?_)
   ·refine dr 3 d [23] ?_;obtain⟨A0,q0,hm⟩:=bS hm;refine o1 d 24 (mc d zcs (z71 (hE.trans L.ext) d0 M q0) (fun E0 J0 i0=>?_));obtain⟨rfl,Z⟩:=i0;refine⟨Z.ext,?_⟩;have j0:=L.join Z;refine dr 0 d [25,26] ?_;refine dd d ?_;refine rt ?_;cases hm;exact⟨_,.cons (.tmp rfl) .nil,rfl,j0⟩
   ·refine dr 0 d [23,24,25,26] ?_;refine dd d ?_;refine rt ?_;cases hm;exact⟨_,.cons (.tmp rfl) .nil,rfl,L⟩
  ·refine dr 0 d [12,13,14,15,16,17,18,19,20,21,22,23,24,25,26] ?_;refine dw [2] ?_;refine dd d ?_;refine rt ?_;cases hm;exact⟨_,.cons (.tmp rfl) .nil,rfl,H⟩
 ·refine dr 0 d [3,4,5,6,7,8,9,10,11,12,13,14,15,16,17,18,19,20,21,22,23,24,25,26] ?_;refine dw [2] ?_;refine dd d ?_;refine rt ?_;cases hm;exact⟨_,.cons (.tmp rfl) .nil,rfl,H⟩

theorem zco:Enters Tryz.prog 191:=⟨_,_,Tryz.func191,rfl,by kernel_rfl⟩
def z3L (fuel:Nat) (x0:Int) (x1:Int):Option (Int):=(if(x0 == 9)=true then some (w64 (x1 - 1)) else some 0)

theorem z7D {W w:World}(hE:Ext W w){x0:Int}{x1:Int}  {fuel:Nat}{r:Int}(hm:z3L fuel x0 x1=some r):
  Calls Tryz.prog 191 ⟨[.int .i64 x0,.int .i64 x1]⟩ w (Ret fun v w8=>v=.int .i64 r∧St w w8 []):=by
 refine into Tryz.func191 9 _ ?_;unfold z3L at hm;have hS:=St.start w;refine sq<|rg<|rr 1 ?_;refine rn<|sq<|sq<|rg<|rr 2 ?_;refine rn<|ci hm (fun hm=>?_) (fun hm=>?_)
 ·refine sq<|rg<|rr 3 ?_;refine rn<|rt ?_;cases hm;exact⟨_,.cons (.tmp rfl) .nil,rfl,hS⟩
 ·refine sp<|sq<|rg<|rr 1 ?_;refine rn<|rt ?_;cases hm;exact⟨_,.cons (.tmp rfl) .nil,rfl,hS⟩

theorem z8j:Enters Tryz.prog 208:=⟨_,_,Tryz.func208,rfl,by kernel_rfl⟩
def z2Z (fuel:Nat) (x0:Int):Option (Bool):=(if(decide (x0≥1))=true then some (decide (x0≤12)) else some false)

theorem z5Q {W w:World}(hE:Ext W w){x0:Int}  {fuel:Nat}{r:Bool}(hm:z2Z fuel x0=some r):
  Calls Tryz.prog 208 ⟨[.int .i64 x0]⟩ w (Ret fun v w8=>v=.bool r∧St w w8 []):=by
 refine into Tryz.func208 9 _ ?_;unfold z2Z at hm;have hS:=St.start w;refine sq<|rg<|rr 1 ?_;refine rn<|sq<|rg<|rr 3 ?_;refine rb 5 hm (fun hm=>?_) (fun hm=>?_)
 ·refine rr 4 ?_;refine rn<|rt ?_;cases hm;exact⟨_,.cons (.tmp rfl) .nil,rfl,hS⟩
 ·refine rr 4 ?_;refine rn<|rt ?_;cases hm;exact⟨_,.cons (.tmp rfl) .nil,rfl,hS⟩

theorem zcp:Enters Tryz.prog 190:=⟨_,_,Tryz.func190,rfl,by kernel_rfl⟩
def zv (fuel:Nat) (x0:Int) (t6:Bool):Option Int:=(if t6=true then some 0 else((idx ([0,1,3,3,3,1,1,3,2,0,2,2,1]:List Int) x0).bind fun d=>some d))
def zZ (fuel:Nat) (x0:Int) (x1:Int) (t1:Bool):Option Int:=(if t1=true then some (w64 (x1+1)) else((z2Z fuel x0).bind fun d=>(if(!d)=true then zv fuel x0 true else(if(x0 == 9)=true then zv fuel x0 true else zv fuel x0 (x1 != 0)))))
def z3i (fuel:Nat) (x0:Int) (x1:Int):Option (Int):=(if(x0 == 9)=true then(if(decide (x1≥0))=true then zZ fuel x0 x1 (decide (x1≤3)) else zZ fuel x0 x1 false) else zZ fuel x0 x1 false)

theorem z8g {W w:World}(hE:Ext W w){x0:Int}{x1:Int}  {fuel:Nat}{r:Int}(hm:z3i fuel x0 x1=some r):
  Calls Tryz.prog 190 ⟨[.int .i64 x0,.int .i64 x1]⟩ w (Ret fun v w8=>v=.int .i64 r∧St w w8 []):=by
 refine into Tryz.func190 33 _ ?_;unfold z3i at hm;have hS:=St.start w;refine sq<|rg<|rr 1 ?_;refine rn<|sq<|bk<|sq<|ct (fun(t1:Bool) F w9=>zZ fuel x0 x1 t1=some r∧Ext w w9∧St w w9 []∧F=[(0,.int .i64 x0),(1,.int .i64 x1),(5,.bool t1)]) ?_ ?_
 ·rintro t1 F w4 ⟨hm,X,M,rfl⟩;unfold zZ at hm;refine ci hm (fun hm=>?_) (fun hm=>?_)
  ·refine sq<|rg<|rr 3 ?_;refine rn<|rt ?_;cases hm;exact⟨_,.cons (.tmp rfl) .nil,rfl,M⟩
  ·refine sq<|ct (fun(t6:Bool) F w9=>zv fuel x0 t6=some r∧Ext w4 w9∧St w w9 []∧F=[(0,.int .i64 x0),(18,.bool t6)]) ?_ ?_
   ·rintro t6 F b0 ⟨hm,Y,G,rfl⟩;unfold zv at hm;refine ci hm (fun hm=>?_) (fun hm=>?_)
    ·refine sq<|rg<|rr 1 ?_;refine rn<|rt ?_;cases hm;exact⟨_,.cons (.tmp rfl) .nil,rfl,G⟩
    ·refine sp<|sq<|rg<|qt (qBuildK (cs:=[.int .i64 0,.int .i64 1,.int .i64 3,.int .i64 3,.int .i64 3,.int .i64 1,.int .i64 1,.int .i64 3,.int .i64 2,.int .i64 0,.int .i64 2,.int .i64 2,.int .i64 1])) ?_;refine rr 1 ?_;obtain⟨e0,H,hm⟩:=bS hm;refine qt (Quiet.arrIdx ttok (xs:=([0,1,3,3,3,1,1,3,2,0,2,2,1]:List Int)) (e:=2) rfl (by kernel_rfl) rfl rfl rfl rfl rfl rfl (zn H).1 (zn H).2) ?_;refine rr 1 ?_;refine rn<|rt ?_;cases hm;exact⟨_,.cons (.tmp rfl) .nil,rfl,G⟩
   ·refine rg<|rr 1 ?_;obtain⟨Z,O,hm⟩:=bS hm;refine ca z8j (z5Q (hE.trans M.ext)  O) (fun a0 d0 L=>?_);obtain⟨rfl,d⟩:=L;have z:=M.join d;refine rr 2 ?_;refine rb 22 hm (fun hm=>?_) (fun hm=>?_)
    ·refine rr 8 ?_;refine rn ?_;exact⟨true,_,⟨hm,d.ext,z,rfl⟩,rfl⟩
    ·refine rr 4 ?_;refine rb 26 hm (fun hm=>?_) (fun hm=>?_)
     ·refine rr 4 ?_;refine rn ?_;exact⟨true,_,⟨hm,d.ext,z,rfl⟩,rfl⟩
     ·refine rr 4 ?_;refine rn ?_;exact⟨(x1 != 0),_,⟨hm,d.ext,z,rfl⟩,rfl⟩
 ·refine rg<|rr 3 ?_;refine rb 8 hm (fun hm=>?_) (fun hm=>?_)
  ·refine rr 4 ?_;refine rb 12 hm (fun hm=>?_) (fun hm=>?_)
   ·refine rr 4 ?_;refine rn ?_;exact⟨decide (x1≤3),_,⟨hm,(Ext.refl _),hS,rfl⟩,rfl⟩
   ·refine rr 4 ?_;refine rn ?_;exact⟨false,_,⟨hm,(Ext.refl _),hS,rfl⟩,rfl⟩
  ·refine rr 8 ?_;refine rn ?_;exact⟨false,_,⟨hm,(Ext.refl _),hS,rfl⟩,rfl⟩

theorem zci:Enters Tryz.prog 205:=⟨_,_,Tryz.func205,rfl,by kernel_rfl⟩
def z3N (fuel:Nat) (x0:Int):Option (Bool):=((z2Z fuel x0).bind fun r1=>(if r1=true then(if(x0 != 1)=true then(if(x0 != 5)=true then some (x0 != 6) else some false) else some false) else some false))

theorem z7F {W w:World}(hE:Ext W w){x0:Int}  {fuel:Nat}{r:Bool}(hm:z3N fuel x0=some r):
  Calls Tryz.prog 205 ⟨[.int .i64 x0]⟩ w (Ret fun v w8=>v=.bool r∧St w w8 []):=by
 refine into Tryz.func205 17 _ ?_;unfold z3N at hm;have hS:=St.start w;refine sq<|rg<|rr 1 ?_;refine rn<|sq<|rg<|rr 1 ?_;obtain⟨r1,H,hm⟩:=bS hm;refine ca z8j (z5Q (hE.trans hS.ext)  H) (fun v3 w4 z=>?_);obtain⟨rfl,G⟩:=z;have d:=hS.join G;refine rr 1 ?_;refine rb 5 hm (fun hm=>?_) (fun hm=>?_)
 ·refine rr 4 ?_;refine rb 9 hm (fun hm=>?_) (fun hm=>?_)
  ·refine rr 4 ?_;refine rb 13 hm (fun hm=>?_) (fun hm=>?_)
   ·refine rr 4 ?_;refine rn<|rt ?_;cases hm;exact⟨_,.cons (.tmp rfl) .nil,rfl,d⟩
   ·refine rr 4 ?_;refine rn<|rt ?_;cases hm;exact⟨_,.cons (.tmp rfl) .nil,rfl,d⟩
  ·refine rr 8 ?_;refine rn<|rt ?_;cases hm;exact⟨_,.cons (.tmp rfl) .nil,rfl,d⟩
 ·refine rr 12 ?_;refine rn<|rt ?_;cases hm;exact⟨_,.cons (.tmp rfl) .nil,rfl,d⟩

theorem zcg:Enters Tryz.prog 209:=⟨_,_,Tryz.func209,rfl,by kernel_rfl⟩
def z4g (fuel:Nat) (x0:Int):Option (Bool):=(if(decide (x0≥0))=true then some (decide (x0≤8)) else some false)

theorem z8e {W w:World}(hE:Ext W w){x0:Int}  {fuel:Nat}{r:Bool}(hm:z4g fuel x0=some r):
  Calls Tryz.prog 209 ⟨[.int .i64 x0]⟩ w (Ret fun v w8=>v=.bool r∧St w w8 []):=by
 refine into Tryz.func209 9 _ ?_;unfold z4g at hm;have hS:=St.start w;refine sq<|rg<|rr 1 ?_;refine rn<|sq<|rg<|rr 3 ?_;refine rb 5 hm (fun hm=>?_) (fun hm=>?_)
 ·refine rr 4 ?_;refine rn<|rt ?_;cases hm;exact⟨_,.cons (.tmp rfl) .nil,rfl,hS⟩
 ·refine rr 4 ?_;refine rn<|rt ?_;cases hm;exact⟨_,.cons (.tmp rfl) .nil,rfl,hS⟩

theorem zcn:Enters Tryz.prog 192:=⟨_,_,Tryz.func192,rfl,by kernel_rfl⟩
def z3c (fuel:Nat) (x0:Int) (x1:Int):Option (Bool):=((z2Z fuel x0).bind fun r1=>(if r1=true then(if(x1 == 0)=true then some true else((z3N fuel x0).bind fun d=>(if d=true then((z4g fuel x1).bind fun z=>some z) else some false))) else some false))

theorem z7n {W w:World}(hE:Ext W w){x0:Int}{x1:Int}  {fuel:Nat}{r:Bool}(hm:z3c fuel x0 x1=some r):
  Calls Tryz.prog 192 ⟨[.int .i64 x0,.int .i64 x1]⟩ w (Ret fun v w8=>v=.bool r∧St w w8 []):=by
 refine into Tryz.func192 19 _ ?_;unfold z3c at hm;have hS:=St.start w;refine sq<|rg<|rr 1 ?_;refine rn<|sq<|rg<|rr 1 ?_;obtain⟨r1,b0,hm⟩:=bS hm;refine ca z8j (z5Q (hE.trans hS.ext)  b0) (fun v3 w4 Z=>?_);obtain⟨rfl,a0⟩:=Z;have z:=hS.join a0;refine rr 1 ?_;refine rb 7 hm (fun hm=>?_) (fun hm=>?_)
 ·refine rr 3 ?_;refine rb 10 hm (fun hm=>?_) (fun hm=>?_)
  ·refine rr 9 ?_;refine rn<|rt ?_;cases hm;exact⟨_,.cons (.tmp rfl) .nil,rfl,z⟩
  ·refine rr 1 ?_;obtain⟨d0,X,hm⟩:=bS hm;refine ca zci (z7F (hE.trans z.ext)  X) (fun f0 i0 G=>?_);obtain⟨rfl,H⟩:=G;have d:=z.join H;refine rr 1 ?_;refine rb 13 hm (fun hm=>?_) (fun hm=>?_)
   ·refine rr 1 ?_;obtain⟨e0,Y,hm⟩:=bS hm;refine ca zcg (z8e (hE.trans d.ext)  Y) (fun g0 j0 L=>?_);obtain⟨rfl,M⟩:=L;have O:=d.join M;refine rr 4 ?_;refine rn<|rt ?_;cases hm;exact⟨_,.cons (.tmp rfl) .nil,rfl,O⟩
   ·refine rr 6 ?_;refine rn<|rt ?_;cases hm;exact⟨_,.cons (.tmp rfl) .nil,rfl,d⟩
 ·refine rr 12 ?_;refine rn<|rt ?_;cases hm;exact⟨_,.cons (.tmp rfl) .nil,rfl,z⟩

theorem zcf:Enters Tryz.prog 210:=⟨_,_,Tryz.func210,rfl,by kernel_rfl⟩
def zM (fuel:Nat) (t2:Unit):Option Int:=some (-1)
def zi (fuel:Nat) (x0:(List Int)) (x1:Int→Option Bool) (s1:Int):Option (Rd (Int) (Unit) (Int)):=(if(decide (s1<(x0.length:Int)))=true then((idx x0 s1).bind fun z=>((x1 z).bind fun d=>(if d=true then some (.ret s1) else some (.next (w64 (s1+1)))))) else some (.brk ()))
def zA (fuel:Nat) (x0:(List Int)) (x1:Int→Option Bool):Option (Int):=((iter (zi fuel x0 x1) fuel 0).bind fun o=>aft o (zM fuel))

theorem z4M {W w:World}(hE:Ext W w){M:Option Addr}{f0:Nat}{x0:(List Int)}{f1_:Nat}{u1_:List Value}{x1:Int→Option Bool}(k0:ty80.ro W [sl M x0 f0] x0) (g0:Enters Tryz.prog f1_∧∀ {w9:World},Ext W w9→∀ {z0:Int}{y9:Bool},x1 z0=some y9→Calls Tryz.prog f1_ ⟨[.int .i64 z0]++u1_⟩ w9 (Ret fun v w8=>v=.bool y9∧St w9 w8 [])){fuel:Nat}{r:Int}(hm:zA fuel x0 x1=some r):
  Calls Tryz.prog 210 ⟨[sl M x0 f0,.func (.func f1_) #[] ⟨u1_⟩]⟩ w (Ret fun v w8=>v=.int .i64 r∧St w w8 []):=by
 refine into Tryz.func210 19 _ ?_;unfold zA at hm;have hS:=St.start w;refine sq<|rg<|rr 1 ?_;refine rn<|sq<|sq<|rg<|rr 3 ?_;refine rn ?_;obtain⟨o0,Z,hm⟩:=bS hm;refine ct (fun(t2:Unit) F w9=>o0=.inl t2∧Ext w w9∧St w w9 []∧F=[]) ?_ ?_
 ·rintro t2 F w7 ⟨a0,p0,X,rfl⟩;subst a0;rw [z6] at hm;unfold zM at hm;refine sq<|rg<|rr 1 ?_;refine rn<|rt ?_;cases hm;exact⟨_,.cons (.tmp rfl) .nil,rfl,X⟩
 ·refine bk<|wk [0,1,7,8] ?_;refine it (fun(s1:Int) F w9=>Ext w w9∧St w w9 []∧F=[(0,sl M x0 f0),(1,.func (.func f1_) #[] ⟨u1_⟩),(7,.int .i64 (x0.length:Int)),(8,.int .i64 s1)]) Z ⟨(Ext.refl _),hS,rfl⟩ ?_;rintro s1 F v0 _ q0 ⟨i0,z,rfl⟩ d L;unfold zi at d;refine sq<|rg<|rr 1 ?_;refine rn<|sq<|ci d (fun d=>?_) (fun d=>?_)
  ·refine sp<|sq<|bk<|sq<|rg<|rr 2 ?_;refine rn<|sq<|rg<|rr 3 ?_;obtain⟨A0,d0,d⟩:=bS d;refine ix (hE.trans z.ext) k0 d0 (fun r0 j0 Y b0=>?_);cases b0;refine l1 (At.ext (hE.trans z.ext) Y) 0 ?_;obtain⟨t0,e0,d⟩:=bS d;refine ca g0.1 (g0.2 (hE.trans z.ext)  e0) (fun u0 y0 O=>?_);obtain⟨rfl,G⟩:=O;have H:=z.join G;refine rn<|ci d (fun d=>?_) (fun d=>?_)
   ·refine sq<|rg<|rr 2 ?_;refine rn<|rt ?_;cases d;cases L;have hm:some _=some _:=hm;cases hm;exact⟨_,.cons (.tmp rfl) .nil,rfl,H⟩
   ·refine sp<|rg<|rr 2 ?_;refine rn ?_;cases d;exact⟨_,_,rfl,⟨(i0.trans G.ext),H,rfl⟩,rfl⟩
  ·refine xt ?_;cases d;exact⟨_,_,⟨L,i0,z,rfl⟩,rfl⟩

theorem zcm:Enters Tryz.prog 193:=⟨_,_,Tryz.func193,rfl,by kernel_rfl⟩
def zj (fuel:Nat) (x0:(List Int)) (x1:Int→Option Bool):Option (Bool):=((zA fuel x0 x1).bind fun r1=>some (decide (r1≥0)))

theorem z4v {W w:World}(hE:Ext W w){d:Option Addr}{z:Nat}{x0:(List Int)}{f1_:Nat}{u1_:List Value}{x1:Int→Option Bool}(G:ty80.ro W [sl d x0 z] x0) (H:Enters Tryz.prog f1_∧∀ {w9:World},Ext W w9→∀ {z0:Int}{y9:Bool},x1 z0=some y9→Calls Tryz.prog f1_ ⟨[.int .i64 z0]++u1_⟩ w9 (Ret fun v w8=>v=.bool y9∧St w9 w8 [])){fuel:Nat}{r:Bool}(hm:zj fuel x0 x1=some r):
  Calls Tryz.prog 193 ⟨[sl d x0 z,.func (.func f1_) #[] ⟨u1_⟩]⟩ w (Ret fun v w8=>v=.bool r∧St w w8 []):=by
 refine into Tryz.func193 9 _ ?_;unfold zj at hm;have hS:=St.start w;refine sq<|rg<|rr 1 ?_;refine rn<|sq<|rg<|rr 2 ?_;obtain⟨r1,X,hm⟩:=bS hm;refine ca zcf (z4M (hE.trans hS.ext) G H X) (fun v3 w4 L=>?_);obtain⟨rfl,M⟩:=L;have O:=hS.join M;refine rr 2 ?_;refine rn<|rt ?_;cases hm;exact⟨_,.cons (.tmp rfl) .nil,rfl,O⟩

theorem za5:Enters Tryz.prog 195:=⟨_,_,Tryz.func195,rfl,by kernel_rfl⟩
def z1B (fuel:Nat) (x0:Int):Option (Bool):=(if(decide (x0≥0))=true then some (decide (x0<24)) else some false)

theorem z5P {W w:World}(hE:Ext W w){x0:Int}  {fuel:Nat}{r:Bool}(hm:z1B fuel x0=some r):
  Calls Tryz.prog 195 ⟨[.int .i64 x0]⟩ w (Ret fun v w8=>v=.bool r∧St w w8 []):=by
 refine into Tryz.func195 9 _ ?_;unfold z1B at hm;have hS:=St.start w;refine sq<|rg<|rr 1 ?_;refine rn<|sq<|rg<|rr 3 ?_;refine rb 5 hm (fun hm=>?_) (fun hm=>?_)
 ·refine rr 4 ?_;refine rn<|rt ?_;cases hm;exact⟨_,.cons (.tmp rfl) .nil,rfl,hS⟩
 ·refine rr 4 ?_;refine rn<|rt ?_;cases hm;exact⟨_,.cons (.tmp rfl) .nil,rfl,hS⟩

theorem zck:Enters Tryz.prog 194:=⟨_,_,Tryz.func194,rfl,by kernel_rfl⟩
def z2t (fuel:Nat) (x0:Int):Option (Bool):=((z1B fuel x0).bind fun r1=>some (!r1))

theorem z6u {W w:World}(hE:Ext W w){x0:Int}  {fuel:Nat}{r:Bool}(hm:z2t fuel x0=some r):
  Calls Tryz.prog 194 ⟨[.int .i64 x0]⟩ w (Ret fun v w8=>v=.bool r∧St w w8 []):=by
 refine into Tryz.func194 6 _ ?_;unfold z2t at hm;have hS:=St.start w;refine sq<|rg<|rr 1 ?_;refine rn<|sq<|rg<|rr 1 ?_;obtain⟨r1,H,hm⟩:=bS hm;refine ca za5 (z5P (hE.trans hS.ext)  H) (fun v3 w4 d=>?_);obtain⟨rfl,z⟩:=d;have G:=hS.join z;refine rr 2 ?_;refine rn<|rt ?_;cases hm;exact⟨_,.cons (.tmp rfl) .nil,rfl,G⟩

theorem za4:Enters Tryz.prog 196:=⟨_,_,Tryz.func196,rfl,by kernel_rfl⟩
def z4s (fuel:Nat) (x0:Int):Option (Bool):=(if(decide (x0≥(-2147483648)))=true then some (decide (x0≤2147483647)) else some false)

theorem z7a {W w:World}(hE:Ext W w){x0:Int}  {fuel:Nat}{r:Bool}(hm:z4s fuel x0=some r):
  Calls Tryz.prog 196 ⟨[.int .i64 x0]⟩ w (Ret fun v w8=>v=.bool r∧St w w8 []):=by
 refine into Tryz.func196 9 _ ?_;unfold z4s at hm;have hS:=St.start w;refine sq<|rg<|rr 1 ?_;refine rn<|sq<|rg<|rr 3 ?_;refine rb 5 hm (fun hm=>?_) (fun hm=>?_)
 ·refine rr 4 ?_;refine rn<|rt ?_;cases hm;exact⟨_,.cons (.tmp rfl) .nil,rfl,hS⟩
 ·refine rr 4 ?_;refine rn<|rt ?_;cases hm;exact⟨_,.cons (.tmp rfl) .nil,rfl,hS⟩

theorem za3:Enters Tryz.prog 197:=⟨_,_,Tryz.func197,rfl,by kernel_rfl⟩
def z1A (fuel:Nat) (x0:Int):Option (Bool):=(if(decide (x0≥1))=true then some (decide (x0≤6)) else some false)

theorem z5O {W w:World}(hE:Ext W w){x0:Int}  {fuel:Nat}{r:Bool}(hm:z1A fuel x0=some r):
  Calls Tryz.prog 197 ⟨[.int .i64 x0]⟩ w (Ret fun v w8=>v=.bool r∧St w w8 []):=by
 refine into Tryz.func197 9 _ ?_;unfold z1A at hm;have hS:=St.start w;refine sq<|rg<|rr 1 ?_;refine rn<|sq<|rg<|rr 3 ?_;refine rb 5 hm (fun hm=>?_) (fun hm=>?_)
 ·refine rr 4 ?_;refine rn<|rt ?_;cases hm;exact⟨_,.cons (.tmp rfl) .nil,rfl,hS⟩
 ·refine rr 4 ?_;refine rn<|rt ?_;cases hm;exact⟨_,.cons (.tmp rfl) .nil,rfl,hS⟩

theorem zcA:Enters Tryz.prog 166:=⟨_,_,Tryz.func166,rfl,by kernel_rfl⟩
def z1v (fuel:Nat) (d:Bool × Bool):Option Bool:=(if d.1=true then some d.2 else some false)
def z1u (fuel:Nat) (d:Bool × Bool):Option Bool:=z1v fuel (d.1,d.2)
def z1t (fuel:Nat) (d:Bool × Bool):Option Bool:=z1u fuel (d.1,d.2)
def z1s (fuel:Nat) (x0:D.Agent) (d:Bool):Option Bool:=z1t fuel (d,((x0.Data.length:Int) == 0))
def z1r (fuel:Nat) (d:Bool × Bool):Option Bool:=z1t fuel (d.1,d.2)
def zN (fuel:Nat) (x0:D.Agent) (d:Bool):Option Bool:=z1r fuel ((x0.Value == 0),d)
def z1q (fuel:Nat) (d:Bool × Bool):Option Bool:=z1r fuel (d.1,d.2)
def z1p (fuel:Nat) (x0:D.Agent) (d:Bool):Option Bool:=z1q fuel ((x0.Value == 0),d)
def z17 (fuel:Nat) (x0:D.Agent) (d:Bool):Option Bool:=z1q fuel (d,((x0.Data.length:Int) == 0))
def zx (fuel:Nat) (x0:D.Agent) (O:Bool):Option Bool:=(if O=true then some false else((zj fuel x0.Data (fun y0=>z2t fuel y0)).bind fun z=>(if(x0.Kind == 6)=true then((z4s fuel x0.Value).bind fun G=>z1v fuel (G,((x0.Data.length:Int) == 0))) else(if(x0.Kind == 7)=true then((z1A fuel x0.Value).bind fun H=>z1u fuel (H,((x0.Data.length:Int) == 0))) else(if(x0.Kind == 8)=true then((z1A fuel x0.Value).bind fun L=>(if L=true then(if((x0.Data.length:Int) == 1)=true then((idx x0.Data 0).bind fun X=>((z4s fuel X).bind fun M=>some M)) else some false) else some false)) else(if(x0.Kind == 9)=true then(if(decide (x0.Value≥0))=true then z1s fuel x0 (decide (x0.Value<4)) else z1s fuel x0 false) else(if(x0.Kind == 10)=true then(if(decide ((x0.Data.length:Int)≥1))=true then(if(decide ((x0.Data.length:Int)≤4))=true then zN fuel x0 (!z) else zN fuel x0 false) else zN fuel x0 false) else(if(x0.Kind == 11)=true then(if((x0.Data.length:Int) == 2)=true then z1p fuel x0 (!z) else z1p fuel x0 false) else(if(x0.Kind == 12)=true then((z1B fuel x0.Value).bind fun d=>z17 fuel x0 d) else z17 fuel x0 (x0.Value == 0))))))))))
def zX (fuel:Nat) (x0:D.Agent):Option (Bool):=(if((x0.Ports.length:Int) == 0)=true then zx fuel x0 true else((z3L fuel x0.Kind (x0.Ports.length:Int)).bind fun d=>((z3i fuel x0.Kind d).bind fun z=>(if(z != (x0.Ports.length:Int))=true then zx fuel x0 true else((z3c fuel x0.Kind x0.Level).bind fun G=>zx fuel x0 (!G))))))

theorem z79 {W w:World}(hE:Ext W w){M1:List Value}{x0:D.Agent}(Q1:z6g.ro W M1 x0){fuel:Nat}{r:Bool}(hm:zX fuel x0=some r):
  Calls Tryz.prog 166 ⟨[.agg ⟨M1⟩]⟩ w (Ret fun v w8=>v=.bool r∧St w w8 []):=by
 obtain⟨A1,k2,A4,k5,e7,h3,h6⟩:=ze Q1;subst e7;refine into Tryz.func166 117 _ ?_;unfold zX at hm;have hS:=St.start w;refine sq<|rg<|nw hS (fun N1 i2 q2 G=>?_);refine rr 1 ?_;refine rn<|sq<|sq<|ct (fun(L1:Bool) F w9=>zx fuel x0 L1=some r∧Ext i2 w9∧St w w9 [Box N1 [.int .i64 x0.Kind,.int .i64 x0.Level,.int .i64 x0.Value,sl A1 x0.Data k2,sl A4 x0.Ports k5] 148]∧F=[(1,.pointer (some ⟨N1,0,none⟩)),(32,.bool L1)]) ?_ ?_
 ·rintro L1 F D2 ⟨hm,R1,a0,rfl⟩;unfold zx at hm;refine ci hm (fun hm=>?_) (fun hm=>?_)
  ·refine sq<|rg<|rr 1 ?_;refine rn<|rt ?_;cases hm;exact⟨_,.cons (.tmp rfl) .nil,rfl,(a0.taken 0)⟩
  ·refine sp<|sq<|dn 0 mixed 9 [([],511),([0],510),([1],509),([],511),([3],503),([4],495),([5],479),([2,0,1,2],507),([6,7,0,1,2,3,4,5,6,7],447)] a0.ext (fun O=>?_);have i0:=a0.step (Ext.draw _);refine dr 7 O [0,3] ?_;refine dl O 1 ((a0.bring 0 rfl).box) 2 ?_;refine dr 4 O [2,7] ?_;refine dl O 4 ((a0.bring 0 rfl).box) 3 ?_;refine dr 0 O [5,6,8] ?_;refine dw [1,3,4] ?_;refine dd O ?_;refine sq<|rg<|rr 1 ?_;refine l1 ((i0.bring 0 rfl).box) 3 ?_;obtain⟨O1,C1,hm⟩:=bS hm;refine ca zcm (z4v (hE.trans i0.ext) h3 ⟨zck,fun e9=>(fun  T1=>z6u (Ext.refl _)  T1)⟩ C1) (fun v2 e0 X0=>?_);obtain⟨rfl,Y0⟩:=X0;have z:=i0.join Y0;refine rr 2 ?_;refine rn<|sq<|sq<|rg<|rr 1 ?_;refine l1 ((z.bring 0 rfl).box) 0 ?_;refine rn<|bk<|sq<|rg<|rr 2 ?_;refine rn<|ct (fun(P0:Bool × Bool) F w9=>z1v fuel P0=some r∧Ext e0 w9∧St w w9 []∧F=[(3,.bool P0.1),(4,.bool P0.2)]) ?_ ?_
   ·rintro P0 F E2 ⟨hm,S1,J0,rfl⟩;unfold z1v at hm;refine sq<|rg<|rr 2 ?_;refine rb 114 hm (fun hm=>?_) (fun hm=>?_)
    ·refine rr 3 ?_;refine rn<|rt ?_;cases hm;exact⟨_,.cons (.tmp rfl) .nil,rfl,J0⟩
    ·refine rr 3 ?_;refine rn<|rt ?_;cases hm;exact⟨_,.cons (.tmp rfl) .nil,rfl,J0⟩
   ·refine ci hm (fun hm=>?_) (fun hm=>?_)
    ·refine rg<|rr 1 ?_;refine l1 ((z.bring 0 rfl).box) 2 ?_;obtain⟨W1,D1,hm⟩:=bS hm;refine ca za4 (z7a (hE.trans z.ext)  D1) (fun y2 F2 a1=>?_);obtain⟨rfl,B0⟩:=a1;have j1:=z.join B0;refine rr 1 ?_;refine rn ?_;exact⟨(W1,((x0.Data.length:Int) == 0)),_,⟨hm,B0.ext,(j1.taken 0),rfl⟩,rfl⟩
    ·refine sq<|rg<|rr 2 ?_;refine rn<|ct (fun(j0:Bool × Bool) F w9=>z1u fuel j0=some r∧Ext e0 w9∧St w w9 []∧F=[(3,.bool j0.1),(4,.bool j0.2)]) ?_ ?_
     ·rintro j0 F G2 ⟨hm,S0,k1,rfl⟩;unfold z1u at hm;exact⟨(j0.1,j0.2),_,⟨hm,S0,k1,rfl⟩,rfl⟩
     ·refine ci hm (fun hm=>?_) (fun hm=>?_)
      ·refine rg<|rr 1 ?_;refine l1 ((z.bring 0 rfl).box) 2 ?_;obtain⟨X1,E1,hm⟩:=bS hm;refine ca za3 (z5O (hE.trans z.ext)  E1) (fun A2 H2 d1=>?_);obtain⟨rfl,C0⟩:=d1;have m1:=z.join C0;refine rr 1 ?_;refine rn ?_;exact⟨(X1,((x0.Data.length:Int) == 0)),_,⟨hm,C0.ext,(m1.taken 0),rfl⟩,rfl⟩
      ·refine sq<|rg<|rr 2 ?_;refine rn<|ci hm (fun hm=>?_) (fun hm=>?_)
       ·refine sq<|rg<|rr 1 ?_;refine l1 ((z.bring 0 rfl).box) 2 ?_;obtain⟨t2,F1,hm⟩:=bS hm;refine ca za3 (z5O (hE.trans z.ext)  F1) (fun B2 J2 e1=>?_);obtain⟨rfl,f1⟩:=e1;have H:=z.join f1;refine rr 1 ?_;refine rb 61 hm (fun hm=>?_) (fun hm=>?_)
        ·refine rr 1 ?_;refine l1 ((H.bring 0 rfl).box) 3 ?_;refine rr 4 ?_;refine rb 67 hm (fun hm=>?_) (fun hm=>?_)
         ·refine rr 1 ?_;refine l1 ((H.bring 0 rfl).box) 3 ?_;obtain⟨P2,G1,hm⟩:=bS hm;refine ix (hE.trans H.ext) h3 G1 (fun r2 P1 y1 B1=>?_);cases B1;refine l1 (At.ext (hE.trans H.ext) y1) 0 ?_;obtain⟨u2,H1,hm⟩:=bS hm;refine ca za4 (z7a (hE.trans H.ext)  H1) (fun C2 K2 g1=>?_);obtain⟨rfl,i1⟩:=g1;have n1:=H.join i1;refine rr 2 ?_;refine rn<|rt ?_;cases hm;exact⟨_,.cons (.tmp rfl) .nil,rfl,(n1.taken 0)⟩
         ·refine rr 7 ?_;refine rn<|rt ?_;cases hm;exact⟨_,.cons (.tmp rfl) .nil,rfl,(H.taken 0)⟩
        ·refine rr 13 ?_;refine rn<|rt ?_;cases hm;exact⟨_,.cons (.tmp rfl) .nil,rfl,(H.taken 0)⟩
       ·refine sq<|rg<|rr 2 ?_;refine rn<|ct (fun(k0:Bool × Bool) F w9=>z1t fuel k0=some r∧Ext e0 w9∧St w w9 []∧F=[(3,.bool k0.1),(4,.bool k0.2)]) ?_ ?_
        ·rintro k0 F L2 ⟨hm,T0,p1,rfl⟩;unfold z1t at hm;exact⟨(k0.1,k0.2),_,⟨hm,T0,p1,rfl⟩,rfl⟩
        ·refine ci hm (fun hm=>?_) (fun hm=>?_)
         ·refine ct (fun(Q0:Bool) F w9=>z1s fuel x0 Q0=some r∧Ext e0 w9∧St w w9 []∧F=[(3,.bool Q0),(4,.bool ((x0.Data.length:Int) == 0))]) ?_ ?_
          ·rintro Q0 F M2 ⟨hm,U0,t1,rfl⟩;unfold z1s at hm;exact⟨(Q0,((x0.Data.length:Int) == 0)),_,⟨hm,U0,t1,rfl⟩,rfl⟩
          ·refine rg<|rr 1 ?_;refine l1 ((z.bring 0 rfl).box) 2 ?_;refine rr 2 ?_;refine rb 79 hm (fun hm=>?_) (fun hm=>?_)
           ·refine rr 1 ?_;refine l1 ((z.bring 0 rfl).box) 2 ?_;refine rr 3 ?_;refine rn ?_;exact⟨decide (x0.Value<4),_,⟨hm,(Ext.refl _),(z.taken 0),rfl⟩,rfl⟩
           ·refine rr 5 ?_;refine rn ?_;exact⟨false,_,⟨hm,(Ext.refl _),(z.taken 0),rfl⟩,rfl⟩
         ·refine sq<|rg<|rr 2 ?_;refine rn<|ct (fun(o0:Bool × Bool) F w9=>z1r fuel o0=some r∧Ext e0 w9∧St w w9 []∧F=[(3,.bool o0.1),(4,.bool o0.2)]) ?_ ?_
          ·rintro o0 F N2 ⟨hm,V0,u1,rfl⟩;unfold z1r at hm;exact⟨(o0.1,o0.2),_,⟨hm,V0,u1,rfl⟩,rfl⟩
          ·refine ci hm (fun hm=>?_) (fun hm=>?_)
           ·refine ct (fun(R0:Bool) F w9=>zN fuel x0 R0=some r∧Ext e0 w9∧St w w9 []∧F=[(3,.bool (x0.Value == 0)),(4,.bool R0)]) ?_ ?_
            ·rintro R0 F O2 ⟨hm,W0,v1,rfl⟩;unfold zN at hm;exact⟨((x0.Value == 0),R0),_,⟨hm,W0,v1,rfl⟩,rfl⟩
            ·refine rg<|rr 1 ?_;refine l1 ((z.bring 0 rfl).box) 3 ?_;refine rr 3 ?_;refine rb 90 hm (fun hm=>?_) (fun hm=>?_)
             ·refine rr 1 ?_;refine l1 ((z.bring 0 rfl).box) 3 ?_;refine rr 4 ?_;refine rb 96 hm (fun hm=>?_) (fun hm=>?_)
              ·refine rr 3 ?_;refine rn ?_;exact⟨!O1,_,⟨hm,(Ext.refl _),(z.taken 0),rfl⟩,rfl⟩
              ·refine rr 3 ?_;refine rn ?_;exact⟨false,_,⟨hm,(Ext.refl _),(z.taken 0),rfl⟩,rfl⟩
             ·refine rr 9 ?_;refine rn ?_;exact⟨false,_,⟨hm,(Ext.refl _),(z.taken 0),rfl⟩,rfl⟩
           ·refine sq<|rg<|rr 2 ?_;refine rn<|ct (fun(p0:Bool × Bool) F w9=>z1q fuel p0=some r∧Ext e0 w9∧St w w9 []∧F=[(3,.bool p0.1),(4,.bool p0.2)]) ?_ ?_
            ·rintro p0 F f2 ⟨hm,q0,D0,rfl⟩;unfold z1q at hm;exact⟨(p0.1,p0.2),_,⟨hm,q0,D0,rfl⟩,rfl⟩
            ·refine ci hm (fun hm=>?_) (fun hm=>?_)
             ·refine ct (fun(b0:Bool) F w9=>z1p fuel x0 b0=some r∧Ext e0 w9∧St w w9 []∧F=[(3,.bool (x0.Value == 0)),(4,.bool b0)]) ?_ ?_
              ·rintro b0 F g2 ⟨hm,r0,E0,rfl⟩;unfold z1p at hm;exact⟨((x0.Value == 0),b0),_,⟨hm,r0,E0,rfl⟩,rfl⟩
              ·refine rg<|rr 1 ?_;refine l1 ((z.bring 0 rfl).box) 3 ?_;refine rr 3 ?_;refine rb 105 hm (fun hm=>?_) (fun hm=>?_)
               ·refine rr 3 ?_;refine rn ?_;exact⟨!O1,_,⟨hm,(Ext.refl _),(z.taken 0),rfl⟩,rfl⟩
               ·refine rr 3 ?_;refine rn ?_;exact⟨false,_,⟨hm,(Ext.refl _),(z.taken 0),rfl⟩,rfl⟩
             ·refine sq<|rg<|rr 2 ?_;refine rn<|ct (fun(d0:Bool) F w9=>z17 fuel x0 d0=some r∧Ext e0 w9∧St w w9 []∧F=[(3,.bool d0),(4,.bool ((x0.Data.length:Int) == 0))]) ?_ ?_
              ·rintro d0 F j2 ⟨hm,t0,F0,rfl⟩;unfold z17 at hm;exact⟨(d0,((x0.Data.length:Int) == 0)),_,⟨hm,t0,F0,rfl⟩,rfl⟩
              ·refine ci hm (fun hm=>?_) (fun hm=>?_)
               ·refine rg<|rr 1 ?_;refine l1 ((z.bring 0 rfl).box) 2 ?_;obtain⟨J1,K0,hm⟩:=bS hm;refine ca za5 (z5P (hE.trans z.ext)  K0) (fun Y1 m2 u0=>?_);obtain⟨rfl,f0⟩:=u0;have G0:=z.join f0;refine rr 1 ?_;refine rn ?_;exact⟨J1,_,⟨hm,f0.ext,(G0.taken 0),rfl⟩,rfl⟩
               ·refine sp ?_;exact⟨(x0.Value == 0),_,⟨hm,(Ext.refl _),(z.taken 0),rfl⟩,rfl⟩
 ·refine dn 0 mixed 27 [([],134217727),([0],134217726),([1],134217725),([2],134217723),([3],134217719),([4],134217711),([5,4],134217679),([4],134217711),([7,4],134217583),([4],134217711),([9,4],134217199),([10,4],134216687),([8,11,4,4],134215407),([6,12,12,4],134213551),([4],134217711),([14,4],134201327),([15,4],134184943),([13,16,4],134143983),([4,17],134086639),([18,13],133955583),([19],133693439),([20,19],132644863),([19],133693439),([22,19],129499135),([21,23,19,19],123207679),([24,19],116916223),([19,25],100139007)] G.ext (fun d=>?_);have Y:=G.step (Ext.draw _);refine dr 26 d [0] ?_;refine dl d 1 ((G.bring 0 rfl).box) 4 ?_;refine dr 22 d [2,3,4] ?_;refine dw [1,10] ?_;refine db 10 hm (fun hm=>?_) (fun hm=>?_)
  ·refine dr 0 d [5,6,7,8,9,10,11,12,13,14,15,16,17,18,19,20,21,22,23,24,25,26] ?_;refine dw [1,32] ?_;refine dd d ?_;exact⟨true,_,⟨hm,(Ext.draw _),Y,rfl⟩,rfl⟩
  ·refine dr 18 d [5,7,9,14] ?_;refine dl d 6 ((G.bring 0 rfl).box) 0 ?_;refine dl d 8 ((G.bring 0 rfl).box) 0 ?_;refine dl d 10 ((G.bring 0 rfl).box) 4 ?_;refine dr 14 d [11] ?_;refine dl d 15 ((G.bring 0 rfl).box) 4 ?_;refine dr 12 d [16] ?_;refine dw [1,10,12,14,17,22] ?_;obtain⟨U1,L0,hm⟩:=bS hm;refine o1 d 12 (mc d zco (z7D (hE.trans Y.ext)  L0) (fun a2 n2 v0=>?_));obtain⟨rfl,L⟩:=v0;refine⟨L.ext,?_⟩;have g0:=Y.join L;obtain⟨V1,N0,hm⟩:=bS hm;refine o1 d 13 (mc d zcp (z8g (hE.trans g0.ext)  N0) (fun d2 o2 y0=>?_));obtain⟨rfl,M⟩:=y0;refine⟨M.ext,?_⟩;have Z:=g0.join M;refine dr 7 d [17,18,19] ?_;refine dw [1,25] ?_;refine db 25 hm (fun hm=>?_) (fun hm=>?_)
   ·refine dr 0 d [20,21,22,23,24,25,26] ?_;refine dw [1,32] ?_;refine dd d ?_;exact⟨true,_,⟨hm,(((Ext.draw _).trans L.ext).trans M.ext),Z,rfl⟩,rfl⟩
   ·refine dr 5 d [20,22] ?_;refine dl d 21 ((G.bring 0 rfl).box) 0 ?_;refine dl d 23 ((G.bring 0 rfl).box) 1 ?_;obtain⟨K1,O0,hm⟩:=bS hm;refine o1 d 24 (mc d zcn (z7n (hE.trans Z.ext)  O0) (fun e2 p2 A0=>?_));obtain⟨rfl,X⟩:=A0;refine⟨X.ext,?_⟩;have H0:=Z.join X;refine dr 0 d [25,26] ?_;refine dw [1,32] ?_;refine dd d ?_;exact⟨!K1,_,⟨hm,((((Ext.draw _).trans L.ext).trans M.ext).trans X.ext),H0,rfl⟩,rfl⟩

end Go.E


