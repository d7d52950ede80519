/- Models of functions and proofs that the code runs as they say (written by program). Conditions: the model gives a value. -/
import Derived.Test.YtngggnjnenfgbaaDoorField
namespace Go.E
open Go.RowKit Go.Proofs
set_option linter.unusedVariables false
set_option linter.unusedSimpArgs false
set_option maxHeartbeats 2000000
set_option maxRecDepth 100000

theorem zav:Enters Tryd.prog 55:=⟨_,_,Tryd.func55,rfl,by kernel_rfl⟩
def z1w (fuel:Nat) (x0:D.Agent):Option (Int):=(if(x0.Kind == 9)=true then some (w64 ((x0.Ports.length:Int) - 1)) else some 0)

theorem z5D {W:Base}{w:World}(hE:Ext W w){k:Addr}{b:List Value}{x0:D.Agent}(o:ty62.ro W b x0) (d:At W k b){fuel:Nat}{r:Int}(hm:z1w fuel x0=some r):
  Calls Tryd.prog 55 ⟨[.pointer (some k)]⟩ w (Ret fun v w8=>v=.int .i64 r∧St w w8 []):=by
 obtain⟨A1,k2,A4,k5,e7,h3,h6⟩:=zy o;subst e7;refine into Tryd.func55 14 _ ?_;unfold z1w at hm;have hS:=St.start w;refine sq<|rg<|rr 1 ?_;refine rn<|sq<|sq<|rg<|rr 3 ?_;refine l1 (At.ext (hE.trans hS.ext) d) 0 ?_;refine rr 1 ?_;refine rn<|ci hm (fun hm=>?_) (fun hm=>?_)
 ·refine sq<|rg<|rr 3 ?_;refine l1 (At.ext (hE.trans hS.ext) d) 4 ?_;refine rr 3 ?_;refine rn<|rt ?_;cases hm;exact⟨_,.cons (.tmp rfl) .nil,rfl,hS⟩
 ·refine sp<|sq<|rg<|rr 1 ?_;refine rn<|rt ?_;cases hm;exact⟨_,.cons (.tmp rfl) .nil,rfl,hS⟩

theorem z32:Enters Tryd.prog 26:=⟨_,_,Tryd.func26,rfl,by kernel_rfl⟩
def zD (fuel:Nat) (x0:Int) (x1:Int) (x2:Int):Option (Bool):=(if(decide (x0≥x1))=true then some (decide (x0≤x2)) else some false)

theorem zS {W:Base}{w:World}(hE:Ext W w){x0:Int}{x1:Int}{x2:Int}  {fuel:Nat}{r:Bool}(hm:zD fuel x0 x1 x2=some r):
  Calls Tryd.prog 26 ⟨[.int .i64 x0,.int .i64 x1,.int .i64 x2]⟩ w (Ret fun v w8=>v=.bool r∧St w w8 []):=by
 refine into Tryd.func26 15 _ ?_;unfold zD at hm;have hS:=St.start w;refine sq<|rg<|rr 1 ?_;refine rn<|sq<|rg<|rr 4 ?_;refine rb 10 hm (fun hm=>?_) (fun hm=>?_)
 ·refine rr 5 ?_;refine rn<|rt ?_;cases hm;exact⟨_,.cons (.tmp rfl) .nil,rfl,hS⟩
 ·refine rr 5 ?_;refine rn<|rt ?_;cases hm;exact⟨_,.cons (.tmp rfl) .nil,rfl,hS⟩

theorem zaw:Enters Tryd.prog 54:=⟨_,_,Tryd.func54,rfl,by kernel_rfl⟩
def z2B (fuel:Nat) (b:Bool):Option Int:=(if b=true then some 3 else some 0)
def z2A (fuel:Nat) (b:Bool):Option Int:=z2B fuel b
def z2z (fuel:Nat) (b:Bool):Option Int:=z2A fuel b
def z2C (fuel:Nat) (x0:Int) (b:Bool):Option Int:=(if b=true then some 2 else(if(x0 == 2)=true then z2B fuel (x0 == 2) else(if(x0 == 3)=true then z2A fuel (x0 == 3) else(if(x0 == 4)=true then z2z fuel (x0 == 4) else z2z fuel (x0 == 7)))))
def z2y (fuel:Nat) (x0:Int) (b:Bool):Option Int:=z2C fuel x0 b
def z2D (fuel:Nat) (x0:Int) (b:Bool):Option Int:=(if b=true then some 1 else(if(x0 == 8)=true then z2C fuel x0 (x0 == 8) else(if(x0 == 10)=true then z2y fuel x0 (x0 == 10) else z2y fuel x0 (x0 == 11))))
def z2x (fuel:Nat) (x0:Int) (b:Bool):Option Int:=z2D fuel x0 b
def z2w (fuel:Nat) (x0:Int) (b:Bool):Option Int:=z2x fuel x0 b
def z2f (fuel:Nat) (x0:Int) (x1:Int):Option (Int):=(if(x0 == 9)=true then((zD fuel x1 0 3).bind fun r1=>(if r1=true then some (w64 (1+x1)) else some 0)) else(if(x1 != 0)=true then some 0 else(if(x0 == 1)=true then z2D fuel x0 (x0 == 1) else(if(x0 == 5)=true then z2x fuel x0 (x0 == 5) else(if(x0 == 6)=true then z2w fuel x0 (x0 == 6) else z2w fuel x0 (x0 == 12))))))

theorem z6p {W:Base}{w:World}(hE:Ext W w){x0:Int}{x1:Int}  {fuel:Nat}{r:Int}(hm:z2f fuel x0 x1=some r):
  Calls Tryd.prog 54 ⟨[.int .i64 x0,.int .i64 x1]⟩ w (Ret fun v w8=>v=.int .i64 r∧St w w8 []):=by
 refine into Tryd.func54 28 _ ?_;unfold z2f at hm;have hS:=St.start w;refine sq<|rg<|rr 1 ?_;refine rn<|sq<|sq<|rg<|rr 2 ?_;refine rn<|ci hm (fun hm=>?_) (fun hm=>?_)
 ·refine sq<|sq<|rg<|rr 1 ?_;obtain⟨r1,C0,hm⟩:=bS hm;refine ca z32 (zS (hE.trans hS.ext)  C0) (fun v3 w4 A0=>?_);obtain⟨rfl,B0⟩:=A0;have r0:=hS.join B0;refine rn<|ci hm (fun hm=>?_) (fun hm=>?_)
  ·refine sq<|rg<|rr 3 ?_;refine rn<|rt ?_;cases hm;exact⟨_,.cons (.tmp rfl) .nil,rfl,r0⟩
  ·refine sp<|sq<|rg<|rr 1 ?_;refine rn<|rt ?_;cases hm;exact⟨_,.cons (.tmp rfl) .nil,rfl,r0⟩
 ·refine sp<|sq<|sq<|rg<|rr 2 ?_;refine rn<|ci hm (fun hm=>?_) (fun hm=>?_)
  ·refine sq<|rg<|rr 1 ?_;refine rn<|rt ?_;cases hm;exact⟨_,.cons (.tmp rfl) .nil,rfl,hS⟩
  ·refine sp<|sq<|sq<|rg<|rr 1 ?_;refine rn<|bk<|sq<|sq<|rg<|rr 2 ?_;refine rn<|ct (fun(k0:Bool) F w9=>z2D fuel x0 k0=some r∧Ext w w9∧St w w9 []∧F=[(13,.int .i64 x0),(14,.bool k0)]) ?_ ?_
   ·rintro k0 F t0 ⟨hm,u0,d,rfl⟩;unfold z2D at hm;refine ci hm (fun hm=>?_) (fun hm=>?_)
    ·refine sq<|rg<|rr 1 ?_;refine rn<|rt ?_;cases hm;exact⟨_,.cons (.tmp rfl) .nil,rfl,d⟩
    ·refine sq<|sq<|rg<|rr 2 ?_;refine rn<|ct (fun(o0:Bool) F w9=>z2C fuel x0 o0=some r∧Ext t0 w9∧St w w9 []∧F=[(13,.int .i64 x0),(19,.bool o0)]) ?_ ?_
     ·rintro o0 F q0 ⟨hm,v0,b,rfl⟩;unfold z2C at hm;refine ci hm (fun hm=>?_) (fun hm=>?_)
      ·refine sq<|rg<|rr 1 ?_;refine rn<|rt ?_;cases hm;exact⟨_,.cons (.tmp rfl) .nil,rfl,b⟩
      ·refine sq<|sq<|rg<|rr 2 ?_;refine rn<|ct (fun(p0:Bool) F w9=>z2B fuel p0=some r∧Ext q0 w9∧St w w9 []∧F=[(23,.bool p0)]) ?_ ?_
       ·rintro p0 F D0 ⟨hm,y0,k,rfl⟩;unfold z2B at hm;refine ci hm (fun hm=>?_) (fun hm=>?_)
        ·refine sq<|rg<|rr 1 ?_;refine rn<|rt ?_;cases hm;exact⟨_,.cons (.tmp rfl) .nil,rfl,k⟩
        ·refine sp<|sq<|rg<|rr 1 ?_;refine rn<|rt ?_;cases hm;exact⟨_,.cons (.tmp rfl) .nil,rfl,k⟩
       ·refine ci hm (fun hm=>?_) (fun hm=>?_)
        ·refine sp ?_;exact⟨(x0 == 2),_,⟨hm,(Ext.refl _),b,rfl⟩,rfl⟩
        ·refine sq<|rg<|rr 2 ?_;refine rn<|ct (fun(o:Bool) F w9=>z2A fuel o=some r∧Ext q0 w9∧St w w9 []∧F=[(23,.bool o)]) ?_ ?_
         ·rintro o F E0 ⟨hm,Y,e0,rfl⟩;unfold z2A at hm;exact⟨o,_,⟨hm,Y,e0,rfl⟩,rfl⟩
         ·refine ci hm (fun hm=>?_) (fun hm=>?_)
          ·refine sp ?_;exact⟨(x0 == 3),_,⟨hm,(Ext.refl _),b,rfl⟩,rfl⟩
          ·refine sq<|rg<|rr 2 ?_;refine rn<|ct (fun(y:Bool) F w9=>z2z fuel y=some r∧Ext q0 w9∧St w w9 []∧F=[(23,.bool y)]) ?_ ?_
           ·rintro y F F0 ⟨hm,a0,f0,rfl⟩;unfold z2z at hm;exact⟨y,_,⟨hm,a0,f0,rfl⟩,rfl⟩
           ·refine ci hm (fun hm=>?_) (fun hm=>?_)
            ·refine sp ?_;exact⟨(x0 == 4),_,⟨hm,(Ext.refl _),b,rfl⟩,rfl⟩
            ·refine rg<|rr 2 ?_;refine rn ?_;exact⟨(x0 == 7),_,⟨hm,(Ext.refl _),b,rfl⟩,rfl⟩
     ·refine ci hm (fun hm=>?_) (fun hm=>?_)
      ·refine sp ?_;exact⟨(x0 == 8),_,⟨hm,(Ext.refl _),d,rfl⟩,rfl⟩
      ·refine sq<|rg<|rr 2 ?_;refine rn<|ct (fun(G:Bool) F w9=>z2y fuel x0 G=some r∧Ext t0 w9∧St w w9 []∧F=[(13,.int .i64 x0),(19,.bool G)]) ?_ ?_
       ·rintro G F G0 ⟨hm,b0,g0,rfl⟩;unfold z2y at hm;exact⟨G,_,⟨hm,b0,g0,rfl⟩,rfl⟩
       ·refine ci hm (fun hm=>?_) (fun hm=>?_)
        ·refine sp ?_;exact⟨(x0 == 10),_,⟨hm,(Ext.refl _),d,rfl⟩,rfl⟩
        ·refine rg<|rr 2 ?_;refine rn ?_;exact⟨(x0 == 11),_,⟨hm,(Ext.refl _),d,rfl⟩,rfl⟩
   ·refine ci hm (fun hm=>?_) (fun hm=>?_)
    ·refine sp ?_;exact⟨(x0 == 1),_,⟨hm,(Ext.refl _),hS,rfl⟩,rfl⟩
    ·refine sq<|rg<|rr 2 ?_;refine rn<|ct (fun(H:Bool) F w9=>z2x fuel x0 H=some r∧Ext w w9∧St w w9 []∧F=[(13,.int .i64 x0),(14,.bool H)]) ?_ ?_
     ·rintro H F H0 ⟨hm,c0,i0,rfl⟩;unfold z2x at hm;exact⟨H,_,⟨hm,c0,i0,rfl⟩,rfl⟩
     ·refine ci hm (fun hm=>?_) (fun hm=>?_)
      ·refine sp ?_;exact⟨(x0 == 5),_,⟨hm,(Ext.refl _),hS,rfl⟩,rfl⟩
      ·refine sq<|rg<|rr 2 ?_;refine rn<|ct (fun(O:Bool) F w9=>z2w fuel x0 O=some r∧Ext w w9∧St w w9 []∧F=[(13,.int .i64 x0),(14,.bool O)]) ?_ ?_
       ·rintro O F J0 ⟨hm,d0,j0,rfl⟩;unfold z2w at hm;exact⟨O,_,⟨hm,d0,j0,rfl⟩,rfl⟩
       ·refine ci hm (fun hm=>?_) (fun hm=>?_)
        ·refine sp ?_;exact⟨(x0 == 6),_,⟨hm,(Ext.refl _),hS,rfl⟩,rfl⟩
        ·refine rg<|rr 2 ?_;refine rn ?_;exact⟨(x0 == 12),_,⟨hm,(Ext.refl _),hS,rfl⟩,rfl⟩

theorem zai:Enters Tryd.prog 68:=⟨_,_,Tryd.func68,rfl,by kernel_rfl⟩
def z2d (fuel:Nat) (t1:Bool):Option Bool:=(if t1=true then some true else some false)
def z2c (fuel:Nat) (t6:Bool):Option Bool:=z2d fuel t6
def z2b (fuel:Nat) (b:Bool):Option Bool:=z2c fuel b
def z2a (fuel:Nat) (b:Bool):Option Bool:=z2b fuel b
def z29 (fuel:Nat) (b:Bool):Option Bool:=z2a fuel b
def z28 (fuel:Nat) (b:Bool):Option Bool:=z29 fuel b
def z27 (fuel:Nat) (b:Bool):Option Bool:=z28 fuel b
def z26 (fuel:Nat) (b:Bool):Option Bool:=z27 fuel b
def z39 (fuel:Nat) (x0:Int):Option (Bool):=(if(x0 == 2)=true then z2d fuel (x0 == 2) else(if(x0 == 3)=true then z2c fuel (x0 == 3) else(if(x0 == 4)=true then z2b fuel (x0 == 4) else(if(x0 == 7)=true then z2a fuel (x0 == 7) else(if(x0 == 8)=true then z29 fuel (x0 == 8) else(if(x0 == 9)=true then z28 fuel (x0 == 9) else(if(x0 == 10)=true then z27 fuel (x0 == 10) else(if(x0 == 11)=true then z26 fuel (x0 == 11) else z26 fuel (x0 == 12)))))))))

theorem z61 {W:Base}{w:World}(hE:Ext W w){x0:Int}  {fuel:Nat}{r:Bool}(hm:z39 fuel x0=some r):
  Calls Tryd.prog 68 ⟨[.int .i64 x0]⟩ w (Ret fun v w8=>v=.bool r∧St w w8 []):=by
 refine into Tryd.func68 14 _ ?_;unfold z39 at hm;have hS:=St.start w;refine sq<|rg<|rr 1 ?_;refine rn<|sq<|sq<|rg<|rr 1 ?_;refine rn<|bk<|sq<|sq<|rg<|rr 2 ?_;refine rn<|ct (fun(t1:Bool) F w9=>z2d fuel t1=some r∧Ext w w9∧St w w9 []∧F=[(4,.bool t1)]) ?_ ?_
 ·rintro t1 F w4 ⟨hm,q0,o0,rfl⟩;unfold z2d at hm;refine ci hm (fun hm=>?_) (fun hm=>?_)
  ·refine sq<|rg<|rr 1 ?_;refine rn<|rt ?_;cases hm;exact⟨_,.cons (.tmp rfl) .nil,rfl,o0⟩
  ·refine sp<|sq<|rg<|rr 1 ?_;refine rn<|rt ?_;cases hm;exact⟨_,.cons (.tmp rfl) .nil,rfl,o0⟩
 ·refine ci hm (fun hm=>?_) (fun hm=>?_)
  ·refine sp ?_;exact⟨(x0 == 2),_,⟨hm,(Ext.refl _),hS,rfl⟩,rfl⟩
  ·refine sq<|rg<|rr 2 ?_;refine rn<|ct (fun(t6:Bool) F w9=>z2c fuel t6=some r∧Ext w w9∧St w w9 []∧F=[(4,.bool t6)]) ?_ ?_
   ·rintro t6 F r0 ⟨hm,p0,d0,rfl⟩;unfold z2c at hm;exact⟨t6,_,⟨hm,p0,d0,rfl⟩,rfl⟩
   ·refine ci hm (fun hm=>?_) (fun hm=>?_)
    ·refine sp ?_;exact⟨(x0 == 3),_,⟨hm,(Ext.refl _),hS,rfl⟩,rfl⟩
    ·refine sq<|rg<|rr 2 ?_;refine rn<|ct (fun(b:Bool) F w9=>z2b fuel b=some r∧Ext w w9∧St w w9 []∧F=[(4,.bool b)]) ?_ ?_
     ·rintro b F t0 ⟨hm,H,e0,rfl⟩;unfold z2b at hm;exact⟨b,_,⟨hm,H,e0,rfl⟩,rfl⟩
     ·refine ci hm (fun hm=>?_) (fun hm=>?_)
      ·refine sp ?_;exact⟨(x0 == 4),_,⟨hm,(Ext.refl _),hS,rfl⟩,rfl⟩
      ·refine sq<|rg<|rr 2 ?_;refine rn<|ct (fun(d:Bool) F w9=>z2a fuel d=some r∧Ext w w9∧St w w9 []∧F=[(4,.bool d)]) ?_ ?_
       ·rintro d F u0 ⟨hm,O,f0,rfl⟩;unfold z2a at hm;exact⟨d,_,⟨hm,O,f0,rfl⟩,rfl⟩
       ·refine ci hm (fun hm=>?_) (fun hm=>?_)
        ·refine sp ?_;exact⟨(x0 == 7),_,⟨hm,(Ext.refl _),hS,rfl⟩,rfl⟩
        ·refine sq<|rg<|rr 2 ?_;refine rn<|ct (fun(k:Bool) F w9=>z29 fuel k=some r∧Ext w w9∧St w w9 []∧F=[(4,.bool k)]) ?_ ?_
         ·rintro k F v0 ⟨hm,Y,g0,rfl⟩;unfold z29 at hm;exact⟨k,_,⟨hm,Y,g0,rfl⟩,rfl⟩
         ·refine ci hm (fun hm=>?_) (fun hm=>?_)
          ·refine sp ?_;exact⟨(x0 == 8),_,⟨hm,(Ext.refl _),hS,rfl⟩,rfl⟩
          ·refine sq<|rg<|rr 2 ?_;refine rn<|ct (fun(o:Bool) F w9=>z28 fuel o=some r∧Ext w w9∧St w w9 []∧F=[(4,.bool o)]) ?_ ?_
           ·rintro o F y0 ⟨hm,a0,i0,rfl⟩;unfold z28 at hm;exact⟨o,_,⟨hm,a0,i0,rfl⟩,rfl⟩
           ·refine ci hm (fun hm=>?_) (fun hm=>?_)
            ·refine sp ?_;exact⟨(x0 == 9),_,⟨hm,(Ext.refl _),hS,rfl⟩,rfl⟩
            ·refine sq<|rg<|rr 2 ?_;refine rn<|ct (fun(y:Bool) F w9=>z27 fuel y=some r∧Ext w w9∧St w w9 []∧F=[(4,.bool y)]) ?_ ?_
             ·rintro y F A0 ⟨hm,b0,j0,rfl⟩;unfold z27 at hm;exact⟨y,_,⟨hm,b0,j0,rfl⟩,rfl⟩
             ·refine ci hm (fun hm=>?_) (fun hm=>?_)
              ·refine sp ?_;exact⟨(x0 == 10),_,⟨hm,(Ext.refl _),hS,rfl⟩,rfl⟩
              ·refine sq<|rg<|rr 2 ?_;refine rn<|ct (fun(G:Bool) F w9=>z26 fuel G=some r∧Ext w w9∧St w w9 []∧F=[(4,.bool G)]) ?_ ?_
               ·rintro G F B0 ⟨hm,c0,k0,rfl⟩;unfold z26 at hm;exact⟨G,_,⟨hm,c0,k0,rfl⟩,rfl⟩
               ·refine ci hm (fun hm=>?_) (fun hm=>?_)
                ·refine sp ?_;exact⟨(x0 == 11),_,⟨hm,(Ext.refl _),hS,rfl⟩,rfl⟩
                ·refine rg<|rr 2 ?_;refine rn ?_;exact⟨(x0 == 12),_,⟨hm,(Ext.refl _),hS,rfl⟩,rfl⟩

theorem zah:Enters Tryd.prog 69:=⟨_,_,Tryd.func69,rfl,by kernel_rfl⟩
def z48 (fuel:Nat) (x0:Int):Option (Bool):=((zD fuel x0 1 12).bind fun r1=>some r1)

theorem z6n {W:Base}{w:World}(hE:Ext W w){x0:Int}  {fuel:Nat}{r:Bool}(hm:z48 fuel x0=some r):
  Calls Tryd.prog 69 ⟨[.int .i64 x0]⟩ w (Ret fun v w8=>v=.bool r∧St w w8 []):=by
 refine into Tryd.func69 5 _ ?_;unfold z48 at hm;have hS:=St.start w;refine sq<|rg<|rr 1 ?_;refine rn<|sq<|rg<|rr 1 ?_;obtain⟨r1,o,hm⟩:=bS hm;refine ca z32 (zS (hE.trans hS.ext)  o) (fun v3 w4 b=>?_);obtain⟨rfl,d⟩:=b;have k:=hS.join d;refine rr 1 ?_;refine rn<|rt ?_;cases hm;exact⟨_,.cons (.tmp rfl) .nil,rfl,k⟩

theorem zau:Enters Tryd.prog 56:=⟨_,_,Tryd.func56,rfl,by kernel_rfl⟩
def z36 (fuel:Nat) (x0:Int) (x1:Int):Option (Bool):=((z39 fuel x0).bind fun r1=>(if r1=true then((zD fuel x1 0 8).bind fun b=>some b) else((z48 fuel x0).bind fun d=>(if d=true then some (x1 == 0) else some false))))

theorem z5Z {W:Base}{w:World}(hE:Ext W w){x0:Int}{x1:Int}  {fuel:Nat}{r:Bool}(hm:z36 fuel x0 x1=some r):
  Calls Tryd.prog 56 ⟨[.int .i64 x0,.int .i64 x1]⟩ w (Ret fun v w8=>v=.bool r∧St w w8 []):=by
 refine into Tryd.func56 15 _ ?_;unfold z36 at hm;have hS:=St.start w;refine sq<|rg<|rr 1 ?_;refine rn<|sq<|sq<|rg<|rr 1 ?_;obtain⟨r1,c0,hm⟩:=bS hm;refine ca zai (z61 (hE.trans hS.ext)  c0) (fun v3 w4 a0=>?_);obtain⟨rfl,b0⟩:=a0;have d:=hS.join b0;refine rn<|ci hm (fun hm=>?_) (fun hm=>?_)
 ·refine sq<|rg<|rr 1 ?_;obtain⟨d0,O,hm⟩:=bS hm;refine ca z32 (zS (hE.trans d.ext)  O) (fun f0 i0 k=>?_);obtain⟨rfl,o⟩:=k;have H:=d.join o;refine rr 1 ?_;refine rn<|rt ?_;cases hm;exact⟨_,.cons (.tmp rfl) .nil,rfl,H⟩
 ·refine sp<|sq<|rg<|rr 1 ?_;obtain⟨e0,Y,hm⟩:=bS hm;refine ca zah (z6n (hE.trans d.ext)  Y) (fun g0 j0 y=>?_);obtain⟨rfl,G⟩:=y;have b:=d.join G;refine rr 1 ?_;refine rb 11 hm (fun hm=>?_) (fun hm=>?_)
  ·refine rr 4 ?_;refine rn<|rt ?_;cases hm;exact⟨_,.cons (.tmp rfl) .nil,rfl,b⟩
  ·refine rr 4 ?_;refine rn<|rt ?_;cases hm;exact⟨_,.cons (.tmp rfl) .nil,rfl,b⟩

theorem z8v:Enters Tryd.prog 70:=⟨_,_,Tryd.func70,rfl,by kernel_rfl⟩
def z3o (fuel:Nat) (x0:Int):Option (Bool):=((zD fuel x0 0 23).bind fun r1=>some r1)

theorem z5h {W:Base}{w:World}(hE:Ext W w){x0:Int}  {fuel:Nat}{r:Bool}(hm:z3o fuel x0=some r):
  Calls Tryd.prog 70 ⟨[.int .i64 x0]⟩ w (Ret fun v w8=>v=.bool r∧St w w8 []):=by
 refine into Tryd.func70 5 _ ?_;unfold z3o at hm;have hS:=St.start w;refine sq<|rg<|rr 1 ?_;refine rn<|sq<|rg<|rr 1 ?_;obtain⟨r1,o,hm⟩:=bS hm;refine ca z32 (zS (hE.trans hS.ext)  o) (fun v3 w4 b=>?_);obtain⟨rfl,d⟩:=b;have k:=hS.join d;refine rr 1 ?_;refine rn<|rt ?_;cases hm;exact⟨_,.cons (.tmp rfl) .nil,rfl,k⟩

theorem zat:Enters Tryd.prog 57:=⟨_,_,Tryd.func57,rfl,by kernel_rfl⟩
def z3u (fuel:Nat) (b:Unit):Option Bool:=some true
def z1z (fuel:Nat) (x0:D.Agent) (b:Int):Option (Rd (Int) (Unit) (Bool)):=(if(decide (b<(x0.Data.length:Int)))=true then((idx x0.Data b).bind fun k=>((z3o fuel k).bind fun d=>(if(!d)=true then some (.ret false) else some (.next (w64 (b+1)))))) else some (.brk ()))
def zo (fuel:Nat) (x0:D.Agent) (b:Bool):Option Bool:=(if b=true then some false else((iter (z1z fuel x0) fuel 0).bind fun o=>aft o (z3u fuel)))
def z13 (fuel:Nat) (x0:D.Agent) (k:Bool):Option Bool:=(if k=true then(if(x0.Value != 0)=true then zo fuel x0 true else(if(x0.Kind == 11)=true then(if((x0.Data.length:Int) != 2)=true then zo fuel x0 true else(if(x0.Kind == 10)=true then((zD fuel (x0.Data.length:Int) 1 4).bind fun b=>zo fuel x0 (!b)) else zo fuel x0 false)) else(if(x0.Kind == 10)=true then((zD fuel (x0.Data.length:Int) 1 4).bind fun d=>zo fuel x0 (!d)) else zo fuel x0 false))) else(if(x0.Value == 0)=true then some ((x0.Data.length:Int) == 0) else some false))
def zr (fuel:Nat) (x0:D.Agent):Option (Bool):=(if(x0.Kind == 6)=true then(if((x0.Data.length:Int) == 0)=true then((zD fuel x0.Value (-2147483648) 2147483647).bind fun b=>some b) else some false) else(if(x0.Kind == 7)=true then(if((x0.Data.length:Int) == 0)=true then((zD fuel x0.Value 1 6).bind fun d=>some d) else some false) else(if(x0.Kind == 8)=true then(if((x0.Data.length:Int) == 1)=true then((zD fuel x0.Value 1 6).bind fun k=>(if k=true then((idx x0.Data 0).bind fun H=>((zD fuel H (-2147483648) 2147483647).bind fun o=>some o)) else some false)) else some false) else(if(x0.Kind == 9)=true then(if((x0.Data.length:Int) == 0)=true then((zD fuel x0.Value 0 3).bind fun y=>some y) else some false) else(if(x0.Kind == 12)=true then(if((x0.Data.length:Int) == 0)=true then((z3o fuel x0.Value).bind fun G=>some G) else some false) else(if(x0.Kind == 10)=true then z13 fuel x0 (x0.Kind == 10) else z13 fuel x0 (x0.Kind == 11)))))))

theorem z5p {W:Base}{w:World}(hE:Ext W w){o0:Addr}{j1:List Value}{x0:D.Agent}(u1:ty62.ro W j1 x0) (k:At W o0 j1){fuel:Nat}{r:Bool}(hm:zr fuel x0=some r):
  Calls Tryd.prog 57 ⟨[.pointer (some o0)]⟩ w (Ret fun v w8=>v=.bool r∧St w w8 []):=by
 obtain⟨A1,k2,A4,k5,e7,h3,h6⟩:=zy u1;subst e7;refine into Tryd.func57 162 _ ?_;unfold zr at hm;have hS:=St.start w;refine sq<|rg<|rr 1 ?_;refine rn<|sq<|sq<|rg<|rr 3 ?_;refine l1 (At.ext (hE.trans hS.ext) k) 0 ?_;refine rn<|bk<|sq<|rg<|rr 2 ?_;refine rn<|ci hm (fun hm=>?_) (fun hm=>?_)
 ·refine sq<|rg<|rr 3 ?_;refine l1 (At.ext (hE.trans hS.ext) k) 3 ?_;refine rr 3 ?_;refine rb 16 hm (fun hm=>?_) (fun hm=>?_)
  ·refine rr 3 ?_;refine l1 (At.ext (hE.trans hS.ext) k) 2 ?_;obtain⟨N1,T0,hm⟩:=bS hm;refine ca z32 (zS (hE.trans hS.ext)  T0) (fun U1 c2 p0=>?_);obtain⟨rfl,q0⟩:=p0;have F0:=hS.join q0;refine rr 2 ?_;refine rn<|rt ?_;cases hm;exact⟨_,.cons (.tmp rfl) .nil,rfl,F0⟩
  ·refine rr 7 ?_;refine rn<|rt ?_;cases hm;exact⟨_,.cons (.tmp rfl) .nil,rfl,hS⟩
 ·refine sq<|rg<|rr 2 ?_;refine rn<|ci hm (fun hm=>?_) (fun hm=>?_)
  ·refine sq<|rg<|rr 3 ?_;refine l1 (At.ext (hE.trans hS.ext) k) 3 ?_;refine rr 3 ?_;refine rb 31 hm (fun hm=>?_) (fun hm=>?_)
   ·refine rr 3 ?_;refine l1 (At.ext (hE.trans hS.ext) k) 2 ?_;obtain⟨O1,U0,hm⟩:=bS hm;refine ca z32 (zS (hE.trans hS.ext)  U0) (fun V1 d2 r0=>?_);obtain⟨rfl,t0⟩:=r0;have G0:=hS.join t0;refine rr 2 ?_;refine rn<|rt ?_;cases hm;exact⟨_,.cons (.tmp rfl) .nil,rfl,G0⟩
   ·refine rr 7 ?_;refine rn<|rt ?_;cases hm;exact⟨_,.cons (.tmp rfl) .nil,rfl,hS⟩
  ·refine sq<|rg<|rr 2 ?_;refine rn<|ci hm (fun hm=>?_) (fun hm=>?_)
   ·refine sq<|rg<|rr 3 ?_;refine l1 (At.ext (hE.trans hS.ext) k) 3 ?_;refine rr 3 ?_;refine rb 46 hm (fun hm=>?_) (fun hm=>?_)
    ·refine rr 3 ?_;refine l1 (At.ext (hE.trans hS.ext) k) 2 ?_;obtain⟨P1,V0,hm⟩:=bS hm;refine ca z32 (zS (hE.trans hS.ext)  V0) (fun W1 e2 u0=>?_);obtain⟨rfl,v0⟩:=u0;have y:=hS.join v0;refine rr 2 ?_;refine rb 53 hm (fun hm=>?_) (fun hm=>?_)
     ·refine rr 3 ?_;refine l1 (At.ext (hE.trans y.ext) k) 3 ?_;obtain⟨n2,X0,hm⟩:=bS hm;refine ix (hE.trans y.ext) h3 X0 (fun L1 p1 N0 R0=>?_);cases R0;refine l1 (At.ext (hE.trans y.ext) N0) 0 ?_;obtain⟨Q1,Y0,hm⟩:=bS hm;refine ca z32 (zS (hE.trans y.ext)  Y0) (fun X1 f2 y0=>?_);obtain⟨rfl,A0⟩:=y0;have H0:=y.join A0;refine rr 2 ?_;refine rn<|rt ?_;cases hm;exact⟨_,.cons (.tmp rfl) .nil,rfl,H0⟩
     ·refine rr 9 ?_;refine rn<|rt ?_;cases hm;exact⟨_,.cons (.tmp rfl) .nil,rfl,y⟩
    ·refine rr 16 ?_;refine rn<|rt ?_;cases hm;exact⟨_,.cons (.tmp rfl) .nil,rfl,hS⟩
   ·refine sq<|rg<|rr 2 ?_;refine rn<|ci hm (fun hm=>?_) (fun hm=>?_)
    ·refine sq<|rg<|rr 3 ?_;refine l1 (At.ext (hE.trans hS.ext) k) 3 ?_;refine rr 3 ?_;refine rb 70 hm (fun hm=>?_) (fun hm=>?_)
     ·refine rr 3 ?_;refine l1 (At.ext (hE.trans hS.ext) k) 2 ?_;obtain⟨R1,a1,hm⟩:=bS hm;refine ca z32 (zS (hE.trans hS.ext)  a1) (fun Y1 g2 B0=>?_);obtain⟨rfl,C0⟩:=B0;have J0:=hS.join C0;refine rr 2 ?_;refine rn<|rt ?_;cases hm;exact⟨_,.cons (.tmp rfl) .nil,rfl,J0⟩
     ·refine rr 7 ?_;refine rn<|rt ?_;cases hm;exact⟨_,.cons (.tmp rfl) .nil,rfl,hS⟩
    ·refine sq<|rg<|rr 2 ?_;refine rn<|ci hm (fun hm=>?_) (fun hm=>?_)
     ·refine sq<|rg<|rr 3 ?_;refine l1 (At.ext (hE.trans hS.ext) k) 3 ?_;refine rr 3 ?_;refine rb 85 hm (fun hm=>?_) (fun hm=>?_)
      ·refine rr 3 ?_;refine l1 (At.ext (hE.trans hS.ext) k) 2 ?_;obtain⟨S1,b1,hm⟩:=bS hm;refine ca z8v (z5h (hE.trans hS.ext)  b1) (fun a2 i2 D0=>?_);obtain⟨rfl,E0⟩:=D0;have K0:=hS.join E0;refine rr 2 ?_;refine rn<|rt ?_;cases hm;exact⟨_,.cons (.tmp rfl) .nil,rfl,K0⟩
      ·refine rr 7 ?_;refine rn<|rt ?_;cases hm;exact⟨_,.cons (.tmp rfl) .nil,rfl,hS⟩
     ·refine sq<|sq<|rg<|rr 2 ?_;refine rn<|ct (fun(g1:Bool) F w9=>z13 fuel x0 g1=some r∧Ext w w9∧St w w9 []∧F=[(0,.pointer (some o0)),(92,.bool g1)]) ?_ ?_
      ·rintro g1 F J1 ⟨hm,v1,b,rfl⟩;unfold z13 at hm;refine ci hm (fun hm=>?_) (fun hm=>?_)
       ·refine sq<|sq<|ct (fun(i1:Bool) F w9=>zo fuel x0 i1=some r∧Ext J1 w9∧St w w9 []∧F=[(0,.pointer (some o0)),(130,.bool i1)]) ?_ ?_
        ·rintro i1 F n1 ⟨hm,y1,g0,rfl⟩;unfold zo at hm;refine ci hm (fun hm=>?_) (fun hm=>?_)
         ·refine sq<|rg<|rr 1 ?_;refine rn<|rt ?_;cases hm;exact⟨_,.cons (.tmp rfl) .nil,rfl,g0⟩
         ·refine sp<|sq<|sq<|rg<|rr 1 ?_;refine rn ?_;obtain⟨C1,P0,hm⟩:=bS hm;refine ct (fun(m1:Unit) F w9=>C1=.inl m1∧Ext n1 w9∧St w w9 []∧F=[]) ?_ ?_
          ·rintro m1 F j2 ⟨Q0,B1,M0,rfl⟩;subst Q0;rw [zR] at hm;unfold z3u at hm;refine sq<|rg<|rr 1 ?_;refine rn<|rt ?_;cases hm;exact⟨_,.cons (.tmp rfl) .nil,rfl,M0⟩
          ·refine bk<|wk [0,3] ?_;refine it (fun(k1:Int) F w9=>Ext n1 w9∧St w w9 []∧F=[(0,.pointer (some o0)),(3,.int .i64 k1)]) P0 ⟨(Ext.refl _),g0,rfl⟩ ?_;rintro k1 F m2 _ K1 ⟨a0,o,rfl⟩ d i0;unfold z1z at d;refine sq<|sq<|rg<|rr 4 ?_;refine l1 (At.ext (hE.trans o.ext) k) 3 ?_;refine rr 2 ?_;refine rn<|ci d (fun d=>?_) (fun d=>?_)
           ·refine sp<|sq<|bk<|sq<|rg<|rr 3 ?_;refine l1 (At.ext (hE.trans o.ext) k) 3 ?_;refine rr 1 ?_;obtain⟨o2,c1,d⟩:=bS d;refine ix (hE.trans o.ext) h3 c1 (fun M1 t1 O0 S0=>?_);cases S0;refine l1 (At.ext (hE.trans o.ext) O0) 0 ?_;obtain⟨T1,d1,d⟩:=bS d;refine ca z8v (z5h (hE.trans o.ext)  d1) (fun b2 F1 b0=>?_);obtain⟨rfl,G⟩:=b0;have Y:=o.join G;refine rr 1 ?_;refine rn<|ci d (fun d=>?_) (fun d=>?_)
            ·refine sq<|rg<|rr 1 ?_;refine rn<|rt ?_;cases d;cases i0;have hm:some _=some _:=hm;cases hm;exact⟨_,.cons (.tmp rfl) .nil,rfl,Y⟩
            ·refine sp<|rg<|rr 3 ?_;refine rn ?_;cases d;exact⟨_,_,rfl,⟨(a0.trans G.ext),Y,rfl⟩,rfl⟩
           ·refine xt ?_;cases d;exact⟨_,_,⟨i0,a0,o,rfl⟩,rfl⟩
        ·refine rg<|rr 3 ?_;refine l1 (At.ext (hE.trans b.ext) k) 2 ?_;refine rr 2 ?_;refine rb 100 hm (fun hm=>?_) (fun hm=>?_)
         ·refine rr 30 ?_;refine rn ?_;exact⟨true,_,⟨hm,(Ext.refl _),b,rfl⟩,rfl⟩
         ·refine rr 3 ?_;refine l1 (At.ext (hE.trans b.ext) k) 0 ?_;refine rr 2 ?_;refine rb 106 hm (fun hm=>?_) (fun hm=>?_)
          ·refine rr 3 ?_;refine l1 (At.ext (hE.trans b.ext) k) 3 ?_;refine rr 5 ?_;refine rb 115 hm (fun hm=>?_) (fun hm=>?_)
           ·refine rr 15 ?_;refine rn ?_;exact⟨true,_,⟨hm,(Ext.refl _),b,rfl⟩,rfl⟩
           ·refine rr 3 ?_;refine l1 (At.ext (hE.trans b.ext) k) 0 ?_;refine rr 2 ?_;refine rb 121 hm (fun hm=>?_) (fun hm=>?_)
            ·refine rr 3 ?_;refine l1 (At.ext (hE.trans b.ext) k) 3 ?_;refine rr 1 ?_;obtain⟨e1,j0,hm⟩:=bS hm;refine ca z32 (zS (hE.trans b.ext)  j0) (fun D1 G1 c0=>?_);obtain⟨rfl,H⟩:=c0;have e0:=b.join H;refine rr 3 ?_;refine rn ?_;exact⟨!e1,_,⟨hm,H.ext,e0,rfl⟩,rfl⟩
            ·refine rr 9 ?_;refine rn ?_;exact⟨false,_,⟨hm,(Ext.refl _),b,rfl⟩,rfl⟩
          ·refine rr 12 ?_;refine l1 (At.ext (hE.trans b.ext) k) 0 ?_;refine rr 2 ?_;refine rb 121 hm (fun hm=>?_) (fun hm=>?_)
           ·refine rr 3 ?_;refine l1 (At.ext (hE.trans b.ext) k) 3 ?_;refine rr 1 ?_;obtain⟨f1,k0,hm⟩:=bS hm;refine ca z32 (zS (hE.trans b.ext)  k0) (fun E1 H1 d0=>?_);obtain⟨rfl,O⟩:=d0;have f0:=b.join O;refine rr 3 ?_;refine rn ?_;exact⟨!f1,_,⟨hm,O.ext,f0,rfl⟩,rfl⟩
           ·refine rr 9 ?_;refine rn ?_;exact⟨false,_,⟨hm,(Ext.refl _),b,rfl⟩,rfl⟩
       ·refine sp<|sq<|rg<|rr 3 ?_;refine l1 (At.ext (hE.trans b.ext) k) 2 ?_;refine rr 2 ?_;refine rb 154 hm (fun hm=>?_) (fun hm=>?_)
        ·refine rr 3 ?_;refine l1 (At.ext (hE.trans b.ext) k) 3 ?_;refine rr 4 ?_;refine rn<|rt ?_;cases hm;exact⟨_,.cons (.tmp rfl) .nil,rfl,b⟩
        ·refine rr 8 ?_;refine rn<|rt ?_;cases hm;exact⟨_,.cons (.tmp rfl) .nil,rfl,b⟩
      ·refine ci hm (fun hm=>?_) (fun hm=>?_)
       ·refine sp ?_;exact⟨(x0.Kind == 10),_,⟨hm,(Ext.refl _),hS,rfl⟩,rfl⟩
       ·refine rg<|rr 2 ?_;refine rn ?_;exact⟨(x0.Kind == 11),_,⟨hm,(Ext.refl _),hS,rfl⟩,rfl⟩

theorem zaP:Enters Tryd.prog 27:=⟨_,_,Tryd.func27,rfl,by kernel_rfl⟩
def z1V (fuel:Nat) (x0:D.Agent):Option (Bool):=((z1w fuel x0).bind fun d=>((z2f fuel x0.Kind d).bind fun b=>(if(decide (b>0))=true then(if((x0.Ports.length:Int) == b)=true then((z36 fuel x0.Kind x0.Level).bind fun k=>(if k=true then((zr fuel x0).bind fun o=>some o) else some false)) else some false) else some false)))

theorem z5Y {W:Base}{w:World}(hE:Ext W w){t0:Addr}{r0:List Value}{x0:D.Agent}(d0:ty62.ro W r0 x0) (G:At W t0 r0){fuel:Nat}{r:Bool}(hm:z1V fuel x0=some r):
  Calls Tryd.prog 27 ⟨[.pointer (some t0)]⟩ w (Ret fun v w8=>v=.bool r∧St w w8 []):=by
 obtain⟨A1,k2,A4,k5,e7,h3,h6⟩:=zy d0;subst e7;refine into Tryd.func27 37 _ ?_;unfold z1V at hm;have hS:=St.start w;refine sq<|rg<|rr 1 ?_;refine rn<|sq<|dn 0 mixed 8 [([],255),([0],254),([1],253),([2],251),([],255),([4],239),([3,5,5],215),([6,6,0,1,2,3,4,5,6],191)] hS.ext (fun d=>?_);have b0:=hS.step (Ext.draw _);refine dr 4 d [0,1,2,4] ?_;refine dl d 3 (At.ext (hE.trans hS.ext) G) 0 ?_;obtain⟨u0,k0,hm⟩:=bS hm;refine o1 d 5 (mc d zav (z5D (hE.trans b0.ext) d0 G k0) (fun B0 F0 e0=>?_));obtain⟨rfl,H⟩:=e0;refine⟨H.ext,?_⟩;have c0:=b0.join H;obtain⟨v0,o0,hm⟩:=bS hm;refine o1 d 6 (mc d zaw (z6p (hE.trans c0.ext)  o0) (fun C0 G0 f0=>?_));obtain⟨rfl,O⟩:=f0;refine⟨O.ext,?_⟩;have k:=c0.join O;refine dr 0 d [7] ?_;refine dw [0,3] ?_;refine dd d ?_;refine sq<|dn 0 mixed 27 [([],134217727),([0],134217726),([1],134217725),([2],134217723),([3,2],134217715),([4,2],134217707),([5,2],134217691),([6,2],134217659),([2],134217723),([7,8,2],134217339),([2,9],134217211),([10,2],134216703),([11],134215679),([12,11],134211583),([13,11],134207487),([14,11],134199295),([11],134215679),([16,11],134150143),([17,11],134084607),([18,11],133953535),([15,19,11,11],133658623),([11,20],133167103),([21,20],132120575),([22],130023423),([23,22,22],121634815),([22,24],113246207),([25,24,0,1,2,3,4,5,6,7,8,9,10,11,12,13,14,15,16,17,18,19,20,21,22,23,24,25],100663295)] k.ext (fun b=>?_);have o:=k.step (Ext.draw _);refine dr 24 b [0,1,2] ?_;refine db 13 hm (fun hm=>?_) (fun hm=>?_)
 ·refine dr 20 b [3,4,5,8] ?_;refine dl b 6 (At.ext (hE.trans k.ext) G) 4 ?_;refine dr 15 b [7,9,10,11] ?_;refine dw [0,22] ?_;refine db 22 hm (fun hm=>?_) (fun hm=>?_)
  ·refine dr 9 b [12,13,14,16,17,18] ?_;refine dl b 15 (At.ext (hE.trans k.ext) G) 0 ?_;refine dl b 19 (At.ext (hE.trans k.ext) G) 1 ?_;obtain⟨y0,p0,hm⟩:=bS hm;refine o1 b 20 (mc b zau (z5Z (hE.trans o.ext)  p0) (fun D0 H0 g0=>?_));obtain⟨rfl,Y⟩:=g0;refine⟨Y.ext,?_⟩;have y:=o.join Y;refine dr 4 b [21,22] ?_;refine dw [0,33] ?_;refine db 33 hm (fun hm=>?_) (fun hm=>?_)
   ·refine dr 3 b [23] ?_;obtain⟨A0,q0,hm⟩:=bS hm;refine o1 b 24 (mc b zat (z5p (hE.trans y.ext) d0 G q0) (fun E0 J0 i0=>?_));obtain⟨rfl,a0⟩:=i0;refine⟨a0.ext,?_⟩;have j0:=y.join a0;refine dr 0 b [25,26] ?_;refine dd b ?_;refine rt ?_;cases hm;exact⟨_,.cons (.tmp rfl) .nil,rfl,j0⟩
   ·refine dr 0 b [23,24,25,26] ?_;refine dd b ?_;refine rt ?_;cases hm;exact⟨_,.cons (.tmp rfl) .nil,rfl,y⟩
  ·refine dr 0 b [12,13,14,15,16,17,18,19,20,21,22,23,24,25,26] ?_;refine dw [2] ?_;refine dd b ?_;refine rt ?_;cases hm;exact⟨_,.cons (.tmp rfl) .nil,rfl,o⟩
 ·refine dr 0 b [3,4,5,6,7,8,9,10,11,12,13,14,15,16,17,18,19,20,21,22,23,24,25,26] ?_;refine dw [2] ?_;refine dd b ?_;refine rt ?_;cases hm;exact⟨_,.cons (.tmp rfl) .nil,rfl,o⟩

theorem zae:Enters Tryd.prog 73:=⟨_,_,Tryd.func73,rfl,by kernel_rfl⟩
def z3h (fuel:Nat) (x0:Int) (x1:Int):Option (Int):=(if(x0 == 9)=true then some (w64 (x1 - 1)) else some 0)

theorem z62 {W:Base}{w:World}(hE:Ext W w){x0:Int}{x1:Int}  {fuel:Nat}{r:Int}(hm:z3h fuel x0 x1=some r):
  Calls Tryd.prog 73 ⟨[.int .i64 x0,.int .i64 x1]⟩ w (Ret fun v w8=>v=.int .i64 r∧St w w8 []):=by
 refine into Tryd.func73 9 _ ?_;unfold z3h at hm;have hS:=St.start w;refine sq<|rg<|rr 1 ?_;refine rn<|sq<|sq<|rg<|rr 2 ?_;refine rn<|ci hm (fun hm=>?_) (fun hm=>?_)
 ·refine sq<|rg<|rr 3 ?_;refine rn<|rt ?_;cases hm;exact⟨_,.cons (.tmp rfl) .nil,rfl,hS⟩
 ·refine sp<|sq<|rg<|rr 1 ?_;refine rn<|rt ?_;cases hm;exact⟨_,.cons (.tmp rfl) .nil,rfl,hS⟩

theorem z7i:Enters Tryd.prog 82:=⟨_,_,Tryd.func82,rfl,by kernel_rfl⟩
def z2L (fuel:Nat) (x0:Int):Option (Bool):=(if(decide (x0≥1))=true then some (decide (x0≤12)) else some false)

theorem z4G {W:Base}{w:World}(hE:Ext W w){x0:Int}  {fuel:Nat}{r:Bool}(hm:z2L fuel x0=some r):
  Calls Tryd.prog 82 ⟨[.int .i64 x0]⟩ w (Ret fun v w8=>v=.bool r∧St w w8 []):=by
 refine into Tryd.func82 9 _ ?_;unfold z2L at hm;have hS:=St.start w;refine sq<|rg<|rr 1 ?_;refine rn<|sq<|rg<|rr 3 ?_;refine rb 5 hm (fun hm=>?_) (fun hm=>?_)
 ·refine rr 4 ?_;refine rn<|rt ?_;cases hm;exact⟨_,.cons (.tmp rfl) .nil,rfl,hS⟩
 ·refine rr 4 ?_;refine rn<|rt ?_;cases hm;exact⟨_,.cons (.tmp rfl) .nil,rfl,hS⟩

theorem zaf:Enters Tryd.prog 72:=⟨_,_,Tryd.func72,rfl,by kernel_rfl⟩
def z12 (fuel:Nat) (x0:Int) (t6:Bool):Option Int:=(if t6=true then some 0 else((idx ([0,1,3,3,3,1,1,3,2,0,2,2,1]:List Int) x0).bind fun b=>some b))
def z1q (fuel:Nat) (x0:Int) (x1:Int) (t1:Bool):Option Int:=(if t1=true then some (w64 (x1+1)) else((z2L fuel x0).bind fun b=>(if(!b)=true then z12 fuel x0 true else(if(x0 == 9)=true then z12 fuel x0 true else z12 fuel x0 (x1 != 0)))))
def z2U (fuel:Nat) (x0:Int) (x1:Int):Option (Int):=(if(x0 == 9)=true then(if(decide (x1≥0))=true then z1q fuel x0 x1 (decide (x1≤3)) else z1q fuel x0 x1 false) else z1q fuel x0 x1 false)

theorem z6J {W:Base}{w:World}(hE:Ext W w){x0:Int}{x1:Int}  {fuel:Nat}{r:Int}(hm:z2U fuel x0 x1=some r):
  Calls Tryd.prog 72 ⟨[.int .i64 x0,.int .i64 x1]⟩ w (Ret fun v w8=>v=.int .i64 r∧St w w8 []):=by
 refine into Tryd.func72 33 _ ?_;unfold z2U at hm;have hS:=St.start w;refine sq<|rg<|rr 1 ?_;refine rn<|sq<|bk<|sq<|ct (fun(t1:Bool) F w9=>z1q fuel x0 x1 t1=some r∧Ext w w9∧St w w9 []∧F=[(0,.int .i64 x0),(1,.int .i64 x1),(5,.bool t1)]) ?_ ?_
 ·rintro t1 F w4 ⟨hm,O,G,rfl⟩;unfold z1q at hm;refine ci hm (fun hm=>?_) (fun hm=>?_)
  ·refine sq<|rg<|rr 3 ?_;refine rn<|rt ?_;cases hm;exact⟨_,.cons (.tmp rfl) .nil,rfl,G⟩
  ·refine sq<|ct (fun(t6:Bool) F w9=>z12 fuel x0 t6=some r∧Ext w4 w9∧St w w9 []∧F=[(0,.int .i64 x0),(18,.bool t6)]) ?_ ?_
   ·rintro t6 F c0 ⟨hm,Y,k,rfl⟩;unfold z12 at hm;refine ci hm (fun hm=>?_) (fun hm=>?_)
    ·refine sq<|rg<|rr 1 ?_;refine rn<|rt ?_;cases hm;exact⟨_,.cons (.tmp rfl) .nil,rfl,k⟩
    ·refine sp<|sq<|rg<|qt (qBuildK (cs:=[.int .i64 0,.int .i64 1,.int .i64 3,.int .i64 3,.int .i64 3,.int .i64 1,.int .i64 1,.int .i64 3,.int .i64 2,.int .i64 0,.int .i64 2,.int .i64 2,.int .i64 1])) ?_;refine rr 1 ?_;obtain⟨e0,o,hm⟩:=bS hm;refine qt (Quiet.arrIdx ttok (xs:=([0,1,3,3,3,1,1,3,2,0,2,2,1]:List Int)) (e:=2) rfl (by kernel_rfl) rfl rfl rfl rfl rfl rfl (z1N o).1 (z1N o).2) ?_;refine rr 1 ?_;refine rn<|rt ?_;cases hm;exact⟨_,.cons (.tmp rfl) .nil,rfl,k⟩
   ·refine rg<|rr 1 ?_;obtain⟨a0,H,hm⟩:=bS hm;refine ca z7i (z4G (hE.trans G.ext)  H) (fun b0 d0 y=>?_);obtain⟨rfl,b⟩:=y;have d:=G.join b;refine rr 2 ?_;refine rb 22 hm (fun hm=>?_) (fun hm=>?_)
    ·refine rr 8 ?_;refine rn ?_;exact⟨true,_,⟨hm,b.ext,d,rfl⟩,rfl⟩
    ·refine rr 4 ?_;refine rb 26 hm (fun hm=>?_) (fun hm=>?_)
     ·refine rr 4 ?_;refine rn ?_;exact⟨true,_,⟨hm,b.ext,d,rfl⟩,rfl⟩
     ·refine rr 4 ?_;refine rn ?_;exact⟨(x1 != 0),_,⟨hm,b.ext,d,rfl⟩,rfl⟩
 ·refine rg<|rr 3 ?_;refine rb 8 hm (fun hm=>?_) (fun hm=>?_)
  ·refine rr 4 ?_;refine rb 12 hm (fun hm=>?_) (fun hm=>?_)
   ·refine rr 4 ?_;refine rn ?_;exact⟨decide (x1≤3),_,⟨hm,(Ext.refl _),hS,rfl⟩,rfl⟩
   ·refine rr 4 ?_;refine rn ?_;exact⟨false,_,⟨hm,(Ext.refl _),hS,rfl⟩,rfl⟩
  ·refine rr 8 ?_;refine rn ?_;exact⟨false,_,⟨hm,(Ext.refl _),hS,rfl⟩,rfl⟩

theorem za9:Enters Tryd.prog 83:=⟨_,_,Tryd.func83,rfl,by kernel_rfl⟩
def z3k (fuel:Nat) (x0:Int):Option (Bool):=((z2L fuel x0).bind fun r1=>(if r1=true then(if(x0 != 1)=true then(if(x0 != 5)=true then some (x0 != 6) else some false) else some false) else some false))

theorem z65 {W:Base}{w:World}(hE:Ext W w){x0:Int}  {fuel:Nat}{r:Bool}(hm:z3k fuel x0=some r):
  Calls Tryd.prog 83 ⟨[.int .i64 x0]⟩ w (Ret fun v w8=>v=.bool r∧St w w8 []):=by
 refine into Tryd.func83 17 _ ?_;unfold z3k at hm;have hS:=St.start w;refine sq<|rg<|rr 1 ?_;refine rn<|sq<|rg<|rr 1 ?_;obtain⟨r1,o,hm⟩:=bS hm;refine ca z7i (z4G (hE.trans hS.ext)  o) (fun v3 w4 d=>?_);obtain⟨rfl,k⟩:=d;have b:=hS.join k;refine rr 1 ?_;refine rb 5 hm (fun hm=>?_) (fun hm=>?_)
 ·refine rr 4 ?_;refine rb 9 hm (fun hm=>?_) (fun hm=>?_)
  ·refine rr 4 ?_;refine rb 13 hm (fun hm=>?_) (fun hm=>?_)
   ·refine rr 4 ?_;refine rn<|rt ?_;cases hm;exact⟨_,.cons (.tmp rfl) .nil,rfl,b⟩
   ·refine rr 4 ?_;refine rn<|rt ?_;cases hm;exact⟨_,.cons (.tmp rfl) .nil,rfl,b⟩
  ·refine rr 8 ?_;refine rn<|rt ?_;cases hm;exact⟨_,.cons (.tmp rfl) .nil,rfl,b⟩
 ·refine rr 12 ?_;refine rn<|rt ?_;cases hm;exact⟨_,.cons (.tmp rfl) .nil,rfl,b⟩

theorem za8:Enters Tryd.prog 84:=⟨_,_,Tryd.func84,rfl,by kernel_rfl⟩
def z3E (fuel:Nat) (x0:Int):Option (Bool):=(if(decide (x0≥0))=true then some (decide (x0≤8)) else some false)

theorem z6E {W:Base}{w:World}(hE:Ext W w){x0:Int}  {fuel:Nat}{r:Bool}(hm:z3E fuel x0=some r):
  Calls Tryd.prog 84 ⟨[.int .i64 x0]⟩ w (Ret fun v w8=>v=.bool r∧St w w8 []):=by
 refine into Tryd.func84 9 _ ?_;unfold z3E at hm;have hS:=St.start w;refine sq<|rg<|rr 1 ?_;refine rn<|sq<|rg<|rr 3 ?_;refine rb 5 hm (fun hm=>?_) (fun hm=>?_)
 ·refine rr 4 ?_;refine rn<|rt ?_;cases hm;exact⟨_,.cons (.tmp rfl) .nil,rfl,hS⟩
 ·refine rr 4 ?_;refine rn<|rt ?_;cases hm;exact⟨_,.cons (.tmp rfl) .nil,rfl,hS⟩

theorem zad:Enters Tryd.prog 74:=⟨_,_,Tryd.func74,rfl,by kernel_rfl⟩
def z2Q (fuel:Nat) (x0:Int) (x1:Int):Option (Bool):=((z2L fuel x0).bind fun r1=>(if r1=true then(if(x1 == 0)=true then some true else((z3k fuel x0).bind fun b=>(if b=true then((z3E fuel x1).bind fun d=>some d) else some false))) else some false))

theorem z5M {W:Base}{w:World}(hE:Ext W w){x0:Int}{x1:Int}  {fuel:Nat}{r:Bool}(hm:z2Q fuel x0 x1=some r):
  Calls Tryd.prog 74 ⟨[.int .i64 x0,.int .i64 x1]⟩ w (Ret fun v w8=>v=.bool r∧St w w8 []):=by
 refine into Tryd.func74 19 _ ?_;unfold z2Q at hm;have hS:=St.start w;refine sq<|rg<|rr 1 ?_;refine rn<|sq<|rg<|rr 1 ?_;obtain⟨r1,c0,hm⟩:=bS hm;refine ca z7i (z4G (hE.trans hS.ext)  c0) (fun v3 w4 a0=>?_);obtain⟨rfl,b0⟩:=a0;have d:=hS.join b0;refine rr 1 ?_;refine rb 7 hm (fun hm=>?_) (fun hm=>?_)
 ·refine rr 3 ?_;refine rb 10 hm (fun hm=>?_) (fun hm=>?_)
  ·refine rr 9 ?_;refine rn<|rt ?_;cases hm;exact⟨_,.cons (.tmp rfl) .nil,rfl,d⟩
  ·refine rr 1 ?_;obtain⟨d0,O,hm⟩:=bS hm;refine ca za9 (z65 (hE.trans d.ext)  O) (fun f0 i0 k=>?_);obtain⟨rfl,o⟩:=k;have b:=d.join o;refine rr 1 ?_;refine rb 13 hm (fun hm=>?_) (fun hm=>?_)
   ·refine rr 1 ?_;obtain⟨e0,Y,hm⟩:=bS hm;refine ca za8 (z6E (hE.trans b.ext)  Y) (fun g0 j0 y=>?_);obtain⟨rfl,G⟩:=y;have H:=b.join G;refine rr 4 ?_;refine rn<|rt ?_;cases hm;exact⟨_,.cons (.tmp rfl) .nil,rfl,H⟩
   ·refine rr 6 ?_;refine rn<|rt ?_;cases hm;exact⟨_,.cons (.tmp rfl) .nil,rfl,b⟩
 ·refine rr 12 ?_;refine rn<|rt ?_;cases hm;exact⟨_,.cons (.tmp rfl) .nil,rfl,d⟩

theorem za7:Enters Tryd.prog 85:=⟨_,_,Tryd.func85,rfl,by kernel_rfl⟩
def z1a (fuel:Nat) (t2:Unit):Option Int:=some (-1)
def zt (fuel:Nat) (x0:(List Int)) (x1:Int→Option Bool) (s1:Int):Option (Rd (Int) (Unit) (Int)):=(if(decide (s1<(x0.length:Int)))=true then((idx x0 s1).bind fun d=>((x1 d).bind fun b=>(if b=true then some (.ret s1) else some (.next (w64 (s1+1)))))) else some (.brk ()))
def z15 (fuel:Nat) (x0:(List Int)) (x1:Int→Option Bool):Option (Int):=((iter (zt fuel x0 x1) fuel 0).bind fun o=>aft o (z1a fuel))

theorem z41 {W:Base}{w:World}(hE:Ext W w){G:Option Addr}{f0:Nat}{x0:(List Int)}{f1_:Nat}{u1_:List Value}{x1:Int→Option Bool}(k0:ty37.ro W [sl G x0 f0] x0) (g0:Enters Tryd.prog f1_∧∀ {w9:World},Ext W w9→∀ {z0:Int}{y9:Bool},x1 z0=some y9→Calls Tryd.prog f1_ ⟨[.int .i64 z0]++u1_⟩ w9 (Ret fun v w8=>v=.bool y9∧St w9 w8 [])){fuel:Nat}{r:Int}(hm:z15 fuel x0 x1=some r):
  Calls Tryd.prog 85 ⟨[sl G x0 f0,.func (.func f1_) #[] ⟨u1_⟩]⟩ w (Ret fun v w8=>v=.int .i64 r∧St w w8 []):=by
 refine into Tryd.func85 19 _ ?_;unfold z15 at hm;have hS:=St.start w;refine sq<|rg<|rr 1 ?_;refine rn<|sq<|sq<|rg<|rr 3 ?_;refine rn ?_;obtain⟨o0,a0,hm⟩:=bS hm;refine ct (fun(t2:Unit) F w9=>o0=.inl t2∧Ext w w9∧St w w9 []∧F=[]) ?_ ?_
 ·rintro t2 F w7 ⟨b0,p0,O,rfl⟩;subst b0;rw [zR] at hm;unfold z1a at hm;refine sq<|rg<|rr 1 ?_;refine rn<|rt ?_;cases hm;exact⟨_,.cons (.tmp rfl) .nil,rfl,O⟩
 ·refine bk<|wk [0,1,7,8] ?_;refine it (fun(s1:Int) F w9=>Ext w w9∧St w w9 []∧F=[(0,sl G x0 f0),(1,.func (.func f1_) #[] ⟨u1_⟩),(7,.int .i64 (x0.length:Int)),(8,.int .i64 s1)]) a0 ⟨(Ext.refl _),hS,rfl⟩ ?_;rintro s1 F v0 _ q0 ⟨i0,d,rfl⟩ b y;unfold zt at b;refine sq<|rg<|rr 1 ?_;refine rn<|sq<|ci b (fun b=>?_) (fun b=>?_)
  ·refine sp<|sq<|bk<|sq<|rg<|rr 2 ?_;refine rn<|sq<|rg<|rr 3 ?_;obtain⟨A0,d0,b⟩:=bS b;refine ix (hE.trans d.ext) k0 d0 (fun r0 j0 Y c0=>?_);cases c0;refine l1 (At.ext (hE.trans d.ext) Y) 0 ?_;obtain⟨t0,e0,b⟩:=bS b;refine ca g0.1 (g0.2 (hE.trans d.ext)  e0) (fun u0 y0 H=>?_);obtain⟨rfl,k⟩:=H;have o:=d.join k;refine rn<|ci b (fun b=>?_) (fun b=>?_)
   ·refine sq<|rg<|rr 2 ?_;refine rn<|rt ?_;cases b;cases y;have hm:some _=some _:=hm;cases hm;exact⟨_,.cons (.tmp rfl) .nil,rfl,o⟩
   ·refine sp<|rg<|rr 2 ?_;refine rn ?_;cases b;exact⟨_,_,rfl,⟨(i0.trans k.ext),o,rfl⟩,rfl⟩
  ·refine xt ?_;cases b;exact⟨_,_,⟨y,i0,d,rfl⟩,rfl⟩

theorem zac:Enters Tryd.prog 75:=⟨_,_,Tryd.func75,rfl,by kernel_rfl⟩
def zu (fuel:Nat) (x0:(List Int)) (x1:Int→Option Bool):Option (Bool):=((z15 fuel x0 x1).bind fun r1=>some (decide (r1≥0)))

theorem z3P {W:Base}{w:World}(hE:Ext W w){b:Option Addr}{d:Nat}{x0:(List Int)}{f1_:Nat}{u1_:List Value}{x1:Int→Option Bool}(k:ty37.ro W [sl b x0 d] x0) (o:Enters Tryd.prog f1_∧∀ {w9:World},Ext W w9→∀ {z0:Int}{y9:Bool},x1 z0=some y9→Calls Tryd.prog f1_ ⟨[.int .i64 z0]++u1_⟩ w9 (Ret fun v w8=>v=.bool y9∧St w9 w8 [])){fuel:Nat}{r:Bool}(hm:zu fuel x0 x1=some r):
  Calls Tryd.prog 75 ⟨[sl b x0 d,.func (.func f1_) #[] ⟨u1_⟩]⟩ w (Ret fun v w8=>v=.bool r∧St w w8 []):=by
 refine into Tryd.func75 9 _ ?_;unfold zu at hm;have hS:=St.start w;refine sq<|rg<|rr 1 ?_;refine rn<|sq<|rg<|rr 2 ?_;obtain⟨r1,O,hm⟩:=bS hm;refine ca za7 (z41 (hE.trans hS.ext) k o O) (fun v3 w4 y=>?_);obtain⟨rfl,G⟩:=y;have H:=hS.join G;refine rr 2 ?_;refine rn<|rt ?_;cases hm;exact⟨_,.cons (.tmp rfl) .nil,rfl,H⟩

theorem z8u:Enters Tryd.prog 77:=⟨_,_,Tryd.func77,rfl,by kernel_rfl⟩
def z1T (fuel:Nat) (x0:Int):Option (Bool):=(if(decide (x0≥0))=true then some (decide (x0<24)) else some false)

theorem z4C {W:Base}{w:World}(hE:Ext W w){x0:Int}  {fuel:Nat}{r:Bool}(hm:z1T fuel x0=some r):
  Calls Tryd.prog 77 ⟨[.int .i64 x0]⟩ w (Ret fun v w8=>v=.bool r∧St w w8 []):=by
 refine into Tryd.func77 9 _ ?_;unfold z1T at hm;have hS:=St.start w;refine sq<|rg<|rr 1 ?_;refine rn<|sq<|rg<|rr 3 ?_;refine rb 5 hm (fun hm=>?_) (fun hm=>?_)
 ·refine rr 4 ?_;refine rn<|rt ?_;cases hm;exact⟨_,.cons (.tmp rfl) .nil,rfl,hS⟩
 ·refine rr 4 ?_;refine rn<|rt ?_;cases hm;exact⟨_,.cons (.tmp rfl) .nil,rfl,hS⟩

theorem zab:Enters Tryd.prog 76:=⟨_,_,Tryd.func76,rfl,by kernel_rfl⟩
def z2j (fuel:Nat) (x0:Int):Option (Bool):=((z1T fuel x0).bind fun r1=>some (!r1))

theorem z57 {W:Base}{w:World}(hE:Ext W w){x0:Int}  {fuel:Nat}{r:Bool}(hm:z2j fuel x0=some r):
  Calls Tryd.prog 76 ⟨[.int .i64 x0]⟩ w (Ret fun v w8=>v=.bool r∧St w w8 []):=by
 refine into Tryd.func76 6 _ ?_;unfold z2j at hm;have hS:=St.start w;refine sq<|rg<|rr 1 ?_;refine rn<|sq<|rg<|rr 1 ?_;obtain⟨r1,o,hm⟩:=bS hm;refine ca z8u (z4C (hE.trans hS.ext)  o) (fun v3 w4 b=>?_);obtain⟨rfl,d⟩:=b;have k:=hS.join d;refine rr 2 ?_;refine rn<|rt ?_;cases hm;exact⟨_,.cons (.tmp rfl) .nil,rfl,k⟩

theorem z8t:Enters Tryd.prog 78:=⟨_,_,Tryd.func78,rfl,by kernel_rfl⟩
def z3O (fuel:Nat) (x0:Int):Option (Bool):=(if(decide (x0≥(-2147483648)))=true then some (decide (x0≤2147483647)) else some false)

theorem z5x {W:Base}{w:World}(hE:Ext W w){x0:Int}  {fuel:Nat}{r:Bool}(hm:z3O fuel x0=some r):
  Calls Tryd.prog 78 ⟨[.int .i64 x0]⟩ w (Ret fun v w8=>v=.bool r∧St w w8 []):=by
 refine into Tryd.func78 9 _ ?_;unfold z3O at hm;have hS:=St.start w;refine sq<|rg<|rr 1 ?_;refine rn<|sq<|rg<|rr 3 ?_;refine rb 5 hm (fun hm=>?_) (fun hm=>?_)
 ·refine rr 4 ?_;refine rn<|rt ?_;cases hm;exact⟨_,.cons (.tmp rfl) .nil,rfl,hS⟩
 ·refine rr 4 ?_;refine rn<|rt ?_;cases hm;exact⟨_,.cons (.tmp rfl) .nil,rfl,hS⟩

theorem z8s:Enters Tryd.prog 79:=⟨_,_,Tryd.func79,rfl,by kernel_rfl⟩
def z1S (fuel:Nat) (x0:Int):Option (Bool):=(if(decide (x0≥1))=true then some (decide (x0≤6)) else some false)

theorem z4B {W:Base}{w:World}(hE:Ext W w){x0:Int}  {fuel:Nat}{r:Bool}(hm:z1S fuel x0=some r):
  Calls Tryd.prog 79 ⟨[.int .i64 x0]⟩ w (Ret fun v w8=>v=.bool r∧St w w8 []):=by
 refine into Tryd.func79 9 _ ?_;unfold z1S at hm;have hS:=St.start w;refine sq<|rg<|rr 1 ?_;refine rn<|sq<|rg<|rr 3 ?_;refine rb 5 hm (fun hm=>?_) (fun hm=>?_)
 ·refine rr 4 ?_;refine rn<|rt ?_;cases hm;exact⟨_,.cons (.tmp rfl) .nil,rfl,hS⟩
 ·refine rr 4 ?_;refine rn<|rt ?_;cases hm;exact⟨_,.cons (.tmp rfl) .nil,rfl,hS⟩

theorem zaq:Enters Tryd.prog 60:=⟨_,_,Tryd.func60,rfl,by kernel_rfl⟩
def z1G (fuel:Nat) (b:Bool × Bool):Option Bool:=(if b.1=true then some b.2 else some false)
def z1F (fuel:Nat) (b:Bool × Bool):Option Bool:=z1G fuel (b.1,b.2)
def z1E (fuel:Nat) (b:Bool × Bool):Option Bool:=z1F fuel (b.1,b.2)
def z1D (fuel:Nat) (x0:D.Agent) (b:Bool):Option Bool:=z1E fuel (b,((x0.Data.length:Int) == 0))
def z1C (fuel:Nat) (b:Bool × Bool):Option Bool:=z1E fuel (b.1,b.2)
def z1f (fuel:Nat) (x0:D.Agent) (b:Bool):Option Bool:=z1C fuel ((x0.Value == 0),b)
def z1B (fuel:Nat) (b:Bool × Bool):Option Bool:=z1C fuel (b.1,b.2)
def z1A (fuel:Nat) (x0:D.Agent) (b:Bool):Option Bool:=z1B fuel ((x0.Value == 0),b)
def z1t (fuel:Nat) (x0:D.Agent) (b:Bool):Option Bool:=z1B fuel (b,((x0.Data.length:Int) == 0))
def z14 (fuel:Nat) (x0:D.Agent) (H:Bool):Option Bool:=(if H=true then some false else((zu fuel x0.Data (fun y0=>z2j fuel y0)).bind fun d=>(if(x0.Kind == 6)=true then((z3O fuel x0.Value).bind fun k=>z1G fuel (k,((x0.Data.length:Int) == 0))) else(if(x0.Kind == 7)=true then((z1S fuel x0.Value).bind fun o=>z1F fuel (o,((x0.Data.length:Int) == 0))) else(if(x0.Kind == 8)=true then((z1S fuel x0.Value).bind fun y=>(if y=true then(if((x0.Data.length:Int) == 1)=true then((idx x0.Data 0).bind fun O=>((z3O fuel O).bind fun G=>some G)) else some false) else some false)) else(if(x0.Kind == 9)=true then(if(decide (x0.Value≥0))=true then z1D fuel x0 (decide (x0.Value<4)) else z1D fuel x0 false) else(if(x0.Kind == 10)=true then(if(decide ((x0.Data.length:Int)≥1))=true then(if(decide ((x0.Data.length:Int)≤4))=true then z1f fuel x0 (!d) else z1f fuel x0 false) else z1f fuel x0 false) else(if(x0.Kind == 11)=true then(if((x0.Data.length:Int) == 2)=true then z1A fuel x0 (!d) else z1A fuel x0 false) else(if(x0.Kind == 12)=true then((z1T fuel x0.Value).bind fun b=>z1t fuel x0 b) else z1t fuel x0 (x0.Value == 0))))))))))
def z1n (fuel:Nat) (x0:D.Agent):Option (Bool):=(if((x0.Ports.length:Int) == 0)=true then z14 fuel x0 true else((z3h fuel x0.Kind (x0.Ports.length:Int)).bind fun b=>((z2U fuel x0.Kind b).bind fun d=>(if(d != (x0.Ports.length:Int))=true then z14 fuel x0 true else((z2Q fuel x0.Kind x0.Level).bind fun k=>z14 fuel x0 (!k))))))

theorem z5w {W:Base}{w:World}(hE:Ext W w){L1:List Value}{x0:D.Agent}(P1:ty62.ro W L1 x0){fuel:Nat}{r:Bool}(hm:z1n fuel x0=some r):
  Calls Tryd.prog 60 ⟨[.agg ⟨L1⟩]⟩ w (Ret fun v w8=>v=.bool r∧St w w8 []):=by
 obtain⟨A1,k2,A4,k5,e7,h3,h6⟩:=zy P1;subst e7;refine into Tryd.func60 117 _ ?_;unfold z1n at hm;have hS:=St.start w;refine sq<|rg<|nw hS (fun M1 e2 n2 k=>?_);refine rr 1 ?_;refine rn<|sq<|sq<|ct (fun(K1:Bool) F w9=>z14 fuel x0 K1=some r∧Ext e2 w9∧St w w9 [Box M1 [.int .i64 x0.Kind,.int .i64 x0.Level,.int .i64 x0.Value,sl A1 x0.Data k2,sl A4 x0.Ports k5] 62]∧F=[(1,.pointer (some ⟨M1,0,none⟩)),(32,.bool K1)]) ?_ ?_
 ·rintro K1 F A2 ⟨hm,Q1,b0,rfl⟩;unfold z14 at hm;refine ci hm (fun hm=>?_) (fun hm=>?_)
  ·refine sq<|rg<|rr 1 ?_;refine rn<|rt ?_;cases hm;exact⟨_,.cons (.tmp rfl) .nil,rfl,(b0.taken 0)⟩
  ·refine sp<|sq<|dn 0 mixed 9 [([],511),([0],510),([1],509),([],511),([3],503),([4],495),([5],479),([2,0,1,2],507),([6,7,0,1,2,3,4,5,6,7],447)] b0.ext (fun H=>?_);have i0:=b0.step (Ext.draw _);refine dr 7 H [0,3] ?_;refine dl H 1 ((b0.bring 0 rfl).box) 2 ?_;refine dr 4 H [2,7] ?_;refine dl H 4 ((b0.bring 0 rfl).box) 3 ?_;refine dr 0 H [5,6,8] ?_;refine dw [1,3,4] ?_;refine dd H ?_;refine sq<|rg<|rr 1 ?_;refine l1 ((i0.bring 0 rfl).box) 3 ?_;obtain⟨N1,B1,hm⟩:=bS hm;refine ca zac (z3P (hE.trans i0.ext) h3 ⟨zab,fun e9=>(fun  S1=>z57 (Ext.refl _)  S1)⟩ B1) (fun r2 e0 Y0=>?_);obtain⟨rfl,a1⟩:=Y0;have d:=i0.join a1;refine rr 2 ?_;refine rn<|sq<|sq<|rg<|rr 1 ?_;refine l1 ((d.bring 0 rfl).box) 0 ?_;refine rn<|bk<|sq<|rg<|rr 2 ?_;refine rn<|ct (fun(P0:Bool × Bool) F w9=>z1G fuel P0=some r∧Ext e0 w9∧St w w9 []∧F=[(3,.bool P0.1),(4,.bool P0.2)]) ?_ ?_
   ·rintro P0 F B2 ⟨hm,R1,J0,rfl⟩;unfold z1G at hm;refine sq<|rg<|rr 2 ?_;refine rb 114 hm (fun hm=>?_) (fun hm=>?_)
    ·refine rr 3 ?_;refine rn<|rt ?_;cases hm;exact⟨_,.cons (.tmp rfl) .nil,rfl,J0⟩
    ·refine rr 3 ?_;refine rn<|rt ?_;cases hm;exact⟨_,.cons (.tmp rfl) .nil,rfl,J0⟩
   ·refine ci hm (fun hm=>?_) (fun hm=>?_)
    ·refine rg<|rr 1 ?_;refine l1 ((d.bring 0 rfl).box) 2 ?_;obtain⟨V1,C1,hm⟩:=bS hm;refine ca z8t (z5x (hE.trans d.ext)  C1) (fun s2 C2 b1=>?_);obtain⟨rfl,B0⟩:=b1;have i1:=d.join B0;refine rr 1 ?_;refine rn ?_;exact⟨(V1,((x0.Data.length:Int) == 0)),_,⟨hm,B0.ext,(i1.taken 0),rfl⟩,rfl⟩
    ·refine sq<|rg<|rr 2 ?_;refine rn<|ct (fun(j0:Bool × Bool) F w9=>z1F fuel j0=some r∧Ext e0 w9∧St w w9 []∧F=[(3,.bool j0.1),(4,.bool j0.2)]) ?_ ?_
     ·rintro j0 F D2 ⟨hm,S0,j1,rfl⟩;unfold z1F at hm;exact⟨(j0.1,j0.2),_,⟨hm,S0,j1,rfl⟩,rfl⟩
     ·refine ci hm (fun hm=>?_) (fun hm=>?_)
      ·refine rg<|rr 1 ?_;refine l1 ((d.bring 0 rfl).box) 2 ?_;obtain⟨W1,D1,hm⟩:=bS hm;refine ca z8s (z4B (hE.trans d.ext)  D1) (fun u2 E2 c1=>?_);obtain⟨rfl,C0⟩:=c1;have k1:=d.join C0;refine rr 1 ?_;refine rn ?_;exact⟨(W1,((x0.Data.length:Int) == 0)),_,⟨hm,C0.ext,(k1.taken 0),rfl⟩,rfl⟩
      ·refine sq<|rg<|rr 2 ?_;refine rn<|ci hm (fun hm=>?_) (fun hm=>?_)
       ·refine sq<|rg<|rr 1 ?_;refine l1 ((d.bring 0 rfl).box) 2 ?_;obtain⟨p2,E1,hm⟩:=bS hm;refine ca z8s (z4B (hE.trans d.ext)  E1) (fun v2 F2 d1=>?_);obtain⟨rfl,e1⟩:=d1;have o:=d.join e1;refine rr 1 ?_;refine rb 61 hm (fun hm=>?_) (fun hm=>?_)
        ·refine rr 1 ?_;refine l1 ((o.bring 0 rfl).box) 3 ?_;refine rr 4 ?_;refine rb 67 hm (fun hm=>?_) (fun hm=>?_)
         ·refine rr 1 ?_;refine l1 ((o.bring 0 rfl).box) 3 ?_;obtain⟨M2,F1,hm⟩:=bS hm;refine ix (hE.trans o.ext) h3 F1 (fun o2 O1 v1 y1=>?_);cases y1;refine l1 (At.ext (hE.trans o.ext) v1) 0 ?_;obtain⟨q2,G1,hm⟩:=bS hm;refine ca z8t (z5x (hE.trans o.ext)  G1) (fun y2 G2 f1=>?_);obtain⟨rfl,g1⟩:=f1;have m1:=o.join g1;refine rr 2 ?_;refine rn<|rt ?_;cases hm;exact⟨_,.cons (.tmp rfl) .nil,rfl,(m1.taken 0)⟩
         ·refine rr 7 ?_;refine rn<|rt ?_;cases hm;exact⟨_,.cons (.tmp rfl) .nil,rfl,(o.taken 0)⟩
        ·refine rr 13 ?_;refine rn<|rt ?_;cases hm;exact⟨_,.cons (.tmp rfl) .nil,rfl,(o.taken 0)⟩
       ·refine sq<|rg<|rr 2 ?_;refine rn<|ct (fun(k0:Bool × Bool) F w9=>z1E fuel k0=some r∧Ext e0 w9∧St w w9 []∧F=[(3,.bool k0.1),(4,.bool k0.2)]) ?_ ?_
        ·rintro k0 F H2 ⟨hm,T0,n1,rfl⟩;unfold z1E at hm;exact⟨(k0.1,k0.2),_,⟨hm,T0,n1,rfl⟩,rfl⟩
        ·refine ci hm (fun hm=>?_) (fun hm=>?_)
         ·refine ct (fun(Q0:Bool) F w9=>z1D fuel x0 Q0=some r∧Ext e0 w9∧St w w9 []∧F=[(3,.bool Q0),(4,.bool ((x0.Data.length:Int) == 0))]) ?_ ?_
          ·rintro Q0 F J2 ⟨hm,U0,p1,rfl⟩;unfold z1D at hm;exact⟨(Q0,((x0.Data.length:Int) == 0)),_,⟨hm,U0,p1,rfl⟩,rfl⟩
          ·refine rg<|rr 1 ?_;refine l1 ((d.bring 0 rfl).box) 2 ?_;refine rr 2 ?_;refine rb 79 hm (fun hm=>?_) (fun hm=>?_)
           ·refine rr 1 ?_;refine l1 ((d.bring 0 rfl).box) 2 ?_;refine rr 3 ?_;refine rn ?_;exact⟨decide (x0.Value<4),_,⟨hm,(Ext.refl _),(d.taken 0),rfl⟩,rfl⟩
           ·refine rr 5 ?_;refine rn ?_;exact⟨false,_,⟨hm,(Ext.refl _),(d.taken 0),rfl⟩,rfl⟩
         ·refine sq<|rg<|rr 2 ?_;refine rn<|ct (fun(o0:Bool × Bool) F w9=>z1C fuel o0=some r∧Ext e0 w9∧St w w9 []∧F=[(3,.bool o0.1),(4,.bool o0.2)]) ?_ ?_
          ·rintro o0 F K2 ⟨hm,V0,t1,rfl⟩;unfold z1C at hm;exact⟨(o0.1,o0.2),_,⟨hm,V0,t1,rfl⟩,rfl⟩
          ·refine ci hm (fun hm=>?_) (fun hm=>?_)
           ·refine ct (fun(R0:Bool) F w9=>z1f fuel x0 R0=some r∧Ext e0 w9∧St w w9 []∧F=[(3,.bool (x0.Value == 0)),(4,.bool R0)]) ?_ ?_
            ·rintro R0 F L2 ⟨hm,X0,u1,rfl⟩;unfold z1f at hm;exact⟨((x0.Value == 0),R0),_,⟨hm,X0,u1,rfl⟩,rfl⟩
            ·refine rg<|rr 1 ?_;refine l1 ((d.bring 0 rfl).box) 3 ?_;refine rr 3 ?_;refine rb 90 hm (fun hm=>?_) (fun hm=>?_)
             ·refine rr 1 ?_;refine l1 ((d.bring 0 rfl).box) 3 ?_;refine rr 4 ?_;refine rb 96 hm (fun hm=>?_) (fun hm=>?_)
              ·refine rr 3 ?_;refine rn ?_;exact⟨!N1,_,⟨hm,(Ext.refl _),(d.taken 0),rfl⟩,rfl⟩
              ·refine rr 3 ?_;refine rn ?_;exact⟨false,_,⟨hm,(Ext.refl _),(d.taken 0),rfl⟩,rfl⟩
             ·refine rr 9 ?_;refine rn ?_;exact⟨false,_,⟨hm,(Ext.refl _),(d.taken 0),rfl⟩,rfl⟩
           ·refine sq<|rg<|rr 2 ?_;refine rn<|ct (fun(p0:Bool × Bool) F w9=>z1B fuel p0=some r∧Ext e0 w9∧St w w9 []∧F=[(3,.bool p0.1),(4,.bool p0.2)]) ?_ ?_
            ·rintro p0 F c2 ⟨hm,q0,D0,rfl⟩;unfold z1B at hm;exact⟨(p0.1,p0.2),_,⟨hm,q0,D0,rfl⟩,rfl⟩
            ·refine ci hm (fun hm=>?_) (fun hm=>?_)
             ·refine ct (fun(c0:Bool) F w9=>z1A fuel x0 c0=some r∧Ext e0 w9∧St w w9 []∧F=[(3,.bool (x0.Value == 0)),(4,.bool c0)]) ?_ ?_
              ·rintro c0 F d2 ⟨hm,r0,E0,rfl⟩;unfold z1A at hm;exact⟨((x0.Value == 0),c0),_,⟨hm,r0,E0,rfl⟩,rfl⟩
              ·refine rg<|rr 1 ?_;refine l1 ((d.bring 0 rfl).box) 3 ?_;refine rr 3 ?_;refine rb 105 hm (fun hm=>?_) (fun hm=>?_)
               ·refine rr 3 ?_;refine rn ?_;exact⟨!N1,_,⟨hm,(Ext.refl _),(d.taken 0),rfl⟩,rfl⟩
               ·refine rr 3 ?_;refine rn ?_;exact⟨false,_,⟨hm,(Ext.refl _),(d.taken 0),rfl⟩,rfl⟩
             ·refine sq<|rg<|rr 2 ?_;refine rn<|ct (fun(d0:Bool) F w9=>z1t fuel x0 d0=some r∧Ext e0 w9∧St w w9 []∧F=[(3,.bool d0),(4,.bool ((x0.Data.length:Int) == 0))]) ?_ ?_
              ·rintro d0 F f2 ⟨hm,t0,F0,rfl⟩;unfold z1t at hm;exact⟨(d0,((x0.Data.length:Int) == 0)),_,⟨hm,t0,F0,rfl⟩,rfl⟩
              ·refine ci hm (fun hm=>?_) (fun hm=>?_)
               ·refine rg<|rr 1 ?_;refine l1 ((d.bring 0 rfl).box) 2 ?_;obtain⟨H1,K0,hm⟩:=bS hm;refine ca z8u (z4C (hE.trans d.ext)  K0) (fun X1 g2 u0=>?_);obtain⟨rfl,f0⟩:=u0;have G0:=d.join f0;refine rr 1 ?_;refine rn ?_;exact⟨H1,_,⟨hm,f0.ext,(G0.taken 0),rfl⟩,rfl⟩
               ·refine sp ?_;exact⟨(x0.Value == 0),_,⟨hm,(Ext.refl _),(d.taken 0),rfl⟩,rfl⟩
 ·refine dn 0 mixed 27 [([],134217727),([0],134217726),([1],134217725),([2],134217723),([3],134217719),([4],134217711),([5,4],134217679),([4],134217711),([7,4],134217583),([4],134217711),([9,4],134217199),([10,4],134216687),([8,11,4,4],134215407),([6,12,12,4],134213551),([4],134217711),([14,4],134201327),([15,4],134184943),([13,16,4],134143983),([4,17],134086639),([18,13],133955583),([19],133693439),([20,19],132644863),([19],133693439),([22,19],129499135),([21,23,19,19],123207679),([24,19],116916223),([19,25],100139007)] k.ext (fun b=>?_);have Y:=k.step (Ext.draw _);refine dr 26 b [0] ?_;refine dl b 1 ((k.bring 0 rfl).box) 4 ?_;refine dr 22 b [2,3,4] ?_;refine dw [1,10] ?_;refine db 10 hm (fun hm=>?_) (fun hm=>?_)
  ·refine dr 0 b [5,6,7,8,9,10,11,12,13,14,15,16,17,18,19,20,21,22,23,24,25,26] ?_;refine dw [1,32] ?_;refine dd b ?_;exact⟨true,_,⟨hm,(Ext.draw _),Y,rfl⟩,rfl⟩
  ·refine dr 18 b [5,7,9,14] ?_;refine dl b 6 ((k.bring 0 rfl).box) 0 ?_;refine dl b 8 ((k.bring 0 rfl).box) 0 ?_;refine dl b 10 ((k.bring 0 rfl).box) 4 ?_;refine dr 14 b [11] ?_;refine dl b 15 ((k.bring 0 rfl).box) 4 ?_;refine dr 12 b [16] ?_;refine dw [1,10,12,14,17,22] ?_;obtain⟨T1,M0,hm⟩:=bS hm;refine o1 b 12 (mc b zae (z62 (hE.trans Y.ext)  M0) (fun Y1 i2 v0=>?_));obtain⟨rfl,y⟩:=v0;refine⟨y.ext,?_⟩;have g0:=Y.join y;obtain⟨U1,N0,hm⟩:=bS hm;refine o1 b 13 (mc b zaf (z6J (hE.trans g0.ext)  N0) (fun a2 j2 y0=>?_));obtain⟨rfl,G⟩:=y0;refine⟨G.ext,?_⟩;have a0:=g0.join G;refine dr 7 b [17,18,19] ?_;refine dw [1,25] ?_;refine db 25 hm (fun hm=>?_) (fun hm=>?_)
   ·refine dr 0 b [20,21,22,23,24,25,26] ?_;refine dw [1,32] ?_;refine dd b ?_;exact⟨true,_,⟨hm,(((Ext.draw _).trans y.ext).trans G.ext),a0,rfl⟩,rfl⟩
   ·refine dr 5 b [20,22] ?_;refine dl b 21 ((k.bring 0 rfl).box) 0 ?_;refine dl b 23 ((k.bring 0 rfl).box) 1 ?_;obtain⟨J1,O0,hm⟩:=bS hm;refine o1 b 24 (mc b zad (z5M (hE.trans a0.ext)  O0) (fun b2 m2 A0=>?_));obtain⟨rfl,O⟩:=A0;refine⟨O.ext,?_⟩;have H0:=a0.join O;refine dr 0 b [25,26] ?_;refine dw [1,32] ?_;refine dd b ?_;exact⟨!J1,_,⟨hm,((((Ext.draw _).trans y.ext).trans G.ext).trans O.ext),H0,rfl⟩,rfl⟩

end Go.E


