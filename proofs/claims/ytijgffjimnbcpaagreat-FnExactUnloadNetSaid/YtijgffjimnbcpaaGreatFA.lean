/- Models of functions and proofs that the code runs as they say (written by program). Conditions: the model gives a value. -/
import Derived.Test.YtijgffjimnbcpaaGreatField
namespace Go.E
open Go.RowKit Go.Proofs
set_option linter.unusedVariables false
set_option linter.unusedSimpArgs false
set_option maxHeartbeats 2000000
set_option maxRecDepth 100000

theorem zbK:Enters Tryz.prog 185:=⟨_,_,Tryz.func185,rfl,by kernel_rfl⟩
def z3i (fuel:Nat) (x0:D.Agent):Option (Int):=(if(x0.Kind == 9)=true then some (w64 ((x0.Ports.length:Int) - 1)) else some 0)

theorem z6J {W w:World}(hE:Ext W w){y:Addr}{h:List Value}{x0:D.Agent}(z:z4B.ro W h x0) (o:At W y h){fuel:Nat}{r:Int}(hm:z3i fuel x0=some r):
  Calls Tryz.prog 185 ⟨[.pointer (some y)]⟩ w (Ret fun v w8=>v=.int .i64 r∧St w w8 []):=by
 obtain⟨A1,k2,A4,k5,e7,h3,h6⟩:=z1Y z;subst e7;refine into Tryz.func185 14 _ ?_;unfold z3i at hm;have hS:=St.start w;refine sq<|rg<|rr 1 ?_;refine rn<|sq<|sq<|rg<|rr 3 ?_;refine l1 (At.ext (hE.trans hS.ext) o) 0 ?_;refine rr 1 ?_;refine rn<|ci hm (fun hm=>?_) (fun hm=>?_)
 ·refine sq<|rg<|rr 3 ?_;refine l1 (At.ext (hE.trans hS.ext) o) 4 ?_;refine rr 3 ?_;refine rn<|rt ?_;cases hm;exact⟨_,.cons (.tmp rfl) .nil,rfl,hS⟩
 ·refine sp<|sq<|rg<|rr 1 ?_;refine rn<|rt ?_;cases hm;exact⟨_,.cons (.tmp rfl) .nil,rfl,hS⟩

theorem z2c:Enters Tryz.prog 57:=⟨_,_,Tryz.func57,rfl,by kernel_rfl⟩
def zg (fuel:Nat) (x0:Int) (x1:Int) (x2:Int):Option (Bool):=(if(decide (x0≥x1))=true then some (decide (x0≤x2)) else some false)

theorem zj {W w:World}(hE:Ext W w){x0:Int}{x1:Int}{x2:Int}  {fuel:Nat}{r:Bool}(hm:zg fuel x0 x1 x2=some r):
  Calls Tryz.prog 57 ⟨[.int .i64 x0,.int .i64 x1,.int .i64 x2]⟩ w (Ret fun v w8=>v=.bool r∧St w w8 []):=by
 refine into Tryz.func57 15 _ ?_;unfold zg at hm;have hS:=St.start w;refine sq<|rg<|rr 1 ?_;refine rn<|sq<|rg<|rr 4 ?_;refine rb 10 hm (fun hm=>?_) (fun hm=>?_)
 ·refine rr 5 ?_;refine rn<|rt ?_;cases hm;exact⟨_,.cons (.tmp rfl) .nil,rfl,hS⟩
 ·refine rr 5 ?_;refine rn<|rt ?_;cases hm;exact⟨_,.cons (.tmp rfl) .nil,rfl,hS⟩

theorem zbL:Enters Tryz.prog 184:=⟨_,_,Tryz.func184,rfl,by kernel_rfl⟩
def z2J (fuel:Nat) (h:Bool):Option Int:=(if h=true then some 3 else some 0)
def z2H (fuel:Nat) (h:Bool):Option Int:=z2J fuel h
def z2G (fuel:Nat) (h:Bool):Option Int:=z2H fuel h
def z2K (fuel:Nat) (x0:Int) (h:Bool):Option Int:=(if h=true then some 2 else(if(x0 == 2)=true then z2J fuel (x0 == 2) else(if(x0 == 3)=true then z2H fuel (x0 == 3) else(if(x0 == 4)=true then z2G fuel (x0 == 4) else z2G fuel (x0 == 7)))))
def z2F (fuel:Nat) (x0:Int) (h:Bool):Option Int:=z2K fuel x0 h
def z2L (fuel:Nat) (x0:Int) (h:Bool):Option Int:=(if h=true then some 1 else(if(x0 == 8)=true then z2K fuel x0 (x0 == 8) else(if(x0 == 10)=true then z2F fuel x0 (x0 == 10) else z2F fuel x0 (x0 == 11))))
def z2E (fuel:Nat) (x0:Int) (h:Bool):Option Int:=z2L fuel x0 h
def z2D (fuel:Nat) (x0:Int) (h:Bool):Option Int:=z2E fuel x0 h
def z2w (fuel:Nat) (x0:Int) (x1:Int):Option (Int):=(if(x0 == 9)=true then((zg fuel x1 0 3).bind fun r1=>(if r1=true then some (w64 (1+x1)) else some 0)) else(if(x1 != 0)=true then some 0 else(if(x0 == 1)=true then z2L fuel x0 (x0 == 1) else(if(x0 == 5)=true then z2E fuel x0 (x0 == 5) else(if(x0 == 6)=true then z2D fuel x0 (x0 == 6) else z2D fuel x0 (x0 == 12))))))

theorem z7r {W w:World}(hE:Ext W w){x0:Int}{x1:Int}  {fuel:Nat}{r:Int}(hm:z2w fuel x0 x1=some r):
  Calls Tryz.prog 184 ⟨[.int .i64 x0,.int .i64 x1]⟩ w (Ret fun v w8=>v=.int .i64 r∧St w w8 []):=by
 refine into Tryz.func184 28 _ ?_;unfold z2w at hm;have hS:=St.start w;refine sq<|rg<|rr 1 ?_;refine rn<|sq<|sq<|rg<|rr 2 ?_;refine rn<|ci hm (fun hm=>?_) (fun hm=>?_)
 ·refine sq<|sq<|rg<|rr 1 ?_;obtain⟨r1,y0,hm⟩:=bS hm;refine ca z2c (zj (hE.trans hS.ext)  y0) (fun v3 w4 u0=>?_);obtain⟨rfl,v0⟩:=u0;have o0:=hS.join v0;refine rn<|ci hm (fun hm=>?_) (fun hm=>?_)
  ·refine sq<|rg<|rr 3 ?_;refine rn<|rt ?_;cases hm;exact⟨_,.cons (.tmp rfl) .nil,rfl,o0⟩
  ·refine sp<|sq<|rg<|rr 1 ?_;refine rn<|rt ?_;cases hm;exact⟨_,.cons (.tmp rfl) .nil,rfl,o0⟩
 ·refine sp<|sq<|sq<|rg<|rr 2 ?_;refine rn<|ci hm (fun hm=>?_) (fun hm=>?_)
  ·refine sq<|rg<|rr 1 ?_;refine rn<|rt ?_;cases hm;exact⟨_,.cons (.tmp rfl) .nil,rfl,hS⟩
  ·refine sp<|sq<|sq<|rg<|rr 1 ?_;refine rn<|bk<|sq<|sq<|rg<|rr 2 ?_;refine rn<|ct (fun(g0:Bool) F w9=>z2L fuel x0 g0=some r∧Ext w w9∧St w w9 []∧F=[(13,.int .i64 x0),(14,.bool g0)]) ?_ ?_
   ·rintro g0 F p0 ⟨hm,q0,o,rfl⟩;unfold z2L at hm;refine ci hm (fun hm=>?_) (fun hm=>?_)
    ·refine sq<|rg<|rr 1 ?_;refine rn<|rt ?_;cases hm;exact⟨_,.cons (.tmp rfl) .nil,rfl,o⟩
    ·refine sq<|sq<|rg<|rr 2 ?_;refine rn<|ct (fun(i0:Bool) F w9=>z2K fuel x0 i0=some r∧Ext p0 w9∧St w w9 []∧F=[(13,.int .i64 x0),(19,.bool i0)]) ?_ ?_
     ·rintro i0 F k0 ⟨hm,r0,h,rfl⟩;unfold z2K at hm;refine ci hm (fun hm=>?_) (fun hm=>?_)
      ·refine sq<|rg<|rr 1 ?_;refine rn<|rt ?_;cases hm;exact⟨_,.cons (.tmp rfl) .nil,rfl,h⟩
      ·refine sq<|sq<|rg<|rr 2 ?_;refine rn<|ct (fun(j0:Bool) F w9=>z2J fuel j0=some r∧Ext k0 w9∧St w w9 []∧F=[(23,.bool j0)]) ?_ ?_
       ·rintro j0 F A0 ⟨hm,t0,y,rfl⟩;unfold z2J at hm;refine ci hm (fun hm=>?_) (fun hm=>?_)
        ·refine sq<|rg<|rr 1 ?_;refine rn<|rt ?_;cases hm;exact⟨_,.cons (.tmp rfl) .nil,rfl,y⟩
        ·refine sp<|sq<|rg<|rr 1 ?_;refine rn<|rt ?_;cases hm;exact⟨_,.cons (.tmp rfl) .nil,rfl,y⟩
       ·refine ci hm (fun hm=>?_) (fun hm=>?_)
        ·refine sp ?_;exact⟨(x0 == 2),_,⟨hm,(Ext.refl _),h,rfl⟩,rfl⟩
        ·refine sq<|rg<|rr 2 ?_;refine rn<|ct (fun(z:Bool) F w9=>z2H fuel z=some r∧Ext k0 w9∧St w w9 []∧F=[(23,.bool z)]) ?_ ?_
         ·rintro z F B0 ⟨hm,O,b0,rfl⟩;unfold z2H at hm;exact⟨z,_,⟨hm,O,b0,rfl⟩,rfl⟩
         ·refine ci hm (fun hm=>?_) (fun hm=>?_)
          ·refine sp ?_;exact⟨(x0 == 3),_,⟨hm,(Ext.refl _),h,rfl⟩,rfl⟩
          ·refine sq<|rg<|rr 2 ?_;refine rn<|ct (fun(G:Bool) F w9=>z2G fuel G=some r∧Ext k0 w9∧St w w9 []∧F=[(23,.bool G)]) ?_ ?_
           ·rintro G F C0 ⟨hm,X,c0,rfl⟩;unfold z2G at hm;exact⟨G,_,⟨hm,X,c0,rfl⟩,rfl⟩
           ·refine ci hm (fun hm=>?_) (fun hm=>?_)
            ·refine sp ?_;exact⟨(x0 == 4),_,⟨hm,(Ext.refl _),h,rfl⟩,rfl⟩
            ·refine rg<|rr 2 ?_;refine rn ?_;exact⟨(x0 == 7),_,⟨hm,(Ext.refl _),h,rfl⟩,rfl⟩
     ·refine ci hm (fun hm=>?_) (fun hm=>?_)
      ·refine sp ?_;exact⟨(x0 == 8),_,⟨hm,(Ext.refl _),o,rfl⟩,rfl⟩
      ·refine sq<|rg<|rr 2 ?_;refine rn<|ct (fun(H:Bool) F w9=>z2F fuel x0 H=some r∧Ext p0 w9∧St w w9 []∧F=[(13,.int .i64 x0),(19,.bool H)]) ?_ ?_
       ·rintro H F D0 ⟨hm,Y,d0,rfl⟩;unfold z2F at hm;exact⟨H,_,⟨hm,Y,d0,rfl⟩,rfl⟩
       ·refine ci hm (fun hm=>?_) (fun hm=>?_)
        ·refine sp ?_;exact⟨(x0 == 10),_,⟨hm,(Ext.refl _),o,rfl⟩,rfl⟩
        ·refine rg<|rr 2 ?_;refine rn ?_;exact⟨(x0 == 11),_,⟨hm,(Ext.refl _),o,rfl⟩,rfl⟩
   ·refine ci hm (fun hm=>?_) (fun hm=>?_)
    ·refine sp ?_;exact⟨(x0 == 1),_,⟨hm,(Ext.refl _),hS,rfl⟩,rfl⟩
    ·refine sq<|rg<|rr 2 ?_;refine rn<|ct (fun(L:Bool) F w9=>z2E fuel x0 L=some r∧Ext w w9∧St w w9 []∧F=[(13,.int .i64 x0),(14,.bool L)]) ?_ ?_
     ·rintro L F E0 ⟨hm,Z,e0,rfl⟩;unfold z2E at hm;exact⟨L,_,⟨hm,Z,e0,rfl⟩,rfl⟩
     ·refine ci hm (fun hm=>?_) (fun hm=>?_)
      ·refine sp ?_;exact⟨(x0 == 5),_,⟨hm,(Ext.refl _),hS,rfl⟩,rfl⟩
      ·refine sq<|rg<|rr 2 ?_;refine rn<|ct (fun(M:Bool) F w9=>z2D fuel x0 M=some r∧Ext w w9∧St w w9 []∧F=[(13,.int .i64 x0),(14,.bool M)]) ?_ ?_
       ·rintro M F F0 ⟨hm,a0,f0,rfl⟩;unfold z2D at hm;exact⟨M,_,⟨hm,a0,f0,rfl⟩,rfl⟩
       ·refine ci hm (fun hm=>?_) (fun hm=>?_)
        ·refine sp ?_;exact⟨(x0 == 6),_,⟨hm,(Ext.refl _),hS,rfl⟩,rfl⟩
        ·refine rg<|rr 2 ?_;refine rn ?_;exact⟨(x0 == 12),_,⟨hm,(Ext.refl _),hS,rfl⟩,rfl⟩

theorem zbT:Enters Tryz.prog 162:=⟨_,_,Tryz.func162,rfl,by kernel_rfl⟩
def z2t (fuel:Nat) (t1:Bool):Option Bool:=(if t1=true then some true else some false)
def z2s (fuel:Nat) (t6:Bool):Option Bool:=z2t fuel t6
def z2r (fuel:Nat) (h:Bool):Option Bool:=z2s fuel h
def z2q (fuel:Nat) (h:Bool):Option Bool:=z2r fuel h
def z2p (fuel:Nat) (h:Bool):Option Bool:=z2q fuel h
def z2o (fuel:Nat) (h:Bool):Option Bool:=z2p fuel h
def z2n (fuel:Nat) (h:Bool):Option Bool:=z2o fuel h
def z2m (fuel:Nat) (h:Bool):Option Bool:=z2n fuel h
def z3M (fuel:Nat) (x0:Int):Option (Bool):=(if(x0 == 2)=true then z2t fuel (x0 == 2) else(if(x0 == 3)=true then z2s fuel (x0 == 3) else(if(x0 == 4)=true then z2r fuel (x0 == 4) else(if(x0 == 7)=true then z2q fuel (x0 == 7) else(if(x0 == 8)=true then z2p fuel (x0 == 8) else(if(x0 == 9)=true then z2o fuel (x0 == 9) else(if(x0 == 10)=true then z2n fuel (x0 == 10) else(if(x0 == 11)=true then z2m fuel (x0 == 11) else z2m fuel (x0 == 12)))))))))

theorem z75 {W w:World}(hE:Ext W w){x0:Int}  {fuel:Nat}{r:Bool}(hm:z3M fuel x0=some r):
  Calls Tryz.prog 162 ⟨[.int .i64 x0]⟩ w (Ret fun v w8=>v=.bool r∧St w w8 []):=by
 refine into Tryz.func162 14 _ ?_;unfold z3M at hm;have hS:=St.start w;refine sq<|rg<|rr 1 ?_;refine rn<|sq<|sq<|rg<|rr 1 ?_;refine rn<|bk<|sq<|sq<|rg<|rr 2 ?_;refine rn<|ct (fun(t1:Bool) F w9=>z2t fuel t1=some r∧Ext w w9∧St w w9 []∧F=[(4,.bool t1)]) ?_ ?_
 ·rintro t1 F w4 ⟨hm,k0,i0,rfl⟩;unfold z2t at hm;refine ci hm (fun hm=>?_) (fun hm=>?_)
  ·refine sq<|rg<|rr 1 ?_;refine rn<|rt ?_;cases hm;exact⟨_,.cons (.tmp rfl) .nil,rfl,i0⟩
  ·refine sp<|sq<|rg<|rr 1 ?_;refine rn<|rt ?_;cases hm;exact⟨_,.cons (.tmp rfl) .nil,rfl,i0⟩
 ·refine ci hm (fun hm=>?_) (fun hm=>?_)
  ·refine sp ?_;exact⟨(x0 == 2),_,⟨hm,(Ext.refl _),hS,rfl⟩,rfl⟩
  ·refine sq<|rg<|rr 2 ?_;refine rn<|ct (fun(t6:Bool) F w9=>z2s fuel t6=some r∧Ext w w9∧St w w9 []∧F=[(4,.bool t6)]) ?_ ?_
   ·rintro t6 F o0 ⟨hm,j0,a0,rfl⟩;unfold z2s at hm;exact⟨t6,_,⟨hm,j0,a0,rfl⟩,rfl⟩
   ·refine ci hm (fun hm=>?_) (fun hm=>?_)
    ·refine sp ?_;exact⟨(x0 == 3),_,⟨hm,(Ext.refl _),hS,rfl⟩,rfl⟩
    ·refine sq<|rg<|rr 2 ?_;refine rn<|ct (fun(h:Bool) F w9=>z2r fuel h=some r∧Ext w w9∧St w w9 []∧F=[(4,.bool h)]) ?_ ?_
     ·rintro h F p0 ⟨hm,L,b0,rfl⟩;unfold z2r at hm;exact⟨h,_,⟨hm,L,b0,rfl⟩,rfl⟩
     ·refine ci hm (fun hm=>?_) (fun hm=>?_)
      ·refine sp ?_;exact⟨(x0 == 4),_,⟨hm,(Ext.refl _),hS,rfl⟩,rfl⟩
      ·refine sq<|rg<|rr 2 ?_;refine rn<|ct (fun(o:Bool) F w9=>z2q fuel o=some r∧Ext w w9∧St w w9 []∧F=[(4,.bool o)]) ?_ ?_
       ·rintro o F q0 ⟨hm,M,c0,rfl⟩;unfold z2q at hm;exact⟨o,_,⟨hm,M,c0,rfl⟩,rfl⟩
       ·refine ci hm (fun hm=>?_) (fun hm=>?_)
        ·refine sp ?_;exact⟨(x0 == 7),_,⟨hm,(Ext.refl _),hS,rfl⟩,rfl⟩
        ·refine sq<|rg<|rr 2 ?_;refine rn<|ct (fun(y:Bool) F w9=>z2p fuel y=some r∧Ext w w9∧St w w9 []∧F=[(4,.bool y)]) ?_ ?_
         ·rintro y F r0 ⟨hm,O,d0,rfl⟩;unfold z2p at hm;exact⟨y,_,⟨hm,O,d0,rfl⟩,rfl⟩
         ·refine ci hm (fun hm=>?_) (fun hm=>?_)
          ·refine sp ?_;exact⟨(x0 == 8),_,⟨hm,(Ext.refl _),hS,rfl⟩,rfl⟩
          ·refine sq<|rg<|rr 2 ?_;refine rn<|ct (fun(z:Bool) F w9=>z2o fuel z=some r∧Ext w w9∧St w w9 []∧F=[(4,.bool z)]) ?_ ?_
           ·rintro z F t0 ⟨hm,X,e0,rfl⟩;unfold z2o at hm;exact⟨z,_,⟨hm,X,e0,rfl⟩,rfl⟩
           ·refine ci hm (fun hm=>?_) (fun hm=>?_)
            ·refine sp ?_;exact⟨(x0 == 9),_,⟨hm,(Ext.refl _),hS,rfl⟩,rfl⟩
            ·refine sq<|rg<|rr 2 ?_;refine rn<|ct (fun(G:Bool) F w9=>z2n fuel G=some r∧Ext w w9∧St w w9 []∧F=[(4,.bool G)]) ?_ ?_
             ·rintro G F u0 ⟨hm,Y,f0,rfl⟩;unfold z2n at hm;exact⟨G,_,⟨hm,Y,f0,rfl⟩,rfl⟩
             ·refine ci hm (fun hm=>?_) (fun hm=>?_)
              ·refine sp ?_;exact⟨(x0 == 10),_,⟨hm,(Ext.refl _),hS,rfl⟩,rfl⟩
              ·refine sq<|rg<|rr 2 ?_;refine rn<|ct (fun(H:Bool) F w9=>z2m fuel H=some r∧Ext w w9∧St w w9 []∧F=[(4,.bool H)]) ?_ ?_
               ·rintro H F v0 ⟨hm,Z,g0,rfl⟩;unfold z2m at hm;exact⟨H,_,⟨hm,Z,g0,rfl⟩,rfl⟩
               ·refine ci hm (fun hm=>?_) (fun hm=>?_)
                ·refine sp ?_;exact⟨(x0 == 11),_,⟨hm,(Ext.refl _),hS,rfl⟩,rfl⟩
                ·refine rg<|rr 2 ?_;refine rn ?_;exact⟨(x0 == 12),_,⟨hm,(Ext.refl _),hS,rfl⟩,rfl⟩

theorem zbA:Enters Tryz.prog 206:=⟨_,_,Tryz.func206,rfl,by kernel_rfl⟩
def z4T (fuel:Nat) (x0:Int):Option (Bool):=((zg fuel x0 1 12).bind fun r1=>some r1)

theorem z7q {W w:World}(hE:Ext W w){x0:Int}  {fuel:Nat}{r:Bool}(hm:z4T fuel x0=some r):
  Calls Tryz.prog 206 ⟨[.int .i64 x0]⟩ w (Ret fun v w8=>v=.bool r∧St w w8 []):=by
 refine into Tryz.func206 5 _ ?_;unfold z4T at hm;have hS:=St.start w;refine sq<|rg<|rr 1 ?_;refine rn<|sq<|rg<|rr 1 ?_;obtain⟨r1,z,hm⟩:=bS hm;refine ca z2c (zj (hE.trans hS.ext)  z) (fun v3 w4 h=>?_);obtain⟨rfl,o⟩:=h;have y:=hS.join o;refine rr 1 ?_;refine rn<|rt ?_;cases hm;exact⟨_,.cons (.tmp rfl) .nil,rfl,y⟩

theorem zbJ:Enters Tryz.prog 186:=⟨_,_,Tryz.func186,rfl,by kernel_rfl⟩
def z3L (fuel:Nat) (x0:Int) (x1:Int):Option (Bool):=((z3M fuel x0).bind fun r1=>(if r1=true then((zg fuel x1 0 8).bind fun h=>some h) else((z4T fuel x0).bind fun o=>(if o=true then some (x1 == 0) else some false))))

theorem z74 {W w:World}(hE:Ext W w){x0:Int}{x1:Int}  {fuel:Nat}{r:Bool}(hm:z3L fuel x0 x1=some r):
  Calls Tryz.prog 186 ⟨[.int .i64 x0,.int .i64 x1]⟩ w (Ret fun v w8=>v=.bool r∧St w w8 []):=by
 refine into Tryz.func186 15 _ ?_;unfold z3L at hm;have hS:=St.start w;refine sq<|rg<|rr 1 ?_;refine rn<|sq<|sq<|rg<|rr 1 ?_;obtain⟨r1,Z,hm⟩:=bS hm;refine ca zbT (z75 (hE.trans hS.ext)  Z) (fun v3 w4 X=>?_);obtain⟨rfl,Y⟩:=X;have o:=hS.join Y;refine rn<|ci hm (fun hm=>?_) (fun hm=>?_)
 ·refine sq<|rg<|rr 1 ?_;obtain⟨a0,M,hm⟩:=bS hm;refine ca z2c (zj (hE.trans o.ext)  M) (fun c0 e0 y=>?_);obtain⟨rfl,z⟩:=y;have L:=o.join z;refine rr 1 ?_;refine rn<|rt ?_;cases hm;exact⟨_,.cons (.tmp rfl) .nil,rfl,L⟩
 ·refine sp<|sq<|rg<|rr 1 ?_;obtain⟨b0,O,hm⟩:=bS hm;refine ca zbA (z7q (hE.trans o.ext)  O) (fun d0 f0 G=>?_);obtain⟨rfl,H⟩:=G;have h:=o.join H;refine rr 1 ?_;refine rb 11 hm (fun hm=>?_) (fun hm=>?_)
  ·refine rr 4 ?_;refine rn<|rt ?_;cases hm;exact⟨_,.cons (.tmp rfl) .nil,rfl,h⟩
  ·refine rr 4 ?_;refine rn<|rt ?_;cases hm;exact⟨_,.cons (.tmp rfl) .nil,rfl,h⟩

theorem z9s:Enters Tryz.prog 207:=⟨_,_,Tryz.func207,rfl,by kernel_rfl⟩
def z40 (fuel:Nat) (x0:Int):Option (Bool):=((zg fuel x0 0 23).bind fun r1=>some r1)

theorem z6n {W w:World}(hE:Ext W w){x0:Int}  {fuel:Nat}{r:Bool}(hm:z40 fuel x0=some r):
  Calls Tryz.prog 207 ⟨[.int .i64 x0]⟩ w (Ret fun v w8=>v=.bool r∧St w w8 []):=by
 refine into Tryz.func207 5 _ ?_;unfold z40 at hm;have hS:=St.start w;refine sq<|rg<|rr 1 ?_;refine rn<|sq<|rg<|rr 1 ?_;obtain⟨r1,z,hm⟩:=bS hm;refine ca z2c (zj (hE.trans hS.ext)  z) (fun v3 w4 h=>?_);obtain⟨rfl,o⟩:=h;have y:=hS.join o;refine rr 1 ?_;refine rn<|rt ?_;cases hm;exact⟨_,.cons (.tmp rfl) .nil,rfl,y⟩

theorem zbH:Enters Tryz.prog 187:=⟨_,_,Tryz.func187,rfl,by kernel_rfl⟩
def z4c (fuel:Nat) (h:Unit):Option Bool:=some true
def z1H (fuel:Nat) (x0:D.Agent) (h:Int):Option (Rd (Int) (Unit) (Bool)):=(if(decide (h<(x0.Data.length:Int)))=true then((idx x0.Data h).bind fun y=>((z40 fuel y).bind fun o=>(if(!o)=true then some (.ret false) else some (.next (w64 (h+1)))))) else some (.brk ()))
def zo (fuel:Nat) (x0:D.Agent) (h:Bool):Option Bool:=(if h=true then some false else((iter (z1H fuel x0) fuel 0).bind fun o=>aft o (z4c fuel)))
def z16 (fuel:Nat) (x0:D.Agent) (y:Bool):Option Bool:=(if y=true then(if(x0.Value != 0)=true then zo fuel x0 true else(if(x0.Kind == 11)=true then(if((x0.Data.length:Int) != 2)=true then zo fuel x0 true else(if(x0.Kind == 10)=true then((zg fuel (x0.Data.length:Int) 1 4).bind fun h=>zo fuel x0 (!h)) else zo fuel x0 false)) else(if(x0.Kind == 10)=true then((zg fuel (x0.Data.length:Int) 1 4).bind fun o=>zo fuel x0 (!o)) else zo fuel x0 false))) else(if(x0.Value == 0)=true then some ((x0.Data.length:Int) == 0) else some false))
def zq (fuel:Nat) (x0:D.Agent):Option (Bool):=(if(x0.Kind == 6)=true then(if((x0.Data.length:Int) == 0)=true then((zg fuel x0.Value (-2147483648) 2147483647).bind fun h=>some h) else some false) else(if(x0.Kind == 7)=true then(if((x0.Data.length:Int) == 0)=true then((zg fuel x0.Value 1 6).bind fun o=>some o) else some false) else(if(x0.Kind == 8)=true then(if((x0.Data.length:Int) == 1)=true then((zg fuel x0.Value 1 6).bind fun y=>(if y=true then((idx x0.Data 0).bind fun L=>((zg fuel L (-2147483648) 2147483647).bind fun z=>some z)) else some false)) else some false) else(if(x0.Kind == 9)=true then(if((x0.Data.length:Int) == 0)=true then((zg fuel x0.Value 0 3).bind fun G=>some G) else some false) else(if(x0.Kind == 12)=true then(if((x0.Data.length:Int) == 0)=true then((z40 fuel x0.Value).bind fun H=>some H) else some false) else(if(x0.Kind == 10)=true then z16 fuel x0 (x0.Kind == 10) else z16 fuel x0 (x0.Kind == 11)))))))

theorem z6s {W w:World}(hE:Ext W w){i0:Addr}{i1:List Value}{x0:D.Agent}(t1:z4B.ro W i1 x0) (y:At W i0 i1){fuel:Nat}{r:Bool}(hm:zq fuel x0=some r):
  Calls Tryz.prog 187 ⟨[.pointer (some i0)]⟩ w (Ret fun v w8=>v=.bool r∧St w w8 []):=by
 obtain⟨A1,k2,A4,k5,e7,h3,h6⟩:=z1Y t1;subst e7;refine into Tryz.func187 162 _ ?_;unfold zq at hm;have hS:=St.start w;refine sq<|rg<|rr 1 ?_;refine rn<|sq<|sq<|rg<|rr 3 ?_;refine l1 (At.ext (hE.trans hS.ext) y) 0 ?_;refine rn<|bk<|sq<|rg<|rr 2 ?_;refine rn<|ci hm (fun hm=>?_) (fun hm=>?_)
 ·refine sq<|rg<|rr 3 ?_;refine l1 (At.ext (hE.trans hS.ext) y) 3 ?_;refine rr 3 ?_;refine rb 16 hm (fun hm=>?_) (fun hm=>?_)
  ·refine rr 3 ?_;refine l1 (At.ext (hE.trans hS.ext) y) 2 ?_;obtain⟨M1,P0,hm⟩:=bS hm;refine ca z2c (zj (hE.trans hS.ext)  P0) (fun T1 d2 j0=>?_);obtain⟨rfl,k0⟩:=j0;have C0:=hS.join k0;refine rr 2 ?_;refine rn<|rt ?_;cases hm;exact⟨_,.cons (.tmp rfl) .nil,rfl,C0⟩
  ·refine rr 7 ?_;refine rn<|rt ?_;cases hm;exact⟨_,.cons (.tmp rfl) .nil,rfl,hS⟩
 ·refine sq<|rg<|rr 2 ?_;refine rn<|ci hm (fun hm=>?_) (fun hm=>?_)
  ·refine sq<|rg<|rr 3 ?_;refine l1 (At.ext (hE.trans hS.ext) y) 3 ?_;refine rr 3 ?_;refine rb 31 hm (fun hm=>?_) (fun hm=>?_)
   ·refine rr 3 ?_;refine l1 (At.ext (hE.trans hS.ext) y) 2 ?_;obtain⟨N1,Q0,hm⟩:=bS hm;refine ca z2c (zj (hE.trans hS.ext)  Q0) (fun U1 e2 o0=>?_);obtain⟨rfl,p0⟩:=o0;have D0:=hS.join p0;refine rr 2 ?_;refine rn<|rt ?_;cases hm;exact⟨_,.cons (.tmp rfl) .nil,rfl,D0⟩
   ·refine rr 7 ?_;refine rn<|rt ?_;cases hm;exact⟨_,.cons (.tmp rfl) .nil,rfl,hS⟩
  ·refine sq<|rg<|rr 2 ?_;refine rn<|ci hm (fun hm=>?_) (fun hm=>?_)
   ·refine sq<|rg<|rr 3 ?_;refine l1 (At.ext (hE.trans hS.ext) y) 3 ?_;refine rr 3 ?_;refine rb 46 hm (fun hm=>?_) (fun hm=>?_)
    ·refine rr 3 ?_;refine l1 (At.ext (hE.trans hS.ext) y) 2 ?_;obtain⟨O1,R0,hm⟩:=bS hm;refine ca z2c (zj (hE.trans hS.ext)  R0) (fun V1 g2 q0=>?_);obtain⟨rfl,r0⟩:=q0;have G:=hS.join r0;refine rr 2 ?_;refine rb 53 hm (fun hm=>?_) (fun hm=>?_)
     ·refine rr 3 ?_;refine l1 (At.ext (hE.trans G.ext) y) 3 ?_;obtain⟨p2,S0,hm⟩:=bS hm;refine ix (hE.trans G.ext) h3 S0 (fun K1 n1 J0 N0=>?_);cases N0;refine l1 (At.ext (hE.trans G.ext) J0) 0 ?_;obtain⟨P1,T0,hm⟩:=bS hm;refine ca z2c (zj (hE.trans G.ext)  T0) (fun W1 i2 t0=>?_);obtain⟨rfl,u0⟩:=t0;have E0:=G.join u0;refine rr 2 ?_;refine rn<|rt ?_;cases hm;exact⟨_,.cons (.tmp rfl) .nil,rfl,E0⟩
     ·refine rr 9 ?_;refine rn<|rt ?_;cases hm;exact⟨_,.cons (.tmp rfl) .nil,rfl,G⟩
    ·refine rr 16 ?_;refine rn<|rt ?_;cases hm;exact⟨_,.cons (.tmp rfl) .nil,rfl,hS⟩
   ·refine sq<|rg<|rr 2 ?_;refine rn<|ci hm (fun hm=>?_) (fun hm=>?_)
    ·refine sq<|rg<|rr 3 ?_;refine l1 (At.ext (hE.trans hS.ext) y) 3 ?_;refine rr 3 ?_;refine rb 70 hm (fun hm=>?_) (fun hm=>?_)
     ·refine rr 3 ?_;refine l1 (At.ext (hE.trans hS.ext) y) 2 ?_;obtain⟨Q1,U0,hm⟩:=bS hm;refine ca z2c (zj (hE.trans hS.ext)  U0) (fun X1 j2 v0=>?_);obtain⟨rfl,y0⟩:=v0;have F0:=hS.join y0;refine rr 2 ?_;refine rn<|rt ?_;cases hm;exact⟨_,.cons (.tmp rfl) .nil,rfl,F0⟩
     ·refine rr 7 ?_;refine rn<|rt ?_;cases hm;exact⟨_,.cons (.tmp rfl) .nil,rfl,hS⟩
    ·refine sq<|rg<|rr 2 ?_;refine rn<|ci hm (fun hm=>?_) (fun hm=>?_)
     ·refine sq<|rg<|rr 3 ?_;refine l1 (At.ext (hE.trans hS.ext) y) 3 ?_;refine rr 3 ?_;refine rb 85 hm (fun hm=>?_) (fun hm=>?_)
      ·refine rr 3 ?_;refine l1 (At.ext (hE.trans hS.ext) y) 2 ?_;obtain⟨R1,V0,hm⟩:=bS hm;refine ca z9s (z6n (hE.trans hS.ext)  V0) (fun Y1 m2 A0=>?_);obtain⟨rfl,B0⟩:=A0;have G0:=hS.join B0;refine rr 2 ?_;refine rn<|rt ?_;cases hm;exact⟨_,.cons (.tmp rfl) .nil,rfl,G0⟩
      ·refine rr 7 ?_;refine rn<|rt ?_;cases hm;exact⟨_,.cons (.tmp rfl) .nil,rfl,hS⟩
     ·refine sq<|sq<|rg<|rr 2 ?_;refine rn<|ct (fun(e1:Bool) F w9=>z16 fuel x0 e1=some r∧Ext w w9∧St w w9 []∧F=[(0,.pointer (some i0)),(92,.bool e1)]) ?_ ?_
      ·rintro e1 F H1 ⟨hm,u1,h,rfl⟩;unfold z16 at hm;refine ci hm (fun hm=>?_) (fun hm=>?_)
       ·refine sq<|sq<|ct (fun(g1:Bool) F w9=>zo fuel x0 g1=some r∧Ext H1 w9∧St w w9 []∧F=[(0,.pointer (some i0)),(130,.bool g1)]) ?_ ?_
        ·rintro g1 F m1 ⟨hm,v1,d0,rfl⟩;unfold zo at hm;refine ci hm (fun hm=>?_) (fun hm=>?_)
         ·refine sq<|rg<|rr 1 ?_;refine rn<|rt ?_;cases hm;exact⟨_,.cons (.tmp rfl) .nil,rfl,d0⟩
         ·refine sp<|sq<|sq<|rg<|rr 1 ?_;refine rn ?_;obtain⟨B1,L0,hm⟩:=bS hm;refine ct (fun(k1:Unit) F w9=>B1=.inl k1∧Ext m1 w9∧St w w9 []∧F=[]) ?_ ?_
          ·rintro k1 F n2 ⟨M0,y1,H0,rfl⟩;subst M0;rw [z3] at hm;unfold z4c at hm;refine sq<|rg<|rr 1 ?_;refine rn<|rt ?_;cases hm;exact⟨_,.cons (.tmp rfl) .nil,rfl,H0⟩
          ·refine bk<|wk [0,3] ?_;refine it (fun(j1:Int) F w9=>Ext m1 w9∧St w w9 []∧F=[(0,.pointer (some i0)),(3,.int .i64 j1)]) L0 ⟨(Ext.refl _),d0,rfl⟩ ?_;rintro j1 F o2 _ J1 ⟨X,z,rfl⟩ o e0;unfold z1H at o;refine sq<|sq<|rg<|rr 4 ?_;refine l1 (At.ext (hE.trans z.ext) y) 3 ?_;refine rr 2 ?_;refine rn<|ci o (fun o=>?_) (fun o=>?_)
           ·refine sp<|sq<|bk<|sq<|rg<|rr 3 ?_;refine l1 (At.ext (hE.trans z.ext) y) 3 ?_;refine rr 1 ?_;obtain⟨q2,X0,o⟩:=bS o;refine ix (hE.trans z.ext) h3 X0 (fun L1 p1 K0 O0=>?_);cases O0;refine l1 (At.ext (hE.trans z.ext) K0) 0 ?_;obtain⟨S1,Y0,o⟩:=bS o;refine ca z9s (z6n (hE.trans z.ext)  Y0) (fun a2 E1 Y=>?_);obtain⟨rfl,H⟩:=Y;have O:=z.join H;refine rr 1 ?_;refine rn<|ci o (fun o=>?_) (fun o=>?_)
            ·refine sq<|rg<|rr 1 ?_;refine rn<|rt ?_;cases o;cases e0;have hm:some _=some _:=hm;cases hm;exact⟨_,.cons (.tmp rfl) .nil,rfl,O⟩
            ·refine sp<|rg<|rr 3 ?_;refine rn ?_;cases o;exact⟨_,_,rfl,⟨(X.trans H.ext),O,rfl⟩,rfl⟩
           ·refine xt ?_;cases o;exact⟨_,_,⟨e0,X,z,rfl⟩,rfl⟩
        ·refine rg<|rr 3 ?_;refine l1 (At.ext (hE.trans h.ext) y) 2 ?_;refine rr 2 ?_;refine rb 100 hm (fun hm=>?_) (fun hm=>?_)
         ·refine rr 30 ?_;refine rn ?_;exact⟨true,_,⟨hm,(Ext.refl _),h,rfl⟩,rfl⟩
         ·refine rr 3 ?_;refine l1 (At.ext (hE.trans h.ext) y) 0 ?_;refine rr 2 ?_;refine rb 106 hm (fun hm=>?_) (fun hm=>?_)
          ·refine rr 3 ?_;refine l1 (At.ext (hE.trans h.ext) y) 3 ?_;refine rr 5 ?_;refine rb 115 hm (fun hm=>?_) (fun hm=>?_)
           ·refine rr 15 ?_;refine rn ?_;exact⟨true,_,⟨hm,(Ext.refl _),h,rfl⟩,rfl⟩
           ·refine rr 3 ?_;refine l1 (At.ext (hE.trans h.ext) y) 0 ?_;refine rr 2 ?_;refine rb 121 hm (fun hm=>?_) (fun hm=>?_)
            ·refine rr 3 ?_;refine l1 (At.ext (hE.trans h.ext) y) 3 ?_;refine rr 1 ?_;obtain⟨a1,f0,hm⟩:=bS hm;refine ca z2c (zj (hE.trans h.ext)  f0) (fun C1 F1 Z=>?_);obtain⟨rfl,L⟩:=Z;have b0:=h.join L;refine rr 3 ?_;refine rn ?_;exact⟨!a1,_,⟨hm,L.ext,b0,rfl⟩,rfl⟩
            ·refine rr 9 ?_;refine rn ?_;exact⟨false,_,⟨hm,(Ext.refl _),h,rfl⟩,rfl⟩
          ·refine rr 12 ?_;refine l1 (At.ext (hE.trans h.ext) y) 0 ?_;refine rr 2 ?_;refine rb 121 hm (fun hm=>?_) (fun hm=>?_)
           ·refine rr 3 ?_;refine l1 (At.ext (hE.trans h.ext) y) 3 ?_;refine rr 1 ?_;obtain⟨d1,g0,hm⟩:=bS hm;refine ca z2c (zj (hE.trans h.ext)  g0) (fun D1 G1 a0=>?_);obtain⟨rfl,M⟩:=a0;have c0:=h.join M;refine rr 3 ?_;refine rn ?_;exact⟨!d1,_,⟨hm,M.ext,c0,rfl⟩,rfl⟩
           ·refine rr 9 ?_;refine rn ?_;exact⟨false,_,⟨hm,(Ext.refl _),h,rfl⟩,rfl⟩
       ·refine sp<|sq<|rg<|rr 3 ?_;refine l1 (At.ext (hE.trans h.ext) y) 2 ?_;refine rr 2 ?_;refine rb 154 hm (fun hm=>?_) (fun hm=>?_)
        ·refine rr 3 ?_;refine l1 (At.ext (hE.trans h.ext) y) 3 ?_;refine rr 4 ?_;refine rn<|rt ?_;cases hm;exact⟨_,.cons (.tmp rfl) .nil,rfl,h⟩
        ·refine rr 8 ?_;refine rn<|rt ?_;cases hm;exact⟨_,.cons (.tmp rfl) .nil,rfl,h⟩
      ·refine ci hm (fun hm=>?_) (fun hm=>?_)
       ·refine sp ?_;exact⟨(x0.Kind == 10),_,⟨hm,(Ext.refl _),hS,rfl⟩,rfl⟩
       ·refine rg<|rr 2 ?_;refine rn ?_;exact⟨(x0.Kind == 11),_,⟨hm,(Ext.refl _),hS,rfl⟩,rfl⟩

theorem zbU:Enters Tryz.prog 160:=⟨_,_,Tryz.func160,rfl,by kernel_rfl⟩
def z3K (fuel:Nat) (x0:D.Agent):Option (Bool):=((z3i fuel x0).bind fun o=>((z2w fuel x0.Kind o).bind fun h=>(if(decide (h>0))=true then(if((x0.Ports.length:Int) == h)=true then((z3L fuel x0.Kind x0.Level).bind fun y=>(if y=true then((zq fuel x0).bind fun z=>some z) else some false)) else some false) else some false)))

theorem z73 {W w:World}(hE:Ext W w){p0:Addr}{o0:List Value}{x0:D.Agent}(a0:z4B.ro W o0 x0) (H:At W p0 o0){fuel:Nat}{r:Bool}(hm:z3K fuel x0=some r):
  Calls Tryz.prog 160 ⟨[.pointer (some p0)]⟩ w (Ret fun v w8=>v=.bool r∧St w w8 []):=by
 obtain⟨A1,k2,A4,k5,e7,h3,h6⟩:=z1Y a0;subst e7;refine into Tryz.func160 37 _ ?_;unfold z3K at hm;have hS:=St.start w;refine sq<|rg<|rr 1 ?_;refine rn<|sq<|dn 0 mixed 8 [([],255),([0],254),([1],253),([2],251),([],255),([4],239),([3,5,5],215),([6,6,0,1,2,3,4,5,6],191)] hS.ext (fun o=>?_);have Y:=hS.step (Ext.draw _);refine dr 4 o [0,1,2,4] ?_;refine dl o 3 (At.ext (hE.trans hS.ext) H) 0 ?_;obtain⟨q0,g0,hm⟩:=bS hm;refine o1 o 5 (mc o zbK (z6J (hE.trans Y.ext) a0 H g0) (fun v0 C0 b0=>?_));obtain⟨rfl,L⟩:=b0;refine⟨L.ext,?_⟩;have Z:=Y.join L;obtain⟨r0,i0,hm⟩:=bS hm;refine o1 o 6 (mc o zbL (z7r (hE.trans Z.ext)  i0) (fun y0 D0 c0=>?_));obtain⟨rfl,M⟩:=c0;refine⟨M.ext,?_⟩;have y:=Z.join M;refine dr 0 o [7] ?_;refine dw [0,3] ?_;refine dd o ?_;refine sq<|dn 0 mixed 27 [([],134217727),([0],134217726),([1],134217725),([2],134217723),([3,2],134217715),([4,2],134217707),([5,2],134217691),([6,2],134217659),([2],134217723),([7,8,2],134217339),([2,9],134217211),([10,2],134216703),([11],134215679),([12,11],134211583),([13,11],134207487),([14,11],134199295),([11],134215679),([16,11],134150143),([17,11],134084607),([18,11],133953535),([15,19,11,11],133658623),([11,20],133167103),([21,20],132120575),([22],130023423),([23,22,22],121634815),([22,24],113246207),([25,24,0,1,2,3,4,5,6,7,8,9,10,11,12,13,14,15,16,17,18,19,20,21,22,23,24,25],100663295)] y.ext (fun h=>?_);have z:=y.step (Ext.draw _);refine dr 24 h [0,1,2] ?_;refine db 13 hm (fun hm=>?_) (fun hm=>?_)
 ·refine dr 20 h [3,4,5,8] ?_;refine dl h 6 (At.ext (hE.trans y.ext) H) 4 ?_;refine dr 15 h [7,9,10,11] ?_;refine dw [0,22] ?_;refine db 22 hm (fun hm=>?_) (fun hm=>?_)
  ·refine dr 9 h [12,13,14,16,17,18] ?_;refine dl h 15 (At.ext (hE.trans y.ext) H) 0 ?_;refine dl h 19 (At.ext (hE.trans y.ext) H) 1 ?_;obtain⟨t0,j0,hm⟩:=bS hm;refine o1 h 20 (mc h zbJ (z74 (hE.trans z.ext)  j0) (fun A0 E0 d0=>?_));obtain⟨rfl,O⟩:=d0;refine⟨O.ext,?_⟩;have G:=z.join O;refine dr 4 h [21,22] ?_;refine dw [0,33] ?_;refine db 33 hm (fun hm=>?_) (fun hm=>?_)
   ·refine dr 3 h [23] ?_;obtain⟨u0,k0,hm⟩:=bS hm;refine o1 h 24 (mc h zbH (z6s (hE.trans G.ext) a0 H k0) (fun B0 F0 e0=>?_));obtain⟨rfl,X⟩:=e0;refine⟨X.ext,?_⟩;have f0:=G.join X;refine dr 0 h [25,26] ?_;refine dd h ?_;refine rt ?_;cases hm;exact⟨_,.cons (.tmp rfl) .nil,rfl,f0⟩
   ·refine dr 0 h [23,24,25,26] ?_;refine dd h ?_;refine rt ?_;cases hm;exact⟨_,.cons (.tmp rfl) .nil,rfl,G⟩
  ·refine dr 0 h [12,13,14,15,16,17,18,19,20,21,22,23,24,25,26] ?_;refine dw [2] ?_;refine dd h ?_;refine rt ?_;cases hm;exact⟨_,.cons (.tmp rfl) .nil,rfl,z⟩
 ·refine dr 0 h [3,4,5,6,7,8,9,10,11,12,13,14,15,16,17,18,19,20,21,22,23,24,25,26] ?_;refine dw [2] ?_;refine dd h ?_;refine rt ?_;cases hm;exact⟨_,.cons (.tmp rfl) .nil,rfl,z⟩

theorem zbF:Enters Tryz.prog 191:=⟨_,_,Tryz.func191,rfl,by kernel_rfl⟩
def z3T (fuel:Nat) (x0:Int) (x1:Int):Option (Int):=(if(x0 == 9)=true then some (w64 (x1 - 1)) else some 0)

theorem z77 {W w:World}(hE:Ext W w){x0:Int}{x1:Int}  {fuel:Nat}{r:Int}(hm:z3T fuel x0 x1=some r):
  Calls Tryz.prog 191 ⟨[.int .i64 x0,.int .i64 x1]⟩ w (Ret fun v w8=>v=.int .i64 r∧St w w8 []):=by
 refine into Tryz.func191 9 _ ?_;unfold z3T at hm;have hS:=St.start w;refine sq<|rg<|rr 1 ?_;refine rn<|sq<|sq<|rg<|rr 2 ?_;refine rn<|ci hm (fun hm=>?_) (fun hm=>?_)
 ·refine sq<|rg<|rr 3 ?_;refine rn<|rt ?_;cases hm;exact⟨_,.cons (.tmp rfl) .nil,rfl,hS⟩
 ·refine sp<|sq<|rg<|rr 1 ?_;refine rn<|rt ?_;cases hm;exact⟨_,.cons (.tmp rfl) .nil,rfl,hS⟩

theorem z7S:Enters Tryz.prog 208:=⟨_,_,Tryz.func208,rfl,by kernel_rfl⟩
def z35 (fuel:Nat) (x0:Int):Option (Bool):=(if(decide (x0≥1))=true then some (decide (x0≤12)) else some false)

theorem z5C {W w:World}(hE:Ext W w){x0:Int}  {fuel:Nat}{r:Bool}(hm:z35 fuel x0=some r):
  Calls Tryz.prog 208 ⟨[.int .i64 x0]⟩ w (Ret fun v w8=>v=.bool r∧St w w8 []):=by
 refine into Tryz.func208 9 _ ?_;unfold z35 at hm;have hS:=St.start w;refine sq<|rg<|rr 1 ?_;refine rn<|sq<|rg<|rr 3 ?_;refine rb 5 hm (fun hm=>?_) (fun hm=>?_)
 ·refine rr 4 ?_;refine rn<|rt ?_;cases hm;exact⟨_,.cons (.tmp rfl) .nil,rfl,hS⟩
 ·refine rr 4 ?_;refine rn<|rt ?_;cases hm;exact⟨_,.cons (.tmp rfl) .nil,rfl,hS⟩

theorem zbG:Enters Tryz.prog 190:=⟨_,_,Tryz.func190,rfl,by kernel_rfl⟩
def zW (fuel:Nat) (x0:Int) (t6:Bool):Option Int:=(if t6=true then some 0 else((idx ([0,1,3,3,3,1,1,3,2,0,2,2,1]:List Int) x0).bind fun h=>some h))
def z1B (fuel:Nat) (x0:Int) (x1:Int) (t1:Bool):Option Int:=(if t1=true then some (w64 (x1+1)) else((z35 fuel x0).bind fun h=>(if(!h)=true then zW fuel x0 true else(if(x0 == 9)=true then zW fuel x0 true else zW fuel x0 (x1 != 0)))))
def z3w (fuel:Nat) (x0:Int) (x1:Int):Option (Int):=(if(x0 == 9)=true then(if(decide (x1≥0))=true then z1B fuel x0 x1 (decide (x1≤3)) else z1B fuel x0 x1 false) else z1B fuel x0 x1 false)

theorem z7M {W w:World}(hE:Ext W w){x0:Int}{x1:Int}  {fuel:Nat}{r:Int}(hm:z3w fuel x0 x1=some r):
  Calls Tryz.prog 190 ⟨[.int .i64 x0,.int .i64 x1]⟩ w (Ret fun v w8=>v=.int .i64 r∧St w w8 []):=by
 refine into Tryz.func190 33 _ ?_;unfold z3w at hm;have hS:=St.start w;refine sq<|rg<|rr 1 ?_;refine rn<|sq<|bk<|sq<|ct (fun(t1:Bool) F w9=>z1B fuel x0 x1 t1=some r∧Ext w w9∧St w w9 []∧F=[(0,.int .i64 x0),(1,.int .i64 x1),(5,.bool t1)]) ?_ ?_
 ·rintro t1 F w4 ⟨hm,M,H,rfl⟩;unfold z1B at hm;refine ci hm (fun hm=>?_) (fun hm=>?_)
  ·refine sq<|rg<|rr 3 ?_;refine rn<|rt ?_;cases hm;exact⟨_,.cons (.tmp rfl) .nil,rfl,H⟩
  ·refine sq<|ct (fun(t6:Bool) F w9=>zW fuel x0 t6=some r∧Ext w4 w9∧St w w9 []∧F=[(0,.int .i64 x0),(18,.bool t6)]) ?_ ?_
   ·rintro t6 F Z ⟨hm,O,y,rfl⟩;unfold zW at hm;refine ci hm (fun hm=>?_) (fun hm=>?_)
    ·refine sq<|rg<|rr 1 ?_;refine rn<|rt ?_;cases hm;exact⟨_,.cons (.tmp rfl) .nil,rfl,y⟩
    ·refine sp<|sq<|rg<|qt (qBuildK (cs:=[.int .i64 0,.int .i64 1,.int .i64 3,.int .i64 3,.int .i64 3,.int .i64 1,.int .i64 1,.int .i64 3,.int .i64 2,.int .i64 0,.int .i64 2,.int .i64 2,.int .i64 1])) ?_;refine rr 1 ?_;obtain⟨b0,z,hm⟩:=bS hm;refine qt (Quiet.arrIdx ttok (xs:=([0,1,3,3,3,1,1,3,2,0,2,2,1]:List Int)) (e:=2) rfl (by kernel_rfl) rfl rfl rfl rfl rfl rfl (z1q z).1 (z1q z).2) ?_;refine rr 1 ?_;refine rn<|rt ?_;cases hm;exact⟨_,.cons (.tmp rfl) .nil,rfl,y⟩
   ·refine rg<|rr 1 ?_;obtain⟨X,L,hm⟩:=bS hm;refine ca z7S (z5C (hE.trans H.ext)  L) (fun Y a0 G=>?_);obtain⟨rfl,h⟩:=G;have o:=H.join h;refine rr 2 ?_;refine rb 22 hm (fun hm=>?_) (fun hm=>?_)
    ·refine rr 8 ?_;refine rn ?_;exact⟨true,_,⟨hm,h.ext,o,rfl⟩,rfl⟩
    ·refine rr 4 ?_;refine rb 26 hm (fun hm=>?_) (fun hm=>?_)
     ·refine rr 4 ?_;refine rn ?_;exact⟨true,_,⟨hm,h.ext,o,rfl⟩,rfl⟩
     ·refine rr 4 ?_;refine rn ?_;exact⟨(x1 != 0),_,⟨hm,h.ext,o,rfl⟩,rfl⟩
 ·refine rg<|rr 3 ?_;refine rb 8 hm (fun hm=>?_) (fun hm=>?_)
  ·refine rr 4 ?_;refine rb 12 hm (fun hm=>?_) (fun hm=>?_)
   ·refine rr 4 ?_;refine rn ?_;exact⟨decide (x1≤3),_,⟨hm,(Ext.refl _),hS,rfl⟩,rfl⟩
   ·refine rr 4 ?_;refine rn ?_;exact⟨false,_,⟨hm,(Ext.refl _),hS,rfl⟩,rfl⟩
  ·refine rr 8 ?_;refine rn ?_;exact⟨false,_,⟨hm,(Ext.refl _),hS,rfl⟩,rfl⟩

theorem zbB:Enters Tryz.prog 205:=⟨_,_,Tryz.func205,rfl,by kernel_rfl⟩
def z3U (fuel:Nat) (x0:Int):Option (Bool):=((z35 fuel x0).bind fun r1=>(if r1=true then(if(x0 != 1)=true then(if(x0 != 5)=true then some (x0 != 6) else some false) else some false) else some false))

theorem z78 {W w:World}(hE:Ext W w){x0:Int}  {fuel:Nat}{r:Bool}(hm:z3U fuel x0=some r):
  Calls Tryz.prog 205 ⟨[.int .i64 x0]⟩ w (Ret fun v w8=>v=.bool r∧St w w8 []):=by
 refine into Tryz.func205 17 _ ?_;unfold z3U at hm;have hS:=St.start w;refine sq<|rg<|rr 1 ?_;refine rn<|sq<|rg<|rr 1 ?_;obtain⟨r1,z,hm⟩:=bS hm;refine ca z7S (z5C (hE.trans hS.ext)  z) (fun v3 w4 o=>?_);obtain⟨rfl,y⟩:=o;have h:=hS.join y;refine rr 1 ?_;refine rb 5 hm (fun hm=>?_) (fun hm=>?_)
 ·refine rr 4 ?_;refine rb 9 hm (fun hm=>?_) (fun hm=>?_)
  ·refine rr 4 ?_;refine rb 13 hm (fun hm=>?_) (fun hm=>?_)
   ·refine rr 4 ?_;refine rn<|rt ?_;cases hm;exact⟨_,.cons (.tmp rfl) .nil,rfl,h⟩
   ·refine rr 4 ?_;refine rn<|rt ?_;cases hm;exact⟨_,.cons (.tmp rfl) .nil,rfl,h⟩
  ·refine rr 8 ?_;refine rn<|rt ?_;cases hm;exact⟨_,.cons (.tmp rfl) .nil,rfl,h⟩
 ·refine rr 12 ?_;refine rn<|rt ?_;cases hm;exact⟨_,.cons (.tmp rfl) .nil,rfl,h⟩

theorem zbz:Enters Tryz.prog 209:=⟨_,_,Tryz.func209,rfl,by kernel_rfl⟩
def z4t (fuel:Nat) (x0:Int):Option (Bool):=(if(decide (x0≥0))=true then some (decide (x0≤8)) else some false)

theorem z7L {W w:World}(hE:Ext W w){x0:Int}  {fuel:Nat}{r:Bool}(hm:z4t fuel x0=some r):
  Calls Tryz.prog 209 ⟨[.int .i64 x0]⟩ w (Ret fun v w8=>v=.bool r∧St w w8 []):=by
 refine into Tryz.func209 9 _ ?_;unfold z4t at hm;have hS:=St.start w;refine sq<|rg<|rr 1 ?_;refine rn<|sq<|rg<|rr 3 ?_;refine rb 5 hm (fun hm=>?_) (fun hm=>?_)
 ·refine rr 4 ?_;refine rn<|rt ?_;cases hm;exact⟨_,.cons (.tmp rfl) .nil,rfl,hS⟩
 ·refine rr 4 ?_;refine rn<|rt ?_;cases hm;exact⟨_,.cons (.tmp rfl) .nil,rfl,hS⟩

theorem zbE:Enters Tryz.prog 192:=⟨_,_,Tryz.func192,rfl,by kernel_rfl⟩
def z3r (fuel:Nat) (x0:Int) (x1:Int):Option (Bool):=((z35 fuel x0).bind fun r1=>(if r1=true then(if(x1 == 0)=true then some true else((z3U fuel x0).bind fun h=>(if h=true then((z4t fuel x1).bind fun o=>some o) else some false))) else some false))

theorem z6R {W w:World}(hE:Ext W w){x0:Int}{x1:Int}  {fuel:Nat}{r:Bool}(hm:z3r fuel x0 x1=some r):
  Calls Tryz.prog 192 ⟨[.int .i64 x0,.int .i64 x1]⟩ w (Ret fun v w8=>v=.bool r∧St w w8 []):=by
 refine into Tryz.func192 19 _ ?_;unfold z3r at hm;have hS:=St.start w;refine sq<|rg<|rr 1 ?_;refine rn<|sq<|rg<|rr 1 ?_;obtain⟨r1,Z,hm⟩:=bS hm;refine ca z7S (z5C (hE.trans hS.ext)  Z) (fun v3 w4 X=>?_);obtain⟨rfl,Y⟩:=X;have o:=hS.join Y;refine rr 1 ?_;refine rb 7 hm (fun hm=>?_) (fun hm=>?_)
 ·refine rr 3 ?_;refine rb 10 hm (fun hm=>?_) (fun hm=>?_)
  ·refine rr 9 ?_;refine rn<|rt ?_;cases hm;exact⟨_,.cons (.tmp rfl) .nil,rfl,o⟩
  ·refine rr 1 ?_;obtain⟨a0,M,hm⟩:=bS hm;refine ca zbB (z78 (hE.trans o.ext)  M) (fun c0 e0 y=>?_);obtain⟨rfl,z⟩:=y;have h:=o.join z;refine rr 1 ?_;refine rb 13 hm (fun hm=>?_) (fun hm=>?_)
   ·refine rr 1 ?_;obtain⟨b0,O,hm⟩:=bS hm;refine ca zbz (z7L (hE.trans h.ext)  O) (fun d0 f0 G=>?_);obtain⟨rfl,H⟩:=G;have L:=h.join H;refine rr 4 ?_;refine rn<|rt ?_;cases hm;exact⟨_,.cons (.tmp rfl) .nil,rfl,L⟩
   ·refine rr 6 ?_;refine rn<|rt ?_;cases hm;exact⟨_,.cons (.tmp rfl) .nil,rfl,h⟩
 ·refine rr 12 ?_;refine rn<|rt ?_;cases hm;exact⟨_,.cons (.tmp rfl) .nil,rfl,o⟩

theorem zby:Enters Tryz.prog 210:=⟨_,_,Tryz.func210,rfl,by kernel_rfl⟩
def z1k (fuel:Nat) (t2:Unit):Option Int:=some (-1)
def zt (fuel:Nat) (x0:(List Int)) (x1:Int→Option Bool) (s1:Int):Option (Rd (Int) (Unit) (Int)):=(if(decide (s1<(x0.length:Int)))=true then((idx x0 s1).bind fun o=>((x1 o).bind fun h=>(if h=true then some (.ret s1) else some (.next (w64 (s1+1)))))) else some (.brk ()))
def z18 (fuel:Nat) (x0:(List Int)) (x1:Int→Option Bool):Option (Int):=((iter (zt fuel x0 x1) fuel 0).bind fun o=>aft o (z1k fuel))

theorem z4S {W w:World}(hE:Ext W w){H:Option Addr}{c0:Nat}{x0:(List Int)}{f1_:Nat}{u1_:List Value}{x1:Int→Option Bool}(g0:ty80.ro W [sl H x0 c0] x0) (d0:Enters Tryz.prog f1_∧∀ {w9:World},Ext W w9→∀ {z0:Int}{y9:Bool},x1 z0=some y9→Calls Tryz.prog f1_ ⟨[.int .i64 z0]++u1_⟩ w9 (Ret fun v w8=>v=.bool y9∧St w9 w8 [])){fuel:Nat}{r:Int}(hm:z18 fuel x0 x1=some r):
  Calls Tryz.prog 210 ⟨[sl H x0 c0,.func (.func f1_) #[] ⟨u1_⟩]⟩ w (Ret fun v w8=>v=.int .i64 r∧St w w8 []):=by
 refine into Tryz.func210 19 _ ?_;unfold z18 at hm;have hS:=St.start w;refine sq<|rg<|rr 1 ?_;refine rn<|sq<|sq<|rg<|rr 3 ?_;refine rn ?_;obtain⟨i0,X,hm⟩:=bS hm;refine ct (fun(t2:Unit) F w9=>i0=.inl t2∧Ext w w9∧St w w9 []∧F=[]) ?_ ?_
 ·rintro t2 F w7 ⟨Y,j0,M,rfl⟩;subst Y;rw [z3] at hm;unfold z1k at hm;refine sq<|rg<|rr 1 ?_;refine rn<|rt ?_;cases hm;exact⟨_,.cons (.tmp rfl) .nil,rfl,M⟩
 ·refine bk<|wk [0,1,7,8] ?_;refine it (fun(s1:Int) F w9=>Ext w w9∧St w w9 []∧F=[(0,sl H x0 c0),(1,.func (.func f1_) #[] ⟨u1_⟩),(7,.int .i64 (x0.length:Int)),(8,.int .i64 s1)]) X ⟨(Ext.refl _),hS,rfl⟩ ?_;rintro s1 F r0 _ k0 ⟨e0,o,rfl⟩ h G;unfold zt at h;refine sq<|rg<|rr 1 ?_;refine rn<|sq<|ci h (fun h=>?_) (fun h=>?_)
  ·refine sp<|sq<|bk<|sq<|rg<|rr 2 ?_;refine rn<|sq<|rg<|rr 3 ?_;obtain⟨u0,a0,h⟩:=bS h;refine ix (hE.trans o.ext) g0 a0 (fun o0 f0 O Z=>?_);cases Z;refine l1 (At.ext (hE.trans o.ext) O) 0 ?_;obtain⟨p0,b0,h⟩:=bS h;refine ca d0.1 (d0.2 (hE.trans o.ext)  b0) (fun q0 t0 L=>?_);obtain⟨rfl,y⟩:=L;have z:=o.join y;refine rn<|ci h (fun h=>?_) (fun h=>?_)
   ·refine sq<|rg<|rr 2 ?_;refine rn<|rt ?_;cases h;cases G;have hm:some _=some _:=hm;cases hm;exact⟨_,.cons (.tmp rfl) .nil,rfl,z⟩
   ·refine sp<|rg<|rr 2 ?_;refine rn ?_;cases h;exact⟨_,_,rfl,⟨(e0.trans y.ext),z,rfl⟩,rfl⟩
  ·refine xt ?_;cases h;exact⟨_,_,⟨G,e0,o,rfl⟩,rfl⟩

theorem zbD:Enters Tryz.prog 193:=⟨_,_,Tryz.func193,rfl,by kernel_rfl⟩
def zu (fuel:Nat) (x0:(List Int)) (x1:Int→Option Bool):Option (Bool):=((z18 fuel x0 x1).bind fun r1=>some (decide (r1≥0)))

theorem z4y {W w:World}(hE:Ext W w){h:Option Addr}{o:Nat}{x0:(List Int)}{f1_:Nat}{u1_:List Value}{x1:Int→Option Bool}(y:ty80.ro W [sl h x0 o] x0) (z:Enters Tryz.prog f1_∧∀ {w9:World},Ext W w9→∀ {z0:Int}{y9:Bool},x1 z0=some y9→Calls Tryz.prog f1_ ⟨[.int .i64 z0]++u1_⟩ w9 (Ret fun v w8=>v=.bool y9∧St w9 w8 [])){fuel:Nat}{r:Bool}(hm:zu fuel x0 x1=some r):
  Calls Tryz.prog 193 ⟨[sl h x0 o,.func (.func f1_) #[] ⟨u1_⟩]⟩ w (Ret fun v w8=>v=.bool r∧St w w8 []):=by
 refine into Tryz.func193 9 _ ?_;unfold zu at hm;have hS:=St.start w;refine sq<|rg<|rr 1 ?_;refine rn<|sq<|rg<|rr 2 ?_;obtain⟨r1,M,hm⟩:=bS hm;refine ca zby (z4S (hE.trans hS.ext) y z M) (fun v3 w4 G=>?_);obtain⟨rfl,H⟩:=G;have L:=hS.join H;refine rr 2 ?_;refine rn<|rt ?_;cases hm;exact⟨_,.cons (.tmp rfl) .nil,rfl,L⟩

theorem z9v:Enters Tryz.prog 195:=⟨_,_,Tryz.func195,rfl,by kernel_rfl⟩
def z27 (fuel:Nat) (x0:Int):Option (Bool):=(if(decide (x0≥0))=true then some (decide (x0<24)) else some false)

theorem z5A {W w:World}(hE:Ext W w){x0:Int}  {fuel:Nat}{r:Bool}(hm:z27 fuel x0=some r):
  Calls Tryz.prog 195 ⟨[.int .i64 x0]⟩ w (Ret fun v w8=>v=.bool r∧St w w8 []):=by
 refine into Tryz.func195 9 _ ?_;unfold z27 at hm;have hS:=St.start w;refine sq<|rg<|rr 1 ?_;refine rn<|sq<|rg<|rr 3 ?_;refine rb 5 hm (fun hm=>?_) (fun hm=>?_)
 ·refine rr 4 ?_;refine rn<|rt ?_;cases hm;exact⟨_,.cons (.tmp rfl) .nil,rfl,hS⟩
 ·refine rr 4 ?_;refine rn<|rt ?_;cases hm;exact⟨_,.cons (.tmp rfl) .nil,rfl,hS⟩

theorem zbC:Enters Tryz.prog 194:=⟨_,_,Tryz.func194,rfl,by kernel_rfl⟩
def z2A (fuel:Nat) (x0:Int):Option (Bool):=((z27 fuel x0).bind fun r1=>some (!r1))

theorem z6a {W w:World}(hE:Ext W w){x0:Int}  {fuel:Nat}{r:Bool}(hm:z2A fuel x0=some r):
  Calls Tryz.prog 194 ⟨[.int .i64 x0]⟩ w (Ret fun v w8=>v=.bool r∧St w w8 []):=by
 refine into Tryz.func194 6 _ ?_;unfold z2A at hm;have hS:=St.start w;refine sq<|rg<|rr 1 ?_;refine rn<|sq<|rg<|rr 1 ?_;obtain⟨r1,z,hm⟩:=bS hm;refine ca z9v (z5A (hE.trans hS.ext)  z) (fun v3 w4 h=>?_);obtain⟨rfl,o⟩:=h;have y:=hS.join o;refine rr 2 ?_;refine rn<|rt ?_;cases hm;exact⟨_,.cons (.tmp rfl) .nil,rfl,y⟩

theorem z9u:Enters Tryz.prog 196:=⟨_,_,Tryz.func196,rfl,by kernel_rfl⟩
def z4w (fuel:Nat) (x0:Int):Option (Bool):=(if(decide (x0≥(-2147483648)))=true then some (decide (x0≤2147483647)) else some false)

theorem z6B {W w:World}(hE:Ext W w){x0:Int}  {fuel:Nat}{r:Bool}(hm:z4w fuel x0=some r):
  Calls Tryz.prog 196 ⟨[.int .i64 x0]⟩ w (Ret fun v w8=>v=.bool r∧St w w8 []):=by
 refine into Tryz.func196 9 _ ?_;unfold z4w at hm;have hS:=St.start w;refine sq<|rg<|rr 1 ?_;refine rn<|sq<|rg<|rr 3 ?_;refine rb 5 hm (fun hm=>?_) (fun hm=>?_)
 ·refine rr 4 ?_;refine rn<|rt ?_;cases hm;exact⟨_,.cons (.tmp rfl) .nil,rfl,hS⟩
 ·refine rr 4 ?_;refine rn<|rt ?_;cases hm;exact⟨_,.cons (.tmp rfl) .nil,rfl,hS⟩

theorem z9t:Enters Tryz.prog 197:=⟨_,_,Tryz.func197,rfl,by kernel_rfl⟩
def z26 (fuel:Nat) (x0:Int):Option (Bool):=(if(decide (x0≥1))=true then some (decide (x0≤6)) else some false)

theorem z5z {W w:World}(hE:Ext W w){x0:Int}  {fuel:Nat}{r:Bool}(hm:z26 fuel x0=some r):
  Calls Tryz.prog 197 ⟨[.int .i64 x0]⟩ w (Ret fun v w8=>v=.bool r∧St w w8 []):=by
 refine into Tryz.func197 9 _ ?_;unfold z26 at hm;have hS:=St.start w;refine sq<|rg<|rr 1 ?_;refine rn<|sq<|rg<|rr 3 ?_;refine rb 5 hm (fun hm=>?_) (fun hm=>?_)
 ·refine rr 4 ?_;refine rn<|rt ?_;cases hm;exact⟨_,.cons (.tmp rfl) .nil,rfl,hS⟩
 ·refine rr 4 ?_;refine rn<|rt ?_;cases hm;exact⟨_,.cons (.tmp rfl) .nil,rfl,hS⟩

theorem zbS:Enters Tryz.prog 166:=⟨_,_,Tryz.func166,rfl,by kernel_rfl⟩
def z1R (fuel:Nat) (h:Bool × Bool):Option Bool:=(if h.1=true then some h.2 else some false)
def z1Q (fuel:Nat) (h:Bool × Bool):Option Bool:=z1R fuel (h.1,h.2)
def z1P (fuel:Nat) (h:Bool × Bool):Option Bool:=z1Q fuel (h.1,h.2)
def z1O (fuel:Nat) (x0:D.Agent) (h:Bool):Option Bool:=z1P fuel (h,((x0.Data.length:Int) == 0))
def z1N (fuel:Nat) (h:Bool × Bool):Option Bool:=z1P fuel (h.1,h.2)
def z1t (fuel:Nat) (x0:D.Agent) (h:Bool):Option Bool:=z1N fuel ((x0.Value == 0),h)
def z1M (fuel:Nat) (h:Bool × Bool):Option Bool:=z1N fuel (h.1,h.2)
def z1L (fuel:Nat) (x0:D.Agent) (h:Bool):Option Bool:=z1M fuel ((x0.Value == 0),h)
def z1E (fuel:Nat) (x0:D.Agent) (h:Bool):Option Bool:=z1M fuel (h,((x0.Data.length:Int) == 0))
def z17 (fuel:Nat) (x0:D.Agent) (L:Bool):Option Bool:=(if L=true then some false else((zu fuel x0.Data (fun y0=>z2A fuel y0)).bind fun o=>(if(x0.Kind == 6)=true then((z4w fuel x0.Value).bind fun y=>z1R fuel (y,((x0.Data.length:Int) == 0))) else(if(x0.Kind == 7)=true then((z26 fuel x0.Value).bind fun z=>z1Q fuel (z,((x0.Data.length:Int) == 0))) else(if(x0.Kind == 8)=true then((z26 fuel x0.Value).bind fun G=>(if G=true then(if((x0.Data.length:Int) == 1)=true then((idx x0.Data 0).bind fun M=>((z4w fuel M).bind fun H=>some H)) else some false) else some false)) else(if(x0.Kind == 9)=true then(if(decide (x0.Value≥0))=true then z1O fuel x0 (decide (x0.Value<4)) else z1O fuel x0 false) else(if(x0.Kind == 10)=true then(if(decide ((x0.Data.length:Int)≥1))=true then(if(decide ((x0.Data.length:Int)≤4))=true then z1t fuel x0 (!o) else z1t fuel x0 false) else z1t fuel x0 false) else(if(x0.Kind == 11)=true then(if((x0.Data.length:Int) == 2)=true then z1L fuel x0 (!o) else z1L fuel x0 false) else(if(x0.Kind == 12)=true then((z27 fuel x0.Value).bind fun h=>z1E fuel x0 h) else z1E fuel x0 (x0.Value == 0))))))))))
def z2R (fuel:Nat) (x0:D.Agent):Option (Bool):=(if((x0.Ports.length:Int) == 0)=true then z17 fuel x0 true else((z3T fuel x0.Kind (x0.Ports.length:Int)).bind fun h=>((z3w fuel x0.Kind h).bind fun o=>(if(o != (x0.Ports.length:Int))=true then z17 fuel x0 true else((z3r fuel x0.Kind x0.Level).bind fun y=>z17 fuel x0 (!y))))))

theorem z6A {W w:World}(hE:Ext W w){K1:List Value}{x0:D.Agent}(O1:z4B.ro W K1 x0){fuel:Nat}{r:Bool}(hm:z2R fuel x0=some r):
  Calls Tryz.prog 166 ⟨[.agg ⟨K1⟩]⟩ w (Ret fun v w8=>v=.bool r∧St w w8 []):=by
 obtain⟨A1,k2,A4,k5,e7,h3,h6⟩:=z1Y O1;subst e7;refine into Tryz.func166 117 _ ?_;unfold z2R at hm;have hS:=St.start w;refine sq<|rg<|nw hS (fun L1 g2 p2 y=>?_);refine rr 1 ?_;refine rn<|sq<|sq<|ct (fun(J1:Bool) F w9=>z17 fuel x0 J1=some r∧Ext g2 w9∧St w w9 [Box L1 [.int .i64 x0.Kind,.int .i64 x0.Level,.int .i64 x0.Value,sl A1 x0.Data k2,sl A4 x0.Ports k5] 148]∧F=[(1,.pointer (some ⟨L1,0,none⟩)),(32,.bool J1)]) ?_ ?_
 ·rintro J1 F C2 ⟨hm,P1,Y,rfl⟩;unfold z17 at hm;refine ci hm (fun hm=>?_) (fun hm=>?_)
  ·refine sq<|rg<|rr 1 ?_;refine rn<|rt ?_;cases hm;exact⟨_,.cons (.tmp rfl) .nil,rfl,(Y.taken 0)⟩
  ·refine sp<|sq<|dn 0 mixed 9 [([],511),([0],510),([1],509),([],511),([3],503),([4],495),([5],479),([2,0,1,2],507),([6,7,0,1,2,3,4,5,6,7],447)] Y.ext (fun L=>?_);have e0:=Y.step (Ext.draw _);refine dr 7 L [0,3] ?_;refine dl L 1 ((Y.bring 0 rfl).box) 2 ?_;refine dr 4 L [2,7] ?_;refine dl L 4 ((Y.bring 0 rfl).box) 3 ?_;refine dr 0 L [5,6,8] ?_;refine dw [1,3,4] ?_;refine dd L ?_;refine sq<|rg<|rr 1 ?_;refine l1 ((e0.bring 0 rfl).box) 3 ?_;obtain⟨M1,y1,hm⟩:=bS hm;refine ca zbD (z4y (hE.trans e0.ext) h3 ⟨zbC,fun e9=>(fun  R1=>z6a (Ext.refl _)  R1)⟩ y1) (fun u2 b0 T0=>?_);obtain⟨rfl,U0⟩:=T0;have o:=e0.join U0;refine rr 2 ?_;refine rn<|sq<|sq<|rg<|rr 1 ?_;refine l1 ((o.bring 0 rfl).box) 0 ?_;refine rn<|bk<|sq<|rg<|rr 2 ?_;refine rn<|ct (fun(L0:Bool × Bool) F w9=>z1R fuel L0=some r∧Ext b0 w9∧St w w9 []∧F=[(3,.bool L0.1),(4,.bool L0.2)]) ?_ ?_
   ·rintro L0 F D2 ⟨hm,Q1,F0,rfl⟩;unfold z1R at hm;refine sq<|rg<|rr 2 ?_;refine rb 114 hm (fun hm=>?_) (fun hm=>?_)
    ·refine rr 3 ?_;refine rn<|rt ?_;cases hm;exact⟨_,.cons (.tmp rfl) .nil,rfl,F0⟩
    ·refine rr 3 ?_;refine rn<|rt ?_;cases hm;exact⟨_,.cons (.tmp rfl) .nil,rfl,F0⟩
   ·refine ci hm (fun hm=>?_) (fun hm=>?_)
    ·refine rg<|rr 1 ?_;refine l1 ((o.bring 0 rfl).box) 2 ?_;obtain⟨U1,B1,hm⟩:=bS hm;refine ca z9u (z6B (hE.trans o.ext)  B1) (fun v2 E2 V0=>?_);obtain⟨rfl,v0⟩:=V0;have g1:=o.join v0;refine rr 1 ?_;refine rn ?_;exact⟨(U1,((x0.Data.length:Int) == 0)),_,⟨hm,v0.ext,(g1.taken 0),rfl⟩,rfl⟩
    ·refine sq<|rg<|rr 2 ?_;refine rn<|ct (fun(f0:Bool × Bool) F w9=>z1Q fuel f0=some r∧Ext b0 w9∧St w w9 []∧F=[(3,.bool f0.1),(4,.bool f0.2)]) ?_ ?_
     ·rintro f0 F F2 ⟨hm,O0,i1,rfl⟩;unfold z1Q at hm;exact⟨(f0.1,f0.2),_,⟨hm,O0,i1,rfl⟩,rfl⟩
     ·refine ci hm (fun hm=>?_) (fun hm=>?_)
      ·refine rg<|rr 1 ?_;refine l1 ((o.bring 0 rfl).box) 2 ?_;obtain⟨V1,C1,hm⟩:=bS hm;refine ca z9t (z5z (hE.trans o.ext)  C1) (fun y2 G2 X0=>?_);obtain⟨rfl,y0⟩:=X0;have j1:=o.join y0;refine rr 1 ?_;refine rn ?_;exact⟨(V1,((x0.Data.length:Int) == 0)),_,⟨hm,y0.ext,(j1.taken 0),rfl⟩,rfl⟩
      ·refine sq<|rg<|rr 2 ?_;refine rn<|ci hm (fun hm=>?_) (fun hm=>?_)
       ·refine sq<|rg<|rr 1 ?_;refine l1 ((o.bring 0 rfl).box) 2 ?_;obtain⟨r2,D1,hm⟩:=bS hm;refine ca z9t (z5z (hE.trans o.ext)  D1) (fun A2 H2 Y0=>?_);obtain⟨rfl,a1⟩:=Y0;have z:=o.join a1;refine rr 1 ?_;refine rb 61 hm (fun hm=>?_) (fun hm=>?_)
        ·refine rr 1 ?_;refine l1 ((z.bring 0 rfl).box) 3 ?_;refine rr 4 ?_;refine rb 67 hm (fun hm=>?_) (fun hm=>?_)
         ·refine rr 1 ?_;refine l1 ((z.bring 0 rfl).box) 3 ?_;obtain⟨O2,E1,hm⟩:=bS hm;refine ix (hE.trans z.ext) h3 E1 (fun q2 N1 u1 v1=>?_);cases v1;refine l1 (At.ext (hE.trans z.ext) u1) 0 ?_;obtain⟨t2,F1,hm⟩:=bS hm;refine ca z9u (z6B (hE.trans z.ext)  F1) (fun B2 J2 d1=>?_);obtain⟨rfl,e1⟩:=d1;have k1:=z.join e1;refine rr 2 ?_;refine rn<|rt ?_;cases hm;exact⟨_,.cons (.tmp rfl) .nil,rfl,(k1.taken 0)⟩
         ·refine rr 7 ?_;refine rn<|rt ?_;cases hm;exact⟨_,.cons (.tmp rfl) .nil,rfl,(z.taken 0)⟩
        ·refine rr 13 ?_;refine rn<|rt ?_;cases hm;exact⟨_,.cons (.tmp rfl) .nil,rfl,(z.taken 0)⟩
       ·refine sq<|rg<|rr 2 ?_;refine rn<|ct (fun(g0:Bool × Bool) F w9=>z1P fuel g0=some r∧Ext b0 w9∧St w w9 []∧F=[(3,.bool g0.1),(4,.bool g0.2)]) ?_ ?_
        ·rintro g0 F K2 ⟨hm,P0,m1,rfl⟩;unfold z1P at hm;exact⟨(g0.1,g0.2),_,⟨hm,P0,m1,rfl⟩,rfl⟩
        ·refine ci hm (fun hm=>?_) (fun hm=>?_)
         ·refine ct (fun(M0:Bool) F w9=>z1O fuel x0 M0=some r∧Ext b0 w9∧St w w9 []∧F=[(3,.bool M0),(4,.bool ((x0.Data.length:Int) == 0))]) ?_ ?_
          ·rintro M0 F L2 ⟨hm,Q0,n1,rfl⟩;unfold z1O at hm;exact⟨(M0,((x0.Data.length:Int) == 0)),_,⟨hm,Q0,n1,rfl⟩,rfl⟩
          ·refine rg<|rr 1 ?_;refine l1 ((o.bring 0 rfl).box) 2 ?_;refine rr 2 ?_;refine rb 79 hm (fun hm=>?_) (fun hm=>?_)
           ·refine rr 1 ?_;refine l1 ((o.bring 0 rfl).box) 2 ?_;refine rr 3 ?_;refine rn ?_;exact⟨decide (x0.Value<4),_,⟨hm,(Ext.refl _),(o.taken 0),rfl⟩,rfl⟩
           ·refine rr 5 ?_;refine rn ?_;exact⟨false,_,⟨hm,(Ext.refl _),(o.taken 0),rfl⟩,rfl⟩
         ·refine sq<|rg<|rr 2 ?_;refine rn<|ct (fun(i0:Bool × Bool) F w9=>z1N fuel i0=some r∧Ext b0 w9∧St w w9 []∧F=[(3,.bool i0.1),(4,.bool i0.2)]) ?_ ?_
          ·rintro i0 F M2 ⟨hm,R0,p1,rfl⟩;unfold z1N at hm;exact⟨(i0.1,i0.2),_,⟨hm,R0,p1,rfl⟩,rfl⟩
          ·refine ci hm (fun hm=>?_) (fun hm=>?_)
           ·refine ct (fun(N0:Bool) F w9=>z1t fuel x0 N0=some r∧Ext b0 w9∧St w w9 []∧F=[(3,.bool (x0.Value == 0)),(4,.bool N0)]) ?_ ?_
            ·rintro N0 F N2 ⟨hm,S0,t1,rfl⟩;unfold z1t at hm;exact⟨((x0.Value == 0),N0),_,⟨hm,S0,t1,rfl⟩,rfl⟩
            ·refine rg<|rr 1 ?_;refine l1 ((o.bring 0 rfl).box) 3 ?_;refine rr 3 ?_;refine rb 90 hm (fun hm=>?_) (fun hm=>?_)
             ·refine rr 1 ?_;refine l1 ((o.bring 0 rfl).box) 3 ?_;refine rr 4 ?_;refine rb 96 hm (fun hm=>?_) (fun hm=>?_)
              ·refine rr 3 ?_;refine rn ?_;exact⟨!M1,_,⟨hm,(Ext.refl _),(o.taken 0),rfl⟩,rfl⟩
              ·refine rr 3 ?_;refine rn ?_;exact⟨false,_,⟨hm,(Ext.refl _),(o.taken 0),rfl⟩,rfl⟩
             ·refine rr 9 ?_;refine rn ?_;exact⟨false,_,⟨hm,(Ext.refl _),(o.taken 0),rfl⟩,rfl⟩
           ·refine sq<|rg<|rr 2 ?_;refine rn<|ct (fun(j0:Bool × Bool) F w9=>z1M fuel j0=some r∧Ext b0 w9∧St w w9 []∧F=[(3,.bool j0.1),(4,.bool j0.2)]) ?_ ?_
            ·rintro j0 F d2 ⟨hm,k0,A0,rfl⟩;unfold z1M at hm;exact⟨(j0.1,j0.2),_,⟨hm,k0,A0,rfl⟩,rfl⟩
            ·refine ci hm (fun hm=>?_) (fun hm=>?_)
             ·refine ct (fun(Z:Bool) F w9=>z1L fuel x0 Z=some r∧Ext b0 w9∧St w w9 []∧F=[(3,.bool (x0.Value == 0)),(4,.bool Z)]) ?_ ?_
              ·rintro Z F e2 ⟨hm,o0,B0,rfl⟩;unfold z1L at hm;exact⟨((x0.Value == 0),Z),_,⟨hm,o0,B0,rfl⟩,rfl⟩
              ·refine rg<|rr 1 ?_;refine l1 ((o.bring 0 rfl).box) 3 ?_;refine rr 3 ?_;refine rb 105 hm (fun hm=>?_) (fun hm=>?_)
               ·refine rr 3 ?_;refine rn ?_;exact⟨!M1,_,⟨hm,(Ext.refl _),(o.taken 0),rfl⟩,rfl⟩
               ·refine rr 3 ?_;refine rn ?_;exact⟨false,_,⟨hm,(Ext.refl _),(o.taken 0),rfl⟩,rfl⟩
             ·refine sq<|rg<|rr 2 ?_;refine rn<|ct (fun(a0:Bool) F w9=>z1E fuel x0 a0=some r∧Ext b0 w9∧St w w9 []∧F=[(3,.bool a0),(4,.bool ((x0.Data.length:Int) == 0))]) ?_ ?_
              ·rintro a0 F i2 ⟨hm,p0,C0,rfl⟩;unfold z1E at hm;exact⟨(a0,((x0.Data.length:Int) == 0)),_,⟨hm,p0,C0,rfl⟩,rfl⟩
              ·refine ci hm (fun hm=>?_) (fun hm=>?_)
               ·refine rg<|rr 1 ?_;refine l1 ((o.bring 0 rfl).box) 2 ?_;obtain⟨G1,G0,hm⟩:=bS hm;refine ca z9v (z5A (hE.trans o.ext)  G0) (fun W1 j2 q0=>?_);obtain⟨rfl,c0⟩:=q0;have D0:=o.join c0;refine rr 1 ?_;refine rn ?_;exact⟨G1,_,⟨hm,c0.ext,(D0.taken 0),rfl⟩,rfl⟩
               ·refine sp ?_;exact⟨(x0.Value == 0),_,⟨hm,(Ext.refl _),(o.taken 0),rfl⟩,rfl⟩
 ·refine dn 0 mixed 27 [([],134217727),([0],134217726),([1],134217725),([2],134217723),([3],134217719),([4],134217711),([5,4],134217679),([4],134217711),([7,4],134217583),([4],134217711),([9,4],134217199),([10,4],134216687),([8,11,4,4],134215407),([6,12,12,4],134213551),([4],134217711),([14,4],134201327),([15,4],134184943),([13,16,4],134143983),([4,17],134086639),([18,13],133955583),([19],133693439),([20,19],132644863),([19],133693439),([22,19],129499135),([21,23,19,19],123207679),([24,19],116916223),([19,25],100139007)] y.ext (fun h=>?_);have O:=y.step (Ext.draw _);refine dr 26 h [0] ?_;refine dl h 1 ((y.bring 0 rfl).box) 4 ?_;refine dr 22 h [2,3,4] ?_;refine dw [1,10] ?_;refine db 10 hm (fun hm=>?_) (fun hm=>?_)
  ·refine dr 0 h [5,6,7,8,9,10,11,12,13,14,15,16,17,18,19,20,21,22,23,24,25,26] ?_;refine dw [1,32] ?_;refine dd h ?_;exact⟨true,_,⟨hm,(Ext.draw _),O,rfl⟩,rfl⟩
  ·refine dr 18 h [5,7,9,14] ?_;refine dl h 6 ((y.bring 0 rfl).box) 0 ?_;refine dl h 8 ((y.bring 0 rfl).box) 0 ?_;refine dl h 10 ((y.bring 0 rfl).box) 4 ?_;refine dr 14 h [11] ?_;refine dl h 15 ((y.bring 0 rfl).box) 4 ?_;refine dr 12 h [16] ?_;refine dw [1,10,12,14,17,22] ?_;obtain⟨S1,H0,hm⟩:=bS hm;refine o1 h 12 (mc h zbF (z77 (hE.trans O.ext)  H0) (fun X1 m2 r0=>?_));obtain⟨rfl,G⟩:=r0;refine⟨G.ext,?_⟩;have d0:=O.join G;obtain⟨T1,J0,hm⟩:=bS hm;refine o1 h 13 (mc h zbG (z7M (hE.trans d0.ext)  J0) (fun Y1 n2 t0=>?_));obtain⟨rfl,H⟩:=t0;refine⟨H.ext,?_⟩;have X:=d0.join H;refine dr 7 h [17,18,19] ?_;refine dw [1,25] ?_;refine db 25 hm (fun hm=>?_) (fun hm=>?_)
   ·refine dr 0 h [20,21,22,23,24,25,26] ?_;refine dw [1,32] ?_;refine dd h ?_;exact⟨true,_,⟨hm,(((Ext.draw _).trans G.ext).trans H.ext),X,rfl⟩,rfl⟩
   ·refine dr 5 h [20,22] ?_;refine dl h 21 ((y.bring 0 rfl).box) 0 ?_;refine dl h 23 ((y.bring 0 rfl).box) 1 ?_;obtain⟨H1,K0,hm⟩:=bS hm;refine o1 h 24 (mc h zbE (z6R (hE.trans X.ext)  K0) (fun a2 o2 u0=>?_));obtain⟨rfl,M⟩:=u0;refine⟨M.ext,?_⟩;have E0:=X.join M;refine dr 0 h [25,26] ?_;refine dw [1,32] ?_;refine dd h ?_;exact⟨!H1,_,⟨hm,((((Ext.draw _).trans G.ext).trans H.ext).trans M.ext),E0,rfl⟩,rfl⟩

end Go.E


