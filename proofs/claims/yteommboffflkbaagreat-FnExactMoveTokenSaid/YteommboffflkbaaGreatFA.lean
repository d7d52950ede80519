/- Models of functions and proofs that the code runs as they say (written by program). Conditions: the model gives a value. -/
import Derived.Test.YteommboffflkbaaGreatShort
namespace Go.E
open Go.RowKit Go.Proofs
set_option linter.unusedVariables false
set_option linter.unusedSimpArgs false
set_option maxHeartbeats 2000000
set_option maxRecDepth 100000

theorem zkv:Enters Tryz.prog 266:=⟨_,_,Tryz.func266,rfl,by kernel_rfl⟩
def z3D (fuel:Nat) (x0:D.QJ):Option (Int):=(if(x0.Qj == 9)=true then some (w64 ((x0.Qa0.length:Int) - 1)) else some 0)

theorem zdt {W w:World}(hE:Ext W w){o:Addr}{d:List Value}{x0:D.QJ}(q:zcr.ro W d x0) (h:At W o d){fuel:Nat}{r:Int}(hm:z3D fuel x0=some r):
  Calls Tryz.prog 266 ⟨[.pointer (some o)]⟩ w (Ret fun v w8=>v=.int .i64 r∧St w w8 []):=by
 obtain⟨A1,k2,A4,k5,e7,h3,h6⟩:=zce q;subst e7;refine into Tryz.func266 14 _ ?_;unfold z3D at hm;have hS:=St.start w;refine sq<|rg<|rr 1 ?_;refine rn<|sq<|sq<|rg<|rr 3 ?_;refine l1 (At.ext (hE.trans hS.ext) h) 0 ?_;refine rr 1 ?_;refine rn<|ci hm (fun hm=>?_) (fun hm=>?_)
 ·refine sq<|rg<|rr 3 ?_;refine l1 (At.ext (hE.trans hS.ext) h) 4 ?_;refine rr 3 ?_;refine rn<|rt ?_;cases hm;exact⟨_,.cons (.tmp rfl) .nil,rfl,hS⟩
 ·refine sp<|sq<|rg<|rr 1 ?_;refine rn<|rt ?_;cases hm;exact⟨_,.cons (.tmp rfl) .nil,rfl,hS⟩

theorem z2e:Enters Tryz.prog 149:=⟨_,_,Tryz.func149,rfl,by kernel_rfl⟩
def zw (fuel:Nat) (x0:Int) (x1:Int) (x2:Int):Option (Bool):=(if(decide (x0≥x1))=true then some (decide (x0≤x2)) else some false)

theorem zJ {W w:World}(hE:Ext W w){x0:Int}{x1:Int}{x2:Int}  {fuel:Nat}{r:Bool}(hm:zw fuel x0 x1 x2=some r):
  Calls Tryz.prog 149 ⟨[.int .i64 x0,.int .i64 x1,.int .i64 x2]⟩ w (Ret fun v w8=>v=.bool r∧St w w8 []):=by
 refine into Tryz.func149 15 _ ?_;unfold zw at hm;have hS:=St.start w;refine sq<|rg<|rr 1 ?_;refine rn<|sq<|rg<|rr 4 ?_;refine rb 10 hm (fun hm=>?_) (fun hm=>?_)
 ·refine rr 5 ?_;refine rn<|rt ?_;cases hm;exact⟨_,.cons (.tmp rfl) .nil,rfl,hS⟩
 ·refine rr 5 ?_;refine rn<|rt ?_;cases hm;exact⟨_,.cons (.tmp rfl) .nil,rfl,hS⟩

theorem zkw:Enters Tryz.prog 265:=⟨_,_,Tryz.func265,rfl,by kernel_rfl⟩
def z6c (fuel:Nat) (d:Bool):Option Int:=(if d=true then some 3 else some 0)
def z6b (fuel:Nat) (d:Bool):Option Int:=z6c fuel d
def z6a (fuel:Nat) (d:Bool):Option Int:=z6b fuel d
def z6d (fuel:Nat) (x0:Int) (d:Bool):Option Int:=(if d=true then some 2 else(if(x0 == 2)=true then z6c fuel (x0 == 2) else(if(x0 == 3)=true then z6b fuel (x0 == 3) else(if(x0 == 4)=true then z6a fuel (x0 == 4) else z6a fuel (x0 == 7)))))
def z69 (fuel:Nat) (x0:Int) (d:Bool):Option Int:=z6d fuel x0 d
def z6e (fuel:Nat) (x0:Int) (d:Bool):Option Int:=(if d=true then some 1 else(if(x0 == 8)=true then z6d fuel x0 (x0 == 8) else(if(x0 == 10)=true then z69 fuel x0 (x0 == 10) else z69 fuel x0 (x0 == 11))))
def z68 (fuel:Nat) (x0:Int) (d:Bool):Option Int:=z6e fuel x0 d
def z67 (fuel:Nat) (x0:Int) (d:Bool):Option Int:=z68 fuel x0 d
def z5F (fuel:Nat) (x0:Int) (x1:Int):Option (Int):=(if(x0 == 9)=true then((zw fuel x1 0 3).bind fun r1=>(if r1=true then some (w64 (1+x1)) else some 0)) else(if(x1 != 0)=true then some 0 else(if(x0 == 1)=true then z6e fuel x0 (x0 == 1) else(if(x0 == 5)=true then z68 fuel x0 (x0 == 5) else(if(x0 == 6)=true then z67 fuel x0 (x0 == 6) else z67 fuel x0 (x0 == 12))))))

theorem zeG {W w:World}(hE:Ext W w){x0:Int}{x1:Int}  {fuel:Nat}{r:Int}(hm:z5F fuel x0 x1=some r):
  Calls Tryz.prog 265 ⟨[.int .i64 x0,.int .i64 x1]⟩ w (Ret fun v w8=>v=.int .i64 r∧St w w8 []):=by
 refine into Tryz.func265 28 _ ?_;unfold z5F at hm;have hS:=St.start w;refine sq<|rg<|rr 1 ?_;refine rn<|sq<|sq<|rg<|rr 2 ?_;refine rn<|ci hm (fun hm=>?_) (fun hm=>?_)
 ·refine sq<|sq<|rg<|rr 1 ?_;obtain⟨r1,y0,hm⟩:=bS hm;refine ca z2e (zJ (hE.trans hS.ext)  y0) (fun v3 w4 u0=>?_);obtain⟨rfl,v0⟩:=u0;have o0:=hS.join v0;refine rn<|ci hm (fun hm=>?_) (fun hm=>?_)
  ·refine sq<|rg<|rr 3 ?_;refine rn<|rt ?_;cases hm;exact⟨_,.cons (.tmp rfl) .nil,rfl,o0⟩
  ·refine sp<|sq<|rg<|rr 1 ?_;refine rn<|rt ?_;cases hm;exact⟨_,.cons (.tmp rfl) .nil,rfl,o0⟩
 ·refine sp<|sq<|sq<|rg<|rr 2 ?_;refine rn<|ci hm (fun hm=>?_) (fun hm=>?_)
  ·refine sq<|rg<|rr 1 ?_;refine rn<|rt ?_;cases hm;exact⟨_,.cons (.tmp rfl) .nil,rfl,hS⟩
  ·refine sp<|sq<|sq<|rg<|rr 1 ?_;refine rn<|bk<|sq<|sq<|rg<|rr 2 ?_;refine rn<|ct (fun(g0:Bool) F w9=>z6e fuel x0 g0=some r∧Ext w w9∧St w w9 []∧F=[(13,.int .i64 x0),(14,.bool g0)]) ?_ ?_
   ·rintro g0 F p0 ⟨hm,q0,h,rfl⟩;unfold z6e at hm;refine ci hm (fun hm=>?_) (fun hm=>?_)
    ·refine sq<|rg<|rr 1 ?_;refine rn<|rt ?_;cases hm;exact⟨_,.cons (.tmp rfl) .nil,rfl,h⟩
    ·refine sq<|sq<|rg<|rr 2 ?_;refine rn<|ct (fun(i0:Bool) F w9=>z6d fuel x0 i0=some r∧Ext p0 w9∧St w w9 []∧F=[(13,.int .i64 x0),(19,.bool i0)]) ?_ ?_
     ·rintro i0 F k0 ⟨hm,r0,d,rfl⟩;unfold z6d at hm;refine ci hm (fun hm=>?_) (fun hm=>?_)
      ·refine sq<|rg<|rr 1 ?_;refine rn<|rt ?_;cases hm;exact⟨_,.cons (.tmp rfl) .nil,rfl,d⟩
      ·refine sq<|sq<|rg<|rr 2 ?_;refine rn<|ct (fun(j0:Bool) F w9=>z6c fuel j0=some r∧Ext k0 w9∧St w w9 []∧F=[(23,.bool j0)]) ?_ ?_
       ·rintro j0 F A0 ⟨hm,t0,o,rfl⟩;unfold z6c at hm;refine ci hm (fun hm=>?_) (fun hm=>?_)
        ·refine sq<|rg<|rr 1 ?_;refine rn<|rt ?_;cases hm;exact⟨_,.cons (.tmp rfl) .nil,rfl,o⟩
        ·refine sp<|sq<|rg<|rr 1 ?_;refine rn<|rt ?_;cases hm;exact⟨_,.cons (.tmp rfl) .nil,rfl,o⟩
       ·refine ci hm (fun hm=>?_) (fun hm=>?_)
        ·refine sp ?_;exact⟨(x0 == 2),_,⟨hm,(Ext.refl _),d,rfl⟩,rfl⟩
        ·refine sq<|rg<|rr 2 ?_;refine rn<|ct (fun(q:Bool) F w9=>z6b fuel q=some r∧Ext k0 w9∧St w w9 []∧F=[(23,.bool q)]) ?_ ?_
         ·rintro q F B0 ⟨hm,O,a0,rfl⟩;unfold z6b at hm;exact⟨q,_,⟨hm,O,a0,rfl⟩,rfl⟩
         ·refine ci hm (fun hm=>?_) (fun hm=>?_)
          ·refine sp ?_;exact⟨(x0 == 3),_,⟨hm,(Ext.refl _),d,rfl⟩,rfl⟩
          ·refine sq<|rg<|rr 2 ?_;refine rn<|ct (fun(y:Bool) F w9=>z6a fuel y=some r∧Ext k0 w9∧St w w9 []∧F=[(23,.bool y)]) ?_ ?_
           ·rintro y F C0 ⟨hm,S,b0,rfl⟩;unfold z6a at hm;exact⟨y,_,⟨hm,S,b0,rfl⟩,rfl⟩
           ·refine ci hm (fun hm=>?_) (fun hm=>?_)
            ·refine sp ?_;exact⟨(x0 == 4),_,⟨hm,(Ext.refl _),d,rfl⟩,rfl⟩
            ·refine rg<|rr 2 ?_;refine rn ?_;exact⟨(x0 == 7),_,⟨hm,(Ext.refl _),d,rfl⟩,rfl⟩
     ·refine ci hm (fun hm=>?_) (fun hm=>?_)
      ·refine sp ?_;exact⟨(x0 == 8),_,⟨hm,(Ext.refl _),h,rfl⟩,rfl⟩
      ·refine sq<|rg<|rr 2 ?_;refine rn<|ct (fun(G:Bool) F w9=>z69 fuel x0 G=some r∧Ext p0 w9∧St w w9 []∧F=[(13,.int .i64 x0),(19,.bool G)]) ?_ ?_
       ·rintro G F D0 ⟨hm,X,d0,rfl⟩;unfold z69 at hm;exact⟨G,_,⟨hm,X,d0,rfl⟩,rfl⟩
       ·refine ci hm (fun hm=>?_) (fun hm=>?_)
        ·refine sp ?_;exact⟨(x0 == 10),_,⟨hm,(Ext.refl _),h,rfl⟩,rfl⟩
        ·refine rg<|rr 2 ?_;refine rn ?_;exact⟨(x0 == 11),_,⟨hm,(Ext.refl _),h,rfl⟩,rfl⟩
   ·refine ci hm (fun hm=>?_) (fun hm=>?_)
    ·refine sp ?_;exact⟨(x0 == 1),_,⟨hm,(Ext.refl _),hS,rfl⟩,rfl⟩
    ·refine sq<|rg<|rr 2 ?_;refine rn<|ct (fun(H:Bool) F w9=>z68 fuel x0 H=some r∧Ext w w9∧St w w9 []∧F=[(13,.int .i64 x0),(14,.bool H)]) ?_ ?_
     ·rintro H F E0 ⟨hm,Y,e0,rfl⟩;unfold z68 at hm;exact⟨H,_,⟨hm,Y,e0,rfl⟩,rfl⟩
     ·refine ci hm (fun hm=>?_) (fun hm=>?_)
      ·refine sp ?_;exact⟨(x0 == 5),_,⟨hm,(Ext.refl _),hS,rfl⟩,rfl⟩
      ·refine sq<|rg<|rr 2 ?_;refine rn<|ct (fun(M:Bool) F w9=>z67 fuel x0 M=some r∧Ext w w9∧St w w9 []∧F=[(13,.int .i64 x0),(14,.bool M)]) ?_ ?_
       ·rintro M F F0 ⟨hm,Z,f0,rfl⟩;unfold z67 at hm;exact⟨M,_,⟨hm,Z,f0,rfl⟩,rfl⟩
       ·refine ci hm (fun hm=>?_) (fun hm=>?_)
        ·refine sp ?_;exact⟨(x0 == 6),_,⟨hm,(Ext.refl _),hS,rfl⟩,rfl⟩
        ·refine rg<|rr 2 ?_;refine rn ?_;exact⟨(x0 == 12),_,⟨hm,(Ext.refl _),hS,rfl⟩,rfl⟩

theorem zkq:Enters Tryz.prog 272:=⟨_,_,Tryz.func272,rfl,by kernel_rfl⟩
def z5k (fuel:Nat) (t1:Bool):Option Bool:=(if t1=true then some true else some false)
def z5j (fuel:Nat) (t6:Bool):Option Bool:=z5k fuel t6
def z5i (fuel:Nat) (d:Bool):Option Bool:=z5j fuel d
def z5h (fuel:Nat) (d:Bool):Option Bool:=z5i fuel d
def z5g (fuel:Nat) (d:Bool):Option Bool:=z5h fuel d
def z5f (fuel:Nat) (d:Bool):Option Bool:=z5g fuel d
def z5e (fuel:Nat) (d:Bool):Option Bool:=z5f fuel d
def z5d (fuel:Nat) (d:Bool):Option Bool:=z5e fuel d
def z7z (fuel:Nat) (x0:Int):Option (Bool):=(if(x0 == 2)=true then z5k fuel (x0 == 2) else(if(x0 == 3)=true then z5j fuel (x0 == 3) else(if(x0 == 4)=true then z5i fuel (x0 == 4) else(if(x0 == 7)=true then z5h fuel (x0 == 7) else(if(x0 == 8)=true then z5g fuel (x0 == 8) else(if(x0 == 9)=true then z5f fuel (x0 == 9) else(if(x0 == 10)=true then z5e fuel (x0 == 10) else(if(x0 == 11)=true then z5d fuel (x0 == 11) else z5d fuel (x0 == 12)))))))))

theorem zdT {W w:World}(hE:Ext W w){x0:Int}  {fuel:Nat}{r:Bool}(hm:z7z fuel x0=some r):
  Calls Tryz.prog 272 ⟨[.int .i64 x0]⟩ w (Ret fun v w8=>v=.bool r∧St w w8 []):=by
 refine into Tryz.func272 14 _ ?_;unfold z7z at hm;have hS:=St.start w;refine sq<|rg<|rr 1 ?_;refine rn<|sq<|sq<|rg<|rr 1 ?_;refine rn<|bk<|sq<|sq<|rg<|rr 2 ?_;refine rn<|ct (fun(t1:Bool) F w9=>z5k fuel t1=some r∧Ext w w9∧St w w9 []∧F=[(4,.bool t1)]) ?_ ?_
 ·rintro t1 F w4 ⟨hm,k0,i0,rfl⟩;unfold z5k at hm;refine ci hm (fun hm=>?_) (fun hm=>?_)
  ·refine sq<|rg<|rr 1 ?_;refine rn<|rt ?_;cases hm;exact⟨_,.cons (.tmp rfl) .nil,rfl,i0⟩
  ·refine sp<|sq<|rg<|rr 1 ?_;refine rn<|rt ?_;cases hm;exact⟨_,.cons (.tmp rfl) .nil,rfl,i0⟩
 ·refine ci hm (fun hm=>?_) (fun hm=>?_)
  ·refine sp ?_;exact⟨(x0 == 2),_,⟨hm,(Ext.refl _),hS,rfl⟩,rfl⟩
  ·refine sq<|rg<|rr 2 ?_;refine rn<|ct (fun(t6:Bool) F w9=>z5j fuel t6=some r∧Ext w w9∧St w w9 []∧F=[(4,.bool t6)]) ?_ ?_
   ·rintro t6 F o0 ⟨hm,j0,Z,rfl⟩;unfold z5j at hm;exact⟨t6,_,⟨hm,j0,Z,rfl⟩,rfl⟩
   ·refine ci hm (fun hm=>?_) (fun hm=>?_)
    ·refine sp ?_;exact⟨(x0 == 3),_,⟨hm,(Ext.refl _),hS,rfl⟩,rfl⟩
    ·refine sq<|rg<|rr 2 ?_;refine rn<|ct (fun(d:Bool) F w9=>z5i fuel d=some r∧Ext w w9∧St w w9 []∧F=[(4,.bool d)]) ?_ ?_
     ·rintro d F p0 ⟨hm,H,a0,rfl⟩;unfold z5i at hm;exact⟨d,_,⟨hm,H,a0,rfl⟩,rfl⟩
     ·refine ci hm (fun hm=>?_) (fun hm=>?_)
      ·refine sp ?_;exact⟨(x0 == 4),_,⟨hm,(Ext.refl _),hS,rfl⟩,rfl⟩
      ·refine sq<|rg<|rr 2 ?_;refine rn<|ct (fun(h:Bool) F w9=>z5h fuel h=some r∧Ext w w9∧St w w9 []∧F=[(4,.bool h)]) ?_ ?_
       ·rintro h F q0 ⟨hm,M,b0,rfl⟩;unfold z5h at hm;exact⟨h,_,⟨hm,M,b0,rfl⟩,rfl⟩
       ·refine ci hm (fun hm=>?_) (fun hm=>?_)
        ·refine sp ?_;exact⟨(x0 == 7),_,⟨hm,(Ext.refl _),hS,rfl⟩,rfl⟩
        ·refine sq<|rg<|rr 2 ?_;refine rn<|ct (fun(o:Bool) F w9=>z5g fuel o=some r∧Ext w w9∧St w w9 []∧F=[(4,.bool o)]) ?_ ?_
         ·rintro o F r0 ⟨hm,O,d0,rfl⟩;unfold z5g at hm;exact⟨o,_,⟨hm,O,d0,rfl⟩,rfl⟩
         ·refine ci hm (fun hm=>?_) (fun hm=>?_)
          ·refine sp ?_;exact⟨(x0 == 8),_,⟨hm,(Ext.refl _),hS,rfl⟩,rfl⟩
          ·refine sq<|rg<|rr 2 ?_;refine rn<|ct (fun(q:Bool) F w9=>z5f fuel q=some r∧Ext w w9∧St w w9 []∧F=[(4,.bool q)]) ?_ ?_
           ·rintro q F t0 ⟨hm,S,e0,rfl⟩;unfold z5f at hm;exact⟨q,_,⟨hm,S,e0,rfl⟩,rfl⟩
           ·refine ci hm (fun hm=>?_) (fun hm=>?_)
            ·refine sp ?_;exact⟨(x0 == 9),_,⟨hm,(Ext.refl _),hS,rfl⟩,rfl⟩
            ·refine sq<|rg<|rr 2 ?_;refine rn<|ct (fun(y:Bool) F w9=>z5e fuel y=some r∧Ext w w9∧St w w9 []∧F=[(4,.bool y)]) ?_ ?_
             ·rintro y F u0 ⟨hm,X,f0,rfl⟩;unfold z5e at hm;exact⟨y,_,⟨hm,X,f0,rfl⟩,rfl⟩
             ·refine ci hm (fun hm=>?_) (fun hm=>?_)
              ·refine sp ?_;exact⟨(x0 == 10),_,⟨hm,(Ext.refl _),hS,rfl⟩,rfl⟩
              ·refine sq<|rg<|rr 2 ?_;refine rn<|ct (fun(G:Bool) F w9=>z5d fuel G=some r∧Ext w w9∧St w w9 []∧F=[(4,.bool G)]) ?_ ?_
               ·rintro G F v0 ⟨hm,Y,g0,rfl⟩;unfold z5d at hm;exact⟨G,_,⟨hm,Y,g0,rfl⟩,rfl⟩
               ·refine ci hm (fun hm=>?_) (fun hm=>?_)
                ·refine sp ?_;exact⟨(x0 == 11),_,⟨hm,(Ext.refl _),hS,rfl⟩,rfl⟩
                ·refine rg<|rr 2 ?_;refine rn ?_;exact⟨(x0 == 12),_,⟨hm,(Ext.refl _),hS,rfl⟩,rfl⟩

theorem zkp:Enters Tryz.prog 273:=⟨_,_,Tryz.func273,rfl,by kernel_rfl⟩
def z9w (fuel:Nat) (x0:Int):Option (Bool):=((zw fuel x0 1 12).bind fun r1=>some r1)

theorem zeD {W w:World}(hE:Ext W w){x0:Int}  {fuel:Nat}{r:Bool}(hm:z9w fuel x0=some r):
  Calls Tryz.prog 273 ⟨[.int .i64 x0]⟩ w (Ret fun v w8=>v=.bool r∧St w w8 []):=by
 refine into Tryz.func273 5 _ ?_;unfold z9w at hm;have hS:=St.start w;refine sq<|rg<|rr 1 ?_;refine rn<|sq<|rg<|rr 1 ?_;obtain⟨r1,q,hm⟩:=bS hm;refine ca z2e (zJ (hE.trans hS.ext)  q) (fun v3 w4 d=>?_);obtain⟨rfl,h⟩:=d;have o:=hS.join h;refine rr 1 ?_;refine rn<|rt ?_;cases hm;exact⟨_,.cons (.tmp rfl) .nil,rfl,o⟩

theorem zku:Enters Tryz.prog 267:=⟨_,_,Tryz.func267,rfl,by kernel_rfl⟩
def z7y (fuel:Nat) (x0:Int) (x1:Int):Option (Bool):=((z7z fuel x0).bind fun r1=>(if r1=true then((zw fuel x1 0 8).bind fun d=>some d) else((z9w fuel x0).bind fun h=>(if h=true then some (x1 == 0) else some false))))

theorem zdS {W w:World}(hE:Ext W w){x0:Int}{x1:Int}  {fuel:Nat}{r:Bool}(hm:z7y fuel x0 x1=some r):
  Calls Tryz.prog 267 ⟨[.int .i64 x0,.int .i64 x1]⟩ w (Ret fun v w8=>v=.bool r∧St w w8 []):=by
 refine into Tryz.func267 15 _ ?_;unfold z7y at hm;have hS:=St.start w;refine sq<|rg<|rr 1 ?_;refine rn<|sq<|sq<|rg<|rr 1 ?_;obtain⟨r1,Y,hm⟩:=bS hm;refine ca zkq (zdT (hE.trans hS.ext)  Y) (fun v3 w4 S=>?_);obtain⟨rfl,X⟩:=S;have h:=hS.join X;refine rn<|ci hm (fun hm=>?_) (fun hm=>?_)
 ·refine sq<|rg<|rr 1 ?_;obtain⟨Z,M,hm⟩:=bS hm;refine ca z2e (zJ (hE.trans h.ext)  M) (fun b0 e0 o=>?_);obtain⟨rfl,q⟩:=o;have H:=h.join q;refine rr 1 ?_;refine rn<|rt ?_;cases hm;exact⟨_,.cons (.tmp rfl) .nil,rfl,H⟩
 ·refine sp<|sq<|rg<|rr 1 ?_;obtain⟨a0,O,hm⟩:=bS hm;refine ca zkp (zeD (hE.trans h.ext)  O) (fun d0 f0 y=>?_);obtain⟨rfl,G⟩:=y;have d:=h.join G;refine rr 1 ?_;refine rb 11 hm (fun hm=>?_) (fun hm=>?_)
  ·refine rr 4 ?_;refine rn<|rt ?_;cases hm;exact⟨_,.cons (.tmp rfl) .nil,rfl,d⟩
  ·refine rr 4 ?_;refine rn<|rt ?_;cases hm;exact⟨_,.cons (.tmp rfl) .nil,rfl,d⟩

theorem zhu:Enters Tryz.prog 274:=⟨_,_,Tryz.func274,rfl,by kernel_rfl⟩
def z7V (fuel:Nat) (x0:Int):Option (Bool):=((zw fuel x0 0 23).bind fun r1=>some r1)

theorem zcy {W w:World}(hE:Ext W w){x0:Int}  {fuel:Nat}{r:Bool}(hm:z7V fuel x0=some r):
  Calls Tryz.prog 274 ⟨[.int .i64 x0]⟩ w (Ret fun v w8=>v=.bool r∧St w w8 []):=by
 refine into Tryz.func274 5 _ ?_;unfold z7V at hm;have hS:=St.start w;refine sq<|rg<|rr 1 ?_;refine rn<|sq<|rg<|rr 1 ?_;obtain⟨r1,q,hm⟩:=bS hm;refine ca z2e (zJ (hE.trans hS.ext)  q) (fun v3 w4 d=>?_);obtain⟨rfl,h⟩:=d;have o:=hS.join h;refine rr 1 ?_;refine rn<|rt ?_;cases hm;exact⟨_,.cons (.tmp rfl) .nil,rfl,o⟩

theorem zkt:Enters Tryz.prog 268:=⟨_,_,Tryz.func268,rfl,by kernel_rfl⟩
def z83 (fuel:Nat) (d:Unit):Option Bool:=some true
def z3J (fuel:Nat) (x0:D.QJ) (d:Int):Option (Rd (Int) (Unit) (Bool)):=(if(decide (d<(x0.Data.length:Int)))=true then((idx x0.Data d).bind fun o=>((z7V fuel o).bind fun h=>(if(!h)=true then some (.ret false) else some (.next (w64 (d+1)))))) else some (.brk ()))
def zY (fuel:Nat) (x0:D.QJ) (d:Bool):Option Bool:=(if d=true then some false else((iter (z3J fuel x0) fuel 0).bind fun o=>aft o (z83 fuel)))
def z1H (fuel:Nat) (x0:D.QJ) (o:Bool):Option Bool:=(if o=true then(if(x0.Value != 0)=true then zY fuel x0 true else(if(x0.Qj == 11)=true then(if((x0.Data.length:Int) != 2)=true then zY fuel x0 true else(if(x0.Qj == 10)=true then((zw fuel (x0.Data.length:Int) 1 4).bind fun d=>zY fuel x0 (!d)) else zY fuel x0 false)) else(if(x0.Qj == 10)=true then((zw fuel (x0.Data.length:Int) 1 4).bind fun h=>zY fuel x0 (!h)) else zY fuel x0 false))) else(if(x0.Value == 0)=true then some ((x0.Data.length:Int) == 0) else some false))
def z13 (fuel:Nat) (x0:D.QJ):Option (Bool):=(if(x0.Qj == 6)=true then(if((x0.Data.length:Int) == 0)=true then((zw fuel x0.Value (-2147483648) 2147483647).bind fun d=>some d) else some false) else(if(x0.Qj == 7)=true then(if((x0.Data.length:Int) == 0)=true then((zw fuel x0.Value 1 6).bind fun h=>some h) else some false) else(if(x0.Qj == 8)=true then(if((x0.Data.length:Int) == 1)=true then((zw fuel x0.Value 1 6).bind fun o=>(if o=true then((idx x0.Data 0).bind fun H=>((zw fuel H (-2147483648) 2147483647).bind fun q=>some q)) else some false)) else some false) else(if(x0.Qj == 9)=true then(if((x0.Data.length:Int) == 0)=true then((zw fuel x0.Value 0 3).bind fun y=>some y) else some false) else(if(x0.Qj == 12)=true then(if((x0.Data.length:Int) == 0)=true then((z7V fuel x0.Value).bind fun G=>some G) else some false) else(if(x0.Qj == 10)=true then z1H fuel x0 (x0.Qj == 10) else z1H fuel x0 (x0.Qj == 11)))))))

theorem zcT {W w:World}(hE:Ext W w){i0:Addr}{f1:List Value}{x0:D.QJ}(p1:zcr.ro W f1 x0) (o:At W i0 f1){fuel:Nat}{r:Bool}(hm:z13 fuel x0=some r):
  Calls Tryz.prog 268 ⟨[.pointer (some i0)]⟩ w (Ret fun v w8=>v=.bool r∧St w w8 []):=by
 obtain⟨A1,k2,A4,k5,e7,h3,h6⟩:=zce p1;subst e7;refine into Tryz.func268 162 _ ?_;unfold z13 at hm;have hS:=St.start w;refine sq<|rg<|rr 1 ?_;refine rn<|sq<|sq<|rg<|rr 3 ?_;refine l1 (At.ext (hE.trans hS.ext) o) 0 ?_;refine rn<|bk<|sq<|rg<|rr 2 ?_;refine rn<|ci hm (fun hm=>?_) (fun hm=>?_)
 ·refine sq<|rg<|rr 3 ?_;refine l1 (At.ext (hE.trans hS.ext) o) 3 ?_;refine rr 3 ?_;refine rb 16 hm (fun hm=>?_) (fun hm=>?_)
  ·refine rr 3 ?_;refine l1 (At.ext (hE.trans hS.ext) o) 2 ?_;obtain⟨K1,P0,hm⟩:=bS hm;refine ca z2e (zJ (hE.trans hS.ext)  P0) (fun R1 Y1 j0=>?_);obtain⟨rfl,k0⟩:=j0;have C0:=hS.join k0;refine rr 2 ?_;refine rn<|rt ?_;cases hm;exact⟨_,.cons (.tmp rfl) .nil,rfl,C0⟩
  ·refine rr 7 ?_;refine rn<|rt ?_;cases hm;exact⟨_,.cons (.tmp rfl) .nil,rfl,hS⟩
 ·refine sq<|rg<|rr 2 ?_;refine rn<|ci hm (fun hm=>?_) (fun hm=>?_)
  ·refine sq<|rg<|rr 3 ?_;refine l1 (At.ext (hE.trans hS.ext) o) 3 ?_;refine rr 3 ?_;refine rb 31 hm (fun hm=>?_) (fun hm=>?_)
   ·refine rr 3 ?_;refine l1 (At.ext (hE.trans hS.ext) o) 2 ?_;obtain⟨L1,Q0,hm⟩:=bS hm;refine ca z2e (zJ (hE.trans hS.ext)  Q0) (fun S1 a2 o0=>?_);obtain⟨rfl,p0⟩:=o0;have D0:=hS.join p0;refine rr 2 ?_;refine rn<|rt ?_;cases hm;exact⟨_,.cons (.tmp rfl) .nil,rfl,D0⟩
   ·refine rr 7 ?_;refine rn<|rt ?_;cases hm;exact⟨_,.cons (.tmp rfl) .nil,rfl,hS⟩
  ·refine sq<|rg<|rr 2 ?_;refine rn<|ci hm (fun hm=>?_) (fun hm=>?_)
   ·refine sq<|rg<|rr 3 ?_;refine l1 (At.ext (hE.trans hS.ext) o) 3 ?_;refine rr 3 ?_;refine rb 46 hm (fun hm=>?_) (fun hm=>?_)
    ·refine rr 3 ?_;refine l1 (At.ext (hE.trans hS.ext) o) 2 ?_;obtain⟨M1,R0,hm⟩:=bS hm;refine ca z2e (zJ (hE.trans hS.ext)  R0) (fun T1 b2 q0=>?_);obtain⟨rfl,r0⟩:=q0;have y:=hS.join r0;refine rr 2 ?_;refine rb 53 hm (fun hm=>?_) (fun hm=>?_)
     ·refine rr 3 ?_;refine l1 (At.ext (hE.trans y.ext) o) 3 ?_;obtain⟨j2,S0,hm⟩:=bS hm;refine ix (hE.trans y.ext) h3 S0 (fun H1 m1 J0 N0=>?_);cases N0;refine l1 (At.ext (hE.trans y.ext) J0) 0 ?_;obtain⟨N1,T0,hm⟩:=bS hm;refine ca z2e (zJ (hE.trans y.ext)  T0) (fun U1 d2 t0=>?_);obtain⟨rfl,u0⟩:=t0;have E0:=y.join u0;refine rr 2 ?_;refine rn<|rt ?_;cases hm;exact⟨_,.cons (.tmp rfl) .nil,rfl,E0⟩
     ·refine rr 9 ?_;refine rn<|rt ?_;cases hm;exact⟨_,.cons (.tmp rfl) .nil,rfl,y⟩
    ·refine rr 16 ?_;refine rn<|rt ?_;cases hm;exact⟨_,.cons (.tmp rfl) .nil,rfl,hS⟩
   ·refine sq<|rg<|rr 2 ?_;refine rn<|ci hm (fun hm=>?_) (fun hm=>?_)
    ·refine sq<|rg<|rr 3 ?_;refine l1 (At.ext (hE.trans hS.ext) o) 3 ?_;refine rr 3 ?_;refine rb 70 hm (fun hm=>?_) (fun hm=>?_)
     ·refine rr 3 ?_;refine l1 (At.ext (hE.trans hS.ext) o) 2 ?_;obtain⟨O1,U0,hm⟩:=bS hm;refine ca z2e (zJ (hE.trans hS.ext)  U0) (fun V1 e2 v0=>?_);obtain⟨rfl,y0⟩:=v0;have F0:=hS.join y0;refine rr 2 ?_;refine rn<|rt ?_;cases hm;exact⟨_,.cons (.tmp rfl) .nil,rfl,F0⟩
     ·refine rr 7 ?_;refine rn<|rt ?_;cases hm;exact⟨_,.cons (.tmp rfl) .nil,rfl,hS⟩
    ·refine sq<|rg<|rr 2 ?_;refine rn<|ci hm (fun hm=>?_) (fun hm=>?_)
     ·refine sq<|rg<|rr 3 ?_;refine l1 (At.ext (hE.trans hS.ext) o) 3 ?_;refine rr 3 ?_;refine rb 85 hm (fun hm=>?_) (fun hm=>?_)
      ·refine rr 3 ?_;refine l1 (At.ext (hE.trans hS.ext) o) 2 ?_;obtain⟨P1,V0,hm⟩:=bS hm;refine ca zhu (zcy (hE.trans hS.ext)  V0) (fun W1 f2 A0=>?_);obtain⟨rfl,B0⟩:=A0;have G0:=hS.join B0;refine rr 2 ?_;refine rn<|rt ?_;cases hm;exact⟨_,.cons (.tmp rfl) .nil,rfl,G0⟩
      ·refine rr 7 ?_;refine rn<|rt ?_;cases hm;exact⟨_,.cons (.tmp rfl) .nil,rfl,hS⟩
     ·refine sq<|sq<|rg<|rr 2 ?_;refine rn<|ct (fun(d1:Bool) F w9=>z1H fuel x0 d1=some r∧Ext w w9∧St w w9 []∧F=[(0,.pointer (some i0)),(92,.bool d1)]) ?_ ?_
      ·rintro d1 F F1 ⟨hm,s1,d,rfl⟩;unfold z1H at hm;refine ci hm (fun hm=>?_) (fun hm=>?_)
       ·refine sq<|sq<|ct (fun(e1:Bool) F w9=>zY fuel x0 e1=some r∧Ext F1 w9∧St w w9 []∧F=[(0,.pointer (some i0)),(130,.bool e1)]) ?_ ?_
        ·rintro e1 F j1 ⟨hm,t1,d0,rfl⟩;unfold zY at hm;refine ci hm (fun hm=>?_) (fun hm=>?_)
         ·refine sq<|rg<|rr 1 ?_;refine rn<|rt ?_;cases hm;exact⟨_,.cons (.tmp rfl) .nil,rfl,d0⟩
         ·refine sp<|sq<|sq<|rg<|rr 1 ?_;refine rn ?_;obtain⟨v1,L0,hm⟩:=bS hm;refine ct (fun(i1:Unit) F w9=>v1=.inl i1∧Ext j1 w9∧St w w9 []∧F=[]) ?_ ?_
          ·rintro i1 F g2 ⟨M0,u1,H0,rfl⟩;subst M0;rw [z8] at hm;unfold z83 at hm;refine sq<|rg<|rr 1 ?_;refine rn<|rt ?_;cases hm;exact⟨_,.cons (.tmp rfl) .nil,rfl,H0⟩
          ·refine bk<|wk [0,3] ?_;refine it (fun(g1:Int) F w9=>Ext j1 w9∧St w w9 []∧F=[(0,.pointer (some i0)),(3,.int .i64 g1)]) L0 ⟨(Ext.refl _),d0,rfl⟩ ?_;rintro g1 F i2 _ G1 ⟨S,q,rfl⟩ h e0;unfold z3J at h;refine sq<|sq<|rg<|rr 4 ?_;refine l1 (At.ext (hE.trans q.ext) o) 3 ?_;refine rr 2 ?_;refine rn<|ci h (fun h=>?_) (fun h=>?_)
           ·refine sp<|sq<|bk<|sq<|rg<|rr 3 ?_;refine l1 (At.ext (hE.trans q.ext) o) 3 ?_;refine rr 1 ?_;obtain⟨m2,X0,h⟩:=bS h;refine ix (hE.trans q.ext) h3 X0 (fun J1 n1 K0 O0=>?_);cases O0;refine l1 (At.ext (hE.trans q.ext) K0) 0 ?_;obtain⟨Q1,Y0,h⟩:=bS h;refine ca zhu (zcy (hE.trans q.ext)  Y0) (fun X1 C1 X=>?_);obtain⟨rfl,G⟩:=X;have O:=q.join G;refine rr 1 ?_;refine rn<|ci h (fun h=>?_) (fun h=>?_)
            ·refine sq<|rg<|rr 1 ?_;refine rn<|rt ?_;cases h;cases e0;have hm:some _=some _:=hm;cases hm;exact⟨_,.cons (.tmp rfl) .nil,rfl,O⟩
            ·refine sp<|rg<|rr 3 ?_;refine rn ?_;cases h;exact⟨_,_,rfl,⟨(S.trans G.ext),O,rfl⟩,rfl⟩
           ·refine xt ?_;cases h;exact⟨_,_,⟨e0,S,q,rfl⟩,rfl⟩
        ·refine rg<|rr 3 ?_;refine l1 (At.ext (hE.trans d.ext) o) 2 ?_;refine rr 2 ?_;refine rb 100 hm (fun hm=>?_) (fun hm=>?_)
         ·refine rr 30 ?_;refine rn ?_;exact⟨true,_,⟨hm,(Ext.refl _),d,rfl⟩,rfl⟩
         ·refine rr 3 ?_;refine l1 (At.ext (hE.trans d.ext) o) 0 ?_;refine rr 2 ?_;refine rb 106 hm (fun hm=>?_) (fun hm=>?_)
          ·refine rr 3 ?_;refine l1 (At.ext (hE.trans d.ext) o) 3 ?_;refine rr 5 ?_;refine rb 115 hm (fun hm=>?_) (fun hm=>?_)
           ·refine rr 15 ?_;refine rn ?_;exact⟨true,_,⟨hm,(Ext.refl _),d,rfl⟩,rfl⟩
           ·refine rr 3 ?_;refine l1 (At.ext (hE.trans d.ext) o) 0 ?_;refine rr 2 ?_;refine rb 121 hm (fun hm=>?_) (fun hm=>?_)
            ·refine rr 3 ?_;refine l1 (At.ext (hE.trans d.ext) o) 3 ?_;refine rr 1 ?_;obtain⟨a1,f0,hm⟩:=bS hm;refine ca z2e (zJ (hE.trans d.ext)  f0) (fun y1 D1 Y=>?_);obtain⟨rfl,H⟩:=Y;have a0:=d.join H;refine rr 3 ?_;refine rn ?_;exact⟨!a1,_,⟨hm,H.ext,a0,rfl⟩,rfl⟩
            ·refine rr 9 ?_;refine rn ?_;exact⟨false,_,⟨hm,(Ext.refl _),d,rfl⟩,rfl⟩
          ·refine rr 12 ?_;refine l1 (At.ext (hE.trans d.ext) o) 0 ?_;refine rr 2 ?_;refine rb 121 hm (fun hm=>?_) (fun hm=>?_)
           ·refine rr 3 ?_;refine l1 (At.ext (hE.trans d.ext) o) 3 ?_;refine rr 1 ?_;obtain⟨b1,g0,hm⟩:=bS hm;refine ca z2e (zJ (hE.trans d.ext)  g0) (fun B1 E1 Z=>?_);obtain⟨rfl,M⟩:=Z;have b0:=d.join M;refine rr 3 ?_;refine rn ?_;exact⟨!b1,_,⟨hm,M.ext,b0,rfl⟩,rfl⟩
           ·refine rr 9 ?_;refine rn ?_;exact⟨false,_,⟨hm,(Ext.refl _),d,rfl⟩,rfl⟩
       ·refine sp<|sq<|rg<|rr 3 ?_;refine l1 (At.ext (hE.trans d.ext) o) 2 ?_;refine rr 2 ?_;refine rb 154 hm (fun hm=>?_) (fun hm=>?_)
        ·refine rr 3 ?_;refine l1 (At.ext (hE.trans d.ext) o) 3 ?_;refine rr 4 ?_;refine rn<|rt ?_;cases hm;exact⟨_,.cons (.tmp rfl) .nil,rfl,d⟩
        ·refine rr 8 ?_;refine rn<|rt ?_;cases hm;exact⟨_,.cons (.tmp rfl) .nil,rfl,d⟩
      ·refine ci hm (fun hm=>?_) (fun hm=>?_)
       ·refine sp ?_;exact⟨(x0.Qj == 10),_,⟨hm,(Ext.refl _),hS,rfl⟩,rfl⟩
       ·refine rg<|rr 2 ?_;refine rn ?_;exact⟨(x0.Qj == 11),_,⟨hm,(Ext.refl _),hS,rfl⟩,rfl⟩

theorem zkK:Enters Tryz.prog 249:=⟨_,_,Tryz.func249,rfl,by kernel_rfl⟩
def z4x (fuel:Nat) (x0:D.QJ):Option (Bool):=((z3D fuel x0).bind fun h=>((z5F fuel x0.Qj h).bind fun d=>(if(decide (d>0))=true then(if((x0.Qa0.length:Int) == d)=true then((z7y fuel x0.Qj x0.QO).bind fun o=>(if o=true then((z13 fuel x0).bind fun q=>some q) else some false)) else some false) else some false)))

theorem zdR {W w:World}(hE:Ext W w){p0:Addr}{o0:List Value}{x0:D.QJ}(Z:zcr.ro W o0 x0) (G:At W p0 o0){fuel:Nat}{r:Bool}(hm:z4x fuel x0=some r):
  Calls Tryz.prog 249 ⟨[.pointer (some p0)]⟩ w (Ret fun v w8=>v=.bool r∧St w w8 []):=by
 obtain⟨A1,k2,A4,k5,e7,h3,h6⟩:=zce Z;subst e7;refine into Tryz.func249 37 _ ?_;unfold z4x at hm;have hS:=St.start w;refine sq<|rg<|rr 1 ?_;refine rn<|sq<|dn 0 mixed 8 [([],255),([0],254),([1],253),([2],251),([],255),([4],239),([3,5,5],215),([6,6,0,1,2,3,4,5,6],191)] hS.ext (fun h=>?_);have X:=hS.step (Ext.draw _);refine dr 4 h [0,1,2,4] ?_;refine dl h 3 (At.ext (hE.trans hS.ext) G) 0 ?_;obtain⟨q0,g0,hm⟩:=bS hm;refine o1 h 5 (mc h zkv (zdt (hE.trans X.ext) Z G g0) (fun v0 C0 a0=>?_));obtain⟨rfl,H⟩:=a0;refine⟨H.ext,?_⟩;have Y:=X.join H;obtain⟨r0,i0,hm⟩:=bS hm;refine o1 h 6 (mc h zkw (zeG (hE.trans Y.ext)  i0) (fun y0 D0 b0=>?_));obtain⟨rfl,M⟩:=b0;refine⟨M.ext,?_⟩;have o:=Y.join M;refine dr 0 h [7] ?_;refine dw [0,3] ?_;refine dd h ?_;refine sq<|dn 0 mixed 27 [([],134217727),([0],134217726),([1],134217725),([2],134217723),([3,2],134217715),([4,2],134217707),([5,2],134217691),([6,2],134217659),([2],134217723),([7,8,2],134217339),([2,9],134217211),([10,2],134216703),([11],134215679),([12,11],134211583),([13,11],134207487),([14,11],134199295),([11],134215679),([16,11],134150143),([17,11],134084607),([18,11],133953535),([15,19,11,11],133658623),([11,20],133167103),([21,20],132120575),([22],130023423),([23,22,22],121634815),([22,24],113246207),([25,24,0,1,2,3,4,5,6,7,8,9,10,11,12,13,14,15,16,17,18,19,20,21,22,23,24,25],100663295)] o.ext (fun d=>?_);have q:=o.step (Ext.draw _);refine dr 24 d [0,1,2] ?_;refine db 13 hm (fun hm=>?_) (fun hm=>?_)
 ·refine dr 20 d [3,4,5,8] ?_;refine dl d 6 (At.ext (hE.trans o.ext) G) 4 ?_;refine dr 15 d [7,9,10,11] ?_;refine dw [0,22] ?_;refine db 22 hm (fun hm=>?_) (fun hm=>?_)
  ·refine dr 9 d [12,13,14,16,17,18] ?_;refine dl d 15 (At.ext (hE.trans o.ext) G) 0 ?_;refine dl d 19 (At.ext (hE.trans o.ext) G) 1 ?_;obtain⟨t0,j0,hm⟩:=bS hm;refine o1 d 20 (mc d zku (zdS (hE.trans q.ext)  j0) (fun A0 E0 d0=>?_));obtain⟨rfl,O⟩:=d0;refine⟨O.ext,?_⟩;have y:=q.join O;refine dr 4 d [21,22] ?_;refine dw [0,33] ?_;refine db 33 hm (fun hm=>?_) (fun hm=>?_)
   ·refine dr 3 d [23] ?_;obtain⟨u0,k0,hm⟩:=bS hm;refine o1 d 24 (mc d zkt (zcT (hE.trans y.ext) Z G k0) (fun B0 F0 e0=>?_));obtain⟨rfl,S⟩:=e0;refine⟨S.ext,?_⟩;have f0:=y.join S;refine dr 0 d [25,26] ?_;refine dd d ?_;refine rt ?_;cases hm;exact⟨_,.cons (.tmp rfl) .nil,rfl,f0⟩
   ·refine dr 0 d [23,24,25,26] ?_;refine dd d ?_;refine rt ?_;cases hm;exact⟨_,.cons (.tmp rfl) .nil,rfl,y⟩
  ·refine dr 0 d [12,13,14,15,16,17,18,19,20,21,22,23,24,25,26] ?_;refine dw [2] ?_;refine dd d ?_;refine rt ?_;cases hm;exact⟨_,.cons (.tmp rfl) .nil,rfl,q⟩
 ·refine dr 0 d [3,4,5,6,7,8,9,10,11,12,13,14,15,16,17,18,19,20,21,22,23,24,25,26] ?_;refine dw [2] ?_;refine dd d ?_;refine rt ?_;cases hm;exact⟨_,.cons (.tmp rfl) .nil,rfl,q⟩

theorem zkC:Enters Tryz.prog 256:=⟨_,_,Tryz.func256,rfl,by kernel_rfl⟩
def z7J (fuel:Nat) (x0:Int) (x1:Int):Option (Int):=(if(x0 == 9)=true then some (w64 (x1 - 1)) else some 0)

theorem zdW {W w:World}(hE:Ext W w){x0:Int}{x1:Int}  {fuel:Nat}{r:Int}(hm:z7J fuel x0 x1=some r):
  Calls Tryz.prog 256 ⟨[.int .i64 x0,.int .i64 x1]⟩ w (Ret fun v w8=>v=.int .i64 r∧St w w8 []):=by
 refine into Tryz.func256 9 _ ?_;unfold z7J at hm;have hS:=St.start w;refine sq<|rg<|rr 1 ?_;refine rn<|sq<|sq<|rg<|rr 2 ?_;refine rn<|ci hm (fun hm=>?_) (fun hm=>?_)
 ·refine sq<|rg<|rr 3 ?_;refine rn<|rt ?_;cases hm;exact⟨_,.cons (.tmp rfl) .nil,rfl,hS⟩
 ·refine sp<|sq<|rg<|rr 1 ?_;refine rn<|rt ?_;cases hm;exact⟨_,.cons (.tmp rfl) .nil,rfl,hS⟩

theorem zf3:Enters Tryz.prog 269:=⟨_,_,Tryz.func269,rfl,by kernel_rfl⟩
def z6K (fuel:Nat) (x0:Int):Option (Bool):=(if(decide (x0≥1))=true then some (decide (x0≤12)) else some false)

theorem zaZ {W w:World}(hE:Ext W w){x0:Int}  {fuel:Nat}{r:Bool}(hm:z6K fuel x0=some r):
  Calls Tryz.prog 269 ⟨[.int .i64 x0]⟩ w (Ret fun v w8=>v=.bool r∧St w w8 []):=by
 refine into Tryz.func269 9 _ ?_;unfold z6K at hm;have hS:=St.start w;refine sq<|rg<|rr 1 ?_;refine rn<|sq<|rg<|rr 3 ?_;refine rb 5 hm (fun hm=>?_) (fun hm=>?_)
 ·refine rr 4 ?_;refine rn<|rt ?_;cases hm;exact⟨_,.cons (.tmp rfl) .nil,rfl,hS⟩
 ·refine rr 4 ?_;refine rn<|rt ?_;cases hm;exact⟨_,.cons (.tmp rfl) .nil,rfl,hS⟩

theorem zkD:Enters Tryz.prog 255:=⟨_,_,Tryz.func255,rfl,by kernel_rfl⟩
def z1D (fuel:Nat) (x0:Int) (t6:Bool):Option Int:=(if t6=true then some 0 else((idx ([0,1,3,3,3,1,1,3,2,0,2,2,1]:List Int) x0).bind fun d=>some d))
def z2W (fuel:Nat) (x0:Int) (x1:Int) (t1:Bool):Option Int:=(if t1=true then some (w64 (x1+1)) else((z6K fuel x0).bind fun d=>(if(!d)=true then z1D fuel x0 true else(if(x0 == 9)=true then z1D fuel x0 true else z1D fuel x0 (x1 != 0)))))
def z7d (fuel:Nat) (x0:Int) (x1:Int):Option (Int):=(if(x0 == 9)=true then(if(decide (x1≥0))=true then z2W fuel x0 x1 (decide (x1≤3)) else z2W fuel x0 x1 false) else z2W fuel x0 x1 false)

theorem zeW {W w:World}(hE:Ext W w){x0:Int}{x1:Int}  {fuel:Nat}{r:Int}(hm:z7d fuel x0 x1=some r):
  Calls Tryz.prog 255 ⟨[.int .i64 x0,.int .i64 x1]⟩ w (Ret fun v w8=>v=.int .i64 r∧St w w8 []):=by
 refine into Tryz.func255 33 _ ?_;unfold z7d at hm;have hS:=St.start w;refine sq<|rg<|rr 1 ?_;refine rn<|sq<|bk<|sq<|ct (fun(t1:Bool) F w9=>z2W fuel x0 x1 t1=some r∧Ext w w9∧St w w9 []∧F=[(0,.int .i64 x0),(1,.int .i64 x1),(5,.bool t1)]) ?_ ?_
 ·rintro t1 F w4 ⟨hm,M,G,rfl⟩;unfold z2W at hm;refine ci hm (fun hm=>?_) (fun hm=>?_)
  ·refine sq<|rg<|rr 3 ?_;refine rn<|rt ?_;cases hm;exact⟨_,.cons (.tmp rfl) .nil,rfl,G⟩
  ·refine sq<|ct (fun(t6:Bool) F w9=>z1D fuel x0 t6=some r∧Ext w4 w9∧St w w9 []∧F=[(0,.int .i64 x0),(18,.bool t6)]) ?_ ?_
   ·rintro t6 F Y ⟨hm,O,o,rfl⟩;unfold z1D at hm;refine ci hm (fun hm=>?_) (fun hm=>?_)
    ·refine sq<|rg<|rr 1 ?_;refine rn<|rt ?_;cases hm;exact⟨_,.cons (.tmp rfl) .nil,rfl,o⟩
    ·refine sp<|sq<|rg<|qt (qBuildK (cs:=[.int .i64 0,.int .i64 1,.int .i64 3,.int .i64 3,.int .i64 3,.int .i64 1,.int .i64 1,.int .i64 3,.int .i64 2,.int .i64 0,.int .i64 2,.int .i64 2,.int .i64 1])) ?_;refine rr 1 ?_;obtain⟨a0,q,hm⟩:=bS hm;refine qt (Quiet.arrIdx ttok (xs:=([0,1,3,3,3,1,1,3,2,0,2,2,1]:List Int)) (e:=2) rfl (by kernel_rfl) rfl rfl rfl rfl rfl rfl (zb q).1 (zb q).2) ?_;refine rr 1 ?_;refine rn<|rt ?_;cases hm;exact⟨_,.cons (.tmp rfl) .nil,rfl,o⟩
   ·refine rg<|rr 1 ?_;obtain⟨S,H,hm⟩:=bS hm;refine ca zf3 (zaZ (hE.trans G.ext)  H) (fun X Z y=>?_);obtain⟨rfl,d⟩:=y;have h:=G.join d;refine rr 2 ?_;refine rb 22 hm (fun hm=>?_) (fun hm=>?_)
    ·refine rr 8 ?_;refine rn ?_;exact⟨true,_,⟨hm,d.ext,h,rfl⟩,rfl⟩
    ·refine rr 4 ?_;refine rb 26 hm (fun hm=>?_) (fun hm=>?_)
     ·refine rr 4 ?_;refine rn ?_;exact⟨true,_,⟨hm,d.ext,h,rfl⟩,rfl⟩
     ·refine rr 4 ?_;refine rn ?_;exact⟨(x1 != 0),_,⟨hm,d.ext,h,rfl⟩,rfl⟩
 ·refine rg<|rr 3 ?_;refine rb 8 hm (fun hm=>?_) (fun hm=>?_)
  ·refine rr 4 ?_;refine rb 12 hm (fun hm=>?_) (fun hm=>?_)
   ·refine rr 4 ?_;refine rn ?_;exact⟨decide (x1≤3),_,⟨hm,(Ext.refl _),hS,rfl⟩,rfl⟩
   ·refine rr 4 ?_;refine rn ?_;exact⟨false,_,⟨hm,(Ext.refl _),hS,rfl⟩,rfl⟩
  ·refine rr 8 ?_;refine rn ?_;exact⟨false,_,⟨hm,(Ext.refl _),hS,rfl⟩,rfl⟩

theorem zks:Enters Tryz.prog 270:=⟨_,_,Tryz.func270,rfl,by kernel_rfl⟩
def z7M (fuel:Nat) (x0:Int):Option (Bool):=((z6K fuel x0).bind fun r1=>(if r1=true then(if(x0 != 1)=true then(if(x0 != 5)=true then some (x0 != 6) else some false) else some false) else some false))

theorem zdY {W w:World}(hE:Ext W w){x0:Int}  {fuel:Nat}{r:Bool}(hm:z7M fuel x0=some r):
  Calls Tryz.prog 270 ⟨[.int .i64 x0]⟩ w (Ret fun v w8=>v=.bool r∧St w w8 []):=by
 refine into Tryz.func270 17 _ ?_;unfold z7M at hm;have hS:=St.start w;refine sq<|rg<|rr 1 ?_;refine rn<|sq<|rg<|rr 1 ?_;obtain⟨r1,q,hm⟩:=bS hm;refine ca zf3 (zaZ (hE.trans hS.ext)  q) (fun v3 w4 h=>?_);obtain⟨rfl,o⟩:=h;have d:=hS.join o;refine rr 1 ?_;refine rb 5 hm (fun hm=>?_) (fun hm=>?_)
 ·refine rr 4 ?_;refine rb 9 hm (fun hm=>?_) (fun hm=>?_)
  ·refine rr 4 ?_;refine rb 13 hm (fun hm=>?_) (fun hm=>?_)
   ·refine rr 4 ?_;refine rn<|rt ?_;cases hm;exact⟨_,.cons (.tmp rfl) .nil,rfl,d⟩
   ·refine rr 4 ?_;refine rn<|rt ?_;cases hm;exact⟨_,.cons (.tmp rfl) .nil,rfl,d⟩
  ·refine rr 8 ?_;refine rn<|rt ?_;cases hm;exact⟨_,.cons (.tmp rfl) .nil,rfl,d⟩
 ·refine rr 12 ?_;refine rn<|rt ?_;cases hm;exact⟨_,.cons (.tmp rfl) .nil,rfl,d⟩

theorem zkr:Enters Tryz.prog 271:=⟨_,_,Tryz.func271,rfl,by kernel_rfl⟩
def z8j (fuel:Nat) (x0:Int):Option (Bool):=(if(decide (x0≥0))=true then some (decide (x0≤8)) else some false)

theorem zeV {W w:World}(hE:Ext W w){x0:Int}  {fuel:Nat}{r:Bool}(hm:z8j fuel x0=some r):
  Calls Tryz.prog 271 ⟨[.int .i64 x0]⟩ w (Ret fun v w8=>v=.bool r∧St w w8 []):=by
 refine into Tryz.func271 9 _ ?_;unfold z8j at hm;have hS:=St.start w;refine sq<|rg<|rr 1 ?_;refine rn<|sq<|rg<|rr 3 ?_;refine rb 5 hm (fun hm=>?_) (fun hm=>?_)
 ·refine rr 4 ?_;refine rn<|rt ?_;cases hm;exact⟨_,.cons (.tmp rfl) .nil,rfl,hS⟩
 ·refine rr 4 ?_;refine rn<|rt ?_;cases hm;exact⟨_,.cons (.tmp rfl) .nil,rfl,hS⟩

theorem zkB:Enters Tryz.prog 257:=⟨_,_,Tryz.func257,rfl,by kernel_rfl⟩
def z76 (fuel:Nat) (x0:Int) (x1:Int):Option (Bool):=((z6K fuel x0).bind fun r1=>(if r1=true then(if(x1 == 0)=true then some true else((z7M fuel x0).bind fun d=>(if d=true then((z8j fuel x1).bind fun h=>some h) else some false))) else some false))

theorem zdz {W w:World}(hE:Ext W w){x0:Int}{x1:Int}  {fuel:Nat}{r:Bool}(hm:z76 fuel x0 x1=some r):
  Calls Tryz.prog 257 ⟨[.int .i64 x0,.int .i64 x1]⟩ w (Ret fun v w8=>v=.bool r∧St w w8 []):=by
 refine into Tryz.func257 19 _ ?_;unfold z76 at hm;have hS:=St.start w;refine sq<|rg<|rr 1 ?_;refine rn<|sq<|rg<|rr 1 ?_;obtain⟨r1,Y,hm⟩:=bS hm;refine ca zf3 (zaZ (hE.trans hS.ext)  Y) (fun v3 w4 S=>?_);obtain⟨rfl,X⟩:=S;have h:=hS.join X;refine rr 1 ?_;refine rb 7 hm (fun hm=>?_) (fun hm=>?_)
 ·refine rr 3 ?_;refine rb 10 hm (fun hm=>?_) (fun hm=>?_)
  ·refine rr 9 ?_;refine rn<|rt ?_;cases hm;exact⟨_,.cons (.tmp rfl) .nil,rfl,h⟩
  ·refine rr 1 ?_;obtain⟨Z,M,hm⟩:=bS hm;refine ca zks (zdY (hE.trans h.ext)  M) (fun b0 e0 o=>?_);obtain⟨rfl,q⟩:=o;have d:=h.join q;refine rr 1 ?_;refine rb 13 hm (fun hm=>?_) (fun hm=>?_)
   ·refine rr 1 ?_;obtain⟨a0,O,hm⟩:=bS hm;refine ca zkr (zeV (hE.trans d.ext)  O) (fun d0 f0 y=>?_);obtain⟨rfl,G⟩:=y;have H:=d.join G;refine rr 4 ?_;refine rn<|rt ?_;cases hm;exact⟨_,.cons (.tmp rfl) .nil,rfl,H⟩
   ·refine rr 6 ?_;refine rn<|rt ?_;cases hm;exact⟨_,.cons (.tmp rfl) .nil,rfl,d⟩
 ·refine rr 12 ?_;refine rn<|rt ?_;cases hm;exact⟨_,.cons (.tmp rfl) .nil,rfl,h⟩

theorem zmt:Enters Tryz.prog 185:=⟨_,_,Tryz.func185,rfl,by kernel_rfl⟩
def z2q (fuel:Nat) (t2:Unit):Option Int:=some (-1)
def z14 (fuel:Nat) (x0:(List Int)) (x1:Int→Option Bool) (s1:Int):Option (Rd (Int) (Unit) (Int)):=(if(decide (s1<(x0.length:Int)))=true then((idx x0 s1).bind fun h=>((x1 h).bind fun d=>(if d=true then some (.ret s1) else some (.next (w64 (s1+1)))))) else some (.brk ()))
def z1L (fuel:Nat) (x0:(List Int)) (x1:Int→Option Bool):Option (Int):=((iter (z14 fuel x0 x1) fuel 0).bind fun o=>aft o (z2q fuel))

theorem z9s {W w:World}(hE:Ext W w){G:Option Addr}{b0:Nat}{x0:(List Int)}{f1_:Nat}{u1_:List Value}{x1:Int→Option Bool}(g0:ty29.ro W [sl G x0 b0] x0) (d0:Enters Tryz.prog f1_∧∀ {w9:World},Ext W w9→∀ {z0:Int}{y9:Bool},x1 z0=some y9→Calls Tryz.prog f1_ ⟨[.int .i64 z0]++u1_⟩ w9 (Ret fun v w8=>v=.bool y9∧St w9 w8 [])){fuel:Nat}{r:Int}(hm:z1L fuel x0 x1=some r):
  Calls Tryz.prog 185 ⟨[sl G x0 b0,.func (.func f1_) #[] ⟨u1_⟩]⟩ w (Ret fun v w8=>v=.int .i64 r∧St w w8 []):=by
 refine into Tryz.func185 19 _ ?_;unfold z1L at hm;have hS:=St.start w;refine sq<|rg<|rr 1 ?_;refine rn<|sq<|sq<|rg<|rr 3 ?_;refine rn ?_;obtain⟨i0,S,hm⟩:=bS hm;refine ct (fun(t2:Unit) F w9=>i0=.inl t2∧Ext w w9∧St w w9 []∧F=[]) ?_ ?_
 ·rintro t2 F w7 ⟨X,j0,M,rfl⟩;subst X;rw [z8] at hm;unfold z2q at hm;refine sq<|rg<|rr 1 ?_;refine rn<|rt ?_;cases hm;exact⟨_,.cons (.tmp rfl) .nil,rfl,M⟩
 ·refine bk<|wk [0,1,7,8] ?_;refine it (fun(s1:Int) F w9=>Ext w w9∧St w w9 []∧F=[(0,sl G x0 b0),(1,.func (.func f1_) #[] ⟨u1_⟩),(7,.int .i64 (x0.length:Int)),(8,.int .i64 s1)]) S ⟨(Ext.refl _),hS,rfl⟩ ?_;rintro s1 F r0 _ k0 ⟨e0,h,rfl⟩ d y;unfold z14 at d;refine sq<|rg<|rr 1 ?_;refine rn<|sq<|ci d (fun d=>?_) (fun d=>?_)
  ·refine sp<|sq<|bk<|sq<|rg<|rr 2 ?_;refine rn<|sq<|rg<|rr 3 ?_;obtain⟨u0,Z,d⟩:=bS d;refine ix (hE.trans h.ext) g0 Z (fun o0 f0 O Y=>?_);cases Y;refine l1 (At.ext (hE.trans h.ext) O) 0 ?_;obtain⟨p0,a0,d⟩:=bS d;refine ca d0.1 (d0.2 (hE.trans h.ext)  a0) (fun q0 t0 H=>?_);obtain⟨rfl,o⟩:=H;have q:=h.join o;refine rn<|ci d (fun d=>?_) (fun d=>?_)
   ·refine sq<|rg<|rr 2 ?_;refine rn<|rt ?_;cases d;cases y;have hm:some _=some _:=hm;cases hm;exact⟨_,.cons (.tmp rfl) .nil,rfl,q⟩
   ·refine sp<|rg<|rr 2 ?_;refine rn ?_;cases d;exact⟨_,_,rfl,⟨(e0.trans o.ext),q,rfl⟩,rfl⟩
  ·refine xt ?_;cases d;exact⟨_,_,⟨y,e0,h,rfl⟩,rfl⟩

theorem zhQ:Enters Tryz.prog 131:=⟨_,_,Tryz.func131,rfl,by kernel_rfl⟩
def zL (fuel:Nat) (x0:(List Int)) (x1:Int→Option Bool):Option (Bool):=((z1L fuel x0 x1).bind fun r1=>some (decide (r1≥0)))

theorem z4U {W w:World}(hE:Ext W w){d:Option Addr}{h:Nat}{x0:(List Int)}{f1_:Nat}{u1_:List Value}{x1:Int→Option Bool}(o:ty29.ro W [sl d x0 h] x0) (q:Enters Tryz.prog f1_∧∀ {w9:World},Ext W w9→∀ {z0:Int}{y9:Bool},x1 z0=some y9→Calls Tryz.prog f1_ ⟨[.int .i64 z0]++u1_⟩ w9 (Ret fun v w8=>v=.bool y9∧St w9 w8 [])){fuel:Nat}{r:Bool}(hm:zL fuel x0 x1=some r):
  Calls Tryz.prog 131 ⟨[sl d x0 h,.func (.func f1_) #[] ⟨u1_⟩]⟩ w (Ret fun v w8=>v=.bool r∧St w w8 []):=by
 refine into Tryz.func131 9 _ ?_;unfold zL at hm;have hS:=St.start w;refine sq<|rg<|rr 1 ?_;refine rn<|sq<|rg<|rr 2 ?_;obtain⟨r1,M,hm⟩:=bS hm;refine ca zmt (z9s (hE.trans hS.ext) o q M) (fun v3 w4 y=>?_);obtain⟨rfl,G⟩:=y;have H:=hS.join G;refine rr 2 ?_;refine rn<|rt ?_;cases hm;exact⟨_,.cons (.tmp rfl) .nil,rfl,H⟩

theorem zhx:Enters Tryz.prog 259:=⟨_,_,Tryz.func259,rfl,by kernel_rfl⟩
def z4h (fuel:Nat) (x0:Int):Option (Bool):=(if(decide (x0≥0))=true then some (decide (x0<24)) else some false)

theorem zaX {W w:World}(hE:Ext W w){x0:Int}  {fuel:Nat}{r:Bool}(hm:z4h fuel x0=some r):
  Calls Tryz.prog 259 ⟨[.int .i64 x0]⟩ w (Ret fun v w8=>v=.bool r∧St w w8 []):=by
 refine into Tryz.func259 9 _ ?_;unfold z4h at hm;have hS:=St.start w;refine sq<|rg<|rr 1 ?_;refine rn<|sq<|rg<|rr 3 ?_;refine rb 5 hm (fun hm=>?_) (fun hm=>?_)
 ·refine rr 4 ?_;refine rn<|rt ?_;cases hm;exact⟨_,.cons (.tmp rfl) .nil,rfl,hS⟩
 ·refine rr 4 ?_;refine rn<|rt ?_;cases hm;exact⟨_,.cons (.tmp rfl) .nil,rfl,hS⟩

theorem zkA:Enters Tryz.prog 258:=⟨_,_,Tryz.func258,rfl,by kernel_rfl⟩
def z5U (fuel:Nat) (x0:Int):Option (Bool):=((z4h fuel x0).bind fun r1=>some (!r1))

theorem zbZ {W w:World}(hE:Ext W w){x0:Int}  {fuel:Nat}{r:Bool}(hm:z5U fuel x0=some r):
  Calls Tryz.prog 258 ⟨[.int .i64 x0]⟩ w (Ret fun v w8=>v=.bool r∧St w w8 []):=by
 refine into Tryz.func258 6 _ ?_;unfold z5U at hm;have hS:=St.start w;refine sq<|rg<|rr 1 ?_;refine rn<|sq<|rg<|rr 1 ?_;obtain⟨r1,q,hm⟩:=bS hm;refine ca zhx (zaX (hE.trans hS.ext)  q) (fun v3 w4 d=>?_);obtain⟨rfl,h⟩:=d;have o:=hS.join h;refine rr 2 ?_;refine rn<|rt ?_;cases hm;exact⟨_,.cons (.tmp rfl) .nil,rfl,o⟩

theorem zhw:Enters Tryz.prog 260:=⟨_,_,Tryz.func260,rfl,by kernel_rfl⟩
def z8G (fuel:Nat) (x0:Int):Option (Bool):=(if(decide (x0≥(-2147483648)))=true then some (decide (x0≤2147483647)) else some false)

theorem zd7 {W w:World}(hE:Ext W w){x0:Int}  {fuel:Nat}{r:Bool}(hm:z8G fuel x0=some r):
  Calls Tryz.prog 260 ⟨[.int .i64 x0]⟩ w (Ret fun v w8=>v=.bool r∧St w w8 []):=by
 refine into Tryz.func260 9 _ ?_;unfold z8G at hm;have hS:=St.start w;refine sq<|rg<|rr 1 ?_;refine rn<|sq<|rg<|rr 3 ?_;refine rb 5 hm (fun hm=>?_) (fun hm=>?_)
 ·refine rr 4 ?_;refine rn<|rt ?_;cases hm;exact⟨_,.cons (.tmp rfl) .nil,rfl,hS⟩
 ·refine rr 4 ?_;refine rn<|rt ?_;cases hm;exact⟨_,.cons (.tmp rfl) .nil,rfl,hS⟩

theorem zhv:Enters Tryz.prog 261:=⟨_,_,Tryz.func261,rfl,by kernel_rfl⟩
def z4g (fuel:Nat) (x0:Int):Option (Bool):=(if(decide (x0≥1))=true then some (decide (x0≤6)) else some false)

theorem zaW {W w:World}(hE:Ext W w){x0:Int}  {fuel:Nat}{r:Bool}(hm:z4g fuel x0=some r):
  Calls Tryz.prog 261 ⟨[.int .i64 x0]⟩ w (Ret fun v w8=>v=.bool r∧St w w8 []):=by
 refine into Tryz.func261 9 _ ?_;unfold z4g at hm;have hS:=St.start w;refine sq<|rg<|rr 1 ?_;refine rn<|sq<|rg<|rr 3 ?_;refine rb 5 hm (fun hm=>?_) (fun hm=>?_)
 ·refine rr 4 ?_;refine rn<|rt ?_;cases hm;exact⟨_,.cons (.tmp rfl) .nil,rfl,hS⟩
 ·refine rr 4 ?_;refine rn<|rt ?_;cases hm;exact⟨_,.cons (.tmp rfl) .nil,rfl,hS⟩

theorem zkU:Enters Tryz.prog 233:=⟨_,_,Tryz.func233,rfl,by kernel_rfl⟩
def z3X (fuel:Nat) (d:Bool × Bool):Option Bool:=(if d.1=true then some d.2 else some false)
def z3W (fuel:Nat) (d:Bool × Bool):Option Bool:=z3X fuel (d.1,d.2)
def z3V (fuel:Nat) (d:Bool × Bool):Option Bool:=z3W fuel (d.1,d.2)
def z3U (fuel:Nat) (x0:D.QJ) (d:Bool):Option Bool:=z3V fuel (d,((x0.Data.length:Int) == 0))
def z3T (fuel:Nat) (d:Bool × Bool):Option Bool:=z3V fuel (d.1,d.2)
def z2z (fuel:Nat) (x0:D.QJ) (d:Bool):Option Bool:=z3T fuel ((x0.Value == 0),d)
def z3S (fuel:Nat) (d:Bool × Bool):Option Bool:=z3T fuel (d.1,d.2)
def z3R (fuel:Nat) (x0:D.QJ) (d:Bool):Option Bool:=z3S fuel ((x0.Value == 0),d)
def z3e (fuel:Nat) (x0:D.QJ) (d:Bool):Option Bool:=z3S fuel (d,((x0.Data.length:Int) == 0))
def z1J (fuel:Nat) (x0:D.QJ) (H:Bool):Option Bool:=(if H=true then some false else((zL fuel x0.Data (fun y0=>z5U fuel y0)).bind fun h=>(if(x0.Qj == 6)=true then((z8G fuel x0.Value).bind fun o=>z3X fuel (o,((x0.Data.length:Int) == 0))) else(if(x0.Qj == 7)=true then((z4g fuel x0.Value).bind fun q=>z3W fuel (q,((x0.Data.length:Int) == 0))) else(if(x0.Qj == 8)=true then((z4g fuel x0.Value).bind fun y=>(if y=true then(if((x0.Data.length:Int) == 1)=true then((idx x0.Data 0).bind fun M=>((z8G fuel M).bind fun G=>some G)) else some false) else some false)) else(if(x0.Qj == 9)=true then(if(decide (x0.Value≥0))=true then z3U fuel x0 (decide (x0.Value<4)) else z3U fuel x0 false) else(if(x0.Qj == 10)=true then(if(decide ((x0.Data.length:Int)≥1))=true then(if(decide ((x0.Data.length:Int)≤4))=true then z2z fuel x0 (!h) else z2z fuel x0 false) else z2z fuel x0 false) else(if(x0.Qj == 11)=true then(if((x0.Data.length:Int) == 2)=true then z3R fuel x0 (!h) else z3R fuel x0 false) else(if(x0.Qj == 12)=true then((z4h fuel x0.Value).bind fun d=>z3e fuel x0 d) else z3e fuel x0 (x0.Value == 0))))))))))
def z2V (fuel:Nat) (x0:D.QJ):Option (Bool):=(if((x0.Qa0.length:Int) == 0)=true then z1J fuel x0 true else((z7J fuel x0.Qj (x0.Qa0.length:Int)).bind fun d=>((z7d fuel x0.Qj d).bind fun h=>(if(h != (x0.Qa0.length:Int))=true then z1J fuel x0 true else((z76 fuel x0.Qj x0.QO).bind fun o=>z1J fuel x0 (!o))))))

theorem zd4 {W w:World}(hE:Ext W w){J1:List Value}{x0:D.QJ}(M1:zcr.ro W J1 x0){fuel:Nat}{r:Bool}(hm:z2V fuel x0=some r):
  Calls Tryz.prog 233 ⟨[.agg ⟨J1⟩]⟩ w (Ret fun v w8=>v=.bool r∧St w w8 []):=by
 obtain⟨A1,k2,A4,k5,e7,h3,h6⟩:=zce M1;subst e7;refine into Tryz.func233 117 _ ?_;unfold z2V at hm;have hS:=St.start w;refine sq<|rg<|nw hS (fun M b2 j2 o=>?_);refine rr 1 ?_;refine rn<|sq<|sq<|ct (fun(H1:Bool) F w9=>z1J fuel x0 H1=some r∧Ext b2 w9∧St w w9 [Box M [.int .i64 x0.Qj,.int .i64 x0.QO,.int .i64 x0.Value,sl A1 x0.Data k2,sl A4 x0.Qa0 k5] 262]∧F=[(1,.pointer (some ⟨M,0,none⟩)),(32,.bool H1)]) ?_ ?_
 ·rintro H1 F u2 ⟨hm,N1,Y,rfl⟩;unfold z1J at hm;refine ci hm (fun hm=>?_) (fun hm=>?_)
  ·refine sq<|rg<|rr 1 ?_;refine rn<|rt ?_;cases hm;exact⟨_,.cons (.tmp rfl) .nil,rfl,(Y.taken 0)⟩
  ·refine sp<|sq<|dn 0 mixed 9 [([],511),([0],510),([1],509),([],511),([3],503),([4],495),([5],479),([2,0,1,2],507),([6,7,0,1,2,3,4,5,6,7],447)] Y.ext (fun H=>?_);have f0:=Y.step (Ext.draw _);refine dr 7 H [0,3] ?_;refine dl H 1 ((Y.bring 0 rfl).box) 2 ?_;refine dr 4 H [2,7] ?_;refine dl H 4 ((Y.bring 0 rfl).box) 3 ?_;refine dr 0 H [5,6,8] ?_;refine dw [1,3,4] ?_;refine dd H ?_;refine sq<|rg<|rr 1 ?_;refine l1 ((f0.bring 0 rfl).box) 3 ?_;obtain⟨K1,v1,hm⟩:=bS hm;refine ca zhQ (z4U (hE.trans f0.ext) h3 ⟨zkA,fun e9=>(fun  P1=>zbZ (Ext.refl _)  P1)⟩ v1) (fun p2 b0 U0=>?_);obtain⟨rfl,V0⟩:=U0;have h:=f0.join V0;refine rr 2 ?_;refine rn<|sq<|sq<|rg<|rr 1 ?_;refine l1 ((h.bring 0 rfl).box) 0 ?_;refine rn<|bk<|sq<|rg<|rr 2 ?_;refine rn<|ct (fun(M0:Bool × Bool) F w9=>z3X fuel M0=some r∧Ext b0 w9∧St w w9 [Box M [.int .i64 x0.Qj,.int .i64 x0.QO,.int .i64 x0.Value,sl A1 x0.Data k2,sl A4 x0.Qa0 k5] 262]∧F=[(3,.bool M0.1),(4,.bool M0.2)]) ?_ ?_
   ·rintro M0 F v2 ⟨hm,O1,G0,rfl⟩;unfold z3X at hm;refine sq<|rg<|rr 2 ?_;refine rb 114 hm (fun hm=>?_) (fun hm=>?_)
    ·refine rr 3 ?_;refine rn<|rt ?_;cases hm;exact⟨_,.cons (.tmp rfl) .nil,rfl,(G0.taken 0)⟩
    ·refine rr 3 ?_;refine rn<|rt ?_;cases hm;exact⟨_,.cons (.tmp rfl) .nil,rfl,(G0.taken 0)⟩
   ·refine ci hm (fun hm=>?_) (fun hm=>?_)
    ·refine rg<|rr 1 ?_;refine l1 ((h.bring 0 rfl).box) 2 ?_;obtain⟨S1,y1,hm⟩:=bS hm;refine ca zhw (zd7 (hE.trans h.ext)  y1) (fun q2 y2 X0=>?_);obtain⟨rfl,y0⟩:=X0;have f1:=h.join y0;refine rr 1 ?_;refine rn ?_;exact⟨(S1,((x0.Data.length:Int) == 0)),_,⟨hm,y0.ext,f1,rfl⟩,rfl⟩
    ·refine sq<|rg<|rr 2 ?_;refine rn<|ct (fun(g0:Bool × Bool) F w9=>z3W fuel g0=some r∧Ext b0 w9∧St w w9 [Box M [.int .i64 x0.Qj,.int .i64 x0.QO,.int .i64 x0.Value,sl A1 x0.Data k2,sl A4 x0.Qa0 k5] 262]∧F=[(3,.bool g0.1),(4,.bool g0.2)]) ?_ ?_
     ·rintro g0 F A2 ⟨hm,P0,g1,rfl⟩;unfold z3W at hm;exact⟨(g0.1,g0.2),_,⟨hm,P0,g1,rfl⟩,rfl⟩
     ·refine ci hm (fun hm=>?_) (fun hm=>?_)
      ·refine rg<|rr 1 ?_;refine l1 ((h.bring 0 rfl).box) 2 ?_;obtain⟨T1,B1,hm⟩:=bS hm;refine ca zhv (zaW (hE.trans h.ext)  B1) (fun r2 B2 Y0=>?_);obtain⟨rfl,A0⟩:=Y0;have i1:=h.join A0;refine rr 1 ?_;refine rn ?_;exact⟨(T1,((x0.Data.length:Int) == 0)),_,⟨hm,A0.ext,i1,rfl⟩,rfl⟩
      ·refine sq<|rg<|rr 2 ?_;refine rn<|ci hm (fun hm=>?_) (fun hm=>?_)
       ·refine sq<|rg<|rr 1 ?_;refine l1 ((h.bring 0 rfl).box) 2 ?_;obtain⟨n2,C1,hm⟩:=bS hm;refine ca zhv (zaW (hE.trans h.ext)  C1) (fun s2 C2 a1=>?_);obtain⟨rfl,b1⟩:=a1;have q:=h.join b1;refine rr 1 ?_;refine rb 61 hm (fun hm=>?_) (fun hm=>?_)
        ·refine rr 1 ?_;refine l1 ((q.bring 0 rfl).box) 3 ?_;refine rr 4 ?_;refine rb 67 hm (fun hm=>?_) (fun hm=>?_)
         ·refine rr 1 ?_;refine l1 ((q.bring 0 rfl).box) 3 ?_;obtain⟨J2,D1,hm⟩:=bS hm;refine ix (hE.trans q.ext) h3 D1 (fun m2 L1 t1 u1=>?_);cases u1;refine l1 (At.ext (hE.trans q.ext) t1) 0 ?_;obtain⟨o2,E1,hm⟩:=bS hm;refine ca zhw (zd7 (hE.trans q.ext)  E1) (fun t2 D2 d1=>?_);obtain⟨rfl,e1⟩:=d1;have j1:=q.join e1;refine rr 2 ?_;refine rn<|rt ?_;cases hm;exact⟨_,.cons (.tmp rfl) .nil,rfl,(j1.taken 0)⟩
         ·refine rr 7 ?_;refine rn<|rt ?_;cases hm;exact⟨_,.cons (.tmp rfl) .nil,rfl,(q.taken 0)⟩
        ·refine rr 13 ?_;refine rn<|rt ?_;cases hm;exact⟨_,.cons (.tmp rfl) .nil,rfl,(q.taken 0)⟩
       ·refine sq<|rg<|rr 2 ?_;refine rn<|ct (fun(i0:Bool × Bool) F w9=>z3V fuel i0=some r∧Ext b0 w9∧St w w9 [Box M [.int .i64 x0.Qj,.int .i64 x0.QO,.int .i64 x0.Value,sl A1 x0.Data k2,sl A4 x0.Qa0 k5] 262]∧F=[(3,.bool i0.1),(4,.bool i0.2)]) ?_ ?_
        ·rintro i0 F E2 ⟨hm,Q0,m1,rfl⟩;unfold z3V at hm;exact⟨(i0.1,i0.2),_,⟨hm,Q0,m1,rfl⟩,rfl⟩
        ·refine ci hm (fun hm=>?_) (fun hm=>?_)
         ·refine ct (fun(N0:Bool) F w9=>z3U fuel x0 N0=some r∧Ext b0 w9∧St w w9 [Box M [.int .i64 x0.Qj,.int .i64 x0.QO,.int .i64 x0.Value,sl A1 x0.Data k2,sl A4 x0.Qa0 k5] 262]∧F=[(3,.bool N0),(4,.bool ((x0.Data.length:Int) == 0))]) ?_ ?_
          ·rintro N0 F F2 ⟨hm,R0,n1,rfl⟩;unfold z3U at hm;exact⟨(N0,((x0.Data.length:Int) == 0)),_,⟨hm,R0,n1,rfl⟩,rfl⟩
          ·refine rg<|rr 1 ?_;refine l1 ((h.bring 0 rfl).box) 2 ?_;refine rr 2 ?_;refine rb 79 hm (fun hm=>?_) (fun hm=>?_)
           ·refine rr 1 ?_;refine l1 ((h.bring 0 rfl).box) 2 ?_;refine rr 3 ?_;refine rn ?_;exact⟨decide (x0.Value<4),_,⟨hm,(Ext.refl _),h,rfl⟩,rfl⟩
           ·refine rr 5 ?_;refine rn ?_;exact⟨false,_,⟨hm,(Ext.refl _),h,rfl⟩,rfl⟩
         ·refine sq<|rg<|rr 2 ?_;refine rn<|ct (fun(j0:Bool × Bool) F w9=>z3T fuel j0=some r∧Ext b0 w9∧St w w9 [Box M [.int .i64 x0.Qj,.int .i64 x0.QO,.int .i64 x0.Value,sl A1 x0.Data k2,sl A4 x0.Qa0 k5] 262]∧F=[(3,.bool j0.1),(4,.bool j0.2)]) ?_ ?_
          ·rintro j0 F G2 ⟨hm,S0,p1,rfl⟩;unfold z3T at hm;exact⟨(j0.1,j0.2),_,⟨hm,S0,p1,rfl⟩,rfl⟩
          ·refine ci hm (fun hm=>?_) (fun hm=>?_)
           ·refine ct (fun(O0:Bool) F w9=>z2z fuel x0 O0=some r∧Ext b0 w9∧St w w9 [Box M [.int .i64 x0.Qj,.int .i64 x0.QO,.int .i64 x0.Value,sl A1 x0.Data k2,sl A4 x0.Qa0 k5] 262]∧F=[(3,.bool (x0.Value == 0)),(4,.bool O0)]) ?_ ?_
            ·rintro O0 F H2 ⟨hm,T0,s1,rfl⟩;unfold z2z at hm;exact⟨((x0.Value == 0),O0),_,⟨hm,T0,s1,rfl⟩,rfl⟩
            ·refine rg<|rr 1 ?_;refine l1 ((h.bring 0 rfl).box) 3 ?_;refine rr 3 ?_;refine rb 90 hm (fun hm=>?_) (fun hm=>?_)
             ·refine rr 1 ?_;refine l1 ((h.bring 0 rfl).box) 3 ?_;refine rr 4 ?_;refine rb 96 hm (fun hm=>?_) (fun hm=>?_)
              ·refine rr 3 ?_;refine rn ?_;exact⟨!K1,_,⟨hm,(Ext.refl _),h,rfl⟩,rfl⟩
              ·refine rr 3 ?_;refine rn ?_;exact⟨false,_,⟨hm,(Ext.refl _),h,rfl⟩,rfl⟩
             ·refine rr 9 ?_;refine rn ?_;exact⟨false,_,⟨hm,(Ext.refl _),h,rfl⟩,rfl⟩
           ·refine sq<|rg<|rr 2 ?_;refine rn<|ct (fun(k0:Bool × Bool) F w9=>z3S fuel k0=some r∧Ext b0 w9∧St w w9 [Box M [.int .i64 x0.Qj,.int .i64 x0.QO,.int .i64 x0.Value,sl A1 x0.Data k2,sl A4 x0.Qa0 k5] 262]∧F=[(3,.bool k0.1),(4,.bool k0.2)]) ?_ ?_
            ·rintro k0 F Y1 ⟨hm,o0,B0,rfl⟩;unfold z3S at hm;exact⟨(k0.1,k0.2),_,⟨hm,o0,B0,rfl⟩,rfl⟩
            ·refine ci hm (fun hm=>?_) (fun hm=>?_)
             ·refine ct (fun(Z:Bool) F w9=>z3R fuel x0 Z=some r∧Ext b0 w9∧St w w9 [Box M [.int .i64 x0.Qj,.int .i64 x0.QO,.int .i64 x0.Value,sl A1 x0.Data k2,sl A4 x0.Qa0 k5] 262]∧F=[(3,.bool (x0.Value == 0)),(4,.bool Z)]) ?_ ?_
              ·rintro Z F a2 ⟨hm,p0,C0,rfl⟩;unfold z3R at hm;exact⟨((x0.Value == 0),Z),_,⟨hm,p0,C0,rfl⟩,rfl⟩
              ·refine rg<|rr 1 ?_;refine l1 ((h.bring 0 rfl).box) 3 ?_;refine rr 3 ?_;refine rb 105 hm (fun hm=>?_) (fun hm=>?_)
               ·refine rr 3 ?_;refine rn ?_;exact⟨!K1,_,⟨hm,(Ext.refl _),h,rfl⟩,rfl⟩
               ·refine rr 3 ?_;refine rn ?_;exact⟨false,_,⟨hm,(Ext.refl _),h,rfl⟩,rfl⟩
             ·refine sq<|rg<|rr 2 ?_;refine rn<|ct (fun(a0:Bool) F w9=>z3e fuel x0 a0=some r∧Ext b0 w9∧St w w9 [Box M [.int .i64 x0.Qj,.int .i64 x0.QO,.int .i64 x0.Value,sl A1 x0.Data k2,sl A4 x0.Qa0 k5] 262]∧F=[(3,.bool a0),(4,.bool ((x0.Data.length:Int) == 0))]) ?_ ?_
              ·rintro a0 F d2 ⟨hm,q0,D0,rfl⟩;unfold z3e at hm;exact⟨(a0,((x0.Data.length:Int) == 0)),_,⟨hm,q0,D0,rfl⟩,rfl⟩
              ·refine ci hm (fun hm=>?_) (fun hm=>?_)
               ·refine rg<|rr 1 ?_;refine l1 ((h.bring 0 rfl).box) 2 ?_;obtain⟨F1,H0,hm⟩:=bS hm;refine ca zhx (zaX (hE.trans h.ext)  H0) (fun U1 e2 r0=>?_);obtain⟨rfl,d0⟩:=r0;have E0:=h.join d0;refine rr 1 ?_;refine rn ?_;exact⟨F1,_,⟨hm,d0.ext,E0,rfl⟩,rfl⟩
               ·refine sp ?_;exact⟨(x0.Value == 0),_,⟨hm,(Ext.refl _),h,rfl⟩,rfl⟩
 ·refine dn 0 mixed 27 [([],134217727),([0],134217726),([1],134217725),([2],134217723),([3],134217719),([4],134217711),([5,4],134217679),([4],134217711),([7,4],134217583),([4],134217711),([9,4],134217199),([10,4],134216687),([8,11,4,4],134215407),([6,12,12,4],134213551),([4],134217711),([14,4],134201327),([15,4],134184943),([13,16,4],134143983),([4,17],134086639),([18,13],133955583),([19],133693439),([20,19],132644863),([19],133693439),([22,19],129499135),([21,23,19,19],123207679),([24,19],116916223),([19,25],100139007)] o.ext (fun d=>?_);have S:=o.step (Ext.draw _);refine dr 26 d [0] ?_;refine dl d 1 ((o.bring 0 rfl).box) 4 ?_;refine dr 22 d [2,3,4] ?_;refine dw [1,10] ?_;refine db 10 hm (fun hm=>?_) (fun hm=>?_)
  ·refine dr 0 d [5,6,7,8,9,10,11,12,13,14,15,16,17,18,19,20,21,22,23,24,25,26] ?_;refine dw [1,32] ?_;refine dd d ?_;exact⟨true,_,⟨hm,(Ext.draw _),S,rfl⟩,rfl⟩
  ·refine dr 18 d [5,7,9,14] ?_;refine dl d 6 ((o.bring 0 rfl).box) 0 ?_;refine dl d 8 ((o.bring 0 rfl).box) 0 ?_;refine dl d 10 ((o.bring 0 rfl).box) 4 ?_;refine dr 14 d [11] ?_;refine dl d 15 ((o.bring 0 rfl).box) 4 ?_;refine dr 12 d [16] ?_;refine dw [1,10,12,14,17,22] ?_;obtain⟨Q1,J0,hm⟩:=bS hm;refine o1 d 12 (mc d zkC (zdW (hE.trans S.ext)  J0) (fun V1 f2 t0=>?_));obtain⟨rfl,y⟩:=t0;refine⟨y.ext,?_⟩;have e0:=S.join y;obtain⟨R1,K0,hm⟩:=bS hm;refine o1 d 13 (mc d zkD (zeW (hE.trans e0.ext)  K0) (fun W1 g2 u0=>?_));obtain⟨rfl,G⟩:=u0;refine⟨G.ext,?_⟩;have X:=e0.join G;refine dr 7 d [17,18,19] ?_;refine dw [1,25] ?_;refine db 25 hm (fun hm=>?_) (fun hm=>?_)
   ·refine dr 0 d [20,21,22,23,24,25,26] ?_;refine dw [1,32] ?_;refine dd d ?_;exact⟨true,_,⟨hm,(((Ext.draw _).trans y.ext).trans G.ext),X,rfl⟩,rfl⟩
   ·refine dr 5 d [20,22] ?_;refine dl d 21 ((o.bring 0 rfl).box) 0 ?_;refine dl d 23 ((o.bring 0 rfl).box) 1 ?_;obtain⟨G1,L0,hm⟩:=bS hm;refine o1 d 24 (mc d zkB (zdz (hE.trans X.ext)  L0) (fun X1 i2 v0=>?_));obtain⟨rfl,O⟩:=v0;refine⟨O.ext,?_⟩;have F0:=X.join O;refine dr 0 d [25,26] ?_;refine dw [1,32] ?_;refine dd d ?_;exact⟨!G1,_,⟨hm,((((Ext.draw _).trans y.ext).trans G.ext).trans O.ext),F0,rfl⟩,rfl⟩

end Go.E


