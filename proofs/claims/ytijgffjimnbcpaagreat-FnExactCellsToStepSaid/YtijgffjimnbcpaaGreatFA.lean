/- Models of functions and proofs that the code runs as they say (written by program). Conditions: the model gives a value. -/
import Derived.Test.YtijgffjimnbcpaaGreatField
namespace Go.E
open Go.RowKit Go.Proofs
set_option linter.unusedVariables false
set_option linter.unusedSimpArgs false
set_option maxHeartbeats 2000000
set_option maxRecDepth 100000

theorem zeo:Enters Tryz.prog 185:=⟨_,_,Tryz.func185,rfl,by kernel_rfl⟩
def z1Z (fuel:Nat) (x0:D.Agent):Option (Int):=(if(x0.Kind == 9)=true then some (w64 ((x0.Ports.length:Int) - 1)) else some 0)

theorem z8J {W w:World}(hE:Ext W w){o:Addr}{d:List Value}{x0:D.Agent}(u:z6i.ro W d x0) (h:At W o d){fuel:Nat}{r:Int}(hm:z1Z fuel x0=some r):
  Calls Tryz.prog 185 ⟨[.pointer (some o)]⟩ w (Ret fun v w8=>v=.int .i64 r∧St w w8 []):=by
 obtain⟨A1,k2,A4,k5,e7,h3,h6⟩:=z6 u;subst e7;refine into Tryz.func185 14 _ ?_;unfold z1Z at hm;have hS:=St.start w;refine sq<|rg<|rr 1 ?_;refine rn<|sq<|sq<|rg<|rr 3 ?_;refine l1 (At.ext (hE.trans hS.ext) h) 0 ?_;refine rr 1 ?_;refine rn<|ci hm (fun hm=>?_) (fun hm=>?_)
 ·refine sq<|rg<|rr 3 ?_;refine l1 (At.ext (hE.trans hS.ext) h) 4 ?_;refine rr 3 ?_;refine rn<|rt ?_;cases hm;exact⟨_,.cons (.tmp rfl) .nil,rfl,hS⟩
 ·refine sp<|sq<|rg<|rr 1 ?_;refine rn<|rt ?_;cases hm;exact⟨_,.cons (.tmp rfl) .nil,rfl,hS⟩

theorem z1y:Enters Tryz.prog 57:=⟨_,_,Tryz.func57,rfl,by kernel_rfl⟩
def z5 (fuel:Nat) (x0:Int) (x1:Int) (x2:Int):Option (Bool):=(if(decide (x0≥x1))=true then some (decide (x0≤x2)) else some false)

theorem z7 {W w:World}(hE:Ext W w){x0:Int}{x1:Int}{x2:Int}  {fuel:Nat}{r:Bool}(hm:z5 fuel x0 x1 x2=some r):
  Calls Tryz.prog 57 ⟨[.int .i64 x0,.int .i64 x1,.int .i64 x2]⟩ w (Ret fun v w8=>v=.bool r∧St w w8 []):=by
 refine into Tryz.func57 15 _ ?_;unfold z5 at hm;have hS:=St.start w;refine sq<|rg<|rr 1 ?_;refine rn<|sq<|rg<|rr 4 ?_;refine rb 10 hm (fun hm=>?_) (fun hm=>?_)
 ·refine rr 5 ?_;refine rn<|rt ?_;cases hm;exact⟨_,.cons (.tmp rfl) .nil,rfl,hS⟩
 ·refine rr 5 ?_;refine rn<|rt ?_;cases hm;exact⟨_,.cons (.tmp rfl) .nil,rfl,hS⟩

theorem zep:Enters Tryz.prog 184:=⟨_,_,Tryz.func184,rfl,by kernel_rfl⟩
def z3G (fuel:Nat) (d:Bool):Option Int:=(if d=true then some 3 else some 0)
def z3F (fuel:Nat) (d:Bool):Option Int:=z3G fuel d
def z3E (fuel:Nat) (d:Bool):Option Int:=z3F fuel d
def z3H (fuel:Nat) (x0:Int) (d:Bool):Option Int:=(if d=true then some 2 else(if(x0 == 2)=true then z3G fuel (x0 == 2) else(if(x0 == 3)=true then z3F fuel (x0 == 3) else(if(x0 == 4)=true then z3E fuel (x0 == 4) else z3E fuel (x0 == 7)))))
def z3D (fuel:Nat) (x0:Int) (d:Bool):Option Int:=z3H fuel x0 d
def z3J (fuel:Nat) (x0:Int) (d:Bool):Option Int:=(if d=true then some 1 else(if(x0 == 8)=true then z3H fuel x0 (x0 == 8) else(if(x0 == 10)=true then z3D fuel x0 (x0 == 10) else z3D fuel x0 (x0 == 11))))
def z3C (fuel:Nat) (x0:Int) (d:Bool):Option Int:=z3J fuel x0 d
def z3B (fuel:Nat) (x0:Int) (d:Bool):Option Int:=z3C fuel x0 d
def z3i (fuel:Nat) (x0:Int) (x1:Int):Option (Int):=(if(x0 == 9)=true then((z5 fuel x1 0 3).bind fun r1=>(if r1=true then some (w64 (1+x1)) else some 0)) else(if(x1 != 0)=true then some 0 else(if(x0 == 1)=true then z3J fuel x0 (x0 == 1) else(if(x0 == 5)=true then z3C fuel x0 (x0 == 5) else(if(x0 == 6)=true then z3B fuel x0 (x0 == 6) else z3B fuel x0 (x0 == 12))))))

theorem z9y {W w:World}(hE:Ext W w){x0:Int}{x1:Int}  {fuel:Nat}{r:Int}(hm:z3i fuel x0 x1=some r):
  Calls Tryz.prog 184 ⟨[.int .i64 x0,.int .i64 x1]⟩ w (Ret fun v w8=>v=.int .i64 r∧St w w8 []):=by
 refine into Tryz.func184 28 _ ?_;unfold z3i at hm;have hS:=St.start w;refine sq<|rg<|rr 1 ?_;refine rn<|sq<|sq<|rg<|rr 2 ?_;refine rn<|ci hm (fun hm=>?_) (fun hm=>?_)
 ·refine sq<|sq<|rg<|rr 1 ?_;obtain⟨r1,t0,hm⟩:=bS hm;refine ca z1y (z7 (hE.trans hS.ext)  t0) (fun v3 w4 q0=>?_);obtain⟨rfl,r0⟩:=q0;have i0:=hS.join r0;refine rn<|ci hm (fun hm=>?_) (fun hm=>?_)
  ·refine sq<|rg<|rr 3 ?_;refine rn<|rt ?_;cases hm;exact⟨_,.cons (.tmp rfl) .nil,rfl,i0⟩
  ·refine sp<|sq<|rg<|rr 1 ?_;refine rn<|rt ?_;cases hm;exact⟨_,.cons (.tmp rfl) .nil,rfl,i0⟩
 ·refine sp<|sq<|sq<|rg<|rr 2 ?_;refine rn<|ci hm (fun hm=>?_) (fun hm=>?_)
  ·refine sq<|rg<|rr 1 ?_;refine rn<|rt ?_;cases hm;exact⟨_,.cons (.tmp rfl) .nil,rfl,hS⟩
  ·refine sp<|sq<|sq<|rg<|rr 1 ?_;refine rn<|bk<|sq<|sq<|rg<|rr 2 ?_;refine rn<|ct (fun(d0:Bool) F w9=>z3J fuel x0 d0=some r∧Ext w w9∧St w w9 []∧F=[(13,.int .i64 x0),(14,.bool d0)]) ?_ ?_
   ·rintro d0 F j0 ⟨hm,k0,h,rfl⟩;unfold z3J at hm;refine ci hm (fun hm=>?_) (fun hm=>?_)
    ·refine sq<|rg<|rr 1 ?_;refine rn<|rt ?_;cases hm;exact⟨_,.cons (.tmp rfl) .nil,rfl,h⟩
    ·refine sq<|sq<|rg<|rr 2 ?_;refine rn<|ct (fun(e0:Bool) F w9=>z3H fuel x0 e0=some r∧Ext j0 w9∧St w w9 []∧F=[(13,.int .i64 x0),(19,.bool e0)]) ?_ ?_
     ·rintro e0 F g0 ⟨hm,o0,d,rfl⟩;unfold z3H at hm;refine ci hm (fun hm=>?_) (fun hm=>?_)
      ·refine sq<|rg<|rr 1 ?_;refine rn<|rt ?_;cases hm;exact⟨_,.cons (.tmp rfl) .nil,rfl,d⟩
      ·refine sq<|sq<|rg<|rr 2 ?_;refine rn<|ct (fun(f0:Bool) F w9=>z3G fuel f0=some r∧Ext g0 w9∧St w w9 []∧F=[(23,.bool f0)]) ?_ ?_
       ·rintro f0 F u0 ⟨hm,p0,o,rfl⟩;unfold z3G at hm;refine ci hm (fun hm=>?_) (fun hm=>?_)
        ·refine sq<|rg<|rr 1 ?_;refine rn<|rt ?_;cases hm;exact⟨_,.cons (.tmp rfl) .nil,rfl,o⟩
        ·refine sp<|sq<|rg<|rr 1 ?_;refine rn<|rt ?_;cases hm;exact⟨_,.cons (.tmp rfl) .nil,rfl,o⟩
       ·refine ci hm (fun hm=>?_) (fun hm=>?_)
        ·refine sp ?_;exact⟨(x0 == 2),_,⟨hm,(Ext.refl _),d,rfl⟩,rfl⟩
        ·refine sq<|rg<|rr 2 ?_;refine rn<|ct (fun(u:Bool) F w9=>z3F fuel u=some r∧Ext g0 w9∧St w w9 []∧F=[(23,.bool u)]) ?_ ?_
         ·rintro u F v0 ⟨hm,L,X,rfl⟩;unfold z3F at hm;exact⟨u,_,⟨hm,L,X,rfl⟩,rfl⟩
         ·refine ci hm (fun hm=>?_) (fun hm=>?_)
          ·refine sp ?_;exact⟨(x0 == 3),_,⟨hm,(Ext.refl _),d,rfl⟩,rfl⟩
          ·refine sq<|rg<|rr 2 ?_;refine rn<|ct (fun(y:Bool) F w9=>z3E fuel y=some r∧Ext g0 w9∧St w w9 []∧F=[(23,.bool y)]) ?_ ?_
           ·rintro y F y0 ⟨hm,M,Y,rfl⟩;unfold z3E at hm;exact⟨y,_,⟨hm,M,Y,rfl⟩,rfl⟩
           ·refine ci hm (fun hm=>?_) (fun hm=>?_)
            ·refine sp ?_;exact⟨(x0 == 4),_,⟨hm,(Ext.refl _),d,rfl⟩,rfl⟩
            ·refine rg<|rr 2 ?_;refine rn ?_;exact⟨(x0 == 7),_,⟨hm,(Ext.refl _),d,rfl⟩,rfl⟩
     ·refine ci hm (fun hm=>?_) (fun hm=>?_)
      ·refine sp ?_;exact⟨(x0 == 8),_,⟨hm,(Ext.refl _),h,rfl⟩,rfl⟩
      ·refine sq<|rg<|rr 2 ?_;refine rn<|ct (fun(z:Bool) F w9=>z3D fuel x0 z=some r∧Ext j0 w9∧St w w9 []∧F=[(13,.int .i64 x0),(19,.bool z)]) ?_ ?_
       ·rintro z F A0 ⟨hm,O,Z,rfl⟩;unfold z3D at hm;exact⟨z,_,⟨hm,O,Z,rfl⟩,rfl⟩
       ·refine ci hm (fun hm=>?_) (fun hm=>?_)
        ·refine sp ?_;exact⟨(x0 == 10),_,⟨hm,(Ext.refl _),h,rfl⟩,rfl⟩
        ·refine rg<|rr 2 ?_;refine rn ?_;exact⟨(x0 == 11),_,⟨hm,(Ext.refl _),h,rfl⟩,rfl⟩
   ·refine ci hm (fun hm=>?_) (fun hm=>?_)
    ·refine sp ?_;exact⟨(x0 == 1),_,⟨hm,(Ext.refl _),hS,rfl⟩,rfl⟩
    ·refine sq<|rg<|rr 2 ?_;refine rn<|ct (fun(G:Bool) F w9=>z3C fuel x0 G=some r∧Ext w w9∧St w w9 []∧F=[(13,.int .i64 x0),(14,.bool G)]) ?_ ?_
     ·rintro G F B0 ⟨hm,S,a0,rfl⟩;unfold z3C at hm;exact⟨G,_,⟨hm,S,a0,rfl⟩,rfl⟩
     ·refine ci hm (fun hm=>?_) (fun hm=>?_)
      ·refine sp ?_;exact⟨(x0 == 5),_,⟨hm,(Ext.refl _),hS,rfl⟩,rfl⟩
      ·refine sq<|rg<|rr 2 ?_;refine rn<|ct (fun(H:Bool) F w9=>z3B fuel x0 H=some r∧Ext w w9∧St w w9 []∧F=[(13,.int .i64 x0),(14,.bool H)]) ?_ ?_
       ·rintro H F C0 ⟨hm,V,b0,rfl⟩;unfold z3B at hm;exact⟨H,_,⟨hm,V,b0,rfl⟩,rfl⟩
       ·refine ci hm (fun hm=>?_) (fun hm=>?_)
        ·refine sp ?_;exact⟨(x0 == 6),_,⟨hm,(Ext.refl _),hS,rfl⟩,rfl⟩
        ·refine rg<|rr 2 ?_;refine rn ?_;exact⟨(x0 == 12),_,⟨hm,(Ext.refl _),hS,rfl⟩,rfl⟩

theorem zbW:Enters Tryz.prog 162:=⟨_,_,Tryz.func162,rfl,by kernel_rfl⟩
def z39 (fuel:Nat) (t1:Bool):Option Bool:=(if t1=true then some true else some false)
def z38 (fuel:Nat) (t6:Bool):Option Bool:=z39 fuel t6
def z37 (fuel:Nat) (d:Bool):Option Bool:=z38 fuel d
def z36 (fuel:Nat) (d:Bool):Option Bool:=z37 fuel d
def z35 (fuel:Nat) (d:Bool):Option Bool:=z36 fuel d
def z34 (fuel:Nat) (d:Bool):Option Bool:=z35 fuel d
def z33 (fuel:Nat) (d:Bool):Option Bool:=z34 fuel d
def z32 (fuel:Nat) (d:Bool):Option Bool:=z33 fuel d
def z3L (fuel:Nat) (x0:Int):Option (Bool):=(if(x0 == 2)=true then z39 fuel (x0 == 2) else(if(x0 == 3)=true then z38 fuel (x0 == 3) else(if(x0 == 4)=true then z37 fuel (x0 == 4) else(if(x0 == 7)=true then z36 fuel (x0 == 7) else(if(x0 == 8)=true then z35 fuel (x0 == 8) else(if(x0 == 9)=true then z34 fuel (x0 == 9) else(if(x0 == 10)=true then z33 fuel (x0 == 10) else(if(x0 == 11)=true then z32 fuel (x0 == 11) else z32 fuel (x0 == 12)))))))))

theorem z7r {W w:World}(hE:Ext W w){x0:Int}  {fuel:Nat}{r:Bool}(hm:z3L fuel x0=some r):
  Calls Tryz.prog 162 ⟨[.int .i64 x0]⟩ w (Ret fun v w8=>v=.bool r∧St w w8 []):=by
 refine into Tryz.func162 14 _ ?_;unfold z3L at hm;have hS:=St.start w;refine sq<|rg<|rr 1 ?_;refine rn<|sq<|sq<|rg<|rr 1 ?_;refine rn<|bk<|sq<|sq<|rg<|rr 2 ?_;refine rn<|ct (fun(t1:Bool) F w9=>z39 fuel t1=some r∧Ext w w9∧St w w9 []∧F=[(4,.bool t1)]) ?_ ?_
 ·rintro t1 F w4 ⟨hm,g0,e0,rfl⟩;unfold z39 at hm;refine ci hm (fun hm=>?_) (fun hm=>?_)
  ·refine sq<|rg<|rr 1 ?_;refine rn<|rt ?_;cases hm;exact⟨_,.cons (.tmp rfl) .nil,rfl,e0⟩
  ·refine sp<|sq<|rg<|rr 1 ?_;refine rn<|rt ?_;cases hm;exact⟨_,.cons (.tmp rfl) .nil,rfl,e0⟩
 ·refine ci hm (fun hm=>?_) (fun hm=>?_)
  ·refine sp ?_;exact⟨(x0 == 2),_,⟨hm,(Ext.refl _),hS,rfl⟩,rfl⟩
  ·refine sq<|rg<|rr 2 ?_;refine rn<|ct (fun(t6:Bool) F w9=>z38 fuel t6=some r∧Ext w w9∧St w w9 []∧F=[(4,.bool t6)]) ?_ ?_
   ·rintro t6 F i0 ⟨hm,f0,V,rfl⟩;unfold z38 at hm;exact⟨t6,_,⟨hm,f0,V,rfl⟩,rfl⟩
   ·refine ci hm (fun hm=>?_) (fun hm=>?_)
    ·refine sp ?_;exact⟨(x0 == 3),_,⟨hm,(Ext.refl _),hS,rfl⟩,rfl⟩
    ·refine sq<|rg<|rr 2 ?_;refine rn<|ct (fun(d:Bool) F w9=>z37 fuel d=some r∧Ext w w9∧St w w9 []∧F=[(4,.bool d)]) ?_ ?_
     ·rintro d F j0 ⟨hm,G,X,rfl⟩;unfold z37 at hm;exact⟨d,_,⟨hm,G,X,rfl⟩,rfl⟩
     ·refine ci hm (fun hm=>?_) (fun hm=>?_)
      ·refine sp ?_;exact⟨(x0 == 4),_,⟨hm,(Ext.refl _),hS,rfl⟩,rfl⟩
      ·refine sq<|rg<|rr 2 ?_;refine rn<|ct (fun(h:Bool) F w9=>z36 fuel h=some r∧Ext w w9∧St w w9 []∧F=[(4,.bool h)]) ?_ ?_
       ·rintro h F k0 ⟨hm,H,Y,rfl⟩;unfold z36 at hm;exact⟨h,_,⟨hm,H,Y,rfl⟩,rfl⟩
       ·refine ci hm (fun hm=>?_) (fun hm=>?_)
        ·refine sp ?_;exact⟨(x0 == 7),_,⟨hm,(Ext.refl _),hS,rfl⟩,rfl⟩
        ·refine sq<|rg<|rr 2 ?_;refine rn<|ct (fun(o:Bool) F w9=>z35 fuel o=some r∧Ext w w9∧St w w9 []∧F=[(4,.bool o)]) ?_ ?_
         ·rintro o F o0 ⟨hm,L,Z,rfl⟩;unfold z35 at hm;exact⟨o,_,⟨hm,L,Z,rfl⟩,rfl⟩
         ·refine ci hm (fun hm=>?_) (fun hm=>?_)
          ·refine sp ?_;exact⟨(x0 == 8),_,⟨hm,(Ext.refl _),hS,rfl⟩,rfl⟩
          ·refine sq<|rg<|rr 2 ?_;refine rn<|ct (fun(u:Bool) F w9=>z34 fuel u=some r∧Ext w w9∧St w w9 []∧F=[(4,.bool u)]) ?_ ?_
           ·rintro u F p0 ⟨hm,M,a0,rfl⟩;unfold z34 at hm;exact⟨u,_,⟨hm,M,a0,rfl⟩,rfl⟩
           ·refine ci hm (fun hm=>?_) (fun hm=>?_)
            ·refine sp ?_;exact⟨(x0 == 9),_,⟨hm,(Ext.refl _),hS,rfl⟩,rfl⟩
            ·refine sq<|rg<|rr 2 ?_;refine rn<|ct (fun(y:Bool) F w9=>z33 fuel y=some r∧Ext w w9∧St w w9 []∧F=[(4,.bool y)]) ?_ ?_
             ·rintro y F q0 ⟨hm,O,b0,rfl⟩;unfold z33 at hm;exact⟨y,_,⟨hm,O,b0,rfl⟩,rfl⟩
             ·refine ci hm (fun hm=>?_) (fun hm=>?_)
              ·refine sp ?_;exact⟨(x0 == 10),_,⟨hm,(Ext.refl _),hS,rfl⟩,rfl⟩
              ·refine sq<|rg<|rr 2 ?_;refine rn<|ct (fun(z:Bool) F w9=>z32 fuel z=some r∧Ext w w9∧St w w9 []∧F=[(4,.bool z)]) ?_ ?_
               ·rintro z F r0 ⟨hm,S,d0,rfl⟩;unfold z32 at hm;exact⟨z,_,⟨hm,S,d0,rfl⟩,rfl⟩
               ·refine ci hm (fun hm=>?_) (fun hm=>?_)
                ·refine sp ?_;exact⟨(x0 == 11),_,⟨hm,(Ext.refl _),hS,rfl⟩,rfl⟩
                ·refine rg<|rr 2 ?_;refine rn ?_;exact⟨(x0 == 12),_,⟨hm,(Ext.refl _),hS,rfl⟩,rfl⟩

theorem zeb:Enters Tryz.prog 206:=⟨_,_,Tryz.func206,rfl,by kernel_rfl⟩
def z6h (fuel:Nat) (x0:Int):Option (Bool):=((z5 fuel x0 1 12).bind fun r1=>some r1)

theorem z9x {W w:World}(hE:Ext W w){x0:Int}  {fuel:Nat}{r:Bool}(hm:z6h fuel x0=some r):
  Calls Tryz.prog 206 ⟨[.int .i64 x0]⟩ w (Ret fun v w8=>v=.bool r∧St w w8 []):=by
 refine into Tryz.func206 5 _ ?_;unfold z6h at hm;have hS:=St.start w;refine sq<|rg<|rr 1 ?_;refine rn<|sq<|rg<|rr 1 ?_;obtain⟨r1,u,hm⟩:=bS hm;refine ca z1y (z7 (hE.trans hS.ext)  u) (fun v3 w4 d=>?_);obtain⟨rfl,h⟩:=d;have o:=hS.join h;refine rr 1 ?_;refine rn<|rt ?_;cases hm;exact⟨_,.cons (.tmp rfl) .nil,rfl,o⟩

theorem z8D:Enters Tryz.prog 186:=⟨_,_,Tryz.func186,rfl,by kernel_rfl⟩
def z1N (fuel:Nat) (x0:Int) (x1:Int):Option (Bool):=((z3L fuel x0).bind fun r1=>(if r1=true then((z5 fuel x1 0 8).bind fun d=>some d) else((z6h fuel x0).bind fun h=>(if h=true then some (x1 == 0) else some false))))

theorem z5y {W w:World}(hE:Ext W w){x0:Int}{x1:Int}  {fuel:Nat}{r:Bool}(hm:z1N fuel x0 x1=some r):
  Calls Tryz.prog 186 ⟨[.int .i64 x0,.int .i64 x1]⟩ w (Ret fun v w8=>v=.bool r∧St w w8 []):=by
 refine into Tryz.func186 15 _ ?_;unfold z1N at hm;have hS:=St.start w;refine sq<|rg<|rr 1 ?_;refine rn<|sq<|sq<|rg<|rr 1 ?_;obtain⟨r1,S,hm⟩:=bS hm;refine ca zbW (z7r (hE.trans hS.ext)  S) (fun v3 w4 M=>?_);obtain⟨rfl,O⟩:=M;have h:=hS.join O;refine rn<|ci hm (fun hm=>?_) (fun hm=>?_)
 ·refine sq<|rg<|rr 1 ?_;obtain⟨V,H,hm⟩:=bS hm;refine ca z1y (z7 (hE.trans h.ext)  H) (fun Y a0 o=>?_);obtain⟨rfl,u⟩:=o;have G:=h.join u;refine rr 1 ?_;refine rn<|rt ?_;cases hm;exact⟨_,.cons (.tmp rfl) .nil,rfl,G⟩
 ·refine sp<|sq<|rg<|rr 1 ?_;obtain⟨X,L,hm⟩:=bS hm;refine ca zeb (z9x (hE.trans h.ext)  L) (fun Z b0 y=>?_);obtain⟨rfl,z⟩:=y;have d:=h.join z;refine rr 1 ?_;refine rb 11 hm (fun hm=>?_) (fun hm=>?_)
  ·refine rr 4 ?_;refine rn<|rt ?_;cases hm;exact⟨_,.cons (.tmp rfl) .nil,rfl,d⟩
  ·refine rr 4 ?_;refine rn<|rt ?_;cases hm;exact⟨_,.cons (.tmp rfl) .nil,rfl,d⟩

theorem zbN:Enters Tryz.prog 207:=⟨_,_,Tryz.func207,rfl,by kernel_rfl⟩
def z4Q (fuel:Nat) (x0:Int):Option (Bool):=((z5 fuel x0 0 23).bind fun r1=>some r1)

theorem z7Z {W w:World}(hE:Ext W w){x0:Int}  {fuel:Nat}{r:Bool}(hm:z4Q fuel x0=some r):
  Calls Tryz.prog 207 ⟨[.int .i64 x0]⟩ w (Ret fun v w8=>v=.bool r∧St w w8 []):=by
 refine into Tryz.func207 5 _ ?_;unfold z4Q at hm;have hS:=St.start w;refine sq<|rg<|rr 1 ?_;refine rn<|sq<|rg<|rr 1 ?_;obtain⟨r1,u,hm⟩:=bS hm;refine ca z1y (z7 (hE.trans hS.ext)  u) (fun v3 w4 d=>?_);obtain⟨rfl,h⟩:=d;have o:=hS.join h;refine rr 1 ?_;refine rn<|rt ?_;cases hm;exact⟨_,.cons (.tmp rfl) .nil,rfl,o⟩

theorem zen:Enters Tryz.prog 187:=⟨_,_,Tryz.func187,rfl,by kernel_rfl⟩
def z57 (fuel:Nat) (d:Unit):Option Bool:=some true
def z24 (fuel:Nat) (x0:D.Agent) (d:Int):Option (Rd (Int) (Unit) (Bool)):=(if(decide (d<(x0.Data.length:Int)))=true then((idx x0.Data d).bind fun o=>((z4Q fuel o).bind fun h=>(if(!h)=true then some (.ret false) else some (.next (w64 (d+1)))))) else some (.brk ()))
def zw (fuel:Nat) (x0:D.Agent) (d:Bool):Option Bool:=(if d=true then some false else((iter (z24 fuel x0) fuel 0).bind fun o=>aft o (z57 fuel)))
def z1d (fuel:Nat) (x0:D.Agent) (o:Bool):Option Bool:=(if o=true then(if(x0.Value != 0)=true then zw fuel x0 true else(if(x0.Kind == 11)=true then(if((x0.Data.length:Int) != 2)=true then zw fuel x0 true else(if(x0.Kind == 10)=true then((z5 fuel (x0.Data.length:Int) 1 4).bind fun d=>zw fuel x0 (!d)) else zw fuel x0 false)) else(if(x0.Kind == 10)=true then((z5 fuel (x0.Data.length:Int) 1 4).bind fun h=>zw fuel x0 (!h)) else zw fuel x0 false))) else(if(x0.Value == 0)=true then some ((x0.Data.length:Int) == 0) else some false))
def zy (fuel:Nat) (x0:D.Agent):Option (Bool):=(if(x0.Kind == 6)=true then(if((x0.Data.length:Int) == 0)=true then((z5 fuel x0.Value (-2147483648) 2147483647).bind fun d=>some d) else some false) else(if(x0.Kind == 7)=true then(if((x0.Data.length:Int) == 0)=true then((z5 fuel x0.Value 1 6).bind fun h=>some h) else some false) else(if(x0.Kind == 8)=true then(if((x0.Data.length:Int) == 1)=true then((z5 fuel x0.Value 1 6).bind fun o=>(if o=true then((idx x0.Data 0).bind fun G=>((z5 fuel G (-2147483648) 2147483647).bind fun u=>some u)) else some false)) else some false) else(if(x0.Kind == 9)=true then(if((x0.Data.length:Int) == 0)=true then((z5 fuel x0.Value 0 3).bind fun y=>some y) else some false) else(if(x0.Kind == 12)=true then(if((x0.Data.length:Int) == 0)=true then((z4Q fuel x0.Value).bind fun z=>some z) else some false) else(if(x0.Kind == 10)=true then z1d fuel x0 (x0.Kind == 10) else z1d fuel x0 (x0.Kind == 11)))))))

theorem z8j {W w:World}(hE:Ext W w){e0:Addr}{b1:List Value}{x0:D.Agent}(j1:z6i.ro W b1 x0) (o:At W e0 b1){fuel:Nat}{r:Bool}(hm:zy fuel x0=some r):
  Calls Tryz.prog 187 ⟨[.pointer (some e0)]⟩ w (Ret fun v w8=>v=.bool r∧St w w8 []):=by
 obtain⟨A1,k2,A4,k5,e7,h3,h6⟩:=z6 j1;subst e7;refine into Tryz.func187 162 _ ?_;unfold zy at hm;have hS:=St.start w;refine sq<|rg<|rr 1 ?_;refine rn<|sq<|sq<|rg<|rr 3 ?_;refine l1 (At.ext (hE.trans hS.ext) o) 0 ?_;refine rn<|bk<|sq<|rg<|rr 2 ?_;refine rn<|ci hm (fun hm=>?_) (fun hm=>?_)
 ·refine sq<|rg<|rr 3 ?_;refine l1 (At.ext (hE.trans hS.ext) o) 3 ?_;refine rr 3 ?_;refine rb 16 hm (fun hm=>?_) (fun hm=>?_)
  ·refine rr 3 ?_;refine l1 (At.ext (hE.trans hS.ext) o) 2 ?_;obtain⟨G1,M0,hm⟩:=bS hm;refine ca z1y (z7 (hE.trans hS.ext)  M0) (fun O1 V1 f0=>?_);obtain⟨rfl,g0⟩:=f0;have y0:=hS.join g0;refine rr 2 ?_;refine rn<|rt ?_;cases hm;exact⟨_,.cons (.tmp rfl) .nil,rfl,y0⟩
  ·refine rr 7 ?_;refine rn<|rt ?_;cases hm;exact⟨_,.cons (.tmp rfl) .nil,rfl,hS⟩
 ·refine sq<|rg<|rr 2 ?_;refine rn<|ci hm (fun hm=>?_) (fun hm=>?_)
  ·refine sq<|rg<|rr 3 ?_;refine l1 (At.ext (hE.trans hS.ext) o) 3 ?_;refine rr 3 ?_;refine rb 31 hm (fun hm=>?_) (fun hm=>?_)
   ·refine rr 3 ?_;refine l1 (At.ext (hE.trans hS.ext) o) 2 ?_;obtain⟨H1,N0,hm⟩:=bS hm;refine ca z1y (z7 (hE.trans hS.ext)  N0) (fun P1 W1 i0=>?_);obtain⟨rfl,j0⟩:=i0;have A0:=hS.join j0;refine rr 2 ?_;refine rn<|rt ?_;cases hm;exact⟨_,.cons (.tmp rfl) .nil,rfl,A0⟩
   ·refine rr 7 ?_;refine rn<|rt ?_;cases hm;exact⟨_,.cons (.tmp rfl) .nil,rfl,hS⟩
  ·refine sq<|rg<|rr 2 ?_;refine rn<|ci hm (fun hm=>?_) (fun hm=>?_)
   ·refine sq<|rg<|rr 3 ?_;refine l1 (At.ext (hE.trans hS.ext) o) 3 ?_;refine rr 3 ?_;refine rb 46 hm (fun hm=>?_) (fun hm=>?_)
    ·refine rr 3 ?_;refine l1 (At.ext (hE.trans hS.ext) o) 2 ?_;obtain⟨J1,O0,hm⟩:=bS hm;refine ca z1y (z7 (hE.trans hS.ext)  O0) (fun Q1 X1 k0=>?_);obtain⟨rfl,o0⟩:=k0;have y:=hS.join o0;refine rr 2 ?_;refine rb 53 hm (fun hm=>?_) (fun hm=>?_)
     ·refine rr 3 ?_;refine l1 (At.ext (hE.trans y.ext) o) 3 ?_;obtain⟨f2,P0,hm⟩:=bS hm;refine ix (hE.trans y.ext) h3 P0 (fun E1 g1 F0 K0=>?_);cases K0;refine l1 (At.ext (hE.trans y.ext) F0) 0 ?_;obtain⟨K1,Q0,hm⟩:=bS hm;refine ca z1y (z7 (hE.trans y.ext)  Q0) (fun R1 Y1 p0=>?_);obtain⟨rfl,q0⟩:=p0;have B0:=y.join q0;refine rr 2 ?_;refine rn<|rt ?_;cases hm;exact⟨_,.cons (.tmp rfl) .nil,rfl,B0⟩
     ·refine rr 9 ?_;refine rn<|rt ?_;cases hm;exact⟨_,.cons (.tmp rfl) .nil,rfl,y⟩
    ·refine rr 16 ?_;refine rn<|rt ?_;cases hm;exact⟨_,.cons (.tmp rfl) .nil,rfl,hS⟩
   ·refine sq<|rg<|rr 2 ?_;refine rn<|ci hm (fun hm=>?_) (fun hm=>?_)
    ·refine sq<|rg<|rr 3 ?_;refine l1 (At.ext (hE.trans hS.ext) o) 3 ?_;refine rr 3 ?_;refine rb 70 hm (fun hm=>?_) (fun hm=>?_)
     ·refine rr 3 ?_;refine l1 (At.ext (hE.trans hS.ext) o) 2 ?_;obtain⟨L1,R0,hm⟩:=bS hm;refine ca z1y (z7 (hE.trans hS.ext)  R0) (fun S1 a2 r0=>?_);obtain⟨rfl,t0⟩:=r0;have C0:=hS.join t0;refine rr 2 ?_;refine rn<|rt ?_;cases hm;exact⟨_,.cons (.tmp rfl) .nil,rfl,C0⟩
     ·refine rr 7 ?_;refine rn<|rt ?_;cases hm;exact⟨_,.cons (.tmp rfl) .nil,rfl,hS⟩
    ·refine sq<|rg<|rr 2 ?_;refine rn<|ci hm (fun hm=>?_) (fun hm=>?_)
     ·refine sq<|rg<|rr 3 ?_;refine l1 (At.ext (hE.trans hS.ext) o) 3 ?_;refine rr 3 ?_;refine rb 85 hm (fun hm=>?_) (fun hm=>?_)
      ·refine rr 3 ?_;refine l1 (At.ext (hE.trans hS.ext) o) 2 ?_;obtain⟨M1,S0,hm⟩:=bS hm;refine ca zbN (z7Z (hE.trans hS.ext)  S0) (fun T1 b2 u0=>?_);obtain⟨rfl,v0⟩:=u0;have D0:=hS.join v0;refine rr 2 ?_;refine rn<|rt ?_;cases hm;exact⟨_,.cons (.tmp rfl) .nil,rfl,D0⟩
      ·refine rr 7 ?_;refine rn<|rt ?_;cases hm;exact⟨_,.cons (.tmp rfl) .nil,rfl,hS⟩
     ·refine sq<|sq<|rg<|rr 2 ?_;refine rn<|ct (fun(Y0:Bool) F w9=>z1d fuel x0 Y0=some r∧Ext w w9∧St w w9 []∧F=[(0,.pointer (some e0)),(92,.bool Y0)]) ?_ ?_
      ·rintro Y0 F C1 ⟨hm,m1,d,rfl⟩;unfold z1d at hm;refine ci hm (fun hm=>?_) (fun hm=>?_)
       ·refine sq<|sq<|ct (fun(a1:Bool) F w9=>zw fuel x0 a1=some r∧Ext C1 w9∧St w w9 []∧F=[(0,.pointer (some e0)),(130,.bool a1)]) ?_ ?_
        ·rintro a1 F f1 ⟨hm,n1,Z,rfl⟩;unfold zw at hm;refine ci hm (fun hm=>?_) (fun hm=>?_)
         ·refine sq<|rg<|rr 1 ?_;refine rn<|rt ?_;cases hm;exact⟨_,.cons (.tmp rfl) .nil,rfl,Z⟩
         ·refine sp<|sq<|sq<|rg<|rr 1 ?_;refine rn ?_;obtain⟨s1,H0,hm⟩:=bS hm;refine ct (fun(e1:Unit) F w9=>s1=.inl e1∧Ext f1 w9∧St w w9 []∧F=[]) ?_ ?_
          ·rintro e1 F d2 ⟨J0,p1,E0,rfl⟩;subst J0;rw [zi] at hm;unfold z57 at hm;refine sq<|rg<|rr 1 ?_;refine rn<|rt ?_;cases hm;exact⟨_,.cons (.tmp rfl) .nil,rfl,E0⟩
          ·refine bk<|wk [0,3] ?_;refine it (fun(d1:Int) F w9=>Ext f1 w9∧St w w9 []∧F=[(0,.pointer (some e0)),(3,.int .i64 d1)]) H0 ⟨(Ext.refl _),Z,rfl⟩ ?_;rintro d1 F e2 _ D1 ⟨M,u,rfl⟩ h a0;unfold z24 at h;refine sq<|sq<|rg<|rr 4 ?_;refine l1 (At.ext (hE.trans u.ext) o) 3 ?_;refine rr 2 ?_;refine rn<|ci h (fun h=>?_) (fun h=>?_)
           ·refine sp<|sq<|bk<|sq<|rg<|rr 3 ?_;refine l1 (At.ext (hE.trans u.ext) o) 3 ?_;refine rr 1 ?_;obtain⟨g2,T0,h⟩:=bS h;refine ix (hE.trans u.ext) h3 T0 (fun F1 i1 G0 L0=>?_);cases L0;refine l1 (At.ext (hE.trans u.ext) G0) 0 ?_;obtain⟨N1,U0,h⟩:=bS h;refine ca zbN (z7Z (hE.trans u.ext)  U0) (fun U1 v1 O=>?_);obtain⟨rfl,z⟩:=O;have L:=u.join z;refine rr 1 ?_;refine rn<|ci h (fun h=>?_) (fun h=>?_)
            ·refine sq<|rg<|rr 1 ?_;refine rn<|rt ?_;cases h;cases a0;have hm:some _=some _:=hm;cases hm;exact⟨_,.cons (.tmp rfl) .nil,rfl,L⟩
            ·refine sp<|rg<|rr 3 ?_;refine rn ?_;cases h;exact⟨_,_,rfl,⟨(M.trans z.ext),L,rfl⟩,rfl⟩
           ·refine xt ?_;cases h;exact⟨_,_,⟨a0,M,u,rfl⟩,rfl⟩
        ·refine rg<|rr 3 ?_;refine l1 (At.ext (hE.trans d.ext) o) 2 ?_;refine rr 2 ?_;refine rb 100 hm (fun hm=>?_) (fun hm=>?_)
         ·refine rr 30 ?_;refine rn ?_;exact⟨true,_,⟨hm,(Ext.refl _),d,rfl⟩,rfl⟩
         ·refine rr 3 ?_;refine l1 (At.ext (hE.trans d.ext) o) 0 ?_;refine rr 2 ?_;refine rb 106 hm (fun hm=>?_) (fun hm=>?_)
          ·refine rr 3 ?_;refine l1 (At.ext (hE.trans d.ext) o) 3 ?_;refine rr 5 ?_;refine rb 115 hm (fun hm=>?_) (fun hm=>?_)
           ·refine rr 15 ?_;refine rn ?_;exact⟨true,_,⟨hm,(Ext.refl _),d,rfl⟩,rfl⟩
           ·refine rr 3 ?_;refine l1 (At.ext (hE.trans d.ext) o) 0 ?_;refine rr 2 ?_;refine rb 121 hm (fun hm=>?_) (fun hm=>?_)
            ·refine rr 3 ?_;refine l1 (At.ext (hE.trans d.ext) o) 3 ?_;refine rr 1 ?_;obtain⟨V0,b0,hm⟩:=bS hm;refine ca z1y (z7 (hE.trans d.ext)  b0) (fun t1 y1 S=>?_);obtain⟨rfl,G⟩:=S;have X:=d.join G;refine rr 3 ?_;refine rn ?_;exact⟨!V0,_,⟨hm,G.ext,X,rfl⟩,rfl⟩
            ·refine rr 9 ?_;refine rn ?_;exact⟨false,_,⟨hm,(Ext.refl _),d,rfl⟩,rfl⟩
          ·refine rr 12 ?_;refine l1 (At.ext (hE.trans d.ext) o) 0 ?_;refine rr 2 ?_;refine rb 121 hm (fun hm=>?_) (fun hm=>?_)
           ·refine rr 3 ?_;refine l1 (At.ext (hE.trans d.ext) o) 3 ?_;refine rr 1 ?_;obtain⟨X0,d0,hm⟩:=bS hm;refine ca z1y (z7 (hE.trans d.ext)  d0) (fun u1 B1 V=>?_);obtain⟨rfl,H⟩:=V;have Y:=d.join H;refine rr 3 ?_;refine rn ?_;exact⟨!X0,_,⟨hm,H.ext,Y,rfl⟩,rfl⟩
           ·refine rr 9 ?_;refine rn ?_;exact⟨false,_,⟨hm,(Ext.refl _),d,rfl⟩,rfl⟩
       ·refine sp<|sq<|rg<|rr 3 ?_;refine l1 (At.ext (hE.trans d.ext) o) 2 ?_;refine rr 2 ?_;refine rb 154 hm (fun hm=>?_) (fun hm=>?_)
        ·refine rr 3 ?_;refine l1 (At.ext (hE.trans d.ext) o) 3 ?_;refine rr 4 ?_;refine rn<|rt ?_;cases hm;exact⟨_,.cons (.tmp rfl) .nil,rfl,d⟩
        ·refine rr 8 ?_;refine rn<|rt ?_;cases hm;exact⟨_,.cons (.tmp rfl) .nil,rfl,d⟩
      ·refine ci hm (fun hm=>?_) (fun hm=>?_)
       ·refine sp ?_;exact⟨(x0.Kind == 10),_,⟨hm,(Ext.refl _),hS,rfl⟩,rfl⟩
       ·refine rg<|rr 2 ?_;refine rn ?_;exact⟨(x0.Kind == 11),_,⟨hm,(Ext.refl _),hS,rfl⟩,rfl⟩

theorem zbX:Enters Tryz.prog 160:=⟨_,_,Tryz.func160,rfl,by kernel_rfl⟩
def z1M (fuel:Nat) (x0:D.Agent):Option (Bool):=((z1Z fuel x0).bind fun h=>((z3i fuel x0.Kind h).bind fun d=>(if(decide (d>0))=true then(if((x0.Ports.length:Int) == d)=true then((z1N fuel x0.Kind x0.Level).bind fun o=>(if o=true then((zy fuel x0).bind fun u=>some u) else some false)) else some false) else some false)))

theorem z7q {W w:World}(hE:Ext W w){j0:Addr}{i0:List Value}{x0:D.Agent}(V:z6i.ro W i0 x0) (z:At W j0 i0){fuel:Nat}{r:Bool}(hm:z1M fuel x0=some r):
  Calls Tryz.prog 160 ⟨[.pointer (some j0)]⟩ w (Ret fun v w8=>v=.bool r∧St w w8 []):=by
 obtain⟨A1,k2,A4,k5,e7,h3,h6⟩:=z6 V;subst e7;refine into Tryz.func160 37 _ ?_;unfold z1M at hm;have hS:=St.start w;refine sq<|rg<|rr 1 ?_;refine rn<|sq<|dn 0 mixed 8 [([],255),([0],254),([1],253),([2],251),([],255),([4],239),([3,5,5],215),([6,6,0,1,2,3,4,5,6],191)] hS.ext (fun h=>?_);have O:=hS.step (Ext.draw _);refine dr 4 h [0,1,2,4] ?_;refine dl h 3 (At.ext (hE.trans hS.ext) z) 0 ?_;obtain⟨k0,d0,hm⟩:=bS hm;refine o1 h 5 (mc h zeo (z8J (hE.trans O.ext) V z d0) (fun r0 y0 X=>?_));obtain⟨rfl,G⟩:=X;refine⟨G.ext,?_⟩;have S:=O.join G;obtain⟨o0,e0,hm⟩:=bS hm;refine o1 h 6 (mc h zep (z9y (hE.trans S.ext)  e0) (fun t0 A0 Y=>?_));obtain⟨rfl,H⟩:=Y;refine⟨H.ext,?_⟩;have o:=S.join H;refine dr 0 h [7] ?_;refine dw [0,3] ?_;refine dd h ?_;refine sq<|dn 0 mixed 27 [([],134217727),([0],134217726),([1],134217725),([2],134217723),([3,2],134217715),([4,2],134217707),([5,2],134217691),([6,2],134217659),([2],134217723),([7,8,2],134217339),([2,9],134217211),([10,2],134216703),([11],134215679),([12,11],134211583),([13,11],134207487),([14,11],134199295),([11],134215679),([16,11],134150143),([17,11],134084607),([18,11],133953535),([15,19,11,11],133658623),([11,20],133167103),([21,20],132120575),([22],130023423),([23,22,22],121634815),([22,24],113246207),([25,24,0,1,2,3,4,5,6,7,8,9,10,11,12,13,14,15,16,17,18,19,20,21,22,23,24,25],100663295)] o.ext (fun d=>?_);have u:=o.step (Ext.draw _);refine dr 24 d [0,1,2] ?_;refine db 13 hm (fun hm=>?_) (fun hm=>?_)
 ·refine dr 20 d [3,4,5,8] ?_;refine dl d 6 (At.ext (hE.trans o.ext) z) 4 ?_;refine dr 15 d [7,9,10,11] ?_;refine dw [0,22] ?_;refine db 22 hm (fun hm=>?_) (fun hm=>?_)
  ·refine dr 9 d [12,13,14,16,17,18] ?_;refine dl d 15 (At.ext (hE.trans o.ext) z) 0 ?_;refine dl d 19 (At.ext (hE.trans o.ext) z) 1 ?_;obtain⟨p0,f0,hm⟩:=bS hm;refine o1 d 20 (mc d z8D (z5y (hE.trans u.ext)  f0) (fun u0 B0 Z=>?_));obtain⟨rfl,L⟩:=Z;refine⟨L.ext,?_⟩;have y:=u.join L;refine dr 4 d [21,22] ?_;refine dw [0,33] ?_;refine db 33 hm (fun hm=>?_) (fun hm=>?_)
   ·refine dr 3 d [23] ?_;obtain⟨q0,g0,hm⟩:=bS hm;refine o1 d 24 (mc d zen (z8j (hE.trans y.ext) V z g0) (fun v0 C0 a0=>?_));obtain⟨rfl,M⟩:=a0;refine⟨M.ext,?_⟩;have b0:=y.join M;refine dr 0 d [25,26] ?_;refine dd d ?_;refine rt ?_;cases hm;exact⟨_,.cons (.tmp rfl) .nil,rfl,b0⟩
   ·refine dr 0 d [23,24,25,26] ?_;refine dd d ?_;refine rt ?_;cases hm;exact⟨_,.cons (.tmp rfl) .nil,rfl,y⟩
  ·refine dr 0 d [12,13,14,15,16,17,18,19,20,21,22,23,24,25,26] ?_;refine dw [2] ?_;refine dd d ?_;refine rt ?_;cases hm;exact⟨_,.cons (.tmp rfl) .nil,rfl,u⟩
 ·refine dr 0 d [3,4,5,6,7,8,9,10,11,12,13,14,15,16,17,18,19,20,21,22,23,24,25,26] ?_;refine dw [2] ?_;refine dd d ?_;refine rt ?_;cases hm;exact⟨_,.cons (.tmp rfl) .nil,rfl,u⟩

theorem zei:Enters Tryz.prog 191:=⟨_,_,Tryz.func191,rfl,by kernel_rfl⟩
def z4J (fuel:Nat) (x0:Int) (x1:Int):Option (Int):=(if(x0 == 9)=true then some (w64 (x1 - 1)) else some 0)

theorem z9b {W w:World}(hE:Ext W w){x0:Int}{x1:Int}  {fuel:Nat}{r:Int}(hm:z4J fuel x0 x1=some r):
  Calls Tryz.prog 191 ⟨[.int .i64 x0,.int .i64 x1]⟩ w (Ret fun v w8=>v=.int .i64 r∧St w w8 []):=by
 refine into Tryz.func191 9 _ ?_;unfold z4J at hm;have hS:=St.start w;refine sq<|rg<|rr 1 ?_;refine rn<|sq<|sq<|rg<|rr 2 ?_;refine rn<|ci hm (fun hm=>?_) (fun hm=>?_)
 ·refine sq<|rg<|rr 3 ?_;refine rn<|rt ?_;cases hm;exact⟨_,.cons (.tmp rfl) .nil,rfl,hS⟩
 ·refine sp<|sq<|rg<|rr 1 ?_;refine rn<|rt ?_;cases hm;exact⟨_,.cons (.tmp rfl) .nil,rfl,hS⟩

theorem z9V:Enters Tryz.prog 208:=⟨_,_,Tryz.func208,rfl,by kernel_rfl⟩
def z3Z (fuel:Nat) (x0:Int):Option (Bool):=(if(decide (x0≥1))=true then some (decide (x0≤12)) else some false)

theorem z6Z {W w:World}(hE:Ext W w){x0:Int}  {fuel:Nat}{r:Bool}(hm:z3Z fuel x0=some r):
  Calls Tryz.prog 208 ⟨[.int .i64 x0]⟩ w (Ret fun v w8=>v=.bool r∧St w w8 []):=by
 refine into Tryz.func208 9 _ ?_;unfold z3Z at hm;have hS:=St.start w;refine sq<|rg<|rr 1 ?_;refine rn<|sq<|rg<|rr 3 ?_;refine rb 5 hm (fun hm=>?_) (fun hm=>?_)
 ·refine rr 4 ?_;refine rn<|rt ?_;cases hm;exact⟨_,.cons (.tmp rfl) .nil,rfl,hS⟩
 ·refine rr 4 ?_;refine rn<|rt ?_;cases hm;exact⟨_,.cons (.tmp rfl) .nil,rfl,hS⟩

theorem zej:Enters Tryz.prog 190:=⟨_,_,Tryz.func190,rfl,by kernel_rfl⟩
def z1a (fuel:Nat) (x0:Int) (t6:Bool):Option Int:=(if t6=true then some 0 else((idx ([0,1,3,3,3,1,1,3,2,0,2,2,1]:List Int) x0).bind fun d=>some d))
def z1K (fuel:Nat) (x0:Int) (x1:Int) (t1:Bool):Option Int:=(if t1=true then some (w64 (x1+1)) else((z3Z fuel x0).bind fun d=>(if(!d)=true then z1a fuel x0 true else(if(x0 == 9)=true then z1a fuel x0 true else z1a fuel x0 (x1 != 0)))))
def z4h (fuel:Nat) (x0:Int) (x1:Int):Option (Int):=(if(x0 == 9)=true then(if(decide (x1≥0))=true then z1K fuel x0 x1 (decide (x1≤3)) else z1K fuel x0 x1 false) else z1K fuel x0 x1 false)

theorem z9R {W w:World}(hE:Ext W w){x0:Int}{x1:Int}  {fuel:Nat}{r:Int}(hm:z4h fuel x0 x1=some r):
  Calls Tryz.prog 190 ⟨[.int .i64 x0,.int .i64 x1]⟩ w (Ret fun v w8=>v=.int .i64 r∧St w w8 []):=by
 refine into Tryz.func190 33 _ ?_;unfold z4h at hm;have hS:=St.start w;refine sq<|rg<|rr 1 ?_;refine rn<|sq<|bk<|sq<|ct (fun(t1:Bool) F w9=>z1K fuel x0 x1 t1=some r∧Ext w w9∧St w w9 []∧F=[(0,.int .i64 x0),(1,.int .i64 x1),(5,.bool t1)]) ?_ ?_
 ·rintro t1 F w4 ⟨hm,H,z,rfl⟩;unfold z1K at hm;refine ci hm (fun hm=>?_) (fun hm=>?_)
  ·refine sq<|rg<|rr 3 ?_;refine rn<|rt ?_;cases hm;exact⟨_,.cons (.tmp rfl) .nil,rfl,z⟩
  ·refine sq<|ct (fun(t6:Bool) F w9=>z1a fuel x0 t6=some r∧Ext w4 w9∧St w w9 []∧F=[(0,.int .i64 x0),(18,.bool t6)]) ?_ ?_
   ·rintro t6 F S ⟨hm,L,o,rfl⟩;unfold z1a at hm;refine ci hm (fun hm=>?_) (fun hm=>?_)
    ·refine sq<|rg<|rr 1 ?_;refine rn<|rt ?_;cases hm;exact⟨_,.cons (.tmp rfl) .nil,rfl,o⟩
    ·refine sp<|sq<|rg<|qt (qBuildK (cs:=[.int .i64 0,.int .i64 1,.int .i64 3,.int .i64 3,.int .i64 3,.int .i64 1,.int .i64 1,.int .i64 3,.int .i64 2,.int .i64 0,.int .i64 2,.int .i64 2,.int .i64 1])) ?_;refine rr 1 ?_;obtain⟨X,u,hm⟩:=bS hm;refine qt (Quiet.arrIdx ttok (xs:=([0,1,3,3,3,1,1,3,2,0,2,2,1]:List Int)) (e:=2) rfl (by kernel_rfl) rfl rfl rfl rfl rfl rfl (z65 u).1 (z65 u).2) ?_;refine rr 1 ?_;refine rn<|rt ?_;cases hm;exact⟨_,.cons (.tmp rfl) .nil,rfl,o⟩
   ·refine rg<|rr 1 ?_;obtain⟨M,G,hm⟩:=bS hm;refine ca z9V (z6Z (hE.trans z.ext)  G) (fun O V y=>?_);obtain⟨rfl,d⟩:=y;have h:=z.join d;refine rr 2 ?_;refine rb 22 hm (fun hm=>?_) (fun hm=>?_)
    ·refine rr 8 ?_;refine rn ?_;exact⟨true,_,⟨hm,d.ext,h,rfl⟩,rfl⟩
    ·refine rr 4 ?_;refine rb 26 hm (fun hm=>?_) (fun hm=>?_)
     ·refine rr 4 ?_;refine rn ?_;exact⟨true,_,⟨hm,d.ext,h,rfl⟩,rfl⟩
     ·refine rr 4 ?_;refine rn ?_;exact⟨(x1 != 0),_,⟨hm,d.ext,h,rfl⟩,rfl⟩
 ·refine rg<|rr 3 ?_;refine rb 8 hm (fun hm=>?_) (fun hm=>?_)
  ·refine rr 4 ?_;refine rb 12 hm (fun hm=>?_) (fun hm=>?_)
   ·refine rr 4 ?_;refine rn ?_;exact⟨decide (x1≤3),_,⟨hm,(Ext.refl _),hS,rfl⟩,rfl⟩
   ·refine rr 4 ?_;refine rn ?_;exact⟨false,_,⟨hm,(Ext.refl _),hS,rfl⟩,rfl⟩
  ·refine rr 8 ?_;refine rn ?_;exact⟨false,_,⟨hm,(Ext.refl _),hS,rfl⟩,rfl⟩

theorem z9W:Enters Tryz.prog 205:=⟨_,_,Tryz.func205,rfl,by kernel_rfl⟩
def z2O (fuel:Nat) (x0:Int):Option (Bool):=((z3Z fuel x0).bind fun r1=>(if r1=true then(if(x0 != 1)=true then(if(x0 != 5)=true then some (x0 != 6) else some false) else some false) else some false))

theorem z6r {W w:World}(hE:Ext W w){x0:Int}  {fuel:Nat}{r:Bool}(hm:z2O fuel x0=some r):
  Calls Tryz.prog 205 ⟨[.int .i64 x0]⟩ w (Ret fun v w8=>v=.bool r∧St w w8 []):=by
 refine into Tryz.func205 17 _ ?_;unfold z2O at hm;have hS:=St.start w;refine sq<|rg<|rr 1 ?_;refine rn<|sq<|rg<|rr 1 ?_;obtain⟨r1,u,hm⟩:=bS hm;refine ca z9V (z6Z (hE.trans hS.ext)  u) (fun v3 w4 h=>?_);obtain⟨rfl,o⟩:=h;have d:=hS.join o;refine rr 1 ?_;refine rb 5 hm (fun hm=>?_) (fun hm=>?_)
 ·refine rr 4 ?_;refine rb 9 hm (fun hm=>?_) (fun hm=>?_)
  ·refine rr 4 ?_;refine rb 13 hm (fun hm=>?_) (fun hm=>?_)
   ·refine rr 4 ?_;refine rn<|rt ?_;cases hm;exact⟨_,.cons (.tmp rfl) .nil,rfl,d⟩
   ·refine rr 4 ?_;refine rn<|rt ?_;cases hm;exact⟨_,.cons (.tmp rfl) .nil,rfl,d⟩
  ·refine rr 8 ?_;refine rn<|rt ?_;cases hm;exact⟨_,.cons (.tmp rfl) .nil,rfl,d⟩
 ·refine rr 12 ?_;refine rn<|rt ?_;cases hm;exact⟨_,.cons (.tmp rfl) .nil,rfl,d⟩

theorem zbM:Enters Tryz.prog 209:=⟨_,_,Tryz.func209,rfl,by kernel_rfl⟩
def z2r (fuel:Nat) (x0:Int):Option (Bool):=(if(decide (x0≥0))=true then some (decide (x0≤8)) else some false)

theorem z7M {W w:World}(hE:Ext W w){x0:Int}  {fuel:Nat}{r:Bool}(hm:z2r fuel x0=some r):
  Calls Tryz.prog 209 ⟨[.int .i64 x0]⟩ w (Ret fun v w8=>v=.bool r∧St w w8 []):=by
 refine into Tryz.func209 9 _ ?_;unfold z2r at hm;have hS:=St.start w;refine sq<|rg<|rr 1 ?_;refine rn<|sq<|rg<|rr 3 ?_;refine rb 5 hm (fun hm=>?_) (fun hm=>?_)
 ·refine rr 4 ?_;refine rn<|rt ?_;cases hm;exact⟨_,.cons (.tmp rfl) .nil,rfl,hS⟩
 ·refine rr 4 ?_;refine rn<|rt ?_;cases hm;exact⟨_,.cons (.tmp rfl) .nil,rfl,hS⟩

theorem z8C:Enters Tryz.prog 192:=⟨_,_,Tryz.func192,rfl,by kernel_rfl⟩
def z1C (fuel:Nat) (x0:Int) (x1:Int):Option (Bool):=((z3Z fuel x0).bind fun r1=>(if r1=true then(if(x1 == 0)=true then some true else((z2O fuel x0).bind fun d=>(if d=true then((z2r fuel x1).bind fun h=>some h) else some false))) else some false))

theorem z53 {W w:World}(hE:Ext W w){x0:Int}{x1:Int}  {fuel:Nat}{r:Bool}(hm:z1C fuel x0 x1=some r):
  Calls Tryz.prog 192 ⟨[.int .i64 x0,.int .i64 x1]⟩ w (Ret fun v w8=>v=.bool r∧St w w8 []):=by
 refine into Tryz.func192 19 _ ?_;unfold z1C at hm;have hS:=St.start w;refine sq<|rg<|rr 1 ?_;refine rn<|sq<|rg<|rr 1 ?_;obtain⟨r1,S,hm⟩:=bS hm;refine ca z9V (z6Z (hE.trans hS.ext)  S) (fun v3 w4 M=>?_);obtain⟨rfl,O⟩:=M;have h:=hS.join O;refine rr 1 ?_;refine rb 7 hm (fun hm=>?_) (fun hm=>?_)
 ·refine rr 3 ?_;refine rb 10 hm (fun hm=>?_) (fun hm=>?_)
  ·refine rr 9 ?_;refine rn<|rt ?_;cases hm;exact⟨_,.cons (.tmp rfl) .nil,rfl,h⟩
  ·refine rr 1 ?_;obtain⟨V,H,hm⟩:=bS hm;refine ca z9W (z6r (hE.trans h.ext)  H) (fun Y a0 o=>?_);obtain⟨rfl,u⟩:=o;have d:=h.join u;refine rr 1 ?_;refine rb 13 hm (fun hm=>?_) (fun hm=>?_)
   ·refine rr 1 ?_;obtain⟨X,L,hm⟩:=bS hm;refine ca zbM (z7M (hE.trans d.ext)  L) (fun Z b0 y=>?_);obtain⟨rfl,z⟩:=y;have G:=d.join z;refine rr 4 ?_;refine rn<|rt ?_;cases hm;exact⟨_,.cons (.tmp rfl) .nil,rfl,G⟩
   ·refine rr 6 ?_;refine rn<|rt ?_;cases hm;exact⟨_,.cons (.tmp rfl) .nil,rfl,d⟩
 ·refine rr 12 ?_;refine rn<|rt ?_;cases hm;exact⟨_,.cons (.tmp rfl) .nil,rfl,h⟩

theorem zea:Enters Tryz.prog 210:=⟨_,_,Tryz.func210,rfl,by kernel_rfl⟩
def z1s (fuel:Nat) (t2:Unit):Option Int:=some (-1)
def zB (fuel:Nat) (x0:(List Int)) (x1:Int→Option Bool) (s1:Int):Option (Rd (Int) (Unit) (Int)):=(if(decide (s1<(x0.length:Int)))=true then((idx x0 s1).bind fun h=>((x1 h).bind fun d=>(if d=true then some (.ret s1) else some (.next (w64 (s1+1)))))) else some (.brk ()))
def z1f (fuel:Nat) (x0:(List Int)) (x1:Int→Option Bool):Option (Int):=((iter (zB fuel x0 x1) fuel 0).bind fun o=>aft o (z1s fuel))

theorem z6b {W w:World}(hE:Ext W w){z:Option Addr}{Y:Nat}{x0:(List Int)}{f1_:Nat}{u1_:List Value}{x1:Int→Option Bool}(d0:ty80.ro W [sl z x0 Y] x0) (Z:Enters Tryz.prog f1_∧∀ {w9:World},Ext W w9→∀ {z0:Int}{y9:Bool},x1 z0=some y9→Calls Tryz.prog f1_ ⟨[.int .i64 z0]++u1_⟩ w9 (Ret fun v w8=>v=.bool y9∧St w9 w8 [])){fuel:Nat}{r:Int}(hm:z1f fuel x0 x1=some r):
  Calls Tryz.prog 210 ⟨[sl z x0 Y,.func (.func f1_) #[] ⟨u1_⟩]⟩ w (Ret fun v w8=>v=.int .i64 r∧St w w8 []):=by
 refine into Tryz.func210 19 _ ?_;unfold z1f at hm;have hS:=St.start w;refine sq<|rg<|rr 1 ?_;refine rn<|sq<|sq<|rg<|rr 3 ?_;refine rn ?_;obtain⟨e0,M,hm⟩:=bS hm;refine ct (fun(t2:Unit) F w9=>e0=.inl t2∧Ext w w9∧St w w9 []∧F=[]) ?_ ?_
 ·rintro t2 F w7 ⟨O,f0,H,rfl⟩;subst O;rw [zi] at hm;unfold z1s at hm;refine sq<|rg<|rr 1 ?_;refine rn<|rt ?_;cases hm;exact⟨_,.cons (.tmp rfl) .nil,rfl,H⟩
 ·refine bk<|wk [0,1,7,8] ?_;refine it (fun(s1:Int) F w9=>Ext w w9∧St w w9 []∧F=[(0,sl z x0 Y),(1,.func (.func f1_) #[] ⟨u1_⟩),(7,.int .i64 (x0.length:Int)),(8,.int .i64 s1)]) M ⟨(Ext.refl _),hS,rfl⟩ ?_;rintro s1 F o0 _ g0 ⟨a0,h,rfl⟩ d y;unfold zB at d;refine sq<|rg<|rr 1 ?_;refine rn<|sq<|ci d (fun d=>?_) (fun d=>?_)
  ·refine sp<|sq<|bk<|sq<|rg<|rr 2 ?_;refine rn<|sq<|rg<|rr 3 ?_;obtain⟨q0,V,d⟩:=bS d;refine ix (hE.trans h.ext) d0 V (fun i0 b0 L S=>?_);cases S;refine l1 (At.ext (hE.trans h.ext) L) 0 ?_;obtain⟨j0,X,d⟩:=bS d;refine ca Z.1 (Z.2 (hE.trans h.ext)  X) (fun k0 p0 G=>?_);obtain⟨rfl,o⟩:=G;have u:=h.join o;refine rn<|ci d (fun d=>?_) (fun d=>?_)
   ·refine sq<|rg<|rr 2 ?_;refine rn<|rt ?_;cases d;cases y;have hm:some _=some _:=hm;cases hm;exact⟨_,.cons (.tmp rfl) .nil,rfl,u⟩
   ·refine sp<|rg<|rr 2 ?_;refine rn ?_;cases d;exact⟨_,_,rfl,⟨(a0.trans o.ext),u,rfl⟩,rfl⟩
  ·refine xt ?_;cases d;exact⟨_,_,⟨y,a0,h,rfl⟩,rfl⟩

theorem zeh:Enters Tryz.prog 193:=⟨_,_,Tryz.func193,rfl,by kernel_rfl⟩
def zC (fuel:Nat) (x0:(List Int)) (x1:Int→Option Bool):Option (Bool):=((z1f fuel x0 x1).bind fun r1=>some (decide (r1≥0)))

theorem z5M {W w:World}(hE:Ext W w){d:Option Addr}{h:Nat}{x0:(List Int)}{f1_:Nat}{u1_:List Value}{x1:Int→Option Bool}(o:ty80.ro W [sl d x0 h] x0) (u:Enters Tryz.prog f1_∧∀ {w9:World},Ext W w9→∀ {z0:Int}{y9:Bool},x1 z0=some y9→Calls Tryz.prog f1_ ⟨[.int .i64 z0]++u1_⟩ w9 (Ret fun v w8=>v=.bool y9∧St w9 w8 [])){fuel:Nat}{r:Bool}(hm:zC fuel x0 x1=some r):
  Calls Tryz.prog 193 ⟨[sl d x0 h,.func (.func f1_) #[] ⟨u1_⟩]⟩ w (Ret fun v w8=>v=.bool r∧St w w8 []):=by
 refine into Tryz.func193 9 _ ?_;unfold zC at hm;have hS:=St.start w;refine sq<|rg<|rr 1 ?_;refine rn<|sq<|rg<|rr 2 ?_;obtain⟨r1,H,hm⟩:=bS hm;refine ca zea (z6b (hE.trans hS.ext) o u H) (fun v3 w4 y=>?_);obtain⟨rfl,z⟩:=y;have G:=hS.join z;refine rr 2 ?_;refine rn<|rt ?_;cases hm;exact⟨_,.cons (.tmp rfl) .nil,rfl,G⟩

theorem zbR:Enters Tryz.prog 195:=⟨_,_,Tryz.func195,rfl,by kernel_rfl⟩
def z2y (fuel:Nat) (x0:Int):Option (Bool):=(if(decide (x0≥0))=true then some (decide (x0<24)) else some false)

theorem z6Y {W w:World}(hE:Ext W w){x0:Int}  {fuel:Nat}{r:Bool}(hm:z2y fuel x0=some r):
  Calls Tryz.prog 195 ⟨[.int .i64 x0]⟩ w (Ret fun v w8=>v=.bool r∧St w w8 []):=by
 refine into Tryz.func195 9 _ ?_;unfold z2y at hm;have hS:=St.start w;refine sq<|rg<|rr 1 ?_;refine rn<|sq<|rg<|rr 3 ?_;refine rb 5 hm (fun hm=>?_) (fun hm=>?_)
 ·refine rr 4 ?_;refine rn<|rt ?_;cases hm;exact⟨_,.cons (.tmp rfl) .nil,rfl,hS⟩
 ·refine rr 4 ?_;refine rn<|rt ?_;cases hm;exact⟨_,.cons (.tmp rfl) .nil,rfl,hS⟩

theorem zeg:Enters Tryz.prog 194:=⟨_,_,Tryz.func194,rfl,by kernel_rfl⟩
def z3k (fuel:Nat) (x0:Int):Option (Bool):=((z2y fuel x0).bind fun r1=>some (!r1))

theorem z7K {W w:World}(hE:Ext W w){x0:Int}  {fuel:Nat}{r:Bool}(hm:z3k fuel x0=some r):
  Calls Tryz.prog 194 ⟨[.int .i64 x0]⟩ w (Ret fun v w8=>v=.bool r∧St w w8 []):=by
 refine into Tryz.func194 6 _ ?_;unfold z3k at hm;have hS:=St.start w;refine sq<|rg<|rr 1 ?_;refine rn<|sq<|rg<|rr 1 ?_;obtain⟨r1,u,hm⟩:=bS hm;refine ca zbR (z6Y (hE.trans hS.ext)  u) (fun v3 w4 d=>?_);obtain⟨rfl,h⟩:=d;have o:=hS.join h;refine rr 2 ?_;refine rn<|rt ?_;cases hm;exact⟨_,.cons (.tmp rfl) .nil,rfl,o⟩

theorem zbQ:Enters Tryz.prog 196:=⟨_,_,Tryz.func196,rfl,by kernel_rfl⟩
def z5K (fuel:Nat) (x0:Int):Option (Bool):=(if(decide (x0≥(-2147483648)))=true then some (decide (x0≤2147483647)) else some false)

theorem z8s {W w:World}(hE:Ext W w){x0:Int}  {fuel:Nat}{r:Bool}(hm:z5K fuel x0=some r):
  Calls Tryz.prog 196 ⟨[.int .i64 x0]⟩ w (Ret fun v w8=>v=.bool r∧St w w8 []):=by
 refine into Tryz.func196 9 _ ?_;unfold z5K at hm;have hS:=St.start w;refine sq<|rg<|rr 1 ?_;refine rn<|sq<|rg<|rr 3 ?_;refine rb 5 hm (fun hm=>?_) (fun hm=>?_)
 ·refine rr 4 ?_;refine rn<|rt ?_;cases hm;exact⟨_,.cons (.tmp rfl) .nil,rfl,hS⟩
 ·refine rr 4 ?_;refine rn<|rt ?_;cases hm;exact⟨_,.cons (.tmp rfl) .nil,rfl,hS⟩

theorem zbP:Enters Tryz.prog 197:=⟨_,_,Tryz.func197,rfl,by kernel_rfl⟩
def z2x (fuel:Nat) (x0:Int):Option (Bool):=(if(decide (x0≥1))=true then some (decide (x0≤6)) else some false)

theorem z6X {W w:World}(hE:Ext W w){x0:Int}  {fuel:Nat}{r:Bool}(hm:z2x fuel x0=some r):
  Calls Tryz.prog 197 ⟨[.int .i64 x0]⟩ w (Ret fun v w8=>v=.bool r∧St w w8 []):=by
 refine into Tryz.func197 9 _ ?_;unfold z2x at hm;have hS:=St.start w;refine sq<|rg<|rr 1 ?_;refine rn<|sq<|rg<|rr 3 ?_;refine rb 5 hm (fun hm=>?_) (fun hm=>?_)
 ·refine rr 4 ?_;refine rn<|rt ?_;cases hm;exact⟨_,.cons (.tmp rfl) .nil,rfl,hS⟩
 ·refine rr 4 ?_;refine rn<|rt ?_;cases hm;exact⟨_,.cons (.tmp rfl) .nil,rfl,hS⟩

theorem zbV:Enters Tryz.prog 166:=⟨_,_,Tryz.func166,rfl,by kernel_rfl⟩
def z2h (fuel:Nat) (d:Bool × Bool):Option Bool:=(if d.1=true then some d.2 else some false)
def z2g (fuel:Nat) (d:Bool × Bool):Option Bool:=z2h fuel (d.1,d.2)
def z2f (fuel:Nat) (d:Bool × Bool):Option Bool:=z2g fuel (d.1,d.2)
def z2e (fuel:Nat) (x0:D.Agent) (d:Bool):Option Bool:=z2f fuel (d,((x0.Data.length:Int) == 0))
def z2d (fuel:Nat) (d:Bool × Bool):Option Bool:=z2f fuel (d.1,d.2)
def z1A (fuel:Nat) (x0:D.Agent) (d:Bool):Option Bool:=z2d fuel ((x0.Value == 0),d)
def z2c (fuel:Nat) (d:Bool × Bool):Option Bool:=z2d fuel (d.1,d.2)
def z2b (fuel:Nat) (x0:D.Agent) (d:Bool):Option Bool:=z2c fuel ((x0.Value == 0),d)
def z1O (fuel:Nat) (x0:D.Agent) (d:Bool):Option Bool:=z2c fuel (d,((x0.Data.length:Int) == 0))
def z1e (fuel:Nat) (x0:D.Agent) (G:Bool):Option Bool:=(if G=true then some false else((zC fuel x0.Data (fun y0=>z3k fuel y0)).bind fun h=>(if(x0.Kind == 6)=true then((z5K fuel x0.Value).bind fun o=>z2h fuel (o,((x0.Data.length:Int) == 0))) else(if(x0.Kind == 7)=true then((z2x fuel x0.Value).bind fun u=>z2g fuel (u,((x0.Data.length:Int) == 0))) else(if(x0.Kind == 8)=true then((z2x fuel x0.Value).bind fun y=>(if y=true then(if((x0.Data.length:Int) == 1)=true then((idx x0.Data 0).bind fun H=>((z5K fuel H).bind fun z=>some z)) else some false) else some false)) else(if(x0.Kind == 9)=true then(if(decide (x0.Value≥0))=true then z2e fuel x0 (decide (x0.Value<4)) else z2e fuel x0 false) else(if(x0.Kind == 10)=true then(if(decide ((x0.Data.length:Int)≥1))=true then(if(decide ((x0.Data.length:Int)≤4))=true then z1A fuel x0 (!h) else z1A fuel x0 false) else z1A fuel x0 false) else(if(x0.Kind == 11)=true then(if((x0.Data.length:Int) == 2)=true then z2b fuel x0 (!h) else z2b fuel x0 false) else(if(x0.Kind == 12)=true then((z2y fuel x0.Value).bind fun d=>z1O fuel x0 d) else z1O fuel x0 (x0.Value == 0))))))))))
def z1k (fuel:Nat) (x0:D.Agent):Option (Bool):=(if((x0.Ports.length:Int) == 0)=true then z1e fuel x0 true else((z4J fuel x0.Kind (x0.Ports.length:Int)).bind fun d=>((z4h fuel x0.Kind d).bind fun h=>(if(h != (x0.Ports.length:Int))=true then z1e fuel x0 true else((z1C fuel x0.Kind x0.Level).bind fun o=>z1e fuel x0 (!o))))))

theorem z6W {W w:World}(hE:Ext W w){E1:List Value}{x0:D.Agent}(J1:z6i.ro W E1 x0){fuel:Nat}{r:Bool}(hm:z1k fuel x0=some r):
  Calls Tryz.prog 166 ⟨[.agg ⟨E1⟩]⟩ w (Ret fun v w8=>v=.bool r∧St w w8 []):=by
 obtain⟨A1,k2,A4,k5,e7,h3,h6⟩:=z6 J1;subst e7;refine into Tryz.func166 117 _ ?_;unfold z1k at hm;have hS:=St.start w;refine sq<|rg<|nw hS (fun F1 X1 f2 o=>?_);refine rr 1 ?_;refine rn<|sq<|sq<|ct (fun(D1:Bool) F w9=>z1e fuel x0 D1=some r∧Ext X1 w9∧St w w9 [Box F1 [.int .i64 x0.Kind,.int .i64 x0.Level,.int .i64 x0.Value,sl A1 x0.Data k2,sl A4 x0.Ports k5] 148]∧F=[(1,.pointer (some ⟨F1,0,none⟩)),(32,.bool D1)]) ?_ ?_
 ·rintro D1 F r2 ⟨hm,K1,O,rfl⟩;unfold z1e at hm;refine ci hm (fun hm=>?_) (fun hm=>?_)
  ·refine sq<|rg<|rr 1 ?_;refine rn<|rt ?_;cases hm;exact⟨_,.cons (.tmp rfl) .nil,rfl,(O.taken 0)⟩
  ·refine sp<|sq<|dn 0 mixed 9 [([],511),([0],510),([1],509),([],511),([3],503),([4],495),([5],479),([2,0,1,2],507),([6,7,0,1,2,3,4,5,6,7],447)] O.ext (fun G=>?_);have a0:=O.step (Ext.draw _);refine dr 7 G [0,3] ?_;refine dl G 1 ((O.bring 0 rfl).box) 2 ?_;refine dr 4 G [2,7] ?_;refine dl G 4 ((O.bring 0 rfl).box) 3 ?_;refine dr 0 G [5,6,8] ?_;refine dw [1,3,4] ?_;refine dd G ?_;refine sq<|rg<|rr 1 ?_;refine l1 ((a0.bring 0 rfl).box) 3 ?_;obtain⟨G1,p1,hm⟩:=bS hm;refine ca zeh (z5M (hE.trans a0.ext) h3 ⟨zeg,fun e9=>(fun  M1=>z7K (Ext.refl _)  M1)⟩ p1) (fun m2 X Q0=>?_);obtain⟨rfl,R0⟩:=Q0;have h:=a0.join R0;refine rr 2 ?_;refine rn<|sq<|sq<|rg<|rr 1 ?_;refine l1 ((h.bring 0 rfl).box) 0 ?_;refine rn<|bk<|sq<|rg<|rr 2 ?_;refine rn<|ct (fun(H0:Bool × Bool) F w9=>z2h fuel H0=some r∧Ext X w9∧St w w9 []∧F=[(3,.bool H0.1),(4,.bool H0.2)]) ?_ ?_
   ·rintro H0 F s2 ⟨hm,L1,C0,rfl⟩;unfold z2h at hm;refine sq<|rg<|rr 2 ?_;refine rb 114 hm (fun hm=>?_) (fun hm=>?_)
    ·refine rr 3 ?_;refine rn<|rt ?_;cases hm;exact⟨_,.cons (.tmp rfl) .nil,rfl,C0⟩
    ·refine rr 3 ?_;refine rn<|rt ?_;cases hm;exact⟨_,.cons (.tmp rfl) .nil,rfl,C0⟩
   ·refine ci hm (fun hm=>?_) (fun hm=>?_)
    ·refine rg<|rr 1 ?_;refine l1 ((h.bring 0 rfl).box) 2 ?_;obtain⟨P1,s1,hm⟩:=bS hm;refine ca zbQ (z8s (hE.trans h.ext)  s1) (fun n2 t2 S0=>?_);obtain⟨rfl,r0⟩:=S0;have a1:=h.join r0;refine rr 1 ?_;refine rn ?_;exact⟨(P1,((x0.Data.length:Int) == 0)),_,⟨hm,r0.ext,(a1.taken 0),rfl⟩,rfl⟩
    ·refine sq<|rg<|rr 2 ?_;refine rn<|ct (fun(b0:Bool × Bool) F w9=>z2g fuel b0=some r∧Ext X w9∧St w w9 []∧F=[(3,.bool b0.1),(4,.bool b0.2)]) ?_ ?_
     ·rintro b0 F u2 ⟨hm,L0,b1,rfl⟩;unfold z2g at hm;exact⟨(b0.1,b0.2),_,⟨hm,L0,b1,rfl⟩,rfl⟩
     ·refine ci hm (fun hm=>?_) (fun hm=>?_)
      ·refine rg<|rr 1 ?_;refine l1 ((h.bring 0 rfl).box) 2 ?_;obtain⟨Q1,t1,hm⟩:=bS hm;refine ca zbP (z6X (hE.trans h.ext)  t1) (fun o2 v2 T0=>?_);obtain⟨rfl,t0⟩:=T0;have d1:=h.join t0;refine rr 1 ?_;refine rn ?_;exact⟨(Q1,((x0.Data.length:Int) == 0)),_,⟨hm,t0.ext,(d1.taken 0),rfl⟩,rfl⟩
      ·refine sq<|rg<|rr 2 ?_;refine rn<|ci hm (fun hm=>?_) (fun hm=>?_)
       ·refine sq<|rg<|rr 1 ?_;refine l1 ((h.bring 0 rfl).box) 2 ?_;obtain⟨i2,u1,hm⟩:=bS hm;refine ca zbP (z6X (hE.trans h.ext)  u1) (fun p2 y2 U0=>?_);obtain⟨rfl,V0⟩:=U0;have u:=h.join V0;refine rr 1 ?_;refine rb 61 hm (fun hm=>?_) (fun hm=>?_)
        ·refine rr 1 ?_;refine l1 ((u.bring 0 rfl).box) 3 ?_;refine rr 4 ?_;refine rb 67 hm (fun hm=>?_) (fun hm=>?_)
         ·refine rr 1 ?_;refine l1 ((u.bring 0 rfl).box) 3 ?_;obtain⟨F2,v1,hm⟩:=bS hm;refine ix (hE.trans u.ext) h3 v1 (fun g2 H1 m1 n1=>?_);cases n1;refine l1 (At.ext (hE.trans u.ext) m1) 0 ?_;obtain⟨j2,y1,hm⟩:=bS hm;refine ca zbQ (z8s (hE.trans u.ext)  y1) (fun q2 A2 X0=>?_);obtain⟨rfl,Y0⟩:=X0;have e1:=u.join Y0;refine rr 2 ?_;refine rn<|rt ?_;cases hm;exact⟨_,.cons (.tmp rfl) .nil,rfl,(e1.taken 0)⟩
         ·refine rr 7 ?_;refine rn<|rt ?_;cases hm;exact⟨_,.cons (.tmp rfl) .nil,rfl,(u.taken 0)⟩
        ·refine rr 13 ?_;refine rn<|rt ?_;cases hm;exact⟨_,.cons (.tmp rfl) .nil,rfl,(u.taken 0)⟩
       ·refine sq<|rg<|rr 2 ?_;refine rn<|ct (fun(d0:Bool × Bool) F w9=>z2f fuel d0=some r∧Ext X w9∧St w w9 []∧F=[(3,.bool d0.1),(4,.bool d0.2)]) ?_ ?_
        ·rintro d0 F B2 ⟨hm,M0,f1,rfl⟩;unfold z2f at hm;exact⟨(d0.1,d0.2),_,⟨hm,M0,f1,rfl⟩,rfl⟩
        ·refine ci hm (fun hm=>?_) (fun hm=>?_)
         ·refine ct (fun(J0:Bool) F w9=>z2e fuel x0 J0=some r∧Ext X w9∧St w w9 []∧F=[(3,.bool J0),(4,.bool ((x0.Data.length:Int) == 0))]) ?_ ?_
          ·rintro J0 F C2 ⟨hm,N0,g1,rfl⟩;unfold z2e at hm;exact⟨(J0,((x0.Data.length:Int) == 0)),_,⟨hm,N0,g1,rfl⟩,rfl⟩
          ·refine rg<|rr 1 ?_;refine l1 ((h.bring 0 rfl).box) 2 ?_;refine rr 2 ?_;refine rb 79 hm (fun hm=>?_) (fun hm=>?_)
           ·refine rr 1 ?_;refine l1 ((h.bring 0 rfl).box) 2 ?_;refine rr 3 ?_;refine rn ?_;exact⟨decide (x0.Value<4),_,⟨hm,(Ext.refl _),(h.taken 0),rfl⟩,rfl⟩
           ·refine rr 5 ?_;refine rn ?_;exact⟨false,_,⟨hm,(Ext.refl _),(h.taken 0),rfl⟩,rfl⟩
         ·refine sq<|rg<|rr 2 ?_;refine rn<|ct (fun(e0:Bool × Bool) F w9=>z2d fuel e0=some r∧Ext X w9∧St w w9 []∧F=[(3,.bool e0.1),(4,.bool e0.2)]) ?_ ?_
          ·rintro e0 F D2 ⟨hm,O0,i1,rfl⟩;unfold z2d at hm;exact⟨(e0.1,e0.2),_,⟨hm,O0,i1,rfl⟩,rfl⟩
          ·refine ci hm (fun hm=>?_) (fun hm=>?_)
           ·refine ct (fun(K0:Bool) F w9=>z1A fuel x0 K0=some r∧Ext X w9∧St w w9 []∧F=[(3,.bool (x0.Value == 0)),(4,.bool K0)]) ?_ ?_
            ·rintro K0 F E2 ⟨hm,P0,j1,rfl⟩;unfold z1A at hm;exact⟨((x0.Value == 0),K0),_,⟨hm,P0,j1,rfl⟩,rfl⟩
            ·refine rg<|rr 1 ?_;refine l1 ((h.bring 0 rfl).box) 3 ?_;refine rr 3 ?_;refine rb 90 hm (fun hm=>?_) (fun hm=>?_)
             ·refine rr 1 ?_;refine l1 ((h.bring 0 rfl).box) 3 ?_;refine rr 4 ?_;refine rb 96 hm (fun hm=>?_) (fun hm=>?_)
              ·refine rr 3 ?_;refine rn ?_;exact⟨!G1,_,⟨hm,(Ext.refl _),(h.taken 0),rfl⟩,rfl⟩
              ·refine rr 3 ?_;refine rn ?_;exact⟨false,_,⟨hm,(Ext.refl _),(h.taken 0),rfl⟩,rfl⟩
             ·refine rr 9 ?_;refine rn ?_;exact⟨false,_,⟨hm,(Ext.refl _),(h.taken 0),rfl⟩,rfl⟩
           ·refine sq<|rg<|rr 2 ?_;refine rn<|ct (fun(f0:Bool × Bool) F w9=>z2c fuel f0=some r∧Ext X w9∧St w w9 []∧F=[(3,.bool f0.1),(4,.bool f0.2)]) ?_ ?_
            ·rintro f0 F V1 ⟨hm,g0,u0,rfl⟩;unfold z2c at hm;exact⟨(f0.1,f0.2),_,⟨hm,g0,u0,rfl⟩,rfl⟩
            ·refine ci hm (fun hm=>?_) (fun hm=>?_)
             ·refine ct (fun(S:Bool) F w9=>z2b fuel x0 S=some r∧Ext X w9∧St w w9 []∧F=[(3,.bool (x0.Value == 0)),(4,.bool S)]) ?_ ?_
              ·rintro S F W1 ⟨hm,i0,v0,rfl⟩;unfold z2b at hm;exact⟨((x0.Value == 0),S),_,⟨hm,i0,v0,rfl⟩,rfl⟩
              ·refine rg<|rr 1 ?_;refine l1 ((h.bring 0 rfl).box) 3 ?_;refine rr 3 ?_;refine rb 105 hm (fun hm=>?_) (fun hm=>?_)
               ·refine rr 3 ?_;refine rn ?_;exact⟨!G1,_,⟨hm,(Ext.refl _),(h.taken 0),rfl⟩,rfl⟩
               ·refine rr 3 ?_;refine rn ?_;exact⟨false,_,⟨hm,(Ext.refl _),(h.taken 0),rfl⟩,rfl⟩
             ·refine sq<|rg<|rr 2 ?_;refine rn<|ct (fun(V:Bool) F w9=>z1O fuel x0 V=some r∧Ext X w9∧St w w9 []∧F=[(3,.bool V),(4,.bool ((x0.Data.length:Int) == 0))]) ?_ ?_
              ·rintro V F Y1 ⟨hm,j0,y0,rfl⟩;unfold z1O at hm;exact⟨(V,((x0.Data.length:Int) == 0)),_,⟨hm,j0,y0,rfl⟩,rfl⟩
              ·refine ci hm (fun hm=>?_) (fun hm=>?_)
               ·refine rg<|rr 1 ?_;refine l1 ((h.bring 0 rfl).box) 2 ?_;obtain⟨B1,D0,hm⟩:=bS hm;refine ca zbR (z6Y (hE.trans h.ext)  D0) (fun R1 a2 k0=>?_);obtain⟨rfl,Y⟩:=k0;have A0:=h.join Y;refine rr 1 ?_;refine rn ?_;exact⟨B1,_,⟨hm,Y.ext,(A0.taken 0),rfl⟩,rfl⟩
               ·refine sp ?_;exact⟨(x0.Value == 0),_,⟨hm,(Ext.refl _),(h.taken 0),rfl⟩,rfl⟩
 ·refine dn 0 mixed 27 [([],134217727),([0],134217726),([1],134217725),([2],134217723),([3],134217719),([4],134217711),([5,4],134217679),([4],134217711),([7,4],134217583),([4],134217711),([9,4],134217199),([10,4],134216687),([8,11,4,4],134215407),([6,12,12,4],134213551),([4],134217711),([14,4],134201327),([15,4],134184943),([13,16,4],134143983),([4,17],134086639),([18,13],133955583),([19],133693439),([20,19],132644863),([19],133693439),([22,19],129499135),([21,23,19,19],123207679),([24,19],116916223),([19,25],100139007)] o.ext (fun d=>?_);have L:=o.step (Ext.draw _);refine dr 26 d [0] ?_;refine dl d 1 ((o.bring 0 rfl).box) 4 ?_;refine dr 22 d [2,3,4] ?_;refine dw [1,10] ?_;refine db 10 hm (fun hm=>?_) (fun hm=>?_)
  ·refine dr 0 d [5,6,7,8,9,10,11,12,13,14,15,16,17,18,19,20,21,22,23,24,25,26] ?_;refine dw [1,32] ?_;refine dd d ?_;exact⟨true,_,⟨hm,(Ext.draw _),L,rfl⟩,rfl⟩
  ·refine dr 18 d [5,7,9,14] ?_;refine dl d 6 ((o.bring 0 rfl).box) 0 ?_;refine dl d 8 ((o.bring 0 rfl).box) 0 ?_;refine dl d 10 ((o.bring 0 rfl).box) 4 ?_;refine dr 14 d [11] ?_;refine dl d 15 ((o.bring 0 rfl).box) 4 ?_;refine dr 12 d [16] ?_;refine dw [1,10,12,14,17,22] ?_;obtain⟨N1,E0,hm⟩:=bS hm;refine o1 d 12 (mc d zei (z9b (hE.trans L.ext)  E0) (fun S1 b2 o0=>?_));obtain⟨rfl,y⟩:=o0;refine⟨y.ext,?_⟩;have Z:=L.join y;obtain⟨O1,F0,hm⟩:=bS hm;refine o1 d 13 (mc d zej (z9R (hE.trans Z.ext)  F0) (fun T1 d2 p0=>?_));obtain⟨rfl,z⟩:=p0;refine⟨z.ext,?_⟩;have M:=Z.join z;refine dr 7 d [17,18,19] ?_;refine dw [1,25] ?_;refine db 25 hm (fun hm=>?_) (fun hm=>?_)
   ·refine dr 0 d [20,21,22,23,24,25,26] ?_;refine dw [1,32] ?_;refine dd d ?_;exact⟨true,_,⟨hm,(((Ext.draw _).trans y.ext).trans z.ext),M,rfl⟩,rfl⟩
   ·refine dr 5 d [20,22] ?_;refine dl d 21 ((o.bring 0 rfl).box) 0 ?_;refine dl d 23 ((o.bring 0 rfl).box) 1 ?_;obtain⟨C1,G0,hm⟩:=bS hm;refine o1 d 24 (mc d z8C (z53 (hE.trans M.ext)  G0) (fun U1 e2 q0=>?_));obtain⟨rfl,H⟩:=q0;refine⟨H.ext,?_⟩;have B0:=M.join H;refine dr 0 d [25,26] ?_;refine dw [1,32] ?_;refine dd d ?_;exact⟨!C1,_,⟨hm,((((Ext.draw _).trans y.ext).trans z.ext).trans H.ext),B0,rfl⟩,rfl⟩

end Go.E


