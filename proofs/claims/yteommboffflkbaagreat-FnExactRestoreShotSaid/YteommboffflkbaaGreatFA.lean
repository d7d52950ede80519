/- Models of functions and proofs that the code runs as they say (written by program). Conditions: the model gives a value. -/
import Derived.Test.YteommboffflkbaaGreatShort
namespace Go.E
open Go.RowKit Go.Proofs
set_option linter.unusedVariables false
set_option linter.unusedSimpArgs false
set_option maxHeartbeats 2000000
set_option maxRecDepth 100000

theorem zn1:EN 266:=en Tryz.func266
def z4c (fu:Nat) (x0:D.QJ):Option (Int):=(if(x0.Qj == 9)=true then some (w64 ((x0.QY.length:Int) - 1)) else some 0)

theorem zew {W w:World}(hE:Ext W w){o:Addr}{d:List Value}{x0:D.QJ}(q:zdh.ro W d x0) (h:At W o d){fu:Nat}{r:Int}(hm:z4c fu x0=some r):
  CL 266 ⟨[.pointer (some o)]⟩ w (RI w r):=by
 obtain⟨A1,k2,A4,k5,e7,h3,h6⟩:=zd4 q;subst e7;refine into Tryz.func266 14 _ ?_;unfold z4c at hm;have hS:=St.start w;refine sq<|rg<|rr 1 ?_;refine rn<|sq<|sq<|rg<|rr 3 ?_;refine l1 (ax hE hS h) 0 ?_;refine rr 1 ?_;refine rn<|ci hm (fun hm=>?_) (fun hm=>?_)
 ·refine sq<|rg<|rr 3 ?_;refine l1 (ax hE hS h) 4 ?_;refine rr 3 ?_;refine rn<|rt ?_;cases hm;exact⟨_,tR rfl,rfl,hS⟩
 ·refine sp<|sq<|rg<|rr 1 ?_;refine rn<|rt ?_;cases hm;exact⟨_,tR rfl,rfl,hS⟩

theorem z4B:EN 149:=en Tryz.func149
def z19 (fu:Nat) (x0:Int) (x1:Int) (x2:Int):Option (Bool):=(if(decide (x0≥x1))=true then some (decide (x0≤x2)) else some false)

theorem z1t {W w:World}(hE:Ext W w){x0:Int}{x1:Int}{x2:Int}  {fu:Nat}{r:Bool}(hm:z19 fu x0 x1 x2=some r):
  CL 149 ⟨[iv x0,iv x1,iv x2]⟩ w (RB w r):=by
 refine into Tryz.func149 15 _ ?_;unfold z19 at hm;have hS:=St.start w;refine sq<|rg<|rr 1 ?_;refine rn<|sq<|rg<|rr 4 ?_;refine rb 10 hm (fun hm=>?_) (fun hm=>?_)
 ·refine rr 5 ?_;refine rn<|rt ?_;cases hm;exact⟨_,tR rfl,rfl,hS⟩
 ·refine rr 5 ?_;refine rn<|rt ?_;cases hm;exact⟨_,tR rfl,rfl,hS⟩

theorem zn2:EN 265:=en Tryz.func265
def z6Y (fu:Nat) (d:Bool):Option Int:=(if d=true then some 3 else some 0)
def z6X (fu:Nat) (d:Bool):Option Int:=z6Y fu d
def z6W (fu:Nat) (d:Bool):Option Int:=z6X fu d
def z6Z (fu:Nat) (x0:Int) (d:Bool):Option Int:=(if d=true then some 2 else(if(x0 == 2)=true then z6Y fu (x0 == 2) else(if(x0 == 3)=true then z6X fu (x0 == 3) else(if(x0 == 4)=true then z6W fu (x0 == 4) else z6W fu (x0 == 7)))))
def z6V (fu:Nat) (x0:Int) (d:Bool):Option Int:=z6Z fu x0 d
def z70 (fu:Nat) (x0:Int) (d:Bool):Option Int:=(if d=true then some 1 else(if(x0 == 8)=true then z6Z fu x0 (x0 == 8) else(if(x0 == 10)=true then z6V fu x0 (x0 == 10) else z6V fu x0 (x0 == 11))))
def z6U (fu:Nat) (x0:Int) (d:Bool):Option Int:=z70 fu x0 d
def z6T (fu:Nat) (x0:Int) (d:Bool):Option Int:=z6U fu x0 d
def z6k (fu:Nat) (x0:Int) (x1:Int):Option (Int):=(if(x0 == 9)=true then((z19 fu x1 0 3).bind fun r1=>(if r1=true then some (w64 (1+x1)) else some 0)) else(if(x1 != 0)=true then some 0 else(if(x0 == 1)=true then z70 fu x0 (x0 == 1) else(if(x0 == 5)=true then z6U fu x0 (x0 == 5) else(if(x0 == 6)=true then z6T fu x0 (x0 == 6) else z6T fu x0 (x0 == 12))))))

theorem zfK {W w:World}(hE:Ext W w){x0:Int}{x1:Int}  {fu:Nat}{r:Int}(hm:z6k fu x0 x1=some r):
  CL 265 ⟨[iv x0,iv x1]⟩ w (RI w r):=by
 refine into Tryz.func265 28 _ ?_;unfold z6k at hm;have hS:=St.start w;refine sq<|rg<|rr 1 ?_;refine rn<|sq<|sq<|rg<|rr 2 ?_;refine rn<|ci hm (fun hm=>?_) (fun hm=>?_)
 ·refine sq<|sq<|rg<|rr 1 ?_;obtain⟨r1,A0,hm⟩:=bS hm;refine ca z4B (z1t (hE.trans hS.ext)  A0) (fun v3 w4 v0=>?_);obtain⟨rfl,y0⟩:=v0;have p0:=hS.join y0;refine rn<|ci hm (fun hm=>?_) (fun hm=>?_)
  ·refine sq<|rg<|rr 3 ?_;refine rn<|rt ?_;cases hm;exact⟨_,tR rfl,rfl,p0⟩
  ·refine sp<|sq<|rg<|rr 1 ?_;refine rn<|rt ?_;cases hm;exact⟨_,tR rfl,rfl,p0⟩
 ·refine sp<|sq<|sq<|rg<|rr 2 ?_;refine rn<|ci hm (fun hm=>?_) (fun hm=>?_)
  ·refine sq<|rg<|rr 1 ?_;refine rn<|rt ?_;cases hm;exact⟨_,tR rfl,rfl,hS⟩
  ·refine sp<|sq<|sq<|rg<|rr 1 ?_;refine rn<|bk<|sq<|sq<|rg<|rr 2 ?_;refine rn<|ct (fun(i0:Bool) F w9=>z70 fu x0 i0=some r∧Ext w w9∧St w w9 []∧F=[(13,iv x0),(14,.bool i0)]) ?_ ?_
   ·rintro i0 F q0 ⟨hm,r0,h,rfl⟩;unfold z70 at hm;refine ci hm (fun hm=>?_) (fun hm=>?_)
    ·refine sq<|rg<|rr 1 ?_;refine rn<|rt ?_;cases hm;exact⟨_,tR rfl,rfl,h⟩
    ·refine sq<|sq<|rg<|rr 2 ?_;refine rn<|ct (fun(j0:Bool) F w9=>z6Z fu x0 j0=some r∧Ext q0 w9∧St w w9 []∧F=[(13,iv x0),(19,.bool j0)]) ?_ ?_
     ·rintro j0 F o0 ⟨hm,t0,d,rfl⟩;unfold z6Z at hm;refine ci hm (fun hm=>?_) (fun hm=>?_)
      ·refine sq<|rg<|rr 1 ?_;refine rn<|rt ?_;cases hm;exact⟨_,tR rfl,rfl,d⟩
      ·refine sq<|sq<|rg<|rr 2 ?_;refine rn<|ct (fun(k0:Bool) F w9=>z6Y fu k0=some r∧Ext o0 w9∧St w w9 []∧F=[(23,.bool k0)]) ?_ ?_
       ·rintro k0 F B0 ⟨hm,u0,o,rfl⟩;unfold z6Y at hm;refine ci hm (fun hm=>?_) (fun hm=>?_)
        ·refine sq<|rg<|rr 1 ?_;refine rn<|rt ?_;cases hm;exact⟨_,tR rfl,rfl,o⟩
        ·refine sp<|sq<|rg<|rr 1 ?_;refine rn<|rt ?_;cases hm;exact⟨_,tR rfl,rfl,o⟩
       ·refine ci hm (fun hm=>?_) (fun hm=>?_)
        ·refine sp ?_;exact⟨(x0 == 2),_,⟨hm,(Ext.refl _),d,rfl⟩,rfl⟩
        ·refine sq<|rg<|rr 2 ?_;refine rn<|ct (fun(q:Bool) F w9=>z6X fu q=some r∧Ext o0 w9∧St w w9 []∧F=[(23,.bool q)]) ?_ ?_
         ·rintro q F C0 ⟨hm,S,b0,rfl⟩;unfold z6X at hm;exact⟨q,_,⟨hm,S,b0,rfl⟩,rfl⟩
         ·refine ci hm (fun hm=>?_) (fun hm=>?_)
          ·refine sp ?_;exact⟨(x0 == 3),_,⟨hm,(Ext.refl _),d,rfl⟩,rfl⟩
          ·refine sq<|rg<|rr 2 ?_;refine rn<|ct (fun(G:Bool) F w9=>z6W fu G=some r∧Ext o0 w9∧St w w9 []∧F=[(23,.bool G)]) ?_ ?_
           ·rintro G F D0 ⟨hm,X,d0,rfl⟩;unfold z6W at hm;exact⟨G,_,⟨hm,X,d0,rfl⟩,rfl⟩
           ·refine ci hm (fun hm=>?_) (fun hm=>?_)
            ·refine sp ?_;exact⟨(x0 == 4),_,⟨hm,(Ext.refl _),d,rfl⟩,rfl⟩
            ·refine rg<|rr 2 ?_;refine rn ?_;exact⟨(x0 == 7),_,⟨hm,(Ext.refl _),d,rfl⟩,rfl⟩
     ·refine ci hm (fun hm=>?_) (fun hm=>?_)
      ·refine sp ?_;exact⟨(x0 == 8),_,⟨hm,(Ext.refl _),h,rfl⟩,rfl⟩
      ·refine sq<|rg<|rr 2 ?_;refine rn<|ct (fun(H:Bool) F w9=>z6V fu x0 H=some r∧Ext q0 w9∧St w w9 []∧F=[(13,iv x0),(19,.bool H)]) ?_ ?_
       ·rintro H F E0 ⟨hm,Y,e0,rfl⟩;unfold z6V at hm;exact⟨H,_,⟨hm,Y,e0,rfl⟩,rfl⟩
       ·refine ci hm (fun hm=>?_) (fun hm=>?_)
        ·refine sp ?_;exact⟨(x0 == 10),_,⟨hm,(Ext.refl _),h,rfl⟩,rfl⟩
        ·refine rg<|rr 2 ?_;refine rn ?_;exact⟨(x0 == 11),_,⟨hm,(Ext.refl _),h,rfl⟩,rfl⟩
   ·refine ci hm (fun hm=>?_) (fun hm=>?_)
    ·refine sp ?_;exact⟨(x0 == 1),_,⟨hm,(Ext.refl _),hS,rfl⟩,rfl⟩
    ·refine sq<|rg<|rr 2 ?_;refine rn<|ct (fun(M:Bool) F w9=>z6U fu x0 M=some r∧Ext w w9∧St w w9 []∧F=[(13,iv x0),(14,.bool M)]) ?_ ?_
     ·rintro M F F0 ⟨hm,Z,f0,rfl⟩;unfold z6U at hm;exact⟨M,_,⟨hm,Z,f0,rfl⟩,rfl⟩
     ·refine ci hm (fun hm=>?_) (fun hm=>?_)
      ·refine sp ?_;exact⟨(x0 == 5),_,⟨hm,(Ext.refl _),hS,rfl⟩,rfl⟩
      ·refine sq<|rg<|rr 2 ?_;refine rn<|ct (fun(O:Bool) F w9=>z6T fu x0 O=some r∧Ext w w9∧St w w9 []∧F=[(13,iv x0),(14,.bool O)]) ?_ ?_
       ·rintro O F G0 ⟨hm,a0,g0,rfl⟩;unfold z6T at hm;exact⟨O,_,⟨hm,a0,g0,rfl⟩,rfl⟩
       ·refine ci hm (fun hm=>?_) (fun hm=>?_)
        ·refine sp ?_;exact⟨(x0 == 6),_,⟨hm,(Ext.refl _),hS,rfl⟩,rfl⟩
        ·refine rg<|rr 2 ?_;refine rn ?_;exact⟨(x0 == 12),_,⟨hm,(Ext.refl _),hS,rfl⟩,rfl⟩

theorem zmW:EN 272:=en Tryz.func272
def z5Z (fu:Nat) (t1:Bool):Option Bool:=(if t1=true then some true else some false)
def z5Y (fu:Nat) (t6:Bool):Option Bool:=z5Z fu t6
def z5X (fu:Nat) (d:Bool):Option Bool:=z5Y fu d
def z5W (fu:Nat) (d:Bool):Option Bool:=z5X fu d
def z5V (fu:Nat) (d:Bool):Option Bool:=z5W fu d
def z5U (fu:Nat) (d:Bool):Option Bool:=z5V fu d
def z5T (fu:Nat) (d:Bool):Option Bool:=z5U fu d
def z5S (fu:Nat) (d:Bool):Option Bool:=z5T fu d
def z8f (fu:Nat) (x0:Int):Option (Bool):=(if(x0 == 2)=true then z5Z fu (x0 == 2) else(if(x0 == 3)=true then z5Y fu (x0 == 3) else(if(x0 == 4)=true then z5X fu (x0 == 4) else(if(x0 == 7)=true then z5W fu (x0 == 7) else(if(x0 == 8)=true then z5V fu (x0 == 8) else(if(x0 == 9)=true then z5U fu (x0 == 9) else(if(x0 == 10)=true then z5T fu (x0 == 10) else(if(x0 == 11)=true then z5S fu (x0 == 11) else z5S fu (x0 == 12)))))))))

theorem zf0 {W w:World}(hE:Ext W w){x0:Int}  {fu:Nat}{r:Bool}(hm:z8f fu x0=some r):
  CL 272 ⟨[iv x0]⟩ w (RB w r):=by
 refine into Tryz.func272 14 _ ?_;unfold z8f at hm;have hS:=St.start w;refine sq<|rg<|rr 1 ?_;refine rn<|sq<|sq<|rg<|rr 1 ?_;refine rn<|bk<|sq<|sq<|rg<|rr 2 ?_;refine rn<|ct (fun(t1:Bool) F w9=>z5Z fu t1=some r∧Ext w w9∧St w w9 []∧F=[(4,.bool t1)]) ?_ ?_
 ·rintro t1 F w4 ⟨hm,o0,j0,rfl⟩;unfold z5Z at hm;refine ci hm (fun hm=>?_) (fun hm=>?_)
  ·refine sq<|rg<|rr 1 ?_;refine rn<|rt ?_;cases hm;exact⟨_,tR rfl,rfl,j0⟩
  ·refine sp<|sq<|rg<|rr 1 ?_;refine rn<|rt ?_;cases hm;exact⟨_,tR rfl,rfl,j0⟩
 ·refine ci hm (fun hm=>?_) (fun hm=>?_)
  ·refine sp ?_;exact⟨(x0 == 2),_,⟨hm,(Ext.refl _),hS,rfl⟩,rfl⟩
  ·refine sq<|rg<|rr 2 ?_;refine rn<|ct (fun(t6:Bool) F w9=>z5Y fu t6=some r∧Ext w w9∧St w w9 []∧F=[(4,.bool t6)]) ?_ ?_
   ·rintro t6 F p0 ⟨hm,k0,a0,rfl⟩;unfold z5Y at hm;exact⟨t6,_,⟨hm,k0,a0,rfl⟩,rfl⟩
   ·refine ci hm (fun hm=>?_) (fun hm=>?_)
    ·refine sp ?_;exact⟨(x0 == 3),_,⟨hm,(Ext.refl _),hS,rfl⟩,rfl⟩
    ·refine sq<|rg<|rr 2 ?_;refine rn<|ct (fun(d:Bool) F w9=>z5X fu d=some r∧Ext w w9∧St w w9 []∧F=[(4,.bool d)]) ?_ ?_
     ·rintro d F q0 ⟨hm,M,b0,rfl⟩;unfold z5X at hm;exact⟨d,_,⟨hm,M,b0,rfl⟩,rfl⟩
     ·refine ci hm (fun hm=>?_) (fun hm=>?_)
      ·refine sp ?_;exact⟨(x0 == 4),_,⟨hm,(Ext.refl _),hS,rfl⟩,rfl⟩
      ·refine sq<|rg<|rr 2 ?_;refine rn<|ct (fun(h:Bool) F w9=>z5W fu h=some r∧Ext w w9∧St w w9 []∧F=[(4,.bool h)]) ?_ ?_
       ·rintro h F r0 ⟨hm,O,d0,rfl⟩;unfold z5W at hm;exact⟨h,_,⟨hm,O,d0,rfl⟩,rfl⟩
       ·refine ci hm (fun hm=>?_) (fun hm=>?_)
        ·refine sp ?_;exact⟨(x0 == 7),_,⟨hm,(Ext.refl _),hS,rfl⟩,rfl⟩
        ·refine sq<|rg<|rr 2 ?_;refine rn<|ct (fun(o:Bool) F w9=>z5V fu o=some r∧Ext w w9∧St w w9 []∧F=[(4,.bool o)]) ?_ ?_
         ·rintro o F t0 ⟨hm,S,e0,rfl⟩;unfold z5V at hm;exact⟨o,_,⟨hm,S,e0,rfl⟩,rfl⟩
         ·refine ci hm (fun hm=>?_) (fun hm=>?_)
          ·refine sp ?_;exact⟨(x0 == 8),_,⟨hm,(Ext.refl _),hS,rfl⟩,rfl⟩
          ·refine sq<|rg<|rr 2 ?_;refine rn<|ct (fun(q:Bool) F w9=>z5U fu q=some r∧Ext w w9∧St w w9 []∧F=[(4,.bool q)]) ?_ ?_
           ·rintro q F u0 ⟨hm,X,f0,rfl⟩;unfold z5U at hm;exact⟨q,_,⟨hm,X,f0,rfl⟩,rfl⟩
           ·refine ci hm (fun hm=>?_) (fun hm=>?_)
            ·refine sp ?_;exact⟨(x0 == 9),_,⟨hm,(Ext.refl _),hS,rfl⟩,rfl⟩
            ·refine sq<|rg<|rr 2 ?_;refine rn<|ct (fun(G:Bool) F w9=>z5T fu G=some r∧Ext w w9∧St w w9 []∧F=[(4,.bool G)]) ?_ ?_
             ·rintro G F v0 ⟨hm,Y,g0,rfl⟩;unfold z5T at hm;exact⟨G,_,⟨hm,Y,g0,rfl⟩,rfl⟩
             ·refine ci hm (fun hm=>?_) (fun hm=>?_)
              ·refine sp ?_;exact⟨(x0 == 10),_,⟨hm,(Ext.refl _),hS,rfl⟩,rfl⟩
              ·refine sq<|rg<|rr 2 ?_;refine rn<|ct (fun(H:Bool) F w9=>z5S fu H=some r∧Ext w w9∧St w w9 []∧F=[(4,.bool H)]) ?_ ?_
               ·rintro H F y0 ⟨hm,Z,i0,rfl⟩;unfold z5S at hm;exact⟨H,_,⟨hm,Z,i0,rfl⟩,rfl⟩
               ·refine ci hm (fun hm=>?_) (fun hm=>?_)
                ·refine sp ?_;exact⟨(x0 == 11),_,⟨hm,(Ext.refl _),hS,rfl⟩,rfl⟩
                ·refine rg<|rr 2 ?_;refine rn ?_;exact⟨(x0 == 12),_,⟨hm,(Ext.refl _),hS,rfl⟩,rfl⟩

theorem zmV:EN 273:=en Tryz.func273
def zaf (fu:Nat) (x0:Int):Option (Bool):=((z19 fu x0 1 12).bind fun r1=>some r1)

theorem zfH {W w:World}(hE:Ext W w){x0:Int}  {fu:Nat}{r:Bool}(hm:zaf fu x0=some r):
  CL 273 ⟨[iv x0]⟩ w (RB w r):=by
 refine into Tryz.func273 5 _ ?_;unfold zaf at hm;have hS:=St.start w;refine sq<|rg<|rr 1 ?_;refine rn<|sq<|rg<|rr 1 ?_;obtain⟨r1,q,hm⟩:=bS hm;refine ca z4B (z1t (hE.trans hS.ext)  q) (fun v3 w4 d=>?_);obtain⟨rfl,h⟩:=d;have o:=hS.join h;refine rr 1 ?_;refine rn<|rt ?_;cases hm;exact⟨_,tR rfl,rfl,o⟩

theorem zn0:EN 267:=en Tryz.func267
def z8e (fu:Nat) (x0:Int) (x1:Int):Option (Bool):=((z8f fu x0).bind fun r1=>(if r1=true then((z19 fu x1 0 8).bind fun d=>some d) else((zaf fu x0).bind fun h=>(if h=true then some (x1 == 0) else some false))))

theorem zeZ {W w:World}(hE:Ext W w){x0:Int}{x1:Int}  {fu:Nat}{r:Bool}(hm:z8e fu x0 x1=some r):
  CL 267 ⟨[iv x0,iv x1]⟩ w (RB w r):=by
 refine into Tryz.func267 15 _ ?_;unfold z8e at hm;have hS:=St.start w;refine sq<|rg<|rr 1 ?_;refine rn<|sq<|sq<|rg<|rr 1 ?_;obtain⟨r1,Z,hm⟩:=bS hm;refine ca zmW (zf0 (hE.trans hS.ext)  Z) (fun v3 w4 X=>?_);obtain⟨rfl,Y⟩:=X;have h:=hS.join Y;refine rn<|ci hm (fun hm=>?_) (fun hm=>?_)
 ·refine sq<|rg<|rr 1 ?_;obtain⟨a0,O,hm⟩:=bS hm;refine ca z4B (z1t (hE.trans h.ext)  O) (fun d0 f0 o=>?_);obtain⟨rfl,q⟩:=o;have M:=h.join q;refine rr 1 ?_;refine rn<|rt ?_;cases hm;exact⟨_,tR rfl,rfl,M⟩
 ·refine sp<|sq<|rg<|rr 1 ?_;obtain⟨b0,S,hm⟩:=bS hm;refine ca zmV (zfH (hE.trans h.ext)  S) (fun e0 g0 G=>?_);obtain⟨rfl,H⟩:=G;have d:=h.join H;refine rr 1 ?_;refine rb 11 hm (fun hm=>?_) (fun hm=>?_)
  ·refine rr 4 ?_;refine rn<|rt ?_;cases hm;exact⟨_,tR rfl,rfl,d⟩
  ·refine rr 4 ?_;refine rn<|rt ?_;cases hm;exact⟨_,tR rfl,rfl,d⟩

theorem zix:EN 274:=en Tryz.func274
def z8z (fu:Nat) (x0:Int):Option (Bool):=((z19 fu x0 0 23).bind fun r1=>some r1)

theorem zdp {W w:World}(hE:Ext W w){x0:Int}  {fu:Nat}{r:Bool}(hm:z8z fu x0=some r):
  CL 274 ⟨[iv x0]⟩ w (RB w r):=by
 refine into Tryz.func274 5 _ ?_;unfold z8z at hm;have hS:=St.start w;refine sq<|rg<|rr 1 ?_;refine rn<|sq<|rg<|rr 1 ?_;obtain⟨r1,q,hm⟩:=bS hm;refine ca z4B (z1t (hE.trans hS.ext)  q) (fun v3 w4 d=>?_);obtain⟨rfl,h⟩:=d;have o:=hS.join h;refine rr 1 ?_;refine rn<|rt ?_;cases hm;exact⟨_,tR rfl,rfl,o⟩

theorem zmZ:EN 268:=en Tryz.func268
def z8H (fu:Nat) (d:Unit):Option Bool:=some true
def z4k (fu:Nat) (x0:D.QJ) (d:Int):Option (Rd (Int) (Unit) (Bool)):=(if(decide (d<(x0.Data.length:Int)))=true then((idx x0.Data d).bind fun o=>((z8z fu o).bind fun h=>(if(!h)=true then some (.ret false) else some (.next (w64 (d+1)))))) else some (.brk ()))
def z1b (fu:Nat) (x0:D.QJ) (d:Bool):Option Bool:=(if d=true then some false else((iter (z4k fu x0) fu 0).bind fun o=>aft o (z8H fu)))
def z22 (fu:Nat) (x0:D.QJ) (o:Bool):Option Bool:=(if o=true then(if(x0.Value != 0)=true then z1b fu x0 true else(if(x0.Qj == 11)=true then(if((x0.Data.length:Int) != 2)=true then z1b fu x0 true else(if(x0.Qj == 10)=true then((z19 fu (x0.Data.length:Int) 1 4).bind fun d=>z1b fu x0 (!d)) else z1b fu x0 false)) else(if(x0.Qj == 10)=true then((z19 fu (x0.Data.length:Int) 1 4).bind fun h=>z1b fu x0 (!h)) else z1b fu x0 false))) else(if(x0.Value == 0)=true then some ((x0.Data.length:Int) == 0) else some false))
def z1f (fu:Nat) (x0:D.QJ):Option (Bool):=(if(x0.Qj == 6)=true then(if((x0.Data.length:Int) == 0)=true then((z19 fu x0.Value (-2147483648) 2147483647).bind fun d=>some d) else some false) else(if(x0.Qj == 7)=true then(if((x0.Data.length:Int) == 0)=true then((z19 fu x0.Value 1 6).bind fun h=>some h) else some false) else(if(x0.Qj == 8)=true then(if((x0.Data.length:Int) == 1)=true then((z19 fu x0.Value 1 6).bind fun o=>(if o=true then((idx x0.Data 0).bind fun M=>((z19 fu M (-2147483648) 2147483647).bind fun q=>some q)) else some false)) else some false) else(if(x0.Qj == 9)=true then(if((x0.Data.length:Int) == 0)=true then((z19 fu x0.Value 0 3).bind fun G=>some G) else some false) else(if(x0.Qj == 12)=true then(if((x0.Data.length:Int) == 0)=true then((z8z fu x0.Value).bind fun H=>some H) else some false) else(if(x0.Qj == 10)=true then z22 fu x0 (x0.Qj == 10) else z22 fu x0 (x0.Qj == 11)))))))

theorem zdY {W w:World}(hE:Ext W w){j0:Addr}{i1:List Value}{x0:D.QJ}(u1:zdh.ro W i1 x0) (o:At W j0 i1){fu:Nat}{r:Bool}(hm:z1f fu x0=some r):
  CL 268 ⟨[.pointer (some j0)]⟩ w (RB w r):=by
 obtain⟨A1,k2,A4,k5,e7,h3,h6⟩:=zd4 u1;subst e7;refine into Tryz.func268 162 _ ?_;unfold z1f at hm;have hS:=St.start w;refine sq<|rg<|rr 1 ?_;refine rn<|sq<|sq<|rg<|rr 3 ?_;refine l1 (ax hE hS o) 0 ?_;refine rn<|bk<|sq<|rg<|rr 2 ?_;refine rn<|ci hm (fun hm=>?_) (fun hm=>?_)
 ·refine sq<|rg<|rr 3 ?_;refine l1 (ax hE hS o) 3 ?_;refine rr 3 ?_;refine rb 16 hm (fun hm=>?_) (fun hm=>?_)
  ·refine rr 3 ?_;refine l1 (ax hE hS o) 2 ?_;obtain⟨N1,Q0,hm⟩:=bS hm;refine ca z4B (z1t (hE.trans hS.ext)  Q0) (fun U1 e2 k0=>?_);obtain⟨rfl,o0⟩:=k0;have D0:=hS.join o0;refine rr 2 ?_;refine rn<|rt ?_;cases hm;exact⟨_,tR rfl,rfl,D0⟩
  ·refine rr 7 ?_;refine rn<|rt ?_;cases hm;exact⟨_,tR rfl,rfl,hS⟩
 ·refine sq<|rg<|rr 2 ?_;refine rn<|ci hm (fun hm=>?_) (fun hm=>?_)
  ·refine sq<|rg<|rr 3 ?_;refine l1 (ax hE hS o) 3 ?_;refine rr 3 ?_;refine rb 31 hm (fun hm=>?_) (fun hm=>?_)
   ·refine rr 3 ?_;refine l1 (ax hE hS o) 2 ?_;obtain⟨O1,R0,hm⟩:=bS hm;refine ca z4B (z1t (hE.trans hS.ext)  R0) (fun V1 f2 p0=>?_);obtain⟨rfl,q0⟩:=p0;have E0:=hS.join q0;refine rr 2 ?_;refine rn<|rt ?_;cases hm;exact⟨_,tR rfl,rfl,E0⟩
   ·refine rr 7 ?_;refine rn<|rt ?_;cases hm;exact⟨_,tR rfl,rfl,hS⟩
  ·refine sq<|rg<|rr 2 ?_;refine rn<|ci hm (fun hm=>?_) (fun hm=>?_)
   ·refine sq<|rg<|rr 3 ?_;refine l1 (ax hE hS o) 3 ?_;refine rr 3 ?_;refine rb 46 hm (fun hm=>?_) (fun hm=>?_)
    ·refine rr 3 ?_;refine l1 (ax hE hS o) 2 ?_;obtain⟨P1,S0,hm⟩:=bS hm;refine ca z4B (z1t (hE.trans hS.ext)  S0) (fun W1 g2 r0=>?_);obtain⟨rfl,t0⟩:=r0;have G:=hS.join t0;refine rr 2 ?_;refine rb 53 hm (fun hm=>?_) (fun hm=>?_)
     ·refine rr 3 ?_;refine l1 (ax hE G o) 3 ?_;obtain⟨p2,T0,hm⟩:=bS hm;refine ix (hE.trans G.ext) h3 T0 (fun L1 p1 K0 O0=>?_);cases O0;refine l1 (ax hE G K0) 0 ?_;obtain⟨Q1,U0,hm⟩:=bS hm;refine ca z4B (z1t (hE.trans G.ext)  U0) (fun X1 i2 u0=>?_);obtain⟨rfl,v0⟩:=u0;have F0:=G.join v0;refine rr 2 ?_;refine rn<|rt ?_;cases hm;exact⟨_,tR rfl,rfl,F0⟩
     ·refine rr 9 ?_;refine rn<|rt ?_;cases hm;exact⟨_,tR rfl,rfl,G⟩
    ·refine rr 16 ?_;refine rn<|rt ?_;cases hm;exact⟨_,tR rfl,rfl,hS⟩
   ·refine sq<|rg<|rr 2 ?_;refine rn<|ci hm (fun hm=>?_) (fun hm=>?_)
    ·refine sq<|rg<|rr 3 ?_;refine l1 (ax hE hS o) 3 ?_;refine rr 3 ?_;refine rb 70 hm (fun hm=>?_) (fun hm=>?_)
     ·refine rr 3 ?_;refine l1 (ax hE hS o) 2 ?_;obtain⟨R1,V0,hm⟩:=bS hm;refine ca z4B (z1t (hE.trans hS.ext)  V0) (fun Y1 j2 y0=>?_);obtain⟨rfl,A0⟩:=y0;have G0:=hS.join A0;refine rr 2 ?_;refine rn<|rt ?_;cases hm;exact⟨_,tR rfl,rfl,G0⟩
     ·refine rr 7 ?_;refine rn<|rt ?_;cases hm;exact⟨_,tR rfl,rfl,hS⟩
    ·refine sq<|rg<|rr 2 ?_;refine rn<|ci hm (fun hm=>?_) (fun hm=>?_)
     ·refine sq<|rg<|rr 3 ?_;refine l1 (ax hE hS o) 3 ?_;refine rr 3 ?_;refine rb 85 hm (fun hm=>?_) (fun hm=>?_)
      ·refine rr 3 ?_;refine l1 (ax hE hS o) 2 ?_;obtain⟨S1,X0,hm⟩:=bS hm;refine ca zix (zdp (hE.trans hS.ext)  X0) (fun a2 m2 B0=>?_);obtain⟨rfl,C0⟩:=B0;have H0:=hS.join C0;refine rr 2 ?_;refine rn<|rt ?_;cases hm;exact⟨_,tR rfl,rfl,H0⟩
      ·refine rr 7 ?_;refine rn<|rt ?_;cases hm;exact⟨_,tR rfl,rfl,hS⟩
     ·refine sq<|sq<|rg<|rr 2 ?_;refine rn<|ct (fun(f1:Bool) F w9=>z22 fu x0 f1=some r∧Ext w w9∧St w w9 []∧F=[(0,.pointer (some j0)),(92,.bool f1)]) ?_ ?_
      ·rintro f1 F J1 ⟨hm,v1,d,rfl⟩;unfold z22 at hm;refine ci hm (fun hm=>?_) (fun hm=>?_)
       ·refine sq<|sq<|ct (fun(g1:Bool) F w9=>z1b fu x0 g1=some r∧Ext J1 w9∧St w w9 []∧F=[(0,.pointer (some j0)),(130,.bool g1)]) ?_ ?_
        ·rintro g1 F n1 ⟨hm,y1,e0,rfl⟩;unfold z1b at hm;refine ci hm (fun hm=>?_) (fun hm=>?_)
         ·refine sq<|rg<|rr 1 ?_;refine rn<|rt ?_;cases hm;exact⟨_,tR rfl,rfl,e0⟩
         ·refine sp<|sq<|sq<|rg<|rr 1 ?_;refine rn ?_;obtain⟨C1,M0,hm⟩:=bS hm;refine ct (fun(m1:Unit) F w9=>C1=.inl m1∧Ext n1 w9∧St w w9 []∧F=[]) ?_ ?_
          ·rintro m1 F n2 ⟨N0,B1,J0,rfl⟩;subst N0;rw [z8] at hm;unfold z8H at hm;refine sq<|rg<|rr 1 ?_;refine rn<|rt ?_;cases hm;exact⟨_,tR rfl,rfl,J0⟩
          ·refine bk<|wk [0,3] ?_;refine it (fun(j1:Int) F w9=>Ext n1 w9∧St w w9 []∧F=[(0,.pointer (some j0)),(3,iv j1)]) M0 ⟨(Ext.refl _),e0,rfl⟩ ?_;rintro j1 F o2 _ K1 ⟨X,q,rfl⟩ h f0;unfold z4k at h;refine sq<|sq<|rg<|rr 4 ?_;refine l1 (ax hE q o) 3 ?_;refine rr 2 ?_;refine rn<|ci h (fun h=>?_) (fun h=>?_)
           ·refine sp<|sq<|bk<|sq<|rg<|rr 3 ?_;refine l1 (ax hE q o) 3 ?_;refine rr 1 ?_;obtain⟨q2,Y0,h⟩:=bS h;refine ix (hE.trans q.ext) h3 Y0 (fun M1 t1 L0 P0=>?_);cases P0;refine l1 (ax hE q L0) 0 ?_;obtain⟨T1,a1,h⟩:=bS h;refine ca zix (zdp (hE.trans q.ext)  a1) (fun d2 F1 Y=>?_);obtain⟨rfl,H⟩:=Y;have S:=q.join H;refine rr 1 ?_;refine rn<|ci h (fun h=>?_) (fun h=>?_)
            ·refine sq<|rg<|rr 1 ?_;refine rn<|rt ?_;cases h;cases f0;have hm:some _=some _:=hm;cases hm;exact⟨_,tR rfl,rfl,S⟩
            ·refine sp<|rg<|rr 3 ?_;refine rn ?_;cases h;exact⟨_,_,rfl,⟨(X.trans H.ext),S,rfl⟩,rfl⟩
           ·refine xt ?_;cases h;exact⟨_,_,⟨f0,X,q,rfl⟩,rfl⟩
        ·refine rg<|rr 3 ?_;refine l1 (ax hE d o) 2 ?_;refine rr 2 ?_;refine rb 100 hm (fun hm=>?_) (fun hm=>?_)
         ·refine rr 30 ?_;refine rn ?_;exact⟨true,_,⟨hm,(Ext.refl _),d,rfl⟩,rfl⟩
         ·refine rr 3 ?_;refine l1 (ax hE d o) 0 ?_;refine rr 2 ?_;refine rb 106 hm (fun hm=>?_) (fun hm=>?_)
          ·refine rr 3 ?_;refine l1 (ax hE d o) 3 ?_;refine rr 5 ?_;refine rb 115 hm (fun hm=>?_) (fun hm=>?_)
           ·refine rr 15 ?_;refine rn ?_;exact⟨true,_,⟨hm,(Ext.refl _),d,rfl⟩,rfl⟩
           ·refine rr 3 ?_;refine l1 (ax hE d o) 0 ?_;refine rr 2 ?_;refine rb 121 hm (fun hm=>?_) (fun hm=>?_)
            ·refine rr 3 ?_;refine l1 (ax hE d o) 3 ?_;refine rr 1 ?_;obtain⟨d1,g0,hm⟩:=bS hm;refine ca z4B (z1t (hE.trans d.ext)  g0) (fun D1 G1 Z=>?_);obtain⟨rfl,M⟩:=Z;have b0:=d.join M;refine rr 3 ?_;refine rn ?_;exact⟨!d1,_,⟨hm,M.ext,b0,rfl⟩,rfl⟩
            ·refine rr 9 ?_;refine rn ?_;exact⟨false,_,⟨hm,(Ext.refl _),d,rfl⟩,rfl⟩
          ·refine rr 12 ?_;refine l1 (ax hE d o) 0 ?_;refine rr 2 ?_;refine rb 121 hm (fun hm=>?_) (fun hm=>?_)
           ·refine rr 3 ?_;refine l1 (ax hE d o) 3 ?_;refine rr 1 ?_;obtain⟨e1,i0,hm⟩:=bS hm;refine ca z4B (z1t (hE.trans d.ext)  i0) (fun E1 H1 a0=>?_);obtain⟨rfl,O⟩:=a0;have d0:=d.join O;refine rr 3 ?_;refine rn ?_;exact⟨!e1,_,⟨hm,O.ext,d0,rfl⟩,rfl⟩
           ·refine rr 9 ?_;refine rn ?_;exact⟨false,_,⟨hm,(Ext.refl _),d,rfl⟩,rfl⟩
       ·refine sp<|sq<|rg<|rr 3 ?_;refine l1 (ax hE d o) 2 ?_;refine rr 2 ?_;refine rb 154 hm (fun hm=>?_) (fun hm=>?_)
        ·refine rr 3 ?_;refine l1 (ax hE d o) 3 ?_;refine rr 4 ?_;refine rn<|rt ?_;cases hm;exact⟨_,tR rfl,rfl,d⟩
        ·refine rr 8 ?_;refine rn<|rt ?_;cases hm;exact⟨_,tR rfl,rfl,d⟩
      ·refine ci hm (fun hm=>?_) (fun hm=>?_)
       ·refine sp ?_;exact⟨(x0.Qj == 10),_,⟨hm,(Ext.refl _),hS,rfl⟩,rfl⟩
       ·refine rg<|rr 2 ?_;refine rn ?_;exact⟨(x0.Qj == 11),_,⟨hm,(Ext.refl _),hS,rfl⟩,rfl⟩

theorem znf:EN 249:=en Tryz.func249
def z59 (fu:Nat) (x0:D.QJ):Option (Bool):=((z4c fu x0).bind fun h=>((z6k fu x0.Qj h).bind fun d=>(if(decide (d>0))=true then(if((x0.QY.length:Int) == d)=true then((z8e fu x0.Qj x0.QL).bind fun o=>(if o=true then((z1f fu x0).bind fun q=>some q) else some false)) else some false) else some false)))

theorem zeY {W w:World}(hE:Ext W w){q0:Addr}{p0:List Value}{x0:D.QJ}(a0:zdh.ro W p0 x0) (H:At W q0 p0){fu:Nat}{r:Bool}(hm:z59 fu x0=some r):
  CL 249 ⟨[.pointer (some q0)]⟩ w (RB w r):=by
 obtain⟨A1,k2,A4,k5,e7,h3,h6⟩:=zd4 a0;subst e7;refine into Tryz.func249 37 _ ?_;unfold z59 at hm;have hS:=St.start w;refine sq<|rg<|rr 1 ?_;refine rn<|sq<|dn 0 mixed 8 [([],255),([0],254),([1],253),([2],251),([],255),([4],239),([3,5,5],215),([6,6,0,1,2,3,4,5,6],191)] hS.ext (fun h=>?_);have Y:=hS.step (Ext.draw _);refine dr 4 h [0,1,2,4] ?_;refine dl h 3 (ax hE hS H) 0 ?_;obtain⟨r0,i0,hm⟩:=bS hm;refine o1 h 5 (mc h zn1 (zew (hE.trans Y.ext) a0 H i0) (fun y0 D0 b0=>?_));obtain⟨rfl,M⟩:=b0;refine⟨M.ext,?_⟩;have Z:=Y.join M;obtain⟨t0,j0,hm⟩:=bS hm;refine o1 h 6 (mc h zn2 (zfK (hE.trans Z.ext)  j0) (fun A0 E0 d0=>?_));obtain⟨rfl,O⟩:=d0;refine⟨O.ext,?_⟩;have o:=Z.join O;refine dr 0 h [7] ?_;refine dw [0,3] ?_;refine dd h ?_;refine sq<|dn 0 mixed 27 [([],134217727),([0],134217726),([1],134217725),([2],134217723),([3,2],134217715),([4,2],134217707),([5,2],134217691),([6,2],134217659),([2],134217723),([7,8,2],134217339),([2,9],134217211),([10,2],134216703),([11],134215679),([12,11],134211583),([13,11],134207487),([14,11],134199295),([11],134215679),([16,11],134150143),([17,11],134084607),([18,11],133953535),([15,19,11,11],133658623),([11,20],133167103),([21,20],132120575),([22],130023423),([23,22,22],121634815),([22,24],113246207),([25,24,0,1,2,3,4,5,6,7,8,9,10,11,12,13,14,15,16,17,18,19,20,21,22,23,24,25],100663295)] o.ext (fun d=>?_);have q:=o.step (Ext.draw _);refine dr 24 d [0,1,2] ?_;refine db 13 hm (fun hm=>?_) (fun hm=>?_)
 ·refine dr 20 d [3,4,5,8] ?_;refine dl d 6 (ax hE o H) 4 ?_;refine dr 15 d [7,9,10,11] ?_;refine dw [0,22] ?_;refine db 22 hm (fun hm=>?_) (fun hm=>?_)
  ·refine dr 9 d [12,13,14,16,17,18] ?_;refine dl d 15 (ax hE o H) 0 ?_;refine dl d 19 (ax hE o H) 1 ?_;obtain⟨u0,k0,hm⟩:=bS hm;refine o1 d 20 (mc d zn0 (zeZ (hE.trans q.ext)  k0) (fun B0 F0 e0=>?_));obtain⟨rfl,S⟩:=e0;refine⟨S.ext,?_⟩;have G:=q.join S;refine dr 4 d [21,22] ?_;refine dw [0,33] ?_;refine db 33 hm (fun hm=>?_) (fun hm=>?_)
   ·refine dr 3 d [23] ?_;obtain⟨v0,o0,hm⟩:=bS hm;refine o1 d 24 (mc d zmZ (zdY (hE.trans G.ext) a0 H o0) (fun C0 G0 f0=>?_));obtain⟨rfl,X⟩:=f0;refine⟨X.ext,?_⟩;have g0:=G.join X;refine dr 0 d [25,26] ?_;refine dd d ?_;refine rt ?_;cases hm;exact⟨_,tR rfl,rfl,g0⟩
   ·refine dr 0 d [23,24,25,26] ?_;refine dd d ?_;refine rt ?_;cases hm;exact⟨_,tR rfl,rfl,G⟩
  ·refine dr 0 d [12,13,14,15,16,17,18,19,20,21,22,23,24,25,26] ?_;refine dw [2] ?_;refine dd d ?_;refine rt ?_;cases hm;exact⟨_,tR rfl,rfl,q⟩
 ·refine dr 0 d [3,4,5,6,7,8,9,10,11,12,13,14,15,16,17,18,19,20,21,22,23,24,25,26] ?_;refine dw [2] ?_;refine dd d ?_;refine rt ?_;cases hm;exact⟨_,tR rfl,rfl,q⟩

theorem zn8:EN 256:=en Tryz.func256
def z8n (fu:Nat) (x0:Int) (x1:Int):Option (Int):=(if(x0 == 9)=true then some (w64 (x1 - 1)) else some 0)

theorem zf5 {W w:World}(hE:Ext W w){x0:Int}{x1:Int}  {fu:Nat}{r:Int}(hm:z8n fu x0 x1=some r):
  CL 256 ⟨[iv x0,iv x1]⟩ w (RI w r):=by
 refine into Tryz.func256 9 _ ?_;unfold z8n at hm;have hS:=St.start w;refine sq<|rg<|rr 1 ?_;refine rn<|sq<|sq<|rg<|rr 2 ?_;refine rn<|ci hm (fun hm=>?_) (fun hm=>?_)
 ·refine sq<|rg<|rr 3 ?_;refine rn<|rt ?_;cases hm;exact⟨_,tR rfl,rfl,hS⟩
 ·refine sp<|sq<|rg<|rr 1 ?_;refine rn<|rt ?_;cases hm;exact⟨_,tR rfl,rfl,hS⟩

theorem zg7:EN 269:=en Tryz.func269
def z7t (fu:Nat) (x0:Int):Option (Bool):=(if(decide (x0≥1))=true then some (decide (x0≤12)) else some false)

theorem zbO {W w:World}(hE:Ext W w){x0:Int}  {fu:Nat}{r:Bool}(hm:z7t fu x0=some r):
  CL 269 ⟨[iv x0]⟩ w (RB w r):=by
 refine into Tryz.func269 9 _ ?_;unfold z7t at hm;have hS:=St.start w;refine sq<|rg<|rr 1 ?_;refine rn<|sq<|rg<|rr 3 ?_;refine rb 5 hm (fun hm=>?_) (fun hm=>?_)
 ·refine rr 4 ?_;refine rn<|rt ?_;cases hm;exact⟨_,tR rfl,rfl,hS⟩
 ·refine rr 4 ?_;refine rn<|rt ?_;cases hm;exact⟨_,tR rfl,rfl,hS⟩

theorem zn9:EN 255:=en Tryz.func255
def z1Y (fu:Nat) (x0:Int) (t6:Bool):Option Int:=(if t6=true then some 0 else((idx ([0,1,3,3,3,1,1,3,2,0,2,2,1]:List Int) x0).bind fun d=>some d))
def z3p (fu:Nat) (x0:Int) (x1:Int) (t1:Bool):Option Int:=(if t1=true then some (w64 (x1+1)) else((z7t fu x0).bind fun d=>(if(!d)=true then z1Y fu x0 true else(if(x0 == 9)=true then z1Y fu x0 true else z1Y fu x0 (x1 != 0)))))
def z7R (fu:Nat) (x0:Int) (x1:Int):Option (Int):=(if(x0 == 9)=true then(if(decide (x1≥0))=true then z3p fu x0 x1 (decide (x1≤3)) else z3p fu x0 x1 false) else z3p fu x0 x1 false)

theorem zg1 {W w:World}(hE:Ext W w){x0:Int}{x1:Int}  {fu:Nat}{r:Int}(hm:z7R fu x0 x1=some r):
  CL 255 ⟨[iv x0,iv x1]⟩ w (RI w r):=by
 refine into Tryz.func255 33 _ ?_;unfold z7R at hm;have hS:=St.start w;refine sq<|rg<|rr 1 ?_;refine rn<|sq<|bk<|sq<|ct (fun(t1:Bool) F w9=>z3p fu x0 x1 t1=some r∧Ext w w9∧St w w9 []∧F=[(0,iv x0),(1,iv x1),(5,.bool t1)]) ?_ ?_
 ·rintro t1 F w4 ⟨hm,O,H,rfl⟩;unfold z3p at hm;refine ci hm (fun hm=>?_) (fun hm=>?_)
  ·refine sq<|rg<|rr 3 ?_;refine rn<|rt ?_;cases hm;exact⟨_,tR rfl,rfl,H⟩
  ·refine sq<|ct (fun(t6:Bool) F w9=>z1Y fu x0 t6=some r∧Ext w4 w9∧St w w9 []∧F=[(0,iv x0),(18,.bool t6)]) ?_ ?_
   ·rintro t6 F Z ⟨hm,S,o,rfl⟩;unfold z1Y at hm;refine ci hm (fun hm=>?_) (fun hm=>?_)
    ·refine sq<|rg<|rr 1 ?_;refine rn<|rt ?_;cases hm;exact⟨_,tR rfl,rfl,o⟩
    ·refine sp<|sq<|rg<|qt (qBuildK (cs:=[iv 0,iv 1,iv 3,iv 3,iv 3,iv 1,iv 1,iv 3,iv 2,iv 0,iv 2,iv 2,iv 1])) ?_;refine rr 1 ?_;obtain⟨b0,q,hm⟩:=bS hm;refine qt (Quiet.arrIdx ttok (xs:=([0,1,3,3,3,1,1,3,2,0,2,2,1]:List Int)) (e:=2) rfl (by kernel_rfl) rfl rfl rfl rfl rfl rfl (zi q).1 (zi q).2) ?_;refine rr 1 ?_;refine rn<|rt ?_;cases hm;exact⟨_,tR rfl,rfl,o⟩
   ·refine rg<|rr 1 ?_;obtain⟨X,M,hm⟩:=bS hm;refine ca zg7 (zbO (hE.trans H.ext)  M) (fun Y a0 G=>?_);obtain⟨rfl,d⟩:=G;have h:=H.join d;refine rr 2 ?_;refine rb 22 hm (fun hm=>?_) (fun hm=>?_)
    ·refine rr 8 ?_;refine rn ?_;exact⟨true,_,⟨hm,d.ext,h,rfl⟩,rfl⟩
    ·refine rr 4 ?_;refine rb 26 hm (fun hm=>?_) (fun hm=>?_)
     ·refine rr 4 ?_;refine rn ?_;exact⟨true,_,⟨hm,d.ext,h,rfl⟩,rfl⟩
     ·refine rr 4 ?_;refine rn ?_;exact⟨(x1 != 0),_,⟨hm,d.ext,h,rfl⟩,rfl⟩
 ·refine rg<|rr 3 ?_;refine rb 8 hm (fun hm=>?_) (fun hm=>?_)
  ·refine rr 4 ?_;refine rb 12 hm (fun hm=>?_) (fun hm=>?_)
   ·refine rr 4 ?_;refine rn ?_;exact⟨decide (x1≤3),_,⟨hm,(Ext.refl _),hS,rfl⟩,rfl⟩
   ·refine rr 4 ?_;refine rn ?_;exact⟨false,_,⟨hm,(Ext.refl _),hS,rfl⟩,rfl⟩
  ·refine rr 8 ?_;refine rn ?_;exact⟨false,_,⟨hm,(Ext.refl _),hS,rfl⟩,rfl⟩

theorem zmY:EN 270:=en Tryz.func270
def z8q (fu:Nat) (x0:Int):Option (Bool):=((z7t fu x0).bind fun r1=>(if r1=true then(if(x0 != 1)=true then(if(x0 != 5)=true then some (x0 != 6) else some false) else some false) else some false))

theorem zf7 {W w:World}(hE:Ext W w){x0:Int}  {fu:Nat}{r:Bool}(hm:z8q fu x0=some r):
  CL 270 ⟨[iv x0]⟩ w (RB w r):=by
 refine into Tryz.func270 17 _ ?_;unfold z8q at hm;have hS:=St.start w;refine sq<|rg<|rr 1 ?_;refine rn<|sq<|rg<|rr 1 ?_;obtain⟨r1,q,hm⟩:=bS hm;refine ca zg7 (zbO (hE.trans hS.ext)  q) (fun v3 w4 h=>?_);obtain⟨rfl,o⟩:=h;have d:=hS.join o;refine rr 1 ?_;refine rb 5 hm (fun hm=>?_) (fun hm=>?_)
 ·refine rr 4 ?_;refine rb 9 hm (fun hm=>?_) (fun hm=>?_)
  ·refine rr 4 ?_;refine rb 13 hm (fun hm=>?_) (fun hm=>?_)
   ·refine rr 4 ?_;refine rn<|rt ?_;cases hm;exact⟨_,tR rfl,rfl,d⟩
   ·refine rr 4 ?_;refine rn<|rt ?_;cases hm;exact⟨_,tR rfl,rfl,d⟩
  ·refine rr 8 ?_;refine rn<|rt ?_;cases hm;exact⟨_,tR rfl,rfl,d⟩
 ·refine rr 12 ?_;refine rn<|rt ?_;cases hm;exact⟨_,tR rfl,rfl,d⟩

theorem zmX:EN 271:=en Tryz.func271
def z8X (fu:Nat) (x0:Int):Option (Bool):=(if(decide (x0≥0))=true then some (decide (x0≤8)) else some false)

theorem zg0 {W w:World}(hE:Ext W w){x0:Int}  {fu:Nat}{r:Bool}(hm:z8X fu x0=some r):
  CL 271 ⟨[iv x0]⟩ w (RB w r):=by
 refine into Tryz.func271 9 _ ?_;unfold z8X at hm;have hS:=St.start w;refine sq<|rg<|rr 1 ?_;refine rn<|sq<|rg<|rr 3 ?_;refine rb 5 hm (fun hm=>?_) (fun hm=>?_)
 ·refine rr 4 ?_;refine rn<|rt ?_;cases hm;exact⟨_,tR rfl,rfl,hS⟩
 ·refine rr 4 ?_;refine rn<|rt ?_;cases hm;exact⟨_,tR rfl,rfl,hS⟩

theorem zn7:EN 257:=en Tryz.func257
def z7J (fu:Nat) (x0:Int) (x1:Int):Option (Bool):=((z7t fu x0).bind fun r1=>(if r1=true then(if(x1 == 0)=true then some true else((z8q fu x0).bind fun d=>(if d=true then((z8X fu x1).bind fun h=>some h) else some false))) else some false))

theorem zeD {W w:World}(hE:Ext W w){x0:Int}{x1:Int}  {fu:Nat}{r:Bool}(hm:z7J fu x0 x1=some r):
  CL 257 ⟨[iv x0,iv x1]⟩ w (RB w r):=by
 refine into Tryz.func257 19 _ ?_;unfold z7J at hm;have hS:=St.start w;refine sq<|rg<|rr 1 ?_;refine rn<|sq<|rg<|rr 1 ?_;obtain⟨r1,Z,hm⟩:=bS hm;refine ca zg7 (zbO (hE.trans hS.ext)  Z) (fun v3 w4 X=>?_);obtain⟨rfl,Y⟩:=X;have h:=hS.join Y;refine rr 1 ?_;refine rb 7 hm (fun hm=>?_) (fun hm=>?_)
 ·refine rr 3 ?_;refine rb 10 hm (fun hm=>?_) (fun hm=>?_)
  ·refine rr 9 ?_;refine rn<|rt ?_;cases hm;exact⟨_,tR rfl,rfl,h⟩
  ·refine rr 1 ?_;obtain⟨a0,O,hm⟩:=bS hm;refine ca zmY (zf7 (hE.trans h.ext)  O) (fun d0 f0 o=>?_);obtain⟨rfl,q⟩:=o;have d:=h.join q;refine rr 1 ?_;refine rb 13 hm (fun hm=>?_) (fun hm=>?_)
   ·refine rr 1 ?_;obtain⟨b0,S,hm⟩:=bS hm;refine ca zmX (zg0 (hE.trans d.ext)  S) (fun e0 g0 G=>?_);obtain⟨rfl,H⟩:=G;have M:=d.join H;refine rr 4 ?_;refine rn<|rt ?_;cases hm;exact⟨_,tR rfl,rfl,M⟩
   ·refine rr 6 ?_;refine rn<|rt ?_;cases hm;exact⟨_,tR rfl,rfl,d⟩
 ·refine rr 12 ?_;refine rn<|rt ?_;cases hm;exact⟨_,tR rfl,rfl,h⟩

theorem znU:EN 185:=en Tryz.func185
def z2P (fu:Nat) (t2:Unit):Option Int:=some (-1)
def z1g (fu:Nat) (x0:(List Int)) (x1:Int→Option Bool) (s1:Int):Option (Rd (Int) (Unit) (Int)):=(if(decide (s1<(x0.length:Int)))=true then((idx x0 s1).bind fun h=>((x1 h).bind fun d=>(if d=true then some (.ret s1) else some (.next (w64 (s1+1)))))) else some (.brk ()))
def z25 (fu:Nat) (x0:(List Int)) (x1:Int→Option Bool):Option (Int):=((iter (z1g fu x0 x1) fu 0).bind fun o=>aft o (z2P fu))

theorem zaa {W w:World}(hE:Ext W w){H:Option Addr}{d0:Nat}{x0:(List Int)}{f1_:Nat}{u1_:List Value}{x1:Int→Option Bool}(i0:ty29.ro W [sl H x0 d0] x0) (e0:Enters Tryz.prog f1_∧∀ {w9:World},Ext W w9→∀ {z0:Int}{y9:Bool},x1 z0=some y9→CL f1_ ⟨[iv z0]++u1_⟩ w9 (Ret fun v w8=>v=.bool y9∧St w9 w8 [])){fu:Nat}{r:Int}(hm:z25 fu x0 x1=some r):
  CL 185 ⟨[sl H x0 d0,.func (.func f1_) #[] ⟨u1_⟩]⟩ w (RI w r):=by
 refine into Tryz.func185 19 _ ?_;unfold z25 at hm;have hS:=St.start w;refine sq<|rg<|rr 1 ?_;refine rn<|sq<|sq<|rg<|rr 3 ?_;refine rn ?_;obtain⟨j0,X,hm⟩:=bS hm;refine ct (fun(t2:Unit) F w9=>j0=.inl t2∧Ext w w9∧St w w9 []∧F=[]) ?_ ?_
 ·rintro t2 F w7 ⟨Y,k0,O,rfl⟩;subst Y;rw [z8] at hm;unfold z2P at hm;refine sq<|rg<|rr 1 ?_;refine rn<|rt ?_;cases hm;exact⟨_,tR rfl,rfl,O⟩
 ·refine bk<|wk [0,1,7,8] ?_;refine it (fun(s1:Int) F w9=>Ext w w9∧St w w9 []∧F=[(0,sl H x0 d0),(1,.func (.func f1_) #[] ⟨u1_⟩),(7,iv (x0.length:Int)),(8,iv s1)]) X ⟨(Ext.refl _),hS,rfl⟩ ?_;rintro s1 F t0 _ o0 ⟨f0,h,rfl⟩ d G;unfold z1g at d;refine sq<|rg<|rr 1 ?_;refine rn<|sq<|ci d (fun d=>?_) (fun d=>?_)
  ·refine sp<|sq<|bk<|sq<|rg<|rr 2 ?_;refine rn<|sq<|rg<|rr 3 ?_;obtain⟨v0,a0,d⟩:=bS d;refine ix (hE.trans h.ext) i0 a0 (fun p0 g0 S Z=>?_);cases Z;refine l1 (ax hE h S) 0 ?_;obtain⟨q0,b0,d⟩:=bS d;refine ca e0.1 (e0.2 (hE.trans h.ext)  b0) (fun r0 u0 M=>?_);obtain⟨rfl,o⟩:=M;have q:=h.join o;refine rn<|ci d (fun d=>?_) (fun d=>?_)
   ·refine sq<|rg<|rr 2 ?_;refine rn<|rt ?_;cases d;cases G;have hm:some _=some _:=hm;cases hm;exact⟨_,tR rfl,rfl,q⟩
   ·refine sp<|rg<|rr 2 ?_;refine rn ?_;cases d;exact⟨_,_,rfl,⟨(f0.trans o.ext),q,rfl⟩,rfl⟩
  ·refine xt ?_;cases d;exact⟨_,_,⟨G,f0,h,rfl⟩,rfl⟩

theorem zj0:EN 131:=en Tryz.func131
def zW (fu:Nat) (x0:(List Int)) (x1:Int→Option Bool):Option (Bool):=((z25 fu x0 x1).bind fun r1=>some (decide (r1≥0)))

theorem z5u {W w:World}(hE:Ext W w){d:Option Addr}{h:Nat}{x0:(List Int)}{f1_:Nat}{u1_:List Value}{x1:Int→Option Bool}(o:ty29.ro W [sl d x0 h] x0) (q:Enters Tryz.prog f1_∧∀ {w9:World},Ext W w9→∀ {z0:Int}{y9:Bool},x1 z0=some y9→CL f1_ ⟨[iv z0]++u1_⟩ w9 (Ret fun v w8=>v=.bool y9∧St w9 w8 [])){fu:Nat}{r:Bool}(hm:zW fu x0 x1=some r):
  CL 131 ⟨[sl d x0 h,.func (.func f1_) #[] ⟨u1_⟩]⟩ w (RB w r):=by
 refine into Tryz.func131 9 _ ?_;unfold zW at hm;have hS:=St.start w;refine sq<|rg<|rr 1 ?_;refine rn<|sq<|rg<|rr 2 ?_;obtain⟨r1,O,hm⟩:=bS hm;refine ca znU (zaa (hE.trans hS.ext) o q O) (fun v3 w4 G=>?_);obtain⟨rfl,H⟩:=G;have M:=hS.join H;refine rr 2 ?_;refine rn<|rt ?_;cases hm;exact⟨_,tR rfl,rfl,M⟩

theorem ziA:EN 259:=en Tryz.func259
def z4U (fu:Nat) (x0:Int):Option (Bool):=(if(decide (x0≥0))=true then some (decide (x0<24)) else some false)

theorem zbL {W w:World}(hE:Ext W w){x0:Int}  {fu:Nat}{r:Bool}(hm:z4U fu x0=some r):
  CL 259 ⟨[iv x0]⟩ w (RB w r):=by
 refine into Tryz.func259 9 _ ?_;unfold z4U at hm;have hS:=St.start w;refine sq<|rg<|rr 1 ?_;refine rn<|sq<|rg<|rr 3 ?_;refine rb 5 hm (fun hm=>?_) (fun hm=>?_)
 ·refine rr 4 ?_;refine rn<|rt ?_;cases hm;exact⟨_,tR rfl,rfl,hS⟩
 ·refine rr 4 ?_;refine rn<|rt ?_;cases hm;exact⟨_,tR rfl,rfl,hS⟩

theorem zn6:EN 258:=en Tryz.func258
def z6D (fu:Nat) (x0:Int):Option (Bool):=((z4U fu x0).bind fun r1=>some (!r1))

theorem zcQ {W w:World}(hE:Ext W w){x0:Int}  {fu:Nat}{r:Bool}(hm:z6D fu x0=some r):
  CL 258 ⟨[iv x0]⟩ w (RB w r):=by
 refine into Tryz.func258 6 _ ?_;unfold z6D at hm;have hS:=St.start w;refine sq<|rg<|rr 1 ?_;refine rn<|sq<|rg<|rr 1 ?_;obtain⟨r1,q,hm⟩:=bS hm;refine ca ziA (zbL (hE.trans hS.ext)  q) (fun v3 w4 d=>?_);obtain⟨rfl,h⟩:=d;have o:=hS.join h;refine rr 2 ?_;refine rn<|rt ?_;cases hm;exact⟨_,tR rfl,rfl,o⟩

theorem ziz:EN 260:=en Tryz.func260
def z9o (fu:Nat) (x0:Int):Option (Bool):=(if(decide (x0≥(-2147483648)))=true then some (decide (x0≤2147483647)) else some false)

theorem zeb {W w:World}(hE:Ext W w){x0:Int}  {fu:Nat}{r:Bool}(hm:z9o fu x0=some r):
  CL 260 ⟨[iv x0]⟩ w (RB w r):=by
 refine into Tryz.func260 9 _ ?_;unfold z9o at hm;have hS:=St.start w;refine sq<|rg<|rr 1 ?_;refine rn<|sq<|rg<|rr 3 ?_;refine rb 5 hm (fun hm=>?_) (fun hm=>?_)
 ·refine rr 4 ?_;refine rn<|rt ?_;cases hm;exact⟨_,tR rfl,rfl,hS⟩
 ·refine rr 4 ?_;refine rn<|rt ?_;cases hm;exact⟨_,tR rfl,rfl,hS⟩

theorem ziy:EN 261:=en Tryz.func261
def z4T (fu:Nat) (x0:Int):Option (Bool):=(if(decide (x0≥1))=true then some (decide (x0≤6)) else some false)

theorem zbK {W w:World}(hE:Ext W w){x0:Int}  {fu:Nat}{r:Bool}(hm:z4T fu x0=some r):
  CL 261 ⟨[iv x0]⟩ w (RB w r):=by
 refine into Tryz.func261 9 _ ?_;unfold z4T at hm;have hS:=St.start w;refine sq<|rg<|rr 1 ?_;refine rn<|sq<|rg<|rr 3 ?_;refine rb 5 hm (fun hm=>?_) (fun hm=>?_)
 ·refine rr 4 ?_;refine rn<|rt ?_;cases hm;exact⟨_,tR rfl,rfl,hS⟩
 ·refine rr 4 ?_;refine rn<|rt ?_;cases hm;exact⟨_,tR rfl,rfl,hS⟩

theorem znp:EN 233:=en Tryz.func233
def z4z (fu:Nat) (d:Bool × Bool):Option Bool:=(if d.1=true then some d.2 else some false)
def z4y (fu:Nat) (d:Bool × Bool):Option Bool:=z4z fu (d.1,d.2)
def z4x (fu:Nat) (d:Bool × Bool):Option Bool:=z4y fu (d.1,d.2)
def z4w (fu:Nat) (x0:D.QJ) (d:Bool):Option Bool:=z4x fu (d,((x0.Data.length:Int) == 0))
def z4v (fu:Nat) (d:Bool × Bool):Option Bool:=z4x fu (d.1,d.2)
def z31 (fu:Nat) (x0:D.QJ) (d:Bool):Option Bool:=z4v fu ((x0.Value == 0),d)
def z4u (fu:Nat) (d:Bool × Bool):Option Bool:=z4v fu (d.1,d.2)
def z4t (fu:Nat) (x0:D.QJ) (d:Bool):Option Bool:=z4u fu ((x0.Value == 0),d)
def z3K (fu:Nat) (x0:D.QJ) (d:Bool):Option Bool:=z4u fu (d,((x0.Data.length:Int) == 0))
def z23 (fu:Nat) (x0:D.QJ) (M:Bool):Option Bool:=(if M=true then some false else((zW fu x0.Data (fun y0=>z6D fu y0)).bind fun h=>(if(x0.Qj == 6)=true then((z9o fu x0.Value).bind fun o=>z4z fu (o,((x0.Data.length:Int) == 0))) else(if(x0.Qj == 7)=true then((z4T fu x0.Value).bind fun q=>z4y fu (q,((x0.Data.length:Int) == 0))) else(if(x0.Qj == 8)=true then((z4T fu x0.Value).bind fun G=>(if G=true then(if((x0.Data.length:Int) == 1)=true then((idx x0.Data 0).bind fun O=>((z9o fu O).bind fun H=>some H)) else some false) else some false)) else(if(x0.Qj == 9)=true then(if(decide (x0.Value≥0))=true then z4w fu x0 (decide (x0.Value<4)) else z4w fu x0 false) else(if(x0.Qj == 10)=true then(if(decide ((x0.Data.length:Int)≥1))=true then(if(decide ((x0.Data.length:Int)≤4))=true then z31 fu x0 (!h) else z31 fu x0 false) else z31 fu x0 false) else(if(x0.Qj == 11)=true then(if((x0.Data.length:Int) == 2)=true then z4t fu x0 (!h) else z4t fu x0 false) else(if(x0.Qj == 12)=true then((z4U fu x0.Value).bind fun d=>z3K fu x0 d) else z3K fu x0 (x0.Value == 0))))))))))
def z3m (fu:Nat) (x0:D.QJ):Option (Bool):=(if((x0.QY.length:Int) == 0)=true then z23 fu x0 true else((z8n fu x0.Qj (x0.QY.length:Int)).bind fun d=>((z7R fu x0.Qj d).bind fun h=>(if(h != (x0.QY.length:Int))=true then z23 fu x0 true else((z7J fu x0.Qj x0.QL).bind fun o=>z23 fu x0 (!o))))))

theorem ze9 {W w:World}(hE:Ext W w){M1:List Value}{x0:D.QJ}(P1:zdh.ro W M1 x0){fu:Nat}{r:Bool}(hm:z3m fu x0=some r):
  CL 233 ⟨[.agg ⟨M1⟩]⟩ w (RB w r):=by
 obtain⟨A1,k2,A4,k5,e7,h3,h6⟩:=zd4 P1;subst e7;refine into Tryz.func233 117 _ ?_;unfold z3m at hm;have hS:=St.start w;refine sq<|rg<|nw hS (fun O g2 p2 o=>?_);refine rr 1 ?_;refine rn<|sq<|sq<|ct (fun(L1:Bool) F w9=>z23 fu x0 L1=some r∧Ext g2 w9∧St w w9 [Box O [iv x0.Qj,iv x0.QL,iv x0.Value,sl A1 x0.Data k2,sl A4 x0.QY k5] 262]∧F=[(1,.pointer (some ⟨O,0,none⟩)),(32,.bool L1)]) ?_ ?_
 ·rintro L1 F C2 ⟨hm,Q1,Z,rfl⟩;unfold z23 at hm;refine ci hm (fun hm=>?_) (fun hm=>?_)
  ·refine sq<|rg<|rr 1 ?_;refine rn<|rt ?_;cases hm;exact⟨_,tR rfl,rfl,(Z.taken 0)⟩
  ·refine sp<|sq<|dn 0 mixed 9 [([],511),([0],510),([1],509),([],511),([3],503),([4],495),([5],479),([2,0,1,2],507),([6,7,0,1,2,3,4,5,6,7],447)] Z.ext (fun M=>?_);have g0:=Z.step (Ext.draw _);refine dr 7 M [0,3] ?_;refine dl M 1 ((Z.bring 0 rfl).box) 2 ?_;refine dr 4 M [2,7] ?_;refine dl M 4 ((Z.bring 0 rfl).box) 3 ?_;refine dr 0 M [5,6,8] ?_;refine dw [1,3,4] ?_;refine dd M ?_;refine sq<|rg<|rr 1 ?_;refine l1 ((g0.bring 0 rfl).box) 3 ?_;obtain⟨N1,C1,hm⟩:=bS hm;refine ca zj0 (z5u (hE.trans g0.ext) h3 ⟨zn6,fun e9=>(fun  S1=>zcQ (Ext.refl _)  S1)⟩ C1) (fun u2 d0 V0=>?_);obtain⟨rfl,X0⟩:=V0;have h:=g0.join X0;refine rr 2 ?_;refine rn<|sq<|sq<|rg<|rr 1 ?_;refine l1 ((h.bring 0 rfl).box) 0 ?_;refine rn<|bk<|sq<|rg<|rr 2 ?_;refine rn<|ct (fun(N0:Bool × Bool) F w9=>z4z fu N0=some r∧Ext d0 w9∧St w w9 [Box O [iv x0.Qj,iv x0.QL,iv x0.Value,sl A1 x0.Data k2,sl A4 x0.QY k5] 262]∧F=[(3,.bool N0.1),(4,.bool N0.2)]) ?_ ?_
   ·rintro N0 F D2 ⟨hm,R1,H0,rfl⟩;unfold z4z at hm;refine sq<|rg<|rr 2 ?_;refine rb 114 hm (fun hm=>?_) (fun hm=>?_)
    ·refine rr 3 ?_;refine rn<|rt ?_;cases hm;exact⟨_,tR rfl,rfl,(H0.taken 0)⟩
    ·refine rr 3 ?_;refine rn<|rt ?_;cases hm;exact⟨_,tR rfl,rfl,(H0.taken 0)⟩
   ·refine ci hm (fun hm=>?_) (fun hm=>?_)
    ·refine rg<|rr 1 ?_;refine l1 ((h.bring 0 rfl).box) 2 ?_;obtain⟨V1,D1,hm⟩:=bS hm;refine ca ziz (zeb (hE.trans h.ext)  D1) (fun v2 E2 Y0=>?_);obtain⟨rfl,A0⟩:=Y0;have i1:=h.join A0;refine rr 1 ?_;refine rn ?_;exact⟨(V1,((x0.Data.length:Int) == 0)),_,⟨hm,A0.ext,i1,rfl⟩,rfl⟩
    ·refine sq<|rg<|rr 2 ?_;refine rn<|ct (fun(i0:Bool × Bool) F w9=>z4y fu i0=some r∧Ext d0 w9∧St w w9 [Box O [iv x0.Qj,iv x0.QL,iv x0.Value,sl A1 x0.Data k2,sl A4 x0.QY k5] 262]∧F=[(3,.bool i0.1),(4,.bool i0.2)]) ?_ ?_
     ·rintro i0 F F2 ⟨hm,Q0,j1,rfl⟩;unfold z4y at hm;exact⟨(i0.1,i0.2),_,⟨hm,Q0,j1,rfl⟩,rfl⟩
     ·refine ci hm (fun hm=>?_) (fun hm=>?_)
      ·refine rg<|rr 1 ?_;refine l1 ((h.bring 0 rfl).box) 2 ?_;obtain⟨W1,E1,hm⟩:=bS hm;refine ca ziy (zbK (hE.trans h.ext)  E1) (fun y2 G2 a1=>?_);obtain⟨rfl,B0⟩:=a1;have m1:=h.join B0;refine rr 1 ?_;refine rn ?_;exact⟨(W1,((x0.Data.length:Int) == 0)),_,⟨hm,B0.ext,m1,rfl⟩,rfl⟩
      ·refine sq<|rg<|rr 2 ?_;refine rn<|ci hm (fun hm=>?_) (fun hm=>?_)
       ·refine sq<|rg<|rr 1 ?_;refine l1 ((h.bring 0 rfl).box) 2 ?_;obtain⟨r2,F1,hm⟩:=bS hm;refine ca ziy (zbK (hE.trans h.ext)  F1) (fun A2 H2 d1=>?_);obtain⟨rfl,e1⟩:=d1;have q:=h.join e1;refine rr 1 ?_;refine rb 61 hm (fun hm=>?_) (fun hm=>?_)
        ·refine rr 1 ?_;refine l1 ((q.bring 0 rfl).box) 3 ?_;refine rr 4 ?_;refine rb 67 hm (fun hm=>?_) (fun hm=>?_)
         ·refine rr 1 ?_;refine l1 ((q.bring 0 rfl).box) 3 ?_;obtain⟨O2,G1,hm⟩:=bS hm;refine ix (hE.trans q.ext) h3 G1 (fun q2 O1 y1 B1=>?_);cases B1;refine l1 (ax hE q y1) 0 ?_;obtain⟨t2,H1,hm⟩:=bS hm;refine ca ziz (zeb (hE.trans q.ext)  H1) (fun B2 J2 f1=>?_);obtain⟨rfl,g1⟩:=f1;have n1:=q.join g1;refine rr 2 ?_;refine rn<|rt ?_;cases hm;exact⟨_,tR rfl,rfl,(n1.taken 0)⟩
         ·refine rr 7 ?_;refine rn<|rt ?_;cases hm;exact⟨_,tR rfl,rfl,(q.taken 0)⟩
        ·refine rr 13 ?_;refine rn<|rt ?_;cases hm;exact⟨_,tR rfl,rfl,(q.taken 0)⟩
       ·refine sq<|rg<|rr 2 ?_;refine rn<|ct (fun(j0:Bool × Bool) F w9=>z4x fu j0=some r∧Ext d0 w9∧St w w9 [Box O [iv x0.Qj,iv x0.QL,iv x0.Value,sl A1 x0.Data k2,sl A4 x0.QY k5] 262]∧F=[(3,.bool j0.1),(4,.bool j0.2)]) ?_ ?_
        ·rintro j0 F K2 ⟨hm,R0,p1,rfl⟩;unfold z4x at hm;exact⟨(j0.1,j0.2),_,⟨hm,R0,p1,rfl⟩,rfl⟩
        ·refine ci hm (fun hm=>?_) (fun hm=>?_)
         ·refine ct (fun(O0:Bool) F w9=>z4w fu x0 O0=some r∧Ext d0 w9∧St w w9 [Box O [iv x0.Qj,iv x0.QL,iv x0.Value,sl A1 x0.Data k2,sl A4 x0.QY k5] 262]∧F=[(3,.bool O0),(4,.bool ((x0.Data.length:Int) == 0))]) ?_ ?_
          ·rintro O0 F L2 ⟨hm,S0,t1,rfl⟩;unfold z4w at hm;exact⟨(O0,((x0.Data.length:Int) == 0)),_,⟨hm,S0,t1,rfl⟩,rfl⟩
          ·refine rg<|rr 1 ?_;refine l1 ((h.bring 0 rfl).box) 2 ?_;refine rr 2 ?_;refine rb 79 hm (fun hm=>?_) (fun hm=>?_)
           ·refine rr 1 ?_;refine l1 ((h.bring 0 rfl).box) 2 ?_;refine rr 3 ?_;refine rn ?_;exact⟨decide (x0.Value<4),_,⟨hm,(Ext.refl _),h,rfl⟩,rfl⟩
           ·refine rr 5 ?_;refine rn ?_;exact⟨false,_,⟨hm,(Ext.refl _),h,rfl⟩,rfl⟩
         ·refine sq<|rg<|rr 2 ?_;refine rn<|ct (fun(k0:Bool × Bool) F w9=>z4v fu k0=some r∧Ext d0 w9∧St w w9 [Box O [iv x0.Qj,iv x0.QL,iv x0.Value,sl A1 x0.Data k2,sl A4 x0.QY k5] 262]∧F=[(3,.bool k0.1),(4,.bool k0.2)]) ?_ ?_
          ·rintro k0 F M2 ⟨hm,T0,u1,rfl⟩;unfold z4v at hm;exact⟨(k0.1,k0.2),_,⟨hm,T0,u1,rfl⟩,rfl⟩
          ·refine ci hm (fun hm=>?_) (fun hm=>?_)
           ·refine ct (fun(P0:Bool) F w9=>z31 fu x0 P0=some r∧Ext d0 w9∧St w w9 [Box O [iv x0.Qj,iv x0.QL,iv x0.Value,sl A1 x0.Data k2,sl A4 x0.QY k5] 262]∧F=[(3,.bool (x0.Value == 0)),(4,.bool P0)]) ?_ ?_
            ·rintro P0 F N2 ⟨hm,U0,v1,rfl⟩;unfold z31 at hm;exact⟨((x0.Value == 0),P0),_,⟨hm,U0,v1,rfl⟩,rfl⟩
            ·refine rg<|rr 1 ?_;refine l1 ((h.bring 0 rfl).box) 3 ?_;refine rr 3 ?_;refine rb 90 hm (fun hm=>?_) (fun hm=>?_)
             ·refine rr 1 ?_;refine l1 ((h.bring 0 rfl).box) 3 ?_;refine rr 4 ?_;refine rb 96 hm (fun hm=>?_) (fun hm=>?_)
              ·refine rr 3 ?_;refine rn ?_;exact⟨!N1,_,⟨hm,(Ext.refl _),h,rfl⟩,rfl⟩
              ·refine rr 3 ?_;refine rn ?_;exact⟨false,_,⟨hm,(Ext.refl _),h,rfl⟩,rfl⟩
             ·refine rr 9 ?_;refine rn ?_;exact⟨false,_,⟨hm,(Ext.refl _),h,rfl⟩,rfl⟩
           ·refine sq<|rg<|rr 2 ?_;refine rn<|ct (fun(o0:Bool × Bool) F w9=>z4u fu o0=some r∧Ext d0 w9∧St w w9 [Box O [iv x0.Qj,iv x0.QL,iv x0.Value,sl A1 x0.Data k2,sl A4 x0.QY k5] 262]∧F=[(3,.bool o0.1),(4,.bool o0.2)]) ?_ ?_
            ·rintro o0 F e2 ⟨hm,p0,C0,rfl⟩;unfold z4u at hm;exact⟨(o0.1,o0.2),_,⟨hm,p0,C0,rfl⟩,rfl⟩
            ·refine ci hm (fun hm=>?_) (fun hm=>?_)
             ·refine ct (fun(a0:Bool) F w9=>z4t fu x0 a0=some r∧Ext d0 w9∧St w w9 [Box O [iv x0.Qj,iv x0.QL,iv x0.Value,sl A1 x0.Data k2,sl A4 x0.QY k5] 262]∧F=[(3,.bool (x0.Value == 0)),(4,.bool a0)]) ?_ ?_
              ·rintro a0 F f2 ⟨hm,q0,D0,rfl⟩;unfold z4t at hm;exact⟨((x0.Value == 0),a0),_,⟨hm,q0,D0,rfl⟩,rfl⟩
              ·refine rg<|rr 1 ?_;refine l1 ((h.bring 0 rfl).box) 3 ?_;refine rr 3 ?_;refine rb 105 hm (fun hm=>?_) (fun hm=>?_)
               ·refine rr 3 ?_;refine rn ?_;exact⟨!N1,_,⟨hm,(Ext.refl _),h,rfl⟩,rfl⟩
               ·refine rr 3 ?_;refine rn ?_;exact⟨false,_,⟨hm,(Ext.refl _),h,rfl⟩,rfl⟩
             ·refine sq<|rg<|rr 2 ?_;refine rn<|ct (fun(b0:Bool) F w9=>z3K fu x0 b0=some r∧Ext d0 w9∧St w w9 [Box O [iv x0.Qj,iv x0.QL,iv x0.Value,sl A1 x0.Data k2,sl A4 x0.QY k5] 262]∧F=[(3,.bool b0),(4,.bool ((x0.Data.length:Int) == 0))]) ?_ ?_
              ·rintro b0 F i2 ⟨hm,r0,E0,rfl⟩;unfold z3K at hm;exact⟨(b0,((x0.Data.length:Int) == 0)),_,⟨hm,r0,E0,rfl⟩,rfl⟩
              ·refine ci hm (fun hm=>?_) (fun hm=>?_)
               ·refine rg<|rr 1 ?_;refine l1 ((h.bring 0 rfl).box) 2 ?_;obtain⟨J1,J0,hm⟩:=bS hm;refine ca ziA (zbL (hE.trans h.ext)  J0) (fun X1 j2 t0=>?_);obtain⟨rfl,e0⟩:=t0;have F0:=h.join e0;refine rr 1 ?_;refine rn ?_;exact⟨J1,_,⟨hm,e0.ext,F0,rfl⟩,rfl⟩
               ·refine sp ?_;exact⟨(x0.Value == 0),_,⟨hm,(Ext.refl _),h,rfl⟩,rfl⟩
 ·refine dn 0 mixed 27 [([],134217727),([0],134217726),([1],134217725),([2],134217723),([3],134217719),([4],134217711),([5,4],134217679),([4],134217711),([7,4],134217583),([4],134217711),([9,4],134217199),([10,4],134216687),([8,11,4,4],134215407),([6,12,12,4],134213551),([4],134217711),([14,4],134201327),([15,4],134184943),([13,16,4],134143983),([4,17],134086639),([18,13],133955583),([19],133693439),([20,19],132644863),([19],133693439),([22,19],129499135),([21,23,19,19],123207679),([24,19],116916223),([19,25],100139007)] o.ext (fun d=>?_);have X:=o.step (Ext.draw _);refine dr 26 d [0] ?_;refine dl d 1 ((o.bring 0 rfl).box) 4 ?_;refine dr 22 d [2,3,4] ?_;refine dw [1,10] ?_;refine db 10 hm (fun hm=>?_) (fun hm=>?_)
  ·refine dr 0 d [5,6,7,8,9,10,11,12,13,14,15,16,17,18,19,20,21,22,23,24,25,26] ?_;refine dw [1,32] ?_;refine dd d ?_;exact⟨true,_,⟨hm,(Ext.draw _),X,rfl⟩,rfl⟩
  ·refine dr 18 d [5,7,9,14] ?_;refine dl d 6 ((o.bring 0 rfl).box) 0 ?_;refine dl d 8 ((o.bring 0 rfl).box) 0 ?_;refine dl d 10 ((o.bring 0 rfl).box) 4 ?_;refine dr 14 d [11] ?_;refine dl d 15 ((o.bring 0 rfl).box) 4 ?_;refine dr 12 d [16] ?_;refine dw [1,10,12,14,17,22] ?_;obtain⟨T1,K0,hm⟩:=bS hm;refine o1 d 12 (mc d zn8 (zf5 (hE.trans X.ext)  K0) (fun Y1 m2 u0=>?_));obtain⟨rfl,G⟩:=u0;refine⟨G.ext,?_⟩;have f0:=X.join G;obtain⟨U1,L0,hm⟩:=bS hm;refine o1 d 13 (mc d zn9 (zg1 (hE.trans f0.ext)  L0) (fun a2 n2 v0=>?_));obtain⟨rfl,H⟩:=v0;refine⟨H.ext,?_⟩;have Y:=f0.join H;refine dr 7 d [17,18,19] ?_;refine dw [1,25] ?_;refine db 25 hm (fun hm=>?_) (fun hm=>?_)
   ·refine dr 0 d [20,21,22,23,24,25,26] ?_;refine dw [1,32] ?_;refine dd d ?_;exact⟨true,_,⟨hm,(((Ext.draw _).trans G.ext).trans H.ext),Y,rfl⟩,rfl⟩
   ·refine dr 5 d [20,22] ?_;refine dl d 21 ((o.bring 0 rfl).box) 0 ?_;refine dl d 23 ((o.bring 0 rfl).box) 1 ?_;obtain⟨K1,M0,hm⟩:=bS hm;refine o1 d 24 (mc d zn7 (zeD (hE.trans Y.ext)  M0) (fun d2 o2 y0=>?_));obtain⟨rfl,S⟩:=y0;refine⟨S.ext,?_⟩;have G0:=Y.join S;refine dr 0 d [25,26] ?_;refine dw [1,32] ?_;refine dd d ?_;exact⟨!K1,_,⟨hm,((((Ext.draw _).trans G.ext).trans H.ext).trans S.ext),G0,rfl⟩,rfl⟩

end Go.E


