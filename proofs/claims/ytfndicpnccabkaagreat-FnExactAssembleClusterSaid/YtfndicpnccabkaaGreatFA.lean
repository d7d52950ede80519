/- Models of functions and proofs that the code runs as they say (written by program). Conditions: the model gives a value. -/
import Derived.Test.YtfndicpnccabkaaGreatField
set_option linter.unusedVariables false
set_option linter.unusedSimpArgs false
namespace Go.E
open Go.RowKit Go.Proofs
set_option maxHeartbeats 2000000
set_option maxRecDepth 100000

variable {W:Base}{w:World}
theorem ztp:EN 217:=en Tryz.func217
def z43 (fu:Nat)(x0:D.Qe):Option (Int):=(if(x0.Qi == 9)=true then some (w64 ((x0.Qy.length:Int) - 1)) else some 0)

theorem zgG (hE:Ext W w){G:Addr}{o:List Value}{x0:D.Qe}(H:z8n.ro W o x0)(q:At W G o){fu:Nat}{r:Int}(hm:z43 fu x0=some r):
  CL 217 ⟨[.pointer (some G)]⟩ w (RI w r):=by
 obtain⟨A1,k2,A4,k5,e7,h3,h6⟩:=z1m H;subst e7;refine into Tryz.func217 14 _ ?_;unfold z43 at hm;have hS:=St.start w;refine sg<|rm 1 ?_;refine sq<|sg<|rr 3 ?_;refine l1 (ax hE hS q) 0 ?_;refine rm 1 ?_;refine ci hm (fun hm=>?_) (fun hm=>?_)
 ·refine sg<|rr 3 ?_;refine l1 (ax hE hS q) 4 ?_;refine rm 3 ?_;refine rt ?_;cases hm;exact⟨_,tR rfl,rfl,hS⟩
 ·refine sp<|sg<|rm 1 ?_;refine rt ?_;cases hm;exact⟨_,tR rfl,rfl,hS⟩

theorem z6w:EN 65:=en Tryz.func65
def zS (fu:Nat)(x0:Int)(x1:Int)(x2:Int):Option (Bool):=(if(decide (x0≥x1))=true then some (decide (x0≤x2)) else some false)

theorem z1d (hE:Ext W w){x0:Int}{x1:Int}{x2:Int}  {fu:Nat}{r:Bool}(hm:zS fu x0 x1 x2=some r):
  CL 65 ⟨[iv x0,iv x1,iv x2]⟩ w (RB w r):=by
 refine into Tryz.func65 15 _ ?_;unfold zS at hm;have hS:=St.start w;refine sg<|rm 1 ?_;refine sg<|rr 4 ?_;refine rb 10 hm (fun hm=>?_) (fun hm=>?_)
 ·refine rm 5 ?_;refine rt ?_;cases hm;exact⟨_,tR rfl,rfl,hS⟩
 ·refine rm 5 ?_;refine rt ?_;cases hm;exact⟨_,tR rfl,rfl,hS⟩

theorem ztq:EN 216:=en Tryz.func216
def z6O (fu:Nat)(o:Bool):Option Int:=(if o=true then some 3 else some 0)
def z6N (fu:Nat)(o:Bool):Option Int:=z6O fu o
def z6M (fu:Nat)(o:Bool):Option Int:=z6N fu o
def z6P (fu:Nat)(x0:Int)(o:Bool):Option Int:=(if o=true then some 2 else(if(x0 == 2)=true then z6O fu (x0 == 2) else(if(x0 == 3)=true then z6N fu (x0 == 3) else(if(x0 == 4)=true then z6M fu (x0 == 4) else z6M fu (x0 == 7)))))
def z6L (fu:Nat)(x0:Int)(o:Bool):Option Int:=z6P fu x0 o
def z6Q (fu:Nat)(x0:Int)(o:Bool):Option Int:=(if o=true then some 1 else(if(x0 == 8)=true then z6P fu x0 (x0 == 8) else(if(x0 == 10)=true then z6L fu x0 (x0 == 10) else z6L fu x0 (x0 == 11))))
def z6K (fu:Nat)(x0:Int)(o:Bool):Option Int:=z6Q fu x0 o
def z6J (fu:Nat)(x0:Int)(o:Bool):Option Int:=z6K fu x0 o
def z6d (fu:Nat)(x0:Int)(x1:Int):Option (Int):=(if(x0 == 9)=true then((zS fu x1 0 3).bind fun r1=>(if r1=true then some (w64 (1+x1)) else some 0)) else(if(x1 != 0)=true then some 0 else(if(x0 == 1)=true then z6Q fu x0 (x0 == 1) else(if(x0 == 5)=true then z6K fu x0 (x0 == 5) else(if(x0 == 6)=true then z6J fu x0 (x0 == 6) else z6J fu x0 (x0 == 12))))))

theorem ziz (hE:Ext W w){x0:Int}{x1:Int}  {fu:Nat}{r:Int}(hm:z6d fu x0 x1=some r):
  CL 216 ⟨[iv x0,iv x1]⟩ w (RI w r):=by
 refine into Tryz.func216 28 _ ?_;unfold z6d at hm;have hS:=St.start w;refine sg<|rm 1 ?_;refine sq<|sg<|rm 2 ?_;refine ci hm (fun hm=>?_) (fun hm=>?_)
 ·refine sq<|sg<|rr 1 ?_;obtain⟨r1,E0,hm⟩:=bS hm;refine ca z6w (z1d (hE.trans hS.ext)  E0) (fun v3 w4 C0=>?_);obtain⟨rfl,D0⟩:=C0;have u0:=hS.join D0;refine rn<|ci hm (fun hm=>?_) (fun hm=>?_)
  ·refine sg<|rm 3 ?_;refine rt ?_;cases hm;exact⟨_,tR rfl,rfl,u0⟩
  ·refine sp<|sg<|rm 1 ?_;refine rt ?_;cases hm;exact⟨_,tR rfl,rfl,u0⟩
 ·refine sp<|sq<|sg<|rm 2 ?_;refine ci hm (fun hm=>?_) (fun hm=>?_)
  ·refine sg<|rm 1 ?_;refine rt ?_;cases hm;exact⟨_,tR rfl,rfl,hS⟩
  ·refine sp<|sq<|sg<|rm 1 ?_;refine bk<|sq<|sg<|rm 2 ?_;refine ct (fun(p0:Bool) F w9=>z6Q fu x0 p0=some r∧Ext w w9∧St w w9 []∧F=[(13,iv x0),(14,.bool p0)]) ?_ ?_
   ·rintro p0 F v0 ⟨hm,y0,q,rfl⟩;unfold z6Q at hm;refine ci hm (fun hm=>?_) (fun hm=>?_)
    ·refine sg<|rm 1 ?_;refine rt ?_;cases hm;exact⟨_,tR rfl,rfl,q⟩
    ·refine sq<|sg<|rm 2 ?_;refine ct (fun(q0:Bool) F w9=>z6P fu x0 q0=some r∧Ext v0 w9∧St w w9 []∧F=[(13,iv x0),(19,.bool q0)]) ?_ ?_
     ·rintro q0 F t0 ⟨hm,A0,o,rfl⟩;unfold z6P at hm;refine ci hm (fun hm=>?_) (fun hm=>?_)
      ·refine sg<|rm 1 ?_;refine rt ?_;cases hm;exact⟨_,tR rfl,rfl,o⟩
      ·refine sq<|sg<|rm 2 ?_;refine ct (fun(r0:Bool) F w9=>z6O fu r0=some r∧Ext t0 w9∧St w w9 []∧F=[(23,.bool r0)]) ?_ ?_
       ·rintro r0 F F0 ⟨hm,B0,G,rfl⟩;unfold z6O at hm;refine ci hm (fun hm=>?_) (fun hm=>?_)
        ·refine sg<|rm 1 ?_;refine rt ?_;cases hm;exact⟨_,tR rfl,rfl,G⟩
        ·refine sp<|sg<|rm 1 ?_;refine rt ?_;cases hm;exact⟨_,tR rfl,rfl,G⟩
       ·refine ci hm (fun hm=>?_) (fun hm=>?_)
        ·refine sp ?_;exact⟨(x0 == 2),_,⟨hm,(Ext.refl _),o,rfl⟩,rfl⟩
        ·refine sg<|rm 2 ?_;refine ct (fun(H:Bool) F w9=>z6N fu H=some r∧Ext t0 w9∧St w w9 []∧F=[(23,.bool H)]) ?_ ?_
         ·rintro H F G0 ⟨hm,a0,g0,rfl⟩;unfold z6N at hm;exact⟨H,_,⟨hm,a0,g0,rfl⟩,rfl⟩
         ·refine ci hm (fun hm=>?_) (fun hm=>?_)
          ·refine sp ?_;exact⟨(x0 == 3),_,⟨hm,(Ext.refl _),o,rfl⟩,rfl⟩
          ·refine sg<|rm 2 ?_;refine ct (fun(O:Bool) F w9=>z6M fu O=some r∧Ext t0 w9∧St w w9 []∧F=[(23,.bool O)]) ?_ ?_
           ·rintro O F H0 ⟨hm,b0,i0,rfl⟩;unfold z6M at hm;exact⟨O,_,⟨hm,b0,i0,rfl⟩,rfl⟩
           ·refine ci hm (fun hm=>?_) (fun hm=>?_)
            ·refine sp ?_;exact⟨(x0 == 4),_,⟨hm,(Ext.refl _),o,rfl⟩,rfl⟩
            ·refine rg<|rm 2 ?_;exact⟨(x0 == 7),_,⟨hm,(Ext.refl _),o,rfl⟩,rfl⟩
     ·refine ci hm (fun hm=>?_) (fun hm=>?_)
      ·refine sp ?_;exact⟨(x0 == 8),_,⟨hm,(Ext.refl _),q,rfl⟩,rfl⟩
      ·refine sg<|rm 2 ?_;refine ct (fun(X:Bool) F w9=>z6L fu x0 X=some r∧Ext v0 w9∧St w w9 []∧F=[(13,iv x0),(19,.bool X)]) ?_ ?_
       ·rintro X F J0 ⟨hm,c0,j0,rfl⟩;unfold z6L at hm;exact⟨X,_,⟨hm,c0,j0,rfl⟩,rfl⟩
       ·refine ci hm (fun hm=>?_) (fun hm=>?_)
        ·refine sp ?_;exact⟨(x0 == 10),_,⟨hm,(Ext.refl _),q,rfl⟩,rfl⟩
        ·refine rg<|rm 2 ?_;exact⟨(x0 == 11),_,⟨hm,(Ext.refl _),q,rfl⟩,rfl⟩
   ·refine ci hm (fun hm=>?_) (fun hm=>?_)
    ·refine sp ?_;exact⟨(x0 == 1),_,⟨hm,(Ext.refl _),hS,rfl⟩,rfl⟩
    ·refine sg<|rm 2 ?_;refine ct (fun(Y:Bool) F w9=>z6K fu x0 Y=some r∧Ext w w9∧St w w9 []∧F=[(13,iv x0),(14,.bool Y)]) ?_ ?_
     ·rintro Y F K0 ⟨hm,e0,k0,rfl⟩;unfold z6K at hm;exact⟨Y,_,⟨hm,e0,k0,rfl⟩,rfl⟩
     ·refine ci hm (fun hm=>?_) (fun hm=>?_)
      ·refine sp ?_;exact⟨(x0 == 5),_,⟨hm,(Ext.refl _),hS,rfl⟩,rfl⟩
      ·refine sg<|rm 2 ?_;refine ct (fun(Z:Bool) F w9=>z6J fu x0 Z=some r∧Ext w w9∧St w w9 []∧F=[(13,iv x0),(14,.bool Z)]) ?_ ?_
       ·rintro Z F L0 ⟨hm,f0,o0,rfl⟩;unfold z6J at hm;exact⟨Z,_,⟨hm,f0,o0,rfl⟩,rfl⟩
       ·refine ci hm (fun hm=>?_) (fun hm=>?_)
        ·refine sp ?_;exact⟨(x0 == 6),_,⟨hm,(Ext.refl _),hS,rfl⟩,rfl⟩
        ·refine rg<|rm 2 ?_;exact⟨(x0 == 12),_,⟨hm,(Ext.refl _),hS,rfl⟩,rfl⟩

theorem zt6:EN 242:=en Tryz.func242
def z5Q (fu:Nat)(t1:Bool):Option Bool:=(if t1=true then some true else some false)
def z5P (fu:Nat)(t6:Bool):Option Bool:=z5Q fu t6
def z5O (fu:Nat)(o:Bool):Option Bool:=z5P fu o
def z5N (fu:Nat)(o:Bool):Option Bool:=z5O fu o
def z5M (fu:Nat)(o:Bool):Option Bool:=z5N fu o
def z5L (fu:Nat)(o:Bool):Option Bool:=z5M fu o
def z5K (fu:Nat)(o:Bool):Option Bool:=z5L fu o
def z5J (fu:Nat)(o:Bool):Option Bool:=z5K fu o
def z8D (fu:Nat)(x0:Int):Option (Bool):=(if(x0 == 2)=true then z5Q fu (x0 == 2) else(if(x0 == 3)=true then z5P fu (x0 == 3) else(if(x0 == 4)=true then z5O fu (x0 == 4) else(if(x0 == 7)=true then z5N fu (x0 == 7) else(if(x0 == 8)=true then z5M fu (x0 == 8) else(if(x0 == 9)=true then z5L fu (x0 == 9) else(if(x0 == 10)=true then z5K fu (x0 == 10) else(if(x0 == 11)=true then z5J fu (x0 == 11) else z5J fu (x0 == 12)))))))))

theorem zhy (hE:Ext W w){x0:Int}  {fu:Nat}{r:Bool}(hm:z8D fu x0=some r):
  CL 242 ⟨[iv x0]⟩ w (RB w r):=by
 refine into Tryz.func242 14 _ ?_;unfold z8D at hm;have hS:=St.start w;refine sg<|rm 1 ?_;refine sq<|sg<|rm 1 ?_;refine bk<|sq<|sg<|rm 2 ?_;refine ct (fun(t1:Bool) F w9=>z5Q fu t1=some r∧Ext w w9∧St w w9 []∧F=[(4,.bool t1)]) ?_ ?_
 ·rintro t1 F w4 ⟨hm,t0,q0,rfl⟩;unfold z5Q at hm;refine ci hm (fun hm=>?_) (fun hm=>?_)
  ·refine sg<|rm 1 ?_;refine rt ?_;cases hm;exact⟨_,tR rfl,rfl,q0⟩
  ·refine sp<|sg<|rm 1 ?_;refine rt ?_;cases hm;exact⟨_,tR rfl,rfl,q0⟩
 ·refine ci hm (fun hm=>?_) (fun hm=>?_)
  ·refine sp ?_;exact⟨(x0 == 2),_,⟨hm,(Ext.refl _),hS,rfl⟩,rfl⟩
  ·refine sg<|rm 2 ?_;refine ct (fun(t6:Bool) F w9=>z5P fu t6=some r∧Ext w w9∧St w w9 []∧F=[(4,.bool t6)]) ?_ ?_
   ·rintro t6 F u0 ⟨hm,r0,f0,rfl⟩;unfold z5P at hm;exact⟨t6,_,⟨hm,r0,f0,rfl⟩,rfl⟩
   ·refine ci hm (fun hm=>?_) (fun hm=>?_)
    ·refine sp ?_;exact⟨(x0 == 3),_,⟨hm,(Ext.refl _),hS,rfl⟩,rfl⟩
    ·refine sg<|rm 2 ?_;refine ct (fun(o:Bool) F w9=>z5O fu o=some r∧Ext w w9∧St w w9 []∧F=[(4,.bool o)]) ?_ ?_
     ·rintro o F v0 ⟨hm,Y,g0,rfl⟩;unfold z5O at hm;exact⟨o,_,⟨hm,Y,g0,rfl⟩,rfl⟩
     ·refine ci hm (fun hm=>?_) (fun hm=>?_)
      ·refine sp ?_;exact⟨(x0 == 4),_,⟨hm,(Ext.refl _),hS,rfl⟩,rfl⟩
      ·refine sg<|rm 2 ?_;refine ct (fun(q:Bool) F w9=>z5N fu q=some r∧Ext w w9∧St w w9 []∧F=[(4,.bool q)]) ?_ ?_
       ·rintro q F y0 ⟨hm,Z,i0,rfl⟩;unfold z5N at hm;exact⟨q,_,⟨hm,Z,i0,rfl⟩,rfl⟩
       ·refine ci hm (fun hm=>?_) (fun hm=>?_)
        ·refine sp ?_;exact⟨(x0 == 7),_,⟨hm,(Ext.refl _),hS,rfl⟩,rfl⟩
        ·refine sg<|rm 2 ?_;refine ct (fun(G:Bool) F w9=>z5M fu G=some r∧Ext w w9∧St w w9 []∧F=[(4,.bool G)]) ?_ ?_
         ·rintro G F A0 ⟨hm,a0,j0,rfl⟩;unfold z5M at hm;exact⟨G,_,⟨hm,a0,j0,rfl⟩,rfl⟩
         ·refine ci hm (fun hm=>?_) (fun hm=>?_)
          ·refine sp ?_;exact⟨(x0 == 8),_,⟨hm,(Ext.refl _),hS,rfl⟩,rfl⟩
          ·refine sg<|rm 2 ?_;refine ct (fun(H:Bool) F w9=>z5L fu H=some r∧Ext w w9∧St w w9 []∧F=[(4,.bool H)]) ?_ ?_
           ·rintro H F B0 ⟨hm,b0,k0,rfl⟩;unfold z5L at hm;exact⟨H,_,⟨hm,b0,k0,rfl⟩,rfl⟩
           ·refine ci hm (fun hm=>?_) (fun hm=>?_)
            ·refine sp ?_;exact⟨(x0 == 9),_,⟨hm,(Ext.refl _),hS,rfl⟩,rfl⟩
            ·refine sg<|rm 2 ?_;refine ct (fun(O:Bool) F w9=>z5K fu O=some r∧Ext w w9∧St w w9 []∧F=[(4,.bool O)]) ?_ ?_
             ·rintro O F C0 ⟨hm,c0,o0,rfl⟩;unfold z5K at hm;exact⟨O,_,⟨hm,c0,o0,rfl⟩,rfl⟩
             ·refine ci hm (fun hm=>?_) (fun hm=>?_)
              ·refine sp ?_;exact⟨(x0 == 10),_,⟨hm,(Ext.refl _),hS,rfl⟩,rfl⟩
              ·refine sg<|rm 2 ?_;refine ct (fun(X:Bool) F w9=>z5J fu X=some r∧Ext w w9∧St w w9 []∧F=[(4,.bool X)]) ?_ ?_
               ·rintro X F D0 ⟨hm,e0,p0,rfl⟩;unfold z5J at hm;exact⟨X,_,⟨hm,e0,p0,rfl⟩,rfl⟩
               ·refine ci hm (fun hm=>?_) (fun hm=>?_)
                ·refine sp ?_;exact⟨(x0 == 11),_,⟨hm,(Ext.refl _),hS,rfl⟩,rfl⟩
                ·refine rg<|rm 2 ?_;exact⟨(x0 == 12),_,⟨hm,(Ext.refl _),hS,rfl⟩,rfl⟩

theorem zt5:EN 243:=en Tryz.func243
def zb0 (fu:Nat)(x0:Int):Option (Bool):=((zS fu x0 1 12).bind fun r1=>some r1)

theorem zix (hE:Ext W w){x0:Int}  {fu:Nat}{r:Bool}(hm:zb0 fu x0=some r):
  CL 243 ⟨[iv x0]⟩ w (RB w r):=by
 refine into Tryz.func243 5 _ ?_;unfold zb0 at hm;have hS:=St.start w;refine sg<|rm 1 ?_;refine sg<|rr 1 ?_;obtain⟨r1,H,hm⟩:=bS hm;refine ca z6w (z1d (hE.trans hS.ext)  H) (fun v3 w4 o=>?_);obtain⟨rfl,q⟩:=o;have G:=hS.join q;refine rm 1 ?_;refine rt ?_;cases hm;exact⟨_,tR rfl,rfl,G⟩

theorem zto:EN 218:=en Tryz.func218
def z8C (fu:Nat)(x0:Int)(x1:Int):Option (Bool):=((z8D fu x0).bind fun r1=>(if r1=true then((zS fu x1 0 8).bind fun o=>some o) else((zb0 fu x0).bind fun q=>(if q=true then some (x1 == 0) else some false))))

theorem zhx (hE:Ext W w){x0:Int}{x1:Int}  {fu:Nat}{r:Bool}(hm:z8C fu x0 x1=some r):
  CL 218 ⟨[iv x0,iv x1]⟩ w (RB w r):=by
 refine into Tryz.func218 15 _ ?_;unfold z8C at hm;have hS:=St.start w;refine sg<|rm 1 ?_;refine sq<|sg<|rr 1 ?_;obtain⟨r1,e0,hm⟩:=bS hm;refine ca zt6 (zhy (hE.trans hS.ext)  e0) (fun v3 w4 b0=>?_);obtain⟨rfl,c0⟩:=b0;have q:=hS.join c0;refine rn<|ci hm (fun hm=>?_) (fun hm=>?_)
 ·refine sg<|rr 1 ?_;obtain⟨f0,Z,hm⟩:=bS hm;refine ca z6w (z1d (hE.trans q.ext)  Z) (fun i0 k0 G=>?_);obtain⟨rfl,H⟩:=G;have Y:=q.join H;refine rm 1 ?_;refine rt ?_;cases hm;exact⟨_,tR rfl,rfl,Y⟩
 ·refine sp<|sg<|rr 1 ?_;obtain⟨g0,a0,hm⟩:=bS hm;refine ca zt5 (zix (hE.trans q.ext)  a0) (fun j0 o0 O=>?_);obtain⟨rfl,X⟩:=O;have o:=q.join X;refine rr 1 ?_;refine rb 11 hm (fun hm=>?_) (fun hm=>?_)
  ·refine rm 4 ?_;refine rt ?_;cases hm;exact⟨_,tR rfl,rfl,o⟩
  ·refine rm 4 ?_;refine rt ?_;cases hm;exact⟨_,tR rfl,rfl,o⟩

theorem znS:EN 244:=en Tryz.func244
def z92 (fu:Nat)(x0:Int):Option (Bool):=((zS fu x0 0 23).bind fun r1=>some r1)

theorem zfe (hE:Ext W w){x0:Int}  {fu:Nat}{r:Bool}(hm:z92 fu x0=some r):
  CL 244 ⟨[iv x0]⟩ w (RB w r):=by
 refine into Tryz.func244 5 _ ?_;unfold z92 at hm;have hS:=St.start w;refine sg<|rm 1 ?_;refine sg<|rr 1 ?_;obtain⟨r1,H,hm⟩:=bS hm;refine ca z6w (z1d (hE.trans hS.ext)  H) (fun v3 w4 o=>?_);obtain⟨rfl,q⟩:=o;have G:=hS.join q;refine rm 1 ?_;refine rt ?_;cases hm;exact⟨_,tR rfl,rfl,G⟩

theorem ztn:EN 219:=en Tryz.func219
def z99 (fu:Nat)(o:Unit):Option Bool:=some true
def z4a (fu:Nat)(x0:D.Qe)(o:Int):Option (Rd (Int) (Unit) (Bool)):=(if(decide (o<(x0.Data.length:Int)))=true then((idx x0.Data o).bind fun G=>((z92 fu G).bind fun q=>(if(!q)=true then some (.ret false) else some (.next (w64 (o+1)))))) else some (.brk ()))
def zU (fu:Nat)(x0:D.Qe)(q:Bool):Option Bool:=(if q=true then some false else((iter (z4a fu x0) fu 0).bind fun o=>aft o (z99 fu)))
def z1R (fu:Nat)(x0:D.Qe)(G:Bool):Option Bool:=(if G=true then(if(x0.Value != 0)=true then zU fu x0 true else(if(x0.Qi == 11)=true then(if((x0.Data.length:Int) != 2)=true then zU fu x0 true else(if(x0.Qi == 10)=true then((zS fu (x0.Data.length:Int) 1 4).bind fun o=>zU fu x0 (!o)) else zU fu x0 false)) else(if(x0.Qi == 10)=true then((zS fu (x0.Data.length:Int) 1 4).bind fun q=>zU fu x0 (!q)) else zU fu x0 false))) else(if(x0.Value == 0)=true then some ((x0.Data.length:Int) == 0) else some false))
def z10 (fu:Nat)(x0:D.Qe):Option (Bool):=(if(x0.Qi == 6)=true then(if((x0.Data.length:Int) == 0)=true then((zS fu x0.Value (-2147483648) 2147483647).bind fun o=>some o) else some false) else(if(x0.Qi == 7)=true then(if((x0.Data.length:Int) == 0)=true then((zS fu x0.Value 1 6).bind fun q=>some q) else some false) else(if(x0.Qi == 8)=true then(if((x0.Data.length:Int) == 1)=true then((zS fu x0.Value 1 6).bind fun G=>(if G=true then((idx x0.Data 0).bind fun Y=>((zS fu Y (-2147483648) 2147483647).bind fun H=>some H)) else some false)) else some false) else(if(x0.Qi == 9)=true then(if((x0.Data.length:Int) == 0)=true then((zS fu x0.Value 0 3).bind fun O=>some O) else some false) else(if(x0.Qi == 12)=true then(if((x0.Data.length:Int) == 0)=true then((z92 fu x0.Value).bind fun X=>some X) else some false) else(if(x0.Qi == 10)=true then z1R fu x0 (x0.Qi == 10) else z1R fu x0 (x0.Qi == 11)))))))

theorem zfQ (hE:Ext W w){q0:Addr}{n1:List Value}{x0:D.Qe}(y1:z8n.ro W n1 x0)(G:At W q0 n1){fu:Nat}{r:Bool}(hm:z10 fu x0=some r):
  CL 219 ⟨[.pointer (some q0)]⟩ w (RB w r):=by
 obtain⟨A1,k2,A4,k5,e7,h3,h6⟩:=z1m y1;subst e7;refine into Tryz.func219 162 _ ?_;unfold z10 at hm;have hS:=St.start w;refine sg<|rm 1 ?_;refine sq<|sg<|rr 3 ?_;refine l1 (ax hE hS G) 0 ?_;refine rn<|bk<|sg<|rm 2 ?_;refine ci hm (fun hm=>?_) (fun hm=>?_)
 ·refine sg<|rr 3 ?_;refine l1 (ax hE hS G) 3 ?_;refine rr 3 ?_;refine rb 16 hm (fun hm=>?_) (fun hm=>?_)
  ·refine rr 3 ?_;refine l1 (ax hE hS G) 2 ?_;obtain⟨P1,U0,hm⟩:=bS hm;refine ca z6w (z1d (hE.trans hS.ext)  U0) (fun W1 f2 r0=>?_);obtain⟨rfl,t0⟩:=r0;have H0:=hS.join t0;refine rm 2 ?_;refine rt ?_;cases hm;exact⟨_,tR rfl,rfl,H0⟩
  ·refine rm 7 ?_;refine rt ?_;cases hm;exact⟨_,tR rfl,rfl,hS⟩
 ·refine sg<|rm 2 ?_;refine ci hm (fun hm=>?_) (fun hm=>?_)
  ·refine sg<|rr 3 ?_;refine l1 (ax hE hS G) 3 ?_;refine rr 3 ?_;refine rb 31 hm (fun hm=>?_) (fun hm=>?_)
   ·refine rr 3 ?_;refine l1 (ax hE hS G) 2 ?_;obtain⟨Q1,V0,hm⟩:=bS hm;refine ca z6w (z1d (hE.trans hS.ext)  V0) (fun X1 g2 u0=>?_);obtain⟨rfl,v0⟩:=u0;have J0:=hS.join v0;refine rm 2 ?_;refine rt ?_;cases hm;exact⟨_,tR rfl,rfl,J0⟩
   ·refine rm 7 ?_;refine rt ?_;cases hm;exact⟨_,tR rfl,rfl,hS⟩
  ·refine sg<|rm 2 ?_;refine ci hm (fun hm=>?_) (fun hm=>?_)
   ·refine sg<|rr 3 ?_;refine l1 (ax hE hS G) 3 ?_;refine rr 3 ?_;refine rb 46 hm (fun hm=>?_) (fun hm=>?_)
    ·refine rr 3 ?_;refine l1 (ax hE hS G) 2 ?_;obtain⟨R1,X0,hm⟩:=bS hm;refine ca z6w (z1d (hE.trans hS.ext)  X0) (fun Y1 i2 y0=>?_);obtain⟨rfl,A0⟩:=y0;have O:=hS.join A0;refine rr 2 ?_;refine rb 53 hm (fun hm=>?_) (fun hm=>?_)
     ·refine rr 3 ?_;refine l1 (ax hE O G) 3 ?_;obtain⟨q2,Y0,hm⟩:=bS hm;refine ix (hE.trans O.ext) h3 Y0 (fun N1 u1 O0 S0=>?_);cases S0;refine l1 (ax hE O O0) 0 ?_;obtain⟨S1,a1,hm⟩:=bS hm;refine ca z6w (z1d (hE.trans O.ext)  a1) (fun a2 j2 B0=>?_);obtain⟨rfl,C0⟩:=B0;have K0:=O.join C0;refine rm 2 ?_;refine rt ?_;cases hm;exact⟨_,tR rfl,rfl,K0⟩
     ·refine rm 9 ?_;refine rt ?_;cases hm;exact⟨_,tR rfl,rfl,O⟩
    ·refine rm 16 ?_;refine rt ?_;cases hm;exact⟨_,tR rfl,rfl,hS⟩
   ·refine sg<|rm 2 ?_;refine ci hm (fun hm=>?_) (fun hm=>?_)
    ·refine sg<|rr 3 ?_;refine l1 (ax hE hS G) 3 ?_;refine rr 3 ?_;refine rb 70 hm (fun hm=>?_) (fun hm=>?_)
     ·refine rr 3 ?_;refine l1 (ax hE hS G) 2 ?_;obtain⟨T1,b1,hm⟩:=bS hm;refine ca z6w (z1d (hE.trans hS.ext)  b1) (fun b2 m2 D0=>?_);obtain⟨rfl,E0⟩:=D0;have L0:=hS.join E0;refine rm 2 ?_;refine rt ?_;cases hm;exact⟨_,tR rfl,rfl,L0⟩
     ·refine rm 7 ?_;refine rt ?_;cases hm;exact⟨_,tR rfl,rfl,hS⟩
    ·refine sg<|rm 2 ?_;refine ci hm (fun hm=>?_) (fun hm=>?_)
     ·refine sg<|rr 3 ?_;refine l1 (ax hE hS G) 3 ?_;refine rr 3 ?_;refine rb 85 hm (fun hm=>?_) (fun hm=>?_)
      ·refine rr 3 ?_;refine l1 (ax hE hS G) 2 ?_;obtain⟨U1,d1,hm⟩:=bS hm;refine ca znS (zfe (hE.trans hS.ext)  d1) (fun d2 n2 F0=>?_);obtain⟨rfl,G0⟩:=F0;have M0:=hS.join G0;refine rm 2 ?_;refine rt ?_;cases hm;exact⟨_,tR rfl,rfl,M0⟩
      ·refine rm 7 ?_;refine rt ?_;cases hm;exact⟨_,tR rfl,rfl,hS⟩
     ·refine sq<|sg<|rm 2 ?_;refine ct (fun(j1:Bool) F w9=>z1R fu x0 j1=some r∧Ext w w9∧St w w9 []∧F=[(0,.pointer (some q0)),(92,.bool j1)]) ?_ ?_
      ·rintro j1 F L1 ⟨hm,B1,o,rfl⟩;unfold z1R at hm;refine ci hm (fun hm=>?_) (fun hm=>?_)
       ·refine sq<|sq<|ct (fun(m1:Bool) F w9=>zU fu x0 m1=some r∧Ext L1 w9∧St w w9 []∧F=[(0,.pointer (some q0)),(130,.bool m1)]) ?_ ?_
        ·rintro m1 F t1 ⟨hm,C1,j0,rfl⟩;unfold zU at hm;refine ci hm (fun hm=>?_) (fun hm=>?_)
         ·refine sg<|rm 1 ?_;refine rt ?_;cases hm;exact⟨_,tR rfl,rfl,j0⟩
         ·refine sp<|sq<|sg<|rm 1 ?_;obtain⟨E1,Q0,hm⟩:=bS hm;refine ct (fun(s1:Unit) F w9=>E1=.inl s1∧Ext t1 w9∧St w w9 []∧F=[]) ?_ ?_
          ·rintro s1 F o2 ⟨R0,D1,N0,rfl⟩;subst R0;rw[z8] at hm;unfold z99 at hm;refine sg<|rm 1 ?_;refine rt ?_;cases hm;exact⟨_,tR rfl,rfl,N0⟩
          ·refine bk<|wk [0,3] ?_;refine it (fun(p1:Int) F w9=>Ext t1 w9∧St w w9 []∧F=[(0,.pointer (some q0)),(3,iv p1)]) Q0 ⟨(Ext.refl _),j0,rfl⟩ ?_;rintro p1 F p2 _ M1 ⟨b0,H,rfl⟩ q k0;unfold z4a at q;refine sq<|sg<|rr 4 ?_;refine l1 (ax hE H G) 3 ?_;refine rm 2 ?_;refine ci q (fun q=>?_) (fun q=>?_)
           ·refine sp<|sq<|bk<|sg<|rr 3 ?_;refine l1 (ax hE H G) 3 ?_;refine rr 1 ?_;obtain⟨r2,e1,q⟩:=bS q;refine ix (hE.trans H.ext) h3 e1 (fun O1 v1 P0 T0=>?_);cases T0;refine l1 (ax hE H P0) 0 ?_;obtain⟨V1,f1,q⟩:=bS q;refine ca znS (zfe (hE.trans H.ext)  f1) (fun e2 H1 c0=>?_);obtain⟨rfl,X⟩:=c0;have a0:=H.join X;refine rm 1 ?_;refine ci q (fun q=>?_) (fun q=>?_)
            ·refine sg<|rm 1 ?_;refine rt ?_;cases q;cases k0;have hm:some _=some _:=hm;cases hm;exact⟨_,tR rfl,rfl,a0⟩
            ·refine sp<|rg<|rm 3 ?_;cases q;exact⟨_,_,rfl,⟨(b0.trans X.ext),a0,rfl⟩,rfl⟩
           ·refine xt ?_;cases q;exact⟨_,_,⟨k0,b0,H,rfl⟩,rfl⟩
        ·refine rg<|rr 3 ?_;refine l1 (ax hE o G) 2 ?_;refine rr 2 ?_;refine rb 100 hm (fun hm=>?_) (fun hm=>?_)
         ·refine rm 30 ?_;exact⟨true,_,⟨hm,(Ext.refl _),o,rfl⟩,rfl⟩
         ·refine rr 3 ?_;refine l1 (ax hE o G) 0 ?_;refine rr 2 ?_;refine rb 106 hm (fun hm=>?_) (fun hm=>?_)
          ·refine rr 3 ?_;refine l1 (ax hE o G) 3 ?_;refine rr 5 ?_;refine rb 115 hm (fun hm=>?_) (fun hm=>?_)
           ·refine rm 15 ?_;exact⟨true,_,⟨hm,(Ext.refl _),o,rfl⟩,rfl⟩
           ·refine rr 3 ?_;refine l1 (ax hE o G) 0 ?_;refine rr 2 ?_;refine rb 121 hm (fun hm=>?_) (fun hm=>?_)
            ·refine rr 3 ?_;refine l1 (ax hE o G) 3 ?_;refine rr 1 ?_;obtain⟨g1,o0,hm⟩:=bS hm;refine ca z6w (z1d (hE.trans o.ext)  o0) (fun F1 J1 e0=>?_);obtain⟨rfl,Y⟩:=e0;have g0:=o.join Y;refine rm 3 ?_;exact⟨!g1,_,⟨hm,Y.ext,g0,rfl⟩,rfl⟩
            ·refine rm 9 ?_;exact⟨false,_,⟨hm,(Ext.refl _),o,rfl⟩,rfl⟩
          ·refine rr 12 ?_;refine l1 (ax hE o G) 0 ?_;refine rr 2 ?_;refine rb 121 hm (fun hm=>?_) (fun hm=>?_)
           ·refine rr 3 ?_;refine l1 (ax hE o G) 3 ?_;refine rr 1 ?_;obtain⟨i1,p0,hm⟩:=bS hm;refine ca z6w (z1d (hE.trans o.ext)  p0) (fun G1 K1 f0=>?_);obtain⟨rfl,Z⟩:=f0;have i0:=o.join Z;refine rm 3 ?_;exact⟨!i1,_,⟨hm,Z.ext,i0,rfl⟩,rfl⟩
           ·refine rm 9 ?_;exact⟨false,_,⟨hm,(Ext.refl _),o,rfl⟩,rfl⟩
       ·refine sp<|sg<|rr 3 ?_;refine l1 (ax hE o G) 2 ?_;refine rr 2 ?_;refine rb 154 hm (fun hm=>?_) (fun hm=>?_)
        ·refine rr 3 ?_;refine l1 (ax hE o G) 3 ?_;refine rm 4 ?_;refine rt ?_;cases hm;exact⟨_,tR rfl,rfl,o⟩
        ·refine rm 8 ?_;refine rt ?_;cases hm;exact⟨_,tR rfl,rfl,o⟩
      ·refine ci hm (fun hm=>?_) (fun hm=>?_)
       ·refine sp ?_;exact⟨(x0.Qi == 10),_,⟨hm,(Ext.refl _),hS,rfl⟩,rfl⟩
       ·refine rg<|rm 2 ?_;exact⟨(x0.Qi == 11),_,⟨hm,(Ext.refl _),hS,rfl⟩,rfl⟩

theorem ztL:EN 180:=en Tryz.func180
def z4W (fu:Nat)(x0:D.Qe):Option (Bool):=((z43 fu x0).bind fun q=>((z6d fu x0.Qi q).bind fun o=>(if(decide (o>0))=true then(if((x0.Qy.length:Int) == o)=true then((z8C fu x0.Qi x0.QC).bind fun G=>(if G=true then((z10 fu x0).bind fun H=>some H) else some false)) else some false) else some false)))

theorem zhw (hE:Ext W w){v0:Addr}{u0:List Value}{x0:D.Qe}(f0:z8n.ro W u0 x0)(X:At W v0 u0){fu:Nat}{r:Bool}(hm:z4W fu x0=some r):
  CL 180 ⟨[.pointer (some v0)]⟩ w (RB w r):=by
 obtain⟨A1,k2,A4,k5,e7,h3,h6⟩:=z1m f0;subst e7;refine into Tryz.func180 37 _ ?_;unfold z4W at hm;have hS:=St.start w;refine sg<|rm 1 ?_;refine sq<|dn 0 mixed 8 [([],255),([0],254),([1],253),([2],251),([],255),([4],239),([3,5,5],215),([6,6,0,1,2,3,4,5,6],191)] hS.ext (fun q=>?_);have c0:=hS.step (Ext.draw _);refine dr 4 q [0,1,2,4] ?_;refine dl q 3 (ax hE hS X) 0 ?_;obtain⟨y0,p0,hm⟩:=bS hm;refine o1 q 5 (mc q ztp (zgG (hE.trans c0.ext) f0 X p0) (fun D0 H0 g0=>?_));obtain⟨rfl,Y⟩:=g0;refine⟨Y.ext,?_⟩;have e0:=c0.join Y;obtain⟨A0,q0,hm⟩:=bS hm;refine o1 q 6 (mc q ztq (ziz (hE.trans e0.ext)  q0) (fun E0 J0 i0=>?_));obtain⟨rfl,Z⟩:=i0;refine⟨Z.ext,?_⟩;have G:=e0.join Z;refine dr 0 q [7] ?_;refine dw [0,3] ?_;refine dd q ?_;refine sq<|dn 0 mixed 27 [([],134217727),([0],134217726),([1],134217725),([2],134217723),([3,2],134217715),([4,2],134217707),([5,2],134217691),([6,2],134217659),([2],134217723),([7,8,2],134217339),([2,9],134217211),([10,2],134216703),([11],134215679),([12,11],134211583),([13,11],134207487),([14,11],134199295),([11],134215679),([16,11],134150143),([17,11],134084607),([18,11],133953535),([15,19,11,11],133658623),([11,20],133167103),([21,20],132120575),([22],130023423),([23,22,22],121634815),([22,24],113246207),([25,24,0,1,2,3,4,5,6,7,8,9,10,11,12,13,14,15,16,17,18,19,20,21,22,23,24,25],100663295)] G.ext (fun o=>?_);have H:=G.step (Ext.draw _);refine dr 24 o [0,1,2] ?_;refine db 13 hm (fun hm=>?_) (fun hm=>?_)
 ·refine dr 20 o [3,4,5,8] ?_;refine dl o 6 (ax hE G X) 4 ?_;refine dr 15 o [7,9,10,11] ?_;refine dw [0,22] ?_;refine db 22 hm (fun hm=>?_) (fun hm=>?_)
  ·refine dr 9 o [12,13,14,16,17,18] ?_;refine dl o 15 (ax hE G X) 0 ?_;refine dl o 19 (ax hE G X) 1 ?_;obtain⟨B0,r0,hm⟩:=bS hm;refine o1 o 20 (mc o zto (zhx (hE.trans H.ext)  r0) (fun F0 K0 j0=>?_));obtain⟨rfl,a0⟩:=j0;refine⟨a0.ext,?_⟩;have O:=H.join a0;refine dr 4 o [21,22] ?_;refine dw [0,33] ?_;refine db 33 hm (fun hm=>?_) (fun hm=>?_)
   ·refine dr 3 o [23] ?_;obtain⟨C0,t0,hm⟩:=bS hm;refine o1 o 24 (mc o ztn (zfQ (hE.trans O.ext) f0 X t0) (fun G0 L0 k0=>?_));obtain⟨rfl,b0⟩:=k0;refine⟨b0.ext,?_⟩;have o0:=O.join b0;refine dr 0 o [25,26] ?_;refine dd o ?_;refine rt ?_;cases hm;exact⟨_,tR rfl,rfl,o0⟩
   ·refine dr 0 o [23,24,25,26] ?_;refine dd o ?_;refine rt ?_;cases hm;exact⟨_,tR rfl,rfl,O⟩
  ·refine dr 0 o [12,13,14,15,16,17,18,19,20,21,22,23,24,25,26] ?_;refine dw [2] ?_;refine dd o ?_;refine rt ?_;cases hm;exact⟨_,tR rfl,rfl,H⟩
 ·refine dr 0 o [3,4,5,6,7,8,9,10,11,12,13,14,15,16,17,18,19,20,21,22,23,24,25,26] ?_;refine dw [2] ?_;refine dd o ?_;refine rt ?_;cases hm;exact⟨_,tR rfl,rfl,H⟩

theorem ztk:EN 222:=en Tryz.func222
def z8P (fu:Nat)(x0:Int)(x1:Int):Option (Int):=(if(x0 == 9)=true then some (w64 (x1 - 1)) else some 0)

theorem zhE (hE:Ext W w){x0:Int}{x1:Int}  {fu:Nat}{r:Int}(hm:z8P fu x0 x1=some r):
  CL 222 ⟨[iv x0,iv x1]⟩ w (RI w r):=by
 refine into Tryz.func222 9 _ ?_;unfold z8P at hm;have hS:=St.start w;refine sg<|rm 1 ?_;refine sq<|sg<|rm 2 ?_;refine ci hm (fun hm=>?_) (fun hm=>?_)
 ·refine sg<|rm 3 ?_;refine rt ?_;cases hm;exact⟨_,tR rfl,rfl,hS⟩
 ·refine sp<|sg<|rm 1 ?_;refine rt ?_;cases hm;exact⟨_,tR rfl,rfl,hS⟩

theorem zjn:EN 245:=en Tryz.func245
def z7v (fu:Nat)(x0:Int):Option (Bool):=(if(decide (x0≥1))=true then some (decide (x0≤12)) else some false)

theorem zcY (hE:Ext W w){x0:Int}  {fu:Nat}{r:Bool}(hm:z7v fu x0=some r):
  CL 245 ⟨[iv x0]⟩ w (RB w r):=by
 refine into Tryz.func245 9 _ ?_;unfold z7v at hm;have hS:=St.start w;refine sg<|rm 1 ?_;refine sg<|rr 3 ?_;refine rb 5 hm (fun hm=>?_) (fun hm=>?_)
 ·refine rm 4 ?_;refine rt ?_;cases hm;exact⟨_,tR rfl,rfl,hS⟩
 ·refine rm 4 ?_;refine rt ?_;cases hm;exact⟨_,tR rfl,rfl,hS⟩

theorem ztm:EN 221:=en Tryz.func221
def z1N (fu:Nat)(x0:Int)(t6:Bool):Option Int:=(if t6=true then some 0 else((idx ([0,1,3,3,3,1,1,3,2,0,2,2,1]:L9) x0).bind fun o=>some o))
def z3i (fu:Nat)(x0:Int)(x1:Int)(t1:Bool):Option Int:=(if t1=true then some (w64 (x1+1)) else((z7v fu x0).bind fun o=>(if(!o)=true then z1N fu x0 true else(if(x0 == 9)=true then z1N fu x0 true else z1N fu x0 (x1 != 0)))))
def z82 (fu:Nat)(x0:Int)(x1:Int):Option (Int):=(if(x0 == 9)=true then(if(decide (x1≥0))=true then z3i fu x0 x1 (decide (x1≤3)) else z3i fu x0 x1 false) else z3i fu x0 x1 false)

theorem zj9 (hE:Ext W w){x0:Int}{x1:Int}  {fu:Nat}{r:Int}(hm:z82 fu x0 x1=some r):
  CL 221 ⟨[iv x0,iv x1]⟩ w (RI w r):=by
 refine into Tryz.func221 33 _ ?_;unfold z82 at hm;have hS:=St.start w;refine sg<|rm 1 ?_;refine sq<|bk<|sq<|ct (fun(t1:Bool) F w9=>z3i fu x0 x1 t1=some r∧Ext w w9∧St w w9 []∧F=[(0,iv x0),(1,iv x1),(5,.bool t1)]) ?_ ?_
 ·rintro t1 F w4 ⟨hm,Z,X,rfl⟩;unfold z3i at hm;refine ci hm (fun hm=>?_) (fun hm=>?_)
  ·refine sg<|rm 3 ?_;refine rt ?_;cases hm;exact⟨_,tR rfl,rfl,X⟩
  ·refine sq<|ct (fun(t6:Bool) F w9=>z1N fu x0 t6=some r∧Ext w4 w9∧St w w9 []∧F=[(0,iv x0),(18,.bool t6)]) ?_ ?_
   ·rintro t6 F e0 ⟨hm,a0,G,rfl⟩;unfold z1N at hm;refine ci hm (fun hm=>?_) (fun hm=>?_)
    ·refine sg<|rm 1 ?_;refine rt ?_;cases hm;exact⟨_,tR rfl,rfl,G⟩
    ·refine sp<|sg<|qt (zxc (cs:=[iv 0,iv 1,iv 3,iv 3,iv 3,iv 1,iv 1,iv 3,iv 2,iv 0,iv 2,iv 2,iv 1])) ?_;refine rr 1 ?_;obtain⟨g0,H,hm⟩:=bS hm;refine qt (Quiet.arrIdx ttok (xs:=([0,1,3,3,3,1,1,3,2,0,2,2,1]:L9)) (e:=2) rfl (by kernel_rfl) rfl rfl rfl rfl rfl rfl (zk H).1 (zk H).2) ?_;refine rm 1 ?_;refine rt ?_;cases hm;exact⟨_,tR rfl,rfl,G⟩
   ·refine rg<|rr 1 ?_;obtain⟨b0,Y,hm⟩:=bS hm;refine ca zjn (zcY (hE.trans X.ext)  Y) (fun c0 f0 O=>?_);obtain⟨rfl,o⟩:=O;have q:=X.join o;refine rr 2 ?_;refine rb 22 hm (fun hm=>?_) (fun hm=>?_)
    ·refine rm 8 ?_;exact⟨true,_,⟨hm,o.ext,q,rfl⟩,rfl⟩
    ·refine rr 4 ?_;refine rb 26 hm (fun hm=>?_) (fun hm=>?_)
     ·refine rm 4 ?_;exact⟨true,_,⟨hm,o.ext,q,rfl⟩,rfl⟩
     ·refine rm 4 ?_;exact⟨(x1 != 0),_,⟨hm,o.ext,q,rfl⟩,rfl⟩
 ·refine rg<|rr 3 ?_;refine rb 8 hm (fun hm=>?_) (fun hm=>?_)
  ·refine rr 4 ?_;refine rb 12 hm (fun hm=>?_) (fun hm=>?_)
   ·refine rm 4 ?_;exact⟨decide (x1≤3),_,⟨hm,(Ext.refl _),hS,rfl⟩,rfl⟩
   ·refine rm 4 ?_;exact⟨false,_,⟨hm,(Ext.refl _),hS,rfl⟩,rfl⟩
  ·refine rm 8 ?_;exact⟨false,_,⟨hm,(Ext.refl _),hS,rfl⟩,rfl⟩

theorem zt4:EN 246:=en Tryz.func246
def z8S (fu:Nat)(x0:Int):Option (Bool):=((z7v fu x0).bind fun r1=>(if r1=true then(if(x0 != 1)=true then(if(x0 != 5)=true then some (x0 != 6) else some false) else some false) else some false))

theorem zhH (hE:Ext W w){x0:Int}  {fu:Nat}{r:Bool}(hm:z8S fu x0=some r):
  CL 246 ⟨[iv x0]⟩ w (RB w r):=by
 refine into Tryz.func246 17 _ ?_;unfold z8S at hm;have hS:=St.start w;refine sg<|rm 1 ?_;refine sg<|rr 1 ?_;obtain⟨r1,H,hm⟩:=bS hm;refine ca zjn (zcY (hE.trans hS.ext)  H) (fun v3 w4 q=>?_);obtain⟨rfl,G⟩:=q;have o:=hS.join G;refine rr 1 ?_;refine rb 5 hm (fun hm=>?_) (fun hm=>?_)
 ·refine rr 4 ?_;refine rb 9 hm (fun hm=>?_) (fun hm=>?_)
  ·refine rr 4 ?_;refine rb 13 hm (fun hm=>?_) (fun hm=>?_)
   ·refine rm 4 ?_;refine rt ?_;cases hm;exact⟨_,tR rfl,rfl,o⟩
   ·refine rm 4 ?_;refine rt ?_;cases hm;exact⟨_,tR rfl,rfl,o⟩
  ·refine rm 8 ?_;refine rt ?_;cases hm;exact⟨_,tR rfl,rfl,o⟩
 ·refine rm 12 ?_;refine rt ?_;cases hm;exact⟨_,tR rfl,rfl,o⟩

theorem zt3:EN 247:=en Tryz.func247
def z9n (fu:Nat)(x0:Int):Option (Bool):=(if(decide (x0≥0))=true then some (decide (x0≤8)) else some false)

theorem zj8 (hE:Ext W w){x0:Int}  {fu:Nat}{r:Bool}(hm:z9n fu x0=some r):
  CL 247 ⟨[iv x0]⟩ w (RB w r):=by
 refine into Tryz.func247 9 _ ?_;unfold z9n at hm;have hS:=St.start w;refine sg<|rm 1 ?_;refine sg<|rr 3 ?_;refine rb 5 hm (fun hm=>?_) (fun hm=>?_)
 ·refine rm 4 ?_;refine rt ?_;cases hm;exact⟨_,tR rfl,rfl,hS⟩
 ·refine rm 4 ?_;refine rt ?_;cases hm;exact⟨_,tR rfl,rfl,hS⟩

theorem ztj:EN 223:=en Tryz.func223
def z7V (fu:Nat)(x0:Int)(x1:Int):Option (Bool):=((z7v fu x0).bind fun r1=>(if r1=true then(if(x1 == 0)=true then some true else((z8S fu x0).bind fun o=>(if o=true then((z9n fu x1).bind fun q=>some q) else some false))) else some false))

theorem zgQ (hE:Ext W w){x0:Int}{x1:Int}  {fu:Nat}{r:Bool}(hm:z7V fu x0 x1=some r):
  CL 223 ⟨[iv x0,iv x1]⟩ w (RB w r):=by
 refine into Tryz.func223 19 _ ?_;unfold z7V at hm;have hS:=St.start w;refine sg<|rm 1 ?_;refine sg<|rr 1 ?_;obtain⟨r1,e0,hm⟩:=bS hm;refine ca zjn (zcY (hE.trans hS.ext)  e0) (fun v3 w4 b0=>?_);obtain⟨rfl,c0⟩:=b0;have q:=hS.join c0;refine rr 1 ?_;refine rb 7 hm (fun hm=>?_) (fun hm=>?_)
 ·refine rr 3 ?_;refine rb 10 hm (fun hm=>?_) (fun hm=>?_)
  ·refine rm 9 ?_;refine rt ?_;cases hm;exact⟨_,tR rfl,rfl,q⟩
  ·refine rr 1 ?_;obtain⟨f0,Z,hm⟩:=bS hm;refine ca zt4 (zhH (hE.trans q.ext)  Z) (fun i0 k0 G=>?_);obtain⟨rfl,H⟩:=G;have o:=q.join H;refine rr 1 ?_;refine rb 13 hm (fun hm=>?_) (fun hm=>?_)
   ·refine rr 1 ?_;obtain⟨g0,a0,hm⟩:=bS hm;refine ca zt3 (zj8 (hE.trans o.ext)  a0) (fun j0 o0 O=>?_);obtain⟨rfl,X⟩:=O;have Y:=o.join X;refine rm 4 ?_;refine rt ?_;cases hm;exact⟨_,tR rfl,rfl,Y⟩
   ·refine rm 6 ?_;refine rt ?_;cases hm;exact⟨_,tR rfl,rfl,o⟩
 ·refine rm 12 ?_;refine rt ?_;cases hm;exact⟨_,tR rfl,rfl,q⟩

theorem ztr:EN 215:=en Tryz.func215
def z2G (fu:Nat)(t2:Unit):Option Int:=some (-1)
def z11 (fu:Nat)(x0:L9)(x1:Int→Option Bool)(s1:Int):Option (Rd (Int) (Unit) (Int)):=(if(decide (s1<(x0.length:Int)))=true then((idx x0 s1).bind fun q=>((x1 q).bind fun o=>(if o=true then some (.ret s1) else some (.next (w64 (s1+1)))))) else some (.brk ()))
def z1V (fu:Nat)(x0:L9)(x1:Int→Option Bool):Option (Int):=((iter (z11 fu x0 x1) fu 0).bind fun o=>aft o (z2G fu))

theorem zaT (hE:Ext W w){X:Option Addr}{i0:Nat}{x0:L9}{D0:Nat}{E0:List Value}{x1:Int→Option Bool}(p0:ty45.ro W [sl X x0 i0] x0)(j0:Enters Tryz.prog D0∧∀ {w9:World},Ext W w9→∀ {z0:Int}{y9:Bool},x1 z0=some y9→CL D0 ⟨[iv z0]++E0⟩ w9 (Ret fun v w8=>v=.bool y9∧St w9 w8 [])){fu:Nat}{r:Int}(hm:z1V fu x0 x1=some r):
  CL 215 ⟨[sl X x0 i0,.func (.func D0) #[] ⟨E0⟩]⟩ w (RI w r):=by
 refine into Tryz.func215 19 _ ?_;unfold z1V at hm;have hS:=St.start w;refine sg<|rm 1 ?_;refine sq<|sg<|rm 3 ?_;obtain⟨q0,b0,hm⟩:=bS hm;refine ct (fun(t2:Unit) F w9=>q0=.inl t2∧Ext w w9∧St w w9 []∧F=[]) ?_ ?_
 ·rintro t2 F w7 ⟨c0,r0,Z,rfl⟩;subst c0;rw[z8] at hm;unfold z2G at hm;refine sg<|rm 1 ?_;refine rt ?_;cases hm;exact⟨_,tR rfl,rfl,Z⟩
 ·refine bk<|wk [0,1,7,8] ?_;refine it (fun(s1:Int) F w9=>Ext w w9∧St w w9 []∧F=[(0,sl X x0 i0),(1,.func (.func D0) #[] ⟨E0⟩),(7,iv (x0.length:Int)),(8,iv s1)]) b0 ⟨(Ext.refl _),hS,rfl⟩ ?_;rintro s1 F A0 _ t0 ⟨k0,q,rfl⟩ o O;unfold z11 at o;refine sg<|rm 1 ?_;refine sq<|ci o (fun o=>?_) (fun o=>?_)
  ·refine sp<|sq<|bk<|sg<|rm 2 ?_;refine sg<|rr 3 ?_;obtain⟨C0,f0,o⟩:=bS o;refine ix (hE.trans q.ext) p0 f0 (fun u0 o0 a0 e0=>?_);cases e0;refine l1 (ax hE q a0) 0 ?_;obtain⟨v0,g0,o⟩:=bS o;refine ca j0.1 (j0.2 (hE.trans q.ext)  g0) (fun y0 B0 Y=>?_);obtain⟨rfl,G⟩:=Y;have H:=q.join G;refine rn<|ci o (fun o=>?_) (fun o=>?_)
   ·refine sg<|rm 2 ?_;refine rt ?_;cases o;cases O;have hm:some _=some _:=hm;cases hm;exact⟨_,tR rfl,rfl,H⟩
   ·refine sp<|rg<|rm 2 ?_;cases o;exact⟨_,_,rfl,⟨(k0.trans G.ext),H,rfl⟩,rfl⟩
  ·refine xt ?_;cases o;exact⟨_,_,⟨O,k0,q,rfl⟩,rfl⟩

theorem zo6:EN 175:=en Tryz.func175
def zD (fu:Nat)(x0:L9)(x1:Int→Option Bool):Option (Bool):=((z1V fu x0 x1).bind fun r1=>some (decide (r1≥0)))

theorem z5m (hE:Ext W w){o:Option Addr}{q:Nat}{x0:L9}{a0:Nat}{b0:List Value}{x1:Int→Option Bool}(G:ty45.ro W [sl o x0 q] x0)(H:Enters Tryz.prog a0∧∀ {w9:World},Ext W w9→∀ {z0:Int}{y9:Bool},x1 z0=some y9→CL a0 ⟨[iv z0]++b0⟩ w9 (Ret fun v w8=>v=.bool y9∧St w9 w8 [])){fu:Nat}{r:Bool}(hm:zD fu x0 x1=some r):
  CL 175 ⟨[sl o x0 q,.func (.func a0) #[] ⟨b0⟩]⟩ w (RB w r):=by
 refine into Tryz.func175 9 _ ?_;unfold zD at hm;have hS:=St.start w;refine sg<|rm 1 ?_;refine sg<|rr 2 ?_;obtain⟨r1,Z,hm⟩:=bS hm;refine ca ztr (zaT (hE.trans hS.ext) G H Z) (fun v3 w4 O=>?_);obtain⟨rfl,X⟩:=O;have Y:=hS.join X;refine rm 2 ?_;refine rt ?_;cases hm;exact⟨_,tR rfl,rfl,Y⟩

theorem znW:EN 225:=en Tryz.func225
def z4C (fu:Nat)(x0:Int):Option (Bool):=(if(decide (x0≥0))=true then some (decide (x0<24)) else some false)

theorem zcT (hE:Ext W w){x0:Int}  {fu:Nat}{r:Bool}(hm:z4C fu x0=some r):
  CL 225 ⟨[iv x0]⟩ w (RB w r):=by
 refine into Tryz.func225 9 _ ?_;unfold z4C at hm;have hS:=St.start w;refine sg<|rm 1 ?_;refine sg<|rr 3 ?_;refine rb 5 hm (fun hm=>?_) (fun hm=>?_)
 ·refine rm 4 ?_;refine rt ?_;cases hm;exact⟨_,tR rfl,rfl,hS⟩
 ·refine rm 4 ?_;refine rt ?_;cases hm;exact⟨_,tR rfl,rfl,hS⟩

theorem zti:EN 224:=en Tryz.func224
def z6t (fu:Nat)(x0:Int):Option (Bool):=((z4C fu x0).bind fun r1=>some (!r1))

theorem zeA (hE:Ext W w){x0:Int}  {fu:Nat}{r:Bool}(hm:z6t fu x0=some r):
  CL 224 ⟨[iv x0]⟩ w (RB w r):=by
 refine into Tryz.func224 6 _ ?_;unfold z6t at hm;have hS:=St.start w;refine sg<|rm 1 ?_;refine sg<|rr 1 ?_;obtain⟨r1,H,hm⟩:=bS hm;refine ca znW (zcT (hE.trans hS.ext)  H) (fun v3 w4 o=>?_);obtain⟨rfl,q⟩:=o;have G:=hS.join q;refine rm 2 ?_;refine rt ?_;cases hm;exact⟨_,tR rfl,rfl,G⟩

theorem znV:EN 226:=en Tryz.func226
def z9L (fu:Nat)(x0:Int):Option (Bool):=(if(decide (x0≥(-2147483648)))=true then some (decide (x0≤2147483647)) else some false)

theorem zge (hE:Ext W w){x0:Int}  {fu:Nat}{r:Bool}(hm:z9L fu x0=some r):
  CL 226 ⟨[iv x0]⟩ w (RB w r):=by
 refine into Tryz.func226 9 _ ?_;unfold z9L at hm;have hS:=St.start w;refine sg<|rm 1 ?_;refine sg<|rr 3 ?_;refine rb 5 hm (fun hm=>?_) (fun hm=>?_)
 ·refine rm 4 ?_;refine rt ?_;cases hm;exact⟨_,tR rfl,rfl,hS⟩
 ·refine rm 4 ?_;refine rt ?_;cases hm;exact⟨_,tR rfl,rfl,hS⟩

theorem znU:EN 227:=en Tryz.func227
def z4B (fu:Nat)(x0:Int):Option (Bool):=(if(decide (x0≥1))=true then some (decide (x0≤6)) else some false)

theorem zcS (hE:Ext W w){x0:Int}  {fu:Nat}{r:Bool}(hm:z4B fu x0=some r):
  CL 227 ⟨[iv x0]⟩ w (RB w r):=by
 refine into Tryz.func227 9 _ ?_;unfold z4B at hm;have hS:=St.start w;refine sg<|rm 1 ?_;refine sg<|rr 3 ?_;refine rb 5 hm (fun hm=>?_) (fun hm=>?_)
 ·refine rm 4 ?_;refine rt ?_;cases hm;exact⟨_,tR rfl,rfl,hS⟩
 ·refine rm 4 ?_;refine rt ?_;cases hm;exact⟨_,tR rfl,rfl,hS⟩

theorem ztK:EN 183:=en Tryz.func183
def z4o (fu:Nat)(o:Bool×Bool):Option Bool:=(if o.1=true then some o.2 else some false)
def z4n (fu:Nat)(o:Bool×Bool):Option Bool:=z4o fu (o.1,o.2)
def z4m (fu:Nat)(o:Bool×Bool):Option Bool:=z4n fu (o.1,o.2)
def z4k (fu:Nat)(x0:D.Qe)(o:Bool):Option Bool:=z4m fu (o,((x0.Data.length:Int) == 0))
def z4j (fu:Nat)(o:Bool×Bool):Option Bool:=z4m fu (o.1,o.2)
def z2O (fu:Nat)(x0:D.Qe)(o:Bool):Option Bool:=z4j fu ((x0.Value == 0),o)
def z4i (fu:Nat)(o:Bool×Bool):Option Bool:=z4j fu (o.1,o.2)
def z4h (fu:Nat)(x0:D.Qe)(o:Bool):Option Bool:=z4i fu ((x0.Value == 0),o)
def z3A (fu:Nat)(x0:D.Qe)(o:Bool):Option Bool:=z4i fu (o,((x0.Data.length:Int) == 0))
def z1S (fu:Nat)(x0:D.Qe)(Y:Bool):Option Bool:=(if Y=true then some false else((zD fu x0.Data (fun y0=>z6t fu y0)).bind fun q=>(if(x0.Qi == 6)=true then((z9L fu x0.Value).bind fun G=>z4o fu (G,((x0.Data.length:Int) == 0))) else(if(x0.Qi == 7)=true then((z4B fu x0.Value).bind fun H=>z4n fu (H,((x0.Data.length:Int) == 0))) else(if(x0.Qi == 8)=true then((z4B fu x0.Value).bind fun O=>(if O=true then(if((x0.Data.length:Int) == 1)=true then((idx x0.Data 0).bind fun Z=>((z9L fu Z).bind fun X=>some X)) else some false) else some false)) else(if(x0.Qi == 9)=true then(if(decide (x0.Value≥0))=true then z4k fu x0 (decide (x0.Value<4)) else z4k fu x0 false) else(if(x0.Qi == 10)=true then(if(decide ((x0.Data.length:Int)≥1))=true then(if(decide ((x0.Data.length:Int)≤4))=true then z2O fu x0 (!q) else z2O fu x0 false) else z2O fu x0 false) else(if(x0.Qi == 11)=true then(if((x0.Data.length:Int) == 2)=true then z4h fu x0 (!q) else z4h fu x0 false) else(if(x0.Qi == 12)=true then((z4C fu x0.Value).bind fun o=>z3A fu x0 o) else z3A fu x0 (x0.Value == 0))))))))))
def z3h (fu:Nat)(x0:D.Qe):Option (Bool):=(if((x0.Qy.length:Int) == 0)=true then z1S fu x0 true else((z8P fu x0.Qi (x0.Qy.length:Int)).bind fun o=>((z82 fu x0.Qi o).bind fun q=>(if(q != (x0.Qy.length:Int))=true then z1S fu x0 true else((z7V fu x0.Qi x0.QC).bind fun G=>z1S fu x0 (!G))))))

theorem zgc (hE:Ext W w){N1:List Value}{x0:D.Qe}(R1:z8n.ro W N1 x0){fu:Nat}{r:Bool}(hm:z3h fu x0=some r):
  CL 183 ⟨[.agg ⟨N1⟩]⟩ w (RB w r):=by
 obtain⟨A1,k2,A4,k5,e7,h3,h6⟩:=z1m R1;subst e7;refine into Tryz.func183 117 _ ?_;unfold z3h at hm;have hS:=St.start w;refine sg<|nw hS (fun O1 i2 q2 G=>?_);refine rm 1 ?_;refine sq<|sq<|ct (fun(M1:Bool) F w9=>z1S fu x0 M1=some r∧Ext i2 w9∧St w w9 [Box O1 [iv x0.Qi,iv x0.QC,iv x0.Value,sl A1 x0.Data k2,sl A4 x0.Qy k5] 118]∧F=[(1,.pointer (some ⟨O1,0,none⟩)),(32,.bool M1)]) ?_ ?_
 ·rintro M1 F C2 ⟨hm,S1,c0,rfl⟩;unfold z1S at hm;refine ci hm (fun hm=>?_) (fun hm=>?_)
  ·refine sg<|rm 1 ?_;refine rt ?_;cases hm;exact⟨_,tR rfl,rfl,(c0.t 0)⟩
  ·refine sp<|sq<|dn 0 mixed 9 [([],511),([0],510),([1],509),([],511),([3],503),([4],495),([5],479),([2,0,1,2],507),([6,7,0,1,2,3,4,5,6,7],447)] c0.ext (fun Y=>?_);have k0:=c0.step (Ext.draw _);refine dr 7 Y [0,3] ?_;refine dl Y 1 ((c0.b 0 rfl).box) 2 ?_;refine dr 4 Y [2,7] ?_;refine dl Y 4 ((c0.b 0 rfl).box) 3 ?_;refine dr 0 Y [5,6,8] ?_;refine dw [1,3,4] ?_;refine dd Y ?_;refine sg<|rr 1 ?_;refine l1 ((k0.b 0 rfl).box) 3 ?_;obtain⟨P1,D1,hm⟩:=bS hm;refine ca zo6 (z5m (hE.trans k0.ext) h3 ⟨zti,fun e9=>(fun  U1=>zeA (Ext.refl _)  U1)⟩ D1) (fun u2 g0 a1=>?_);obtain⟨rfl,b1⟩:=a1;have q:=k0.join b1;refine rm 2 ?_;refine sq<|sg<|rr 1 ?_;refine l1 ((q.b 0 rfl).box) 0 ?_;refine rn<|bk<|sg<|rm 2 ?_;refine ct (fun(Q0:Bool×Bool) F w9=>z4o fu Q0=some r∧Ext g0 w9∧St w w9 []∧F=[(3,.bool Q0.1),(4,.bool Q0.2)]) ?_ ?_
   ·rintro Q0 F D2 ⟨hm,T1,L0,rfl⟩;unfold z4o at hm;refine sg<|rr 2 ?_;refine rb 114 hm (fun hm=>?_) (fun hm=>?_)
    ·refine rm 3 ?_;refine rt ?_;cases hm;exact⟨_,tR rfl,rfl,L0⟩
    ·refine rm 3 ?_;refine rt ?_;cases hm;exact⟨_,tR rfl,rfl,L0⟩
   ·refine ci hm (fun hm=>?_) (fun hm=>?_)
    ·refine rg<|rr 1 ?_;refine l1 ((q.b 0 rfl).box) 2 ?_;obtain⟨X1,E1,hm⟩:=bS hm;refine ca znV (zge (hE.trans q.ext)  E1) (fun v2 E2 d1=>?_);obtain⟨rfl,D0⟩:=d1;have m1:=q.join D0;refine rm 1 ?_;exact⟨(X1,((x0.Data.length:Int) == 0)),_,⟨hm,D0.ext,(m1.t 0),rfl⟩,rfl⟩
    ·refine sg<|rm 2 ?_;refine ct (fun(o0:Bool×Bool) F w9=>z4n fu o0=some r∧Ext g0 w9∧St w w9 []∧F=[(3,.bool o0.1),(4,.bool o0.2)]) ?_ ?_
     ·rintro o0 F F2 ⟨hm,T0,n1,rfl⟩;unfold z4n at hm;exact⟨(o0.1,o0.2),_,⟨hm,T0,n1,rfl⟩,rfl⟩
     ·refine ci hm (fun hm=>?_) (fun hm=>?_)
      ·refine rg<|rr 1 ?_;refine l1 ((q.b 0 rfl).box) 2 ?_;obtain⟨Y1,F1,hm⟩:=bS hm;refine ca znU (zcS (hE.trans q.ext)  F1) (fun y2 G2 e1=>?_);obtain⟨rfl,E0⟩:=e1;have p1:=q.join E0;refine rm 1 ?_;exact⟨(Y1,((x0.Data.length:Int) == 0)),_,⟨hm,E0.ext,(p1.t 0),rfl⟩,rfl⟩
      ·refine sg<|rm 2 ?_;refine ci hm (fun hm=>?_) (fun hm=>?_)
       ·refine sg<|rr 1 ?_;refine l1 ((q.b 0 rfl).box) 2 ?_;obtain⟨s2,G1,hm⟩:=bS hm;refine ca znU (zcS (hE.trans q.ext)  G1) (fun A2 H2 f1=>?_);obtain⟨rfl,g1⟩:=f1;have H:=q.join g1;refine rr 1 ?_;refine rb 61 hm (fun hm=>?_) (fun hm=>?_)
        ·refine rr 1 ?_;refine l1 ((H.b 0 rfl).box) 3 ?_;refine rr 4 ?_;refine rb 67 hm (fun hm=>?_) (fun hm=>?_)
         ·refine rr 1 ?_;refine l1 ((H.b 0 rfl).box) 3 ?_;obtain⟨O2,H1,hm⟩:=bS hm;refine ix (hE.trans H.ext) h3 H1 (fun r2 Q1 B1 C1=>?_);cases C1;refine l1 (ax hE H B1) 0 ?_;obtain⟨t2,J1,hm⟩:=bS hm;refine ca znV (zge (hE.trans H.ext)  J1) (fun B2 J2 i1=>?_);obtain⟨rfl,j1⟩:=i1;have s1:=H.join j1;refine rm 2 ?_;refine rt ?_;cases hm;exact⟨_,tR rfl,rfl,(s1.t 0)⟩
         ·refine rm 7 ?_;refine rt ?_;cases hm;exact⟨_,tR rfl,rfl,(H.t 0)⟩
        ·refine rm 13 ?_;refine rt ?_;cases hm;exact⟨_,tR rfl,rfl,(H.t 0)⟩
       ·refine sg<|rm 2 ?_;refine ct (fun(p0:Bool×Bool) F w9=>z4m fu p0=some r∧Ext g0 w9∧St w w9 []∧F=[(3,.bool p0.1),(4,.bool p0.2)]) ?_ ?_
        ·rintro p0 F K2 ⟨hm,U0,t1,rfl⟩;unfold z4m at hm;exact⟨(p0.1,p0.2),_,⟨hm,U0,t1,rfl⟩,rfl⟩
        ·refine ci hm (fun hm=>?_) (fun hm=>?_)
         ·refine ct (fun(R0:Bool) F w9=>z4k fu x0 R0=some r∧Ext g0 w9∧St w w9 []∧F=[(3,.bool R0),(4,.bool ((x0.Data.length:Int) == 0))]) ?_ ?_
          ·rintro R0 F L2 ⟨hm,V0,u1,rfl⟩;unfold z4k at hm;exact⟨(R0,((x0.Data.length:Int) == 0)),_,⟨hm,V0,u1,rfl⟩,rfl⟩
          ·refine rg<|rr 1 ?_;refine l1 ((q.b 0 rfl).box) 2 ?_;refine rr 2 ?_;refine rb 79 hm (fun hm=>?_) (fun hm=>?_)
           ·refine rr 1 ?_;refine l1 ((q.b 0 rfl).box) 2 ?_;refine rm 3 ?_;exact⟨decide (x0.Value<4),_,⟨hm,(Ext.refl _),(q.t 0),rfl⟩,rfl⟩
           ·refine rm 5 ?_;exact⟨false,_,⟨hm,(Ext.refl _),(q.t 0),rfl⟩,rfl⟩
         ·refine sg<|rm 2 ?_;refine ct (fun(q0:Bool×Bool) F w9=>z4j fu q0=some r∧Ext g0 w9∧St w w9 []∧F=[(3,.bool q0.1),(4,.bool q0.2)]) ?_ ?_
          ·rintro q0 F M2 ⟨hm,X0,v1,rfl⟩;unfold z4j at hm;exact⟨(q0.1,q0.2),_,⟨hm,X0,v1,rfl⟩,rfl⟩
          ·refine ci hm (fun hm=>?_) (fun hm=>?_)
           ·refine ct (fun(S0:Bool) F w9=>z2O fu x0 S0=some r∧Ext g0 w9∧St w w9 []∧F=[(3,.bool (x0.Value == 0)),(4,.bool S0)]) ?_ ?_
            ·rintro S0 F N2 ⟨hm,Y0,y1,rfl⟩;unfold z2O at hm;exact⟨((x0.Value == 0),S0),_,⟨hm,Y0,y1,rfl⟩,rfl⟩
            ·refine rg<|rr 1 ?_;refine l1 ((q.b 0 rfl).box) 3 ?_;refine rr 3 ?_;refine rb 90 hm (fun hm=>?_) (fun hm=>?_)
             ·refine rr 1 ?_;refine l1 ((q.b 0 rfl).box) 3 ?_;refine rr 4 ?_;refine rb 96 hm (fun hm=>?_) (fun hm=>?_)
              ·refine rm 3 ?_;exact⟨!P1,_,⟨hm,(Ext.refl _),(q.t 0),rfl⟩,rfl⟩
              ·refine rm 3 ?_;exact⟨false,_,⟨hm,(Ext.refl _),(q.t 0),rfl⟩,rfl⟩
             ·refine rm 9 ?_;exact⟨false,_,⟨hm,(Ext.refl _),(q.t 0),rfl⟩,rfl⟩
           ·refine sg<|rm 2 ?_;refine ct (fun(r0:Bool×Bool) F w9=>z4i fu r0=some r∧Ext g0 w9∧St w w9 []∧F=[(3,.bool r0.1),(4,.bool r0.2)]) ?_ ?_
            ·rintro r0 F f2 ⟨hm,t0,F0,rfl⟩;unfold z4i at hm;exact⟨(r0.1,r0.2),_,⟨hm,t0,F0,rfl⟩,rfl⟩
            ·refine ci hm (fun hm=>?_) (fun hm=>?_)
             ·refine ct (fun(e0:Bool) F w9=>z4h fu x0 e0=some r∧Ext g0 w9∧St w w9 []∧F=[(3,.bool (x0.Value == 0)),(4,.bool e0)]) ?_ ?_
              ·rintro e0 F g2 ⟨hm,u0,G0,rfl⟩;unfold z4h at hm;exact⟨((x0.Value == 0),e0),_,⟨hm,u0,G0,rfl⟩,rfl⟩
              ·refine rg<|rr 1 ?_;refine l1 ((q.b 0 rfl).box) 3 ?_;refine rr 3 ?_;refine rb 105 hm (fun hm=>?_) (fun hm=>?_)
               ·refine rm 3 ?_;exact⟨!P1,_,⟨hm,(Ext.refl _),(q.t 0),rfl⟩,rfl⟩
               ·refine rm 3 ?_;exact⟨false,_,⟨hm,(Ext.refl _),(q.t 0),rfl⟩,rfl⟩
             ·refine sg<|rm 2 ?_;refine ct (fun(f0:Bool) F w9=>z3A fu x0 f0=some r∧Ext g0 w9∧St w w9 []∧F=[(3,.bool f0),(4,.bool ((x0.Data.length:Int) == 0))]) ?_ ?_
              ·rintro f0 F j2 ⟨hm,v0,H0,rfl⟩;unfold z3A at hm;exact⟨(f0,((x0.Data.length:Int) == 0)),_,⟨hm,v0,H0,rfl⟩,rfl⟩
              ·refine ci hm (fun hm=>?_) (fun hm=>?_)
               ·refine rg<|rr 1 ?_;refine l1 ((q.b 0 rfl).box) 2 ?_;obtain⟨K1,M0,hm⟩:=bS hm;refine ca znW (zcT (hE.trans q.ext)  M0) (fun a2 m2 y0=>?_);obtain⟨rfl,i0⟩:=y0;have J0:=q.join i0;refine rm 1 ?_;exact⟨K1,_,⟨hm,i0.ext,(J0.t 0),rfl⟩,rfl⟩
               ·refine sp ?_;exact⟨(x0.Value == 0),_,⟨hm,(Ext.refl _),(q.t 0),rfl⟩,rfl⟩
 ·refine dn 0 mixed 27 [([],134217727),([0],134217726),([1],134217725),([2],134217723),([3],134217719),([4],134217711),([5,4],134217679),([4],134217711),([7,4],134217583),([4],134217711),([9,4],134217199),([10,4],134216687),([8,11,4,4],134215407),([6,12,12,4],134213551),([4],134217711),([14,4],134201327),([15,4],134184943),([13,16,4],134143983),([4,17],134086639),([18,13],133955583),([19],133693439),([20,19],132644863),([19],133693439),([22,19],129499135),([21,23,19,19],123207679),([24,19],116916223),([19,25],100139007)] G.ext (fun o=>?_);have a0:=G.step (Ext.draw _);refine dr 26 o [0] ?_;refine dl o 1 ((G.b 0 rfl).box) 4 ?_;refine dr 22 o [2,3,4] ?_;refine dw [1,10] ?_;refine db 10 hm (fun hm=>?_) (fun hm=>?_)
  ·refine dr 0 o [5,6,7,8,9,10,11,12,13,14,15,16,17,18,19,20,21,22,23,24,25,26] ?_;refine dw [1,32] ?_;refine dd o ?_;exact⟨true,_,⟨hm,(Ext.draw _),a0,rfl⟩,rfl⟩
  ·refine dr 18 o [5,7,9,14] ?_;refine dl o 6 ((G.b 0 rfl).box) 0 ?_;refine dl o 8 ((G.b 0 rfl).box) 0 ?_;refine dl o 10 ((G.b 0 rfl).box) 4 ?_;refine dr 14 o [11] ?_;refine dl o 15 ((G.b 0 rfl).box) 4 ?_;refine dr 12 o [16] ?_;refine dw [1,10,12,14,17,22] ?_;obtain⟨V1,N0,hm⟩:=bS hm;refine o1 o 12 (mc o ztk (zhE (hE.trans a0.ext)  N0) (fun b2 n2 A0=>?_));obtain⟨rfl,O⟩:=A0;refine⟨O.ext,?_⟩;have j0:=a0.join O;obtain⟨W1,O0,hm⟩:=bS hm;refine o1 o 13 (mc o ztm (zj9 (hE.trans j0.ext)  O0) (fun d2 o2 B0=>?_));obtain⟨rfl,X⟩:=B0;refine⟨X.ext,?_⟩;have b0:=j0.join X;refine dr 7 o [17,18,19] ?_;refine dw [1,25] ?_;refine db 25 hm (fun hm=>?_) (fun hm=>?_)
   ·refine dr 0 o [20,21,22,23,24,25,26] ?_;refine dw [1,32] ?_;refine dd o ?_;exact⟨true,_,⟨hm,(((Ext.draw _).trans O.ext).trans X.ext),b0,rfl⟩,rfl⟩
   ·refine dr 5 o [20,22] ?_;refine dl o 21 ((G.b 0 rfl).box) 0 ?_;refine dl o 23 ((G.b 0 rfl).box) 1 ?_;obtain⟨L1,P0,hm⟩:=bS hm;refine o1 o 24 (mc o ztj (zgQ (hE.trans b0.ext)  P0) (fun e2 p2 C0=>?_));obtain⟨rfl,Z⟩:=C0;refine⟨Z.ext,?_⟩;have K0:=b0.join Z;refine dr 0 o [25,26] ?_;refine dw [1,32] ?_;refine dd o ?_;exact⟨!L1,_,⟨hm,((((Ext.draw _).trans O.ext).trans X.ext).trans Z.ext),K0,rfl⟩,rfl⟩

end Go.E




