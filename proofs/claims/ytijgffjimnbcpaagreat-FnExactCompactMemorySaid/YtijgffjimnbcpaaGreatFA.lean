/- Models of functions and proofs that the code runs as they say (written by program). Conditions: the model gives a value. -/
import Derived.Test.YtijgffjimnbcpaaGreatField
namespace Go.E
open Go.RowKit Go.Proofs
set_option linter.unusedVariables false
set_option linter.unusedSimpArgs false
set_option maxHeartbeats 2000000
set_option maxRecDepth 100000

theorem zb3:Enters Tryz.prog 185:=⟨_,_,Tryz.func185,rfl,by kernel_rfl⟩
def z38 (fuel:Nat) (x0:D.Agent):Option (Int):=(if(x0.Kind == 9)=true then some (w64 ((x0.Ports.length:Int) - 1)) else some 0)

theorem z6z {W w:World}(hE:Ext W w){q:Addr}{d:List Value}{x0:D.Agent}(y:z9i.ro W d x0) (o:At W q d){fuel:Nat}{r:Int}(hm:z38 fuel x0=some r):
  Calls Tryz.prog 185 ⟨[.pointer (some q)]⟩ w (Ret fun v w8=>v=.int .i64 r∧St w w8 []):=by
 obtain⟨A1,k2,A4,k5,e7,h3,h6⟩:=z5S y;subst e7;refine into Tryz.func185 14 _ ?_;unfold z38 at hm;have hS:=St.start w;refine sq<|rg<|rr 1 ?_;refine rn<|sq<|sq<|rg<|rr 3 ?_;refine l1 (At.ext (hE.trans hS.ext) o) 0 ?_;refine rr 1 ?_;refine rn<|ci hm (fun hm=>?_) (fun hm=>?_)
 ·refine sq<|rg<|rr 3 ?_;refine l1 (At.ext (hE.trans hS.ext) o) 4 ?_;refine rr 3 ?_;refine rn<|rt ?_;cases hm;exact⟨_,.cons (.tmp rfl) .nil,rfl,hS⟩
 ·refine sp<|sq<|rg<|rr 1 ?_;refine rn<|rt ?_;cases hm;exact⟨_,.cons (.tmp rfl) .nil,rfl,hS⟩

theorem z2g:Enters Tryz.prog 57:=⟨_,_,Tryz.func57,rfl,by kernel_rfl⟩
def zg (fuel:Nat) (x0:Int) (x1:Int) (x2:Int):Option (Bool):=(if(decide (x0≥x1))=true then some (decide (x0≤x2)) else some false)

theorem zi {W w:World}(hE:Ext W w){x0:Int}{x1:Int}{x2:Int}  {fuel:Nat}{r:Bool}(hm:zg fuel x0 x1 x2=some r):
  Calls Tryz.prog 57 ⟨[.int .i64 x0,.int .i64 x1,.int .i64 x2]⟩ w (Ret fun v w8=>v=.bool r∧St w w8 []):=by
 refine into Tryz.func57 15 _ ?_;unfold zg at hm;have hS:=St.start w;refine sq<|rg<|rr 1 ?_;refine rn<|sq<|rg<|rr 4 ?_;refine rb 10 hm (fun hm=>?_) (fun hm=>?_)
 ·refine rr 5 ?_;refine rn<|rt ?_;cases hm;exact⟨_,.cons (.tmp rfl) .nil,rfl,hS⟩
 ·refine rr 5 ?_;refine rn<|rt ?_;cases hm;exact⟨_,.cons (.tmp rfl) .nil,rfl,hS⟩

theorem zb4:Enters Tryz.prog 184:=⟨_,_,Tryz.func184,rfl,by kernel_rfl⟩
def z2Q (fuel:Nat) (d:Bool):Option Int:=(if d=true then some 3 else some 0)
def z2P (fuel:Nat) (d:Bool):Option Int:=z2Q fuel d
def z2O (fuel:Nat) (d:Bool):Option Int:=z2P fuel d
def z2R (fuel:Nat) (x0:Int) (d:Bool):Option Int:=(if d=true then some 2 else(if(x0 == 2)=true then z2Q fuel (x0 == 2) else(if(x0 == 3)=true then z2P fuel (x0 == 3) else(if(x0 == 4)=true then z2O fuel (x0 == 4) else z2O fuel (x0 == 7)))))
def z2N (fuel:Nat) (x0:Int) (d:Bool):Option Int:=z2R fuel x0 d
def z2S (fuel:Nat) (x0:Int) (d:Bool):Option Int:=(if d=true then some 1 else(if(x0 == 8)=true then z2R fuel x0 (x0 == 8) else(if(x0 == 10)=true then z2N fuel x0 (x0 == 10) else z2N fuel x0 (x0 == 11))))
def z2M (fuel:Nat) (x0:Int) (d:Bool):Option Int:=z2S fuel x0 d
def z2L (fuel:Nat) (x0:Int) (d:Bool):Option Int:=z2M fuel x0 d
def z2A (fuel:Nat) (x0:Int) (x1:Int):Option (Int):=(if(x0 == 9)=true then((zg fuel x1 0 3).bind fun r1=>(if r1=true then some (w64 (1+x1)) else some 0)) else(if(x1 != 0)=true then some 0 else(if(x0 == 1)=true then z2S fuel x0 (x0 == 1) else(if(x0 == 5)=true then z2M fuel x0 (x0 == 5) else(if(x0 == 6)=true then z2L fuel x0 (x0 == 6) else z2L fuel x0 (x0 == 12))))))

theorem z7g {W w:World}(hE:Ext W w){x0:Int}{x1:Int}  {fuel:Nat}{r:Int}(hm:z2A fuel x0 x1=some r):
  Calls Tryz.prog 184 ⟨[.int .i64 x0,.int .i64 x1]⟩ w (Ret fun v w8=>v=.int .i64 r∧St w w8 []):=by
 refine into Tryz.func184 28 _ ?_;unfold z2A at hm;have hS:=St.start w;refine sq<|rg<|rr 1 ?_;refine rn<|sq<|sq<|rg<|rr 2 ?_;refine rn<|ci hm (fun hm=>?_) (fun hm=>?_)
 ·refine sq<|sq<|rg<|rr 1 ?_;obtain⟨r1,v0,hm⟩:=bS hm;refine ca z2g (zi (hE.trans hS.ext)  v0) (fun v3 w4 t0=>?_);obtain⟨rfl,u0⟩:=t0;have k0:=hS.join u0;refine rn<|ci hm (fun hm=>?_) (fun hm=>?_)
  ·refine sq<|rg<|rr 3 ?_;refine rn<|rt ?_;cases hm;exact⟨_,.cons (.tmp rfl) .nil,rfl,k0⟩
  ·refine sp<|sq<|rg<|rr 1 ?_;refine rn<|rt ?_;cases hm;exact⟨_,.cons (.tmp rfl) .nil,rfl,k0⟩
 ·refine sp<|sq<|sq<|rg<|rr 2 ?_;refine rn<|ci hm (fun hm=>?_) (fun hm=>?_)
  ·refine sq<|rg<|rr 1 ?_;refine rn<|rt ?_;cases hm;exact⟨_,.cons (.tmp rfl) .nil,rfl,hS⟩
  ·refine sp<|sq<|sq<|rg<|rr 1 ?_;refine rn<|bk<|sq<|sq<|rg<|rr 2 ?_;refine rn<|ct (fun(f0:Bool) F w9=>z2S fuel x0 f0=some r∧Ext w w9∧St w w9 []∧F=[(13,.int .i64 x0),(14,.bool f0)]) ?_ ?_
   ·rintro f0 F o0 ⟨hm,p0,o,rfl⟩;unfold z2S at hm;refine ci hm (fun hm=>?_) (fun hm=>?_)
    ·refine sq<|rg<|rr 1 ?_;refine rn<|rt ?_;cases hm;exact⟨_,.cons (.tmp rfl) .nil,rfl,o⟩
    ·refine sq<|sq<|rg<|rr 2 ?_;refine rn<|ct (fun(g0:Bool) F w9=>z2R fuel x0 g0=some r∧Ext o0 w9∧St w w9 []∧F=[(13,.int .i64 x0),(19,.bool g0)]) ?_ ?_
     ·rintro g0 F j0 ⟨hm,q0,d,rfl⟩;unfold z2R at hm;refine ci hm (fun hm=>?_) (fun hm=>?_)
      ·refine sq<|rg<|rr 1 ?_;refine rn<|rt ?_;cases hm;exact⟨_,.cons (.tmp rfl) .nil,rfl,d⟩
      ·refine sq<|sq<|rg<|rr 2 ?_;refine rn<|ct (fun(i0:Bool) F w9=>z2Q fuel i0=some r∧Ext j0 w9∧St w w9 []∧F=[(23,.bool i0)]) ?_ ?_
       ·rintro i0 F y0 ⟨hm,r0,q,rfl⟩;unfold z2Q at hm;refine ci hm (fun hm=>?_) (fun hm=>?_)
        ·refine sq<|rg<|rr 1 ?_;refine rn<|rt ?_;cases hm;exact⟨_,.cons (.tmp rfl) .nil,rfl,q⟩
        ·refine sp<|sq<|rg<|rr 1 ?_;refine rn<|rt ?_;cases hm;exact⟨_,.cons (.tmp rfl) .nil,rfl,q⟩
       ·refine ci hm (fun hm=>?_) (fun hm=>?_)
        ·refine sp ?_;exact⟨(x0 == 2),_,⟨hm,(Ext.refl _),d,rfl⟩,rfl⟩
        ·refine sq<|rg<|rr 2 ?_;refine rn<|ct (fun(y:Bool) F w9=>z2P fuel y=some r∧Ext j0 w9∧St w w9 []∧F=[(23,.bool y)]) ?_ ?_
         ·rintro y F A0 ⟨hm,M,a0,rfl⟩;unfold z2P at hm;exact⟨y,_,⟨hm,M,a0,rfl⟩,rfl⟩
         ·refine ci hm (fun hm=>?_) (fun hm=>?_)
          ·refine sp ?_;exact⟨(x0 == 3),_,⟨hm,(Ext.refl _),d,rfl⟩,rfl⟩
          ·refine sq<|rg<|rr 2 ?_;refine rn<|ct (fun(z:Bool) F w9=>z2O fuel z=some r∧Ext j0 w9∧St w w9 []∧F=[(23,.bool z)]) ?_ ?_
           ·rintro z F B0 ⟨hm,O,b0,rfl⟩;unfold z2O at hm;exact⟨z,_,⟨hm,O,b0,rfl⟩,rfl⟩
           ·refine ci hm (fun hm=>?_) (fun hm=>?_)
            ·refine sp ?_;exact⟨(x0 == 4),_,⟨hm,(Ext.refl _),d,rfl⟩,rfl⟩
            ·refine rg<|rr 2 ?_;refine rn ?_;exact⟨(x0 == 7),_,⟨hm,(Ext.refl _),d,rfl⟩,rfl⟩
     ·refine ci hm (fun hm=>?_) (fun hm=>?_)
      ·refine sp ?_;exact⟨(x0 == 8),_,⟨hm,(Ext.refl _),o,rfl⟩,rfl⟩
      ·refine sq<|rg<|rr 2 ?_;refine rn<|ct (fun(G:Bool) F w9=>z2N fuel x0 G=some r∧Ext o0 w9∧St w w9 []∧F=[(13,.int .i64 x0),(19,.bool G)]) ?_ ?_
       ·rintro G F C0 ⟨hm,X,c0,rfl⟩;unfold z2N at hm;exact⟨G,_,⟨hm,X,c0,rfl⟩,rfl⟩
       ·refine ci hm (fun hm=>?_) (fun hm=>?_)
        ·refine sp ?_;exact⟨(x0 == 10),_,⟨hm,(Ext.refl _),o,rfl⟩,rfl⟩
        ·refine rg<|rr 2 ?_;refine rn ?_;exact⟨(x0 == 11),_,⟨hm,(Ext.refl _),o,rfl⟩,rfl⟩
   ·refine ci hm (fun hm=>?_) (fun hm=>?_)
    ·refine sp ?_;exact⟨(x0 == 1),_,⟨hm,(Ext.refl _),hS,rfl⟩,rfl⟩
    ·refine sq<|rg<|rr 2 ?_;refine rn<|ct (fun(H:Bool) F w9=>z2M fuel x0 H=some r∧Ext w w9∧St w w9 []∧F=[(13,.int .i64 x0),(14,.bool H)]) ?_ ?_
     ·rintro H F D0 ⟨hm,Y,d0,rfl⟩;unfold z2M at hm;exact⟨H,_,⟨hm,Y,d0,rfl⟩,rfl⟩
     ·refine ci hm (fun hm=>?_) (fun hm=>?_)
      ·refine sp ?_;exact⟨(x0 == 5),_,⟨hm,(Ext.refl _),hS,rfl⟩,rfl⟩
      ·refine sq<|rg<|rr 2 ?_;refine rn<|ct (fun(L:Bool) F w9=>z2L fuel x0 L=some r∧Ext w w9∧St w w9 []∧F=[(13,.int .i64 x0),(14,.bool L)]) ?_ ?_
       ·rintro L F E0 ⟨hm,Z,e0,rfl⟩;unfold z2L at hm;exact⟨L,_,⟨hm,Z,e0,rfl⟩,rfl⟩
       ·refine ci hm (fun hm=>?_) (fun hm=>?_)
        ·refine sp ?_;exact⟨(x0 == 6),_,⟨hm,(Ext.refl _),hS,rfl⟩,rfl⟩
        ·refine rg<|rr 2 ?_;refine rn ?_;exact⟨(x0 == 12),_,⟨hm,(Ext.refl _),hS,rfl⟩,rfl⟩

theorem zbb:Enters Tryz.prog 162:=⟨_,_,Tryz.func162,rfl,by kernel_rfl⟩
def z2y (fuel:Nat) (t1:Bool):Option Bool:=(if t1=true then some true else some false)
def z2x (fuel:Nat) (t6:Bool):Option Bool:=z2y fuel t6
def z2w (fuel:Nat) (d:Bool):Option Bool:=z2x fuel d
def z2v (fuel:Nat) (d:Bool):Option Bool:=z2w fuel d
def z2u (fuel:Nat) (d:Bool):Option Bool:=z2v fuel d
def z2t (fuel:Nat) (d:Bool):Option Bool:=z2u fuel d
def z2s (fuel:Nat) (d:Bool):Option Bool:=z2t fuel d
def z2r (fuel:Nat) (d:Bool):Option Bool:=z2s fuel d
def z3z (fuel:Nat) (x0:Int):Option (Bool):=(if(x0 == 2)=true then z2y fuel (x0 == 2) else(if(x0 == 3)=true then z2x fuel (x0 == 3) else(if(x0 == 4)=true then z2w fuel (x0 == 4) else(if(x0 == 7)=true then z2v fuel (x0 == 7) else(if(x0 == 8)=true then z2u fuel (x0 == 8) else(if(x0 == 9)=true then z2t fuel (x0 == 9) else(if(x0 == 10)=true then z2s fuel (x0 == 10) else(if(x0 == 11)=true then z2r fuel (x0 == 11) else z2r fuel (x0 == 12)))))))))

theorem z6U {W w:World}(hE:Ext W w){x0:Int}  {fuel:Nat}{r:Bool}(hm:z3z fuel x0=some r):
  Calls Tryz.prog 162 ⟨[.int .i64 x0]⟩ w (Ret fun v w8=>v=.bool r∧St w w8 []):=by
 refine into Tryz.func162 14 _ ?_;unfold z3z at hm;have hS:=St.start w;refine sq<|rg<|rr 1 ?_;refine rn<|sq<|sq<|rg<|rr 1 ?_;refine rn<|bk<|sq<|sq<|rg<|rr 2 ?_;refine rn<|ct (fun(t1:Bool) F w9=>z2y fuel t1=some r∧Ext w w9∧St w w9 []∧F=[(4,.bool t1)]) ?_ ?_
 ·rintro t1 F w4 ⟨hm,j0,g0,rfl⟩;unfold z2y at hm;refine ci hm (fun hm=>?_) (fun hm=>?_)
  ·refine sq<|rg<|rr 1 ?_;refine rn<|rt ?_;cases hm;exact⟨_,.cons (.tmp rfl) .nil,rfl,g0⟩
  ·refine sp<|sq<|rg<|rr 1 ?_;refine rn<|rt ?_;cases hm;exact⟨_,.cons (.tmp rfl) .nil,rfl,g0⟩
 ·refine ci hm (fun hm=>?_) (fun hm=>?_)
  ·refine sp ?_;exact⟨(x0 == 2),_,⟨hm,(Ext.refl _),hS,rfl⟩,rfl⟩
  ·refine sq<|rg<|rr 2 ?_;refine rn<|ct (fun(t6:Bool) F w9=>z2x fuel t6=some r∧Ext w w9∧St w w9 []∧F=[(4,.bool t6)]) ?_ ?_
   ·rintro t6 F k0 ⟨hm,i0,Z,rfl⟩;unfold z2x at hm;exact⟨t6,_,⟨hm,i0,Z,rfl⟩,rfl⟩
   ·refine ci hm (fun hm=>?_) (fun hm=>?_)
    ·refine sp ?_;exact⟨(x0 == 3),_,⟨hm,(Ext.refl _),hS,rfl⟩,rfl⟩
    ·refine sq<|rg<|rr 2 ?_;refine rn<|ct (fun(d:Bool) F w9=>z2w fuel d=some r∧Ext w w9∧St w w9 []∧F=[(4,.bool d)]) ?_ ?_
     ·rintro d F o0 ⟨hm,H,a0,rfl⟩;unfold z2w at hm;exact⟨d,_,⟨hm,H,a0,rfl⟩,rfl⟩
     ·refine ci hm (fun hm=>?_) (fun hm=>?_)
      ·refine sp ?_;exact⟨(x0 == 4),_,⟨hm,(Ext.refl _),hS,rfl⟩,rfl⟩
      ·refine sq<|rg<|rr 2 ?_;refine rn<|ct (fun(o:Bool) F w9=>z2v fuel o=some r∧Ext w w9∧St w w9 []∧F=[(4,.bool o)]) ?_ ?_
       ·rintro o F p0 ⟨hm,L,b0,rfl⟩;unfold z2v at hm;exact⟨o,_,⟨hm,L,b0,rfl⟩,rfl⟩
       ·refine ci hm (fun hm=>?_) (fun hm=>?_)
        ·refine sp ?_;exact⟨(x0 == 7),_,⟨hm,(Ext.refl _),hS,rfl⟩,rfl⟩
        ·refine sq<|rg<|rr 2 ?_;refine rn<|ct (fun(q:Bool) F w9=>z2u fuel q=some r∧Ext w w9∧St w w9 []∧F=[(4,.bool q)]) ?_ ?_
         ·rintro q F q0 ⟨hm,M,c0,rfl⟩;unfold z2u at hm;exact⟨q,_,⟨hm,M,c0,rfl⟩,rfl⟩
         ·refine ci hm (fun hm=>?_) (fun hm=>?_)
          ·refine sp ?_;exact⟨(x0 == 8),_,⟨hm,(Ext.refl _),hS,rfl⟩,rfl⟩
          ·refine sq<|rg<|rr 2 ?_;refine rn<|ct (fun(y:Bool) F w9=>z2t fuel y=some r∧Ext w w9∧St w w9 []∧F=[(4,.bool y)]) ?_ ?_
           ·rintro y F r0 ⟨hm,O,d0,rfl⟩;unfold z2t at hm;exact⟨y,_,⟨hm,O,d0,rfl⟩,rfl⟩
           ·refine ci hm (fun hm=>?_) (fun hm=>?_)
            ·refine sp ?_;exact⟨(x0 == 9),_,⟨hm,(Ext.refl _),hS,rfl⟩,rfl⟩
            ·refine sq<|rg<|rr 2 ?_;refine rn<|ct (fun(z:Bool) F w9=>z2s fuel z=some r∧Ext w w9∧St w w9 []∧F=[(4,.bool z)]) ?_ ?_
             ·rintro z F t0 ⟨hm,X,e0,rfl⟩;unfold z2s at hm;exact⟨z,_,⟨hm,X,e0,rfl⟩,rfl⟩
             ·refine ci hm (fun hm=>?_) (fun hm=>?_)
              ·refine sp ?_;exact⟨(x0 == 10),_,⟨hm,(Ext.refl _),hS,rfl⟩,rfl⟩
              ·refine sq<|rg<|rr 2 ?_;refine rn<|ct (fun(G:Bool) F w9=>z2r fuel G=some r∧Ext w w9∧St w w9 []∧F=[(4,.bool G)]) ?_ ?_
               ·rintro G F u0 ⟨hm,Y,f0,rfl⟩;unfold z2r at hm;exact⟨G,_,⟨hm,Y,f0,rfl⟩,rfl⟩
               ·refine ci hm (fun hm=>?_) (fun hm=>?_)
                ·refine sp ?_;exact⟨(x0 == 11),_,⟨hm,(Ext.refl _),hS,rfl⟩,rfl⟩
                ·refine rg<|rr 2 ?_;refine rn ?_;exact⟨(x0 == 12),_,⟨hm,(Ext.refl _),hS,rfl⟩,rfl⟩

theorem zaU:Enters Tryz.prog 206:=⟨_,_,Tryz.func206,rfl,by kernel_rfl⟩
def z4C (fuel:Nat) (x0:Int):Option (Bool):=((zg fuel x0 1 12).bind fun r1=>some r1)

theorem z7f {W w:World}(hE:Ext W w){x0:Int}  {fuel:Nat}{r:Bool}(hm:z4C fuel x0=some r):
  Calls Tryz.prog 206 ⟨[.int .i64 x0]⟩ w (Ret fun v w8=>v=.bool r∧St w w8 []):=by
 refine into Tryz.func206 5 _ ?_;unfold z4C at hm;have hS:=St.start w;refine sq<|rg<|rr 1 ?_;refine rn<|sq<|rg<|rr 1 ?_;obtain⟨r1,y,hm⟩:=bS hm;refine ca z2g (zi (hE.trans hS.ext)  y) (fun v3 w4 d=>?_);obtain⟨rfl,o⟩:=d;have q:=hS.join o;refine rr 1 ?_;refine rn<|rt ?_;cases hm;exact⟨_,.cons (.tmp rfl) .nil,rfl,q⟩

theorem zb2:Enters Tryz.prog 186:=⟨_,_,Tryz.func186,rfl,by kernel_rfl⟩
def z3y (fuel:Nat) (x0:Int) (x1:Int):Option (Bool):=((z3z fuel x0).bind fun r1=>(if r1=true then((zg fuel x1 0 8).bind fun d=>some d) else((z4C fuel x0).bind fun o=>(if o=true then some (x1 == 0) else some false))))

theorem z6T {W w:World}(hE:Ext W w){x0:Int}{x1:Int}  {fuel:Nat}{r:Bool}(hm:z3y fuel x0 x1=some r):
  Calls Tryz.prog 186 ⟨[.int .i64 x0,.int .i64 x1]⟩ w (Ret fun v w8=>v=.bool r∧St w w8 []):=by
 refine into Tryz.func186 15 _ ?_;unfold z3y at hm;have hS:=St.start w;refine sq<|rg<|rr 1 ?_;refine rn<|sq<|sq<|rg<|rr 1 ?_;obtain⟨r1,Y,hm⟩:=bS hm;refine ca zbb (z6U (hE.trans hS.ext)  Y) (fun v3 w4 O=>?_);obtain⟨rfl,X⟩:=O;have o:=hS.join X;refine rn<|ci hm (fun hm=>?_) (fun hm=>?_)
 ·refine sq<|rg<|rr 1 ?_;obtain⟨Z,L,hm⟩:=bS hm;refine ca z2g (zi (hE.trans o.ext)  L) (fun b0 d0 q=>?_);obtain⟨rfl,y⟩:=q;have H:=o.join y;refine rr 1 ?_;refine rn<|rt ?_;cases hm;exact⟨_,.cons (.tmp rfl) .nil,rfl,H⟩
 ·refine sp<|sq<|rg<|rr 1 ?_;obtain⟨a0,M,hm⟩:=bS hm;refine ca zaU (z7f (hE.trans o.ext)  M) (fun c0 e0 z=>?_);obtain⟨rfl,G⟩:=z;have d:=o.join G;refine rr 1 ?_;refine rb 11 hm (fun hm=>?_) (fun hm=>?_)
  ·refine rr 4 ?_;refine rn<|rt ?_;cases hm;exact⟨_,.cons (.tmp rfl) .nil,rfl,d⟩
  ·refine rr 4 ?_;refine rn<|rt ?_;cases hm;exact⟨_,.cons (.tmp rfl) .nil,rfl,d⟩

theorem z92:Enters Tryz.prog 207:=⟨_,_,Tryz.func207,rfl,by kernel_rfl⟩
def z3M (fuel:Nat) (x0:Int):Option (Bool):=((zg fuel x0 0 23).bind fun r1=>some r1)

theorem z5Z {W w:World}(hE:Ext W w){x0:Int}  {fuel:Nat}{r:Bool}(hm:z3M fuel x0=some r):
  Calls Tryz.prog 207 ⟨[.int .i64 x0]⟩ w (Ret fun v w8=>v=.bool r∧St w w8 []):=by
 refine into Tryz.func207 5 _ ?_;unfold z3M at hm;have hS:=St.start w;refine sq<|rg<|rr 1 ?_;refine rn<|sq<|rg<|rr 1 ?_;obtain⟨r1,y,hm⟩:=bS hm;refine ca z2g (zi (hE.trans hS.ext)  y) (fun v3 w4 d=>?_);obtain⟨rfl,o⟩:=d;have q:=hS.join o;refine rr 1 ?_;refine rn<|rt ?_;cases hm;exact⟨_,.cons (.tmp rfl) .nil,rfl,q⟩

theorem zb1:Enters Tryz.prog 187:=⟨_,_,Tryz.func187,rfl,by kernel_rfl⟩
def z41 (fuel:Nat) (d:Unit):Option Bool:=some true
def z1L (fuel:Nat) (x0:D.Agent) (d:Int):Option (Rd (Int) (Unit) (Bool)):=(if(decide (d<(x0.Data.length:Int)))=true then((idx x0.Data d).bind fun q=>((z3M fuel q).bind fun o=>(if(!o)=true then some (.ret false) else some (.next (w64 (d+1)))))) else some (.brk ()))
def zo (fuel:Nat) (x0:D.Agent) (d:Bool):Option Bool:=(if d=true then some false else((iter (z1L fuel x0) fuel 0).bind fun o=>aft o (z41 fuel)))
def z11 (fuel:Nat) (x0:D.Agent) (q:Bool):Option Bool:=(if q=true then(if(x0.Value != 0)=true then zo fuel x0 true else(if(x0.Kind == 11)=true then(if((x0.Data.length:Int) != 2)=true then zo fuel x0 true else(if(x0.Kind == 10)=true then((zg fuel (x0.Data.length:Int) 1 4).bind fun d=>zo fuel x0 (!d)) else zo fuel x0 false)) else(if(x0.Kind == 10)=true then((zg fuel (x0.Data.length:Int) 1 4).bind fun o=>zo fuel x0 (!o)) else zo fuel x0 false))) else(if(x0.Value == 0)=true then some ((x0.Data.length:Int) == 0) else some false))
def zq (fuel:Nat) (x0:D.Agent):Option (Bool):=(if(x0.Kind == 6)=true then(if((x0.Data.length:Int) == 0)=true then((zg fuel x0.Value (-2147483648) 2147483647).bind fun d=>some d) else some false) else(if(x0.Kind == 7)=true then(if((x0.Data.length:Int) == 0)=true then((zg fuel x0.Value 1 6).bind fun o=>some o) else some false) else(if(x0.Kind == 8)=true then(if((x0.Data.length:Int) == 1)=true then((zg fuel x0.Value 1 6).bind fun q=>(if q=true then((idx x0.Data 0).bind fun H=>((zg fuel H (-2147483648) 2147483647).bind fun y=>some y)) else some false)) else some false) else(if(x0.Kind == 9)=true then(if((x0.Data.length:Int) == 0)=true then((zg fuel x0.Value 0 3).bind fun z=>some z) else some false) else(if(x0.Kind == 12)=true then(if((x0.Data.length:Int) == 0)=true then((z3M fuel x0.Value).bind fun G=>some G) else some false) else(if(x0.Kind == 10)=true then z11 fuel x0 (x0.Kind == 10) else z11 fuel x0 (x0.Kind == 11)))))))

theorem z6c {W w:World}(hE:Ext W w){g0:Addr}{d1:List Value}{x0:D.Agent}(m1:z9i.ro W d1 x0) (q:At W g0 d1){fuel:Nat}{r:Bool}(hm:zq fuel x0=some r):
  Calls Tryz.prog 187 ⟨[.pointer (some g0)]⟩ w (Ret fun v w8=>v=.bool r∧St w w8 []):=by
 obtain⟨A1,k2,A4,k5,e7,h3,h6⟩:=z5S m1;subst e7;refine into Tryz.func187 162 _ ?_;unfold zq at hm;have hS:=St.start w;refine sq<|rg<|rr 1 ?_;refine rn<|sq<|sq<|rg<|rr 3 ?_;refine l1 (At.ext (hE.trans hS.ext) q) 0 ?_;refine rn<|bk<|sq<|rg<|rr 2 ?_;refine rn<|ci hm (fun hm=>?_) (fun hm=>?_)
 ·refine sq<|rg<|rr 3 ?_;refine l1 (At.ext (hE.trans hS.ext) q) 3 ?_;refine rr 3 ?_;refine rb 16 hm (fun hm=>?_) (fun hm=>?_)
  ·refine rr 3 ?_;refine l1 (At.ext (hE.trans hS.ext) q) 2 ?_;obtain⟨H1,O0,hm⟩:=bS hm;refine ca z2g (zi (hE.trans hS.ext)  O0) (fun P1 W1 i0=>?_);obtain⟨rfl,j0⟩:=i0;have B0:=hS.join j0;refine rr 2 ?_;refine rn<|rt ?_;cases hm;exact⟨_,.cons (.tmp rfl) .nil,rfl,B0⟩
  ·refine rr 7 ?_;refine rn<|rt ?_;cases hm;exact⟨_,.cons (.tmp rfl) .nil,rfl,hS⟩
 ·refine sq<|rg<|rr 2 ?_;refine rn<|ci hm (fun hm=>?_) (fun hm=>?_)
  ·refine sq<|rg<|rr 3 ?_;refine l1 (At.ext (hE.trans hS.ext) q) 3 ?_;refine rr 3 ?_;refine rb 31 hm (fun hm=>?_) (fun hm=>?_)
   ·refine rr 3 ?_;refine l1 (At.ext (hE.trans hS.ext) q) 2 ?_;obtain⟨J1,P0,hm⟩:=bS hm;refine ca z2g (zi (hE.trans hS.ext)  P0) (fun Q1 X1 k0=>?_);obtain⟨rfl,o0⟩:=k0;have C0:=hS.join o0;refine rr 2 ?_;refine rn<|rt ?_;cases hm;exact⟨_,.cons (.tmp rfl) .nil,rfl,C0⟩
   ·refine rr 7 ?_;refine rn<|rt ?_;cases hm;exact⟨_,.cons (.tmp rfl) .nil,rfl,hS⟩
  ·refine sq<|rg<|rr 2 ?_;refine rn<|ci hm (fun hm=>?_) (fun hm=>?_)
   ·refine sq<|rg<|rr 3 ?_;refine l1 (At.ext (hE.trans hS.ext) q) 3 ?_;refine rr 3 ?_;refine rb 46 hm (fun hm=>?_) (fun hm=>?_)
    ·refine rr 3 ?_;refine l1 (At.ext (hE.trans hS.ext) q) 2 ?_;obtain⟨K1,Q0,hm⟩:=bS hm;refine ca z2g (zi (hE.trans hS.ext)  Q0) (fun R1 Y1 p0=>?_);obtain⟨rfl,q0⟩:=p0;have z:=hS.join q0;refine rr 2 ?_;refine rb 53 hm (fun hm=>?_) (fun hm=>?_)
     ·refine rr 3 ?_;refine l1 (At.ext (hE.trans z.ext) q) 3 ?_;obtain⟨g2,R0,hm⟩:=bS hm;refine ix (hE.trans z.ext) h3 R0 (fun F1 i1 H0 M0=>?_);cases M0;refine l1 (At.ext (hE.trans z.ext) H0) 0 ?_;obtain⟨L1,S0,hm⟩:=bS hm;refine ca z2g (zi (hE.trans z.ext)  S0) (fun S1 a2 r0=>?_);obtain⟨rfl,t0⟩:=r0;have D0:=z.join t0;refine rr 2 ?_;refine rn<|rt ?_;cases hm;exact⟨_,.cons (.tmp rfl) .nil,rfl,D0⟩
     ·refine rr 9 ?_;refine rn<|rt ?_;cases hm;exact⟨_,.cons (.tmp rfl) .nil,rfl,z⟩
    ·refine rr 16 ?_;refine rn<|rt ?_;cases hm;exact⟨_,.cons (.tmp rfl) .nil,rfl,hS⟩
   ·refine sq<|rg<|rr 2 ?_;refine rn<|ci hm (fun hm=>?_) (fun hm=>?_)
    ·refine sq<|rg<|rr 3 ?_;refine l1 (At.ext (hE.trans hS.ext) q) 3 ?_;refine rr 3 ?_;refine rb 70 hm (fun hm=>?_) (fun hm=>?_)
     ·refine rr 3 ?_;refine l1 (At.ext (hE.trans hS.ext) q) 2 ?_;obtain⟨M1,T0,hm⟩:=bS hm;refine ca z2g (zi (hE.trans hS.ext)  T0) (fun T1 b2 u0=>?_);obtain⟨rfl,v0⟩:=u0;have E0:=hS.join v0;refine rr 2 ?_;refine rn<|rt ?_;cases hm;exact⟨_,.cons (.tmp rfl) .nil,rfl,E0⟩
     ·refine rr 7 ?_;refine rn<|rt ?_;cases hm;exact⟨_,.cons (.tmp rfl) .nil,rfl,hS⟩
    ·refine sq<|rg<|rr 2 ?_;refine rn<|ci hm (fun hm=>?_) (fun hm=>?_)
     ·refine sq<|rg<|rr 3 ?_;refine l1 (At.ext (hE.trans hS.ext) q) 3 ?_;refine rr 3 ?_;refine rb 85 hm (fun hm=>?_) (fun hm=>?_)
      ·refine rr 3 ?_;refine l1 (At.ext (hE.trans hS.ext) q) 2 ?_;obtain⟨N1,U0,hm⟩:=bS hm;refine ca z92 (z5Z (hE.trans hS.ext)  U0) (fun U1 d2 y0=>?_);obtain⟨rfl,A0⟩:=y0;have F0:=hS.join A0;refine rr 2 ?_;refine rn<|rt ?_;cases hm;exact⟨_,.cons (.tmp rfl) .nil,rfl,F0⟩
      ·refine rr 7 ?_;refine rn<|rt ?_;cases hm;exact⟨_,.cons (.tmp rfl) .nil,rfl,hS⟩
     ·refine sq<|sq<|rg<|rr 2 ?_;refine rn<|ct (fun(a1:Bool) F w9=>z11 fuel x0 a1=some r∧Ext w w9∧St w w9 []∧F=[(0,.pointer (some g0)),(92,.bool a1)]) ?_ ?_
      ·rintro a1 F D1 ⟨hm,n1,d,rfl⟩;unfold z11 at hm;refine ci hm (fun hm=>?_) (fun hm=>?_)
       ·refine sq<|sq<|ct (fun(b1:Bool) F w9=>zo fuel x0 b1=some r∧Ext D1 w9∧St w w9 []∧F=[(0,.pointer (some g0)),(130,.bool b1)]) ?_ ?_
        ·rintro b1 F g1 ⟨hm,p1,c0,rfl⟩;unfold zo at hm;refine ci hm (fun hm=>?_) (fun hm=>?_)
         ·refine sq<|rg<|rr 1 ?_;refine rn<|rt ?_;cases hm;exact⟨_,.cons (.tmp rfl) .nil,rfl,c0⟩
         ·refine sp<|sq<|sq<|rg<|rr 1 ?_;refine rn ?_;obtain⟨t1,K0,hm⟩:=bS hm;refine ct (fun(f1:Unit) F w9=>t1=.inl f1∧Ext g1 w9∧St w w9 []∧F=[]) ?_ ?_
          ·rintro f1 F e2 ⟨L0,s1,G0,rfl⟩;subst L0;rw [z4] at hm;unfold z41 at hm;refine sq<|rg<|rr 1 ?_;refine rn<|rt ?_;cases hm;exact⟨_,.cons (.tmp rfl) .nil,rfl,G0⟩
          ·refine bk<|wk [0,3] ?_;refine it (fun(e1:Int) F w9=>Ext g1 w9∧St w w9 []∧F=[(0,.pointer (some g0)),(3,.int .i64 e1)]) K0 ⟨(Ext.refl _),c0,rfl⟩ ?_;rintro e1 F f2 _ E1 ⟨O,y,rfl⟩ o d0;unfold z1L at o;refine sq<|sq<|rg<|rr 4 ?_;refine l1 (At.ext (hE.trans y.ext) q) 3 ?_;refine rr 2 ?_;refine rn<|ci o (fun o=>?_) (fun o=>?_)
           ·refine sp<|sq<|bk<|sq<|rg<|rr 3 ?_;refine l1 (At.ext (hE.trans y.ext) q) 3 ?_;refine rr 1 ?_;obtain⟨i2,V0,o⟩:=bS o;refine ix (hE.trans y.ext) h3 V0 (fun G1 j1 J0 N0=>?_);cases N0;refine l1 (At.ext (hE.trans y.ext) J0) 0 ?_;obtain⟨O1,W0,o⟩:=bS o;refine ca z92 (z5Z (hE.trans y.ext)  W0) (fun V1 y1 X=>?_);obtain⟨rfl,G⟩:=X;have M:=y.join G;refine rr 1 ?_;refine rn<|ci o (fun o=>?_) (fun o=>?_)
            ·refine sq<|rg<|rr 1 ?_;refine rn<|rt ?_;cases o;cases d0;have hm:some _=some _:=hm;cases hm;exact⟨_,.cons (.tmp rfl) .nil,rfl,M⟩
            ·refine sp<|rg<|rr 3 ?_;refine rn ?_;cases o;exact⟨_,_,rfl,⟨(O.trans G.ext),M,rfl⟩,rfl⟩
           ·refine xt ?_;cases o;exact⟨_,_,⟨d0,O,y,rfl⟩,rfl⟩
        ·refine rg<|rr 3 ?_;refine l1 (At.ext (hE.trans d.ext) q) 2 ?_;refine rr 2 ?_;refine rb 100 hm (fun hm=>?_) (fun hm=>?_)
         ·refine rr 30 ?_;refine rn ?_;exact⟨true,_,⟨hm,(Ext.refl _),d,rfl⟩,rfl⟩
         ·refine rr 3 ?_;refine l1 (At.ext (hE.trans d.ext) q) 0 ?_;refine rr 2 ?_;refine rb 106 hm (fun hm=>?_) (fun hm=>?_)
          ·refine rr 3 ?_;refine l1 (At.ext (hE.trans d.ext) q) 3 ?_;refine rr 5 ?_;refine rb 115 hm (fun hm=>?_) (fun hm=>?_)
           ·refine rr 15 ?_;refine rn ?_;exact⟨true,_,⟨hm,(Ext.refl _),d,rfl⟩,rfl⟩
           ·refine rr 3 ?_;refine l1 (At.ext (hE.trans d.ext) q) 0 ?_;refine rr 2 ?_;refine rb 121 hm (fun hm=>?_) (fun hm=>?_)
            ·refine rr 3 ?_;refine l1 (At.ext (hE.trans d.ext) q) 3 ?_;refine rr 1 ?_;obtain⟨X0,e0,hm⟩:=bS hm;refine ca z2g (zi (hE.trans d.ext)  e0) (fun u1 B1 Y=>?_);obtain⟨rfl,H⟩:=Y;have a0:=d.join H;refine rr 3 ?_;refine rn ?_;exact⟨!X0,_,⟨hm,H.ext,a0,rfl⟩,rfl⟩
            ·refine rr 9 ?_;refine rn ?_;exact⟨false,_,⟨hm,(Ext.refl _),d,rfl⟩,rfl⟩
          ·refine rr 12 ?_;refine l1 (At.ext (hE.trans d.ext) q) 0 ?_;refine rr 2 ?_;refine rb 121 hm (fun hm=>?_) (fun hm=>?_)
           ·refine rr 3 ?_;refine l1 (At.ext (hE.trans d.ext) q) 3 ?_;refine rr 1 ?_;obtain⟨Y0,f0,hm⟩:=bS hm;refine ca z2g (zi (hE.trans d.ext)  f0) (fun v1 C1 Z=>?_);obtain⟨rfl,L⟩:=Z;have b0:=d.join L;refine rr 3 ?_;refine rn ?_;exact⟨!Y0,_,⟨hm,L.ext,b0,rfl⟩,rfl⟩
           ·refine rr 9 ?_;refine rn ?_;exact⟨false,_,⟨hm,(Ext.refl _),d,rfl⟩,rfl⟩
       ·refine sp<|sq<|rg<|rr 3 ?_;refine l1 (At.ext (hE.trans d.ext) q) 2 ?_;refine rr 2 ?_;refine rb 154 hm (fun hm=>?_) (fun hm=>?_)
        ·refine rr 3 ?_;refine l1 (At.ext (hE.trans d.ext) q) 3 ?_;refine rr 4 ?_;refine rn<|rt ?_;cases hm;exact⟨_,.cons (.tmp rfl) .nil,rfl,d⟩
        ·refine rr 8 ?_;refine rn<|rt ?_;cases hm;exact⟨_,.cons (.tmp rfl) .nil,rfl,d⟩
      ·refine ci hm (fun hm=>?_) (fun hm=>?_)
       ·refine sp ?_;exact⟨(x0.Kind == 10),_,⟨hm,(Ext.refl _),hS,rfl⟩,rfl⟩
       ·refine rg<|rr 2 ?_;refine rn ?_;exact⟨(x0.Kind == 11),_,⟨hm,(Ext.refl _),hS,rfl⟩,rfl⟩

theorem zbc:Enters Tryz.prog 160:=⟨_,_,Tryz.func160,rfl,by kernel_rfl⟩
def z3x (fuel:Nat) (x0:D.Agent):Option (Bool):=((z38 fuel x0).bind fun o=>((z2A fuel x0.Kind o).bind fun d=>(if(decide (d>0))=true then(if((x0.Ports.length:Int) == d)=true then((z3y fuel x0.Kind x0.Level).bind fun q=>(if q=true then((zq fuel x0).bind fun y=>some y) else some false)) else some false) else some false)))

theorem z6S {W w:World}(hE:Ext W w){o0:Addr}{k0:List Value}{x0:D.Agent}(Z:z9i.ro W k0 x0) (G:At W o0 k0){fuel:Nat}{r:Bool}(hm:z3x fuel x0=some r):
  Calls Tryz.prog 160 ⟨[.pointer (some o0)]⟩ w (Ret fun v w8=>v=.bool r∧St w w8 []):=by
 obtain⟨A1,k2,A4,k5,e7,h3,h6⟩:=z5S Z;subst e7;refine into Tryz.func160 37 _ ?_;unfold z3x at hm;have hS:=St.start w;refine sq<|rg<|rr 1 ?_;refine rn<|sq<|dn 0 mixed 8 [([],255),([0],254),([1],253),([2],251),([],255),([4],239),([3,5,5],215),([6,6,0,1,2,3,4,5,6],191)] hS.ext (fun o=>?_);have X:=hS.step (Ext.draw _);refine dr 4 o [0,1,2,4] ?_;refine dl o 3 (At.ext (hE.trans hS.ext) G) 0 ?_;obtain⟨p0,f0,hm⟩:=bS hm;refine o1 o 5 (mc o zb3 (z6z (hE.trans X.ext) Z G f0) (fun u0 B0 a0=>?_));obtain⟨rfl,H⟩:=a0;refine⟨H.ext,?_⟩;have Y:=X.join H;obtain⟨q0,g0,hm⟩:=bS hm;refine o1 o 6 (mc o zb4 (z7g (hE.trans Y.ext)  g0) (fun v0 C0 b0=>?_));obtain⟨rfl,L⟩:=b0;refine⟨L.ext,?_⟩;have q:=Y.join L;refine dr 0 o [7] ?_;refine dw [0,3] ?_;refine dd o ?_;refine sq<|dn 0 mixed 27 [([],134217727),([0],134217726),([1],134217725),([2],134217723),([3,2],134217715),([4,2],134217707),([5,2],134217691),([6,2],134217659),([2],134217723),([7,8,2],134217339),([2,9],134217211),([10,2],134216703),([11],134215679),([12,11],134211583),([13,11],134207487),([14,11],134199295),([11],134215679),([16,11],134150143),([17,11],134084607),([18,11],133953535),([15,19,11,11],133658623),([11,20],133167103),([21,20],132120575),([22],130023423),([23,22,22],121634815),([22,24],113246207),([25,24,0,1,2,3,4,5,6,7,8,9,10,11,12,13,14,15,16,17,18,19,20,21,22,23,24,25],100663295)] q.ext (fun d=>?_);have y:=q.step (Ext.draw _);refine dr 24 d [0,1,2] ?_;refine db 13 hm (fun hm=>?_) (fun hm=>?_)
 ·refine dr 20 d [3,4,5,8] ?_;refine dl d 6 (At.ext (hE.trans q.ext) G) 4 ?_;refine dr 15 d [7,9,10,11] ?_;refine dw [0,22] ?_;refine db 22 hm (fun hm=>?_) (fun hm=>?_)
  ·refine dr 9 d [12,13,14,16,17,18] ?_;refine dl d 15 (At.ext (hE.trans q.ext) G) 0 ?_;refine dl d 19 (At.ext (hE.trans q.ext) G) 1 ?_;obtain⟨r0,i0,hm⟩:=bS hm;refine o1 d 20 (mc d zb2 (z6T (hE.trans y.ext)  i0) (fun y0 D0 c0=>?_));obtain⟨rfl,M⟩:=c0;refine⟨M.ext,?_⟩;have z:=y.join M;refine dr 4 d [21,22] ?_;refine dw [0,33] ?_;refine db 33 hm (fun hm=>?_) (fun hm=>?_)
   ·refine dr 3 d [23] ?_;obtain⟨t0,j0,hm⟩:=bS hm;refine o1 d 24 (mc d zb1 (z6c (hE.trans z.ext) Z G j0) (fun A0 E0 d0=>?_));obtain⟨rfl,O⟩:=d0;refine⟨O.ext,?_⟩;have e0:=z.join O;refine dr 0 d [25,26] ?_;refine dd d ?_;refine rt ?_;cases hm;exact⟨_,.cons (.tmp rfl) .nil,rfl,e0⟩
   ·refine dr 0 d [23,24,25,26] ?_;refine dd d ?_;refine rt ?_;cases hm;exact⟨_,.cons (.tmp rfl) .nil,rfl,z⟩
  ·refine dr 0 d [12,13,14,15,16,17,18,19,20,21,22,23,24,25,26] ?_;refine dw [2] ?_;refine dd d ?_;refine rt ?_;cases hm;exact⟨_,.cons (.tmp rfl) .nil,rfl,y⟩
 ·refine dr 0 d [3,4,5,6,7,8,9,10,11,12,13,14,15,16,17,18,19,20,21,22,23,24,25,26] ?_;refine dw [2] ?_;refine dd d ?_;refine rt ?_;cases hm;exact⟨_,.cons (.tmp rfl) .nil,rfl,y⟩

theorem zaZ:Enters Tryz.prog 191:=⟨_,_,Tryz.func191,rfl,by kernel_rfl⟩
def z3E (fuel:Nat) (x0:Int) (x1:Int):Option (Int):=(if(x0 == 9)=true then some (w64 (x1 - 1)) else some 0)

theorem z6V {W w:World}(hE:Ext W w){x0:Int}{x1:Int}  {fuel:Nat}{r:Int}(hm:z3E fuel x0 x1=some r):
  Calls Tryz.prog 191 ⟨[.int .i64 x0,.int .i64 x1]⟩ w (Ret fun v w8=>v=.int .i64 r∧St w w8 []):=by
 refine into Tryz.func191 9 _ ?_;unfold z3E at hm;have hS:=St.start w;refine sq<|rg<|rr 1 ?_;refine rn<|sq<|sq<|rg<|rr 2 ?_;refine rn<|ci hm (fun hm=>?_) (fun hm=>?_)
 ·refine sq<|rg<|rr 3 ?_;refine rn<|rt ?_;cases hm;exact⟨_,.cons (.tmp rfl) .nil,rfl,hS⟩
 ·refine sp<|sq<|rg<|rr 1 ?_;refine rn<|rt ?_;cases hm;exact⟨_,.cons (.tmp rfl) .nil,rfl,hS⟩

theorem z7C:Enters Tryz.prog 208:=⟨_,_,Tryz.func208,rfl,by kernel_rfl⟩
def z30 (fuel:Nat) (x0:Int):Option (Bool):=(if(decide (x0≥1))=true then some (decide (x0≤12)) else some false)

theorem z5g {W w:World}(hE:Ext W w){x0:Int}  {fuel:Nat}{r:Bool}(hm:z30 fuel x0=some r):
  Calls Tryz.prog 208 ⟨[.int .i64 x0]⟩ w (Ret fun v w8=>v=.bool r∧St w w8 []):=by
 refine into Tryz.func208 9 _ ?_;unfold z30 at hm;have hS:=St.start w;refine sq<|rg<|rr 1 ?_;refine rn<|sq<|rg<|rr 3 ?_;refine rb 5 hm (fun hm=>?_) (fun hm=>?_)
 ·refine rr 4 ?_;refine rn<|rt ?_;cases hm;exact⟨_,.cons (.tmp rfl) .nil,rfl,hS⟩
 ·refine rr 4 ?_;refine rn<|rt ?_;cases hm;exact⟨_,.cons (.tmp rfl) .nil,rfl,hS⟩

theorem zb0:Enters Tryz.prog 190:=⟨_,_,Tryz.func190,rfl,by kernel_rfl⟩
def zV (fuel:Nat) (x0:Int) (t6:Bool):Option Int:=(if t6=true then some 0 else((idx ([0,1,3,3,3,1,1,3,2,0,2,2,1]:List Int) x0).bind fun d=>some d))
def z1x (fuel:Nat) (x0:Int) (x1:Int) (t1:Bool):Option Int:=(if t1=true then some (w64 (x1+1)) else((z30 fuel x0).bind fun d=>(if(!d)=true then zV fuel x0 true else(if(x0 == 9)=true then zV fuel x0 true else zV fuel x0 (x1 != 0)))))
def z3k (fuel:Nat) (x0:Int) (x1:Int):Option (Int):=(if(x0 == 9)=true then(if(decide (x1≥0))=true then z1x fuel x0 x1 (decide (x1≤3)) else z1x fuel x0 x1 false) else z1x fuel x0 x1 false)

theorem z7x {W w:World}(hE:Ext W w){x0:Int}{x1:Int}  {fuel:Nat}{r:Int}(hm:z3k fuel x0 x1=some r):
  Calls Tryz.prog 190 ⟨[.int .i64 x0,.int .i64 x1]⟩ w (Ret fun v w8=>v=.int .i64 r∧St w w8 []):=by
 refine into Tryz.func190 33 _ ?_;unfold z3k at hm;have hS:=St.start w;refine sq<|rg<|rr 1 ?_;refine rn<|sq<|bk<|sq<|ct (fun(t1:Bool) F w9=>z1x fuel x0 x1 t1=some r∧Ext w w9∧St w w9 []∧F=[(0,.int .i64 x0),(1,.int .i64 x1),(5,.bool t1)]) ?_ ?_
 ·rintro t1 F w4 ⟨hm,L,G,rfl⟩;unfold z1x at hm;refine ci hm (fun hm=>?_) (fun hm=>?_)
  ·refine sq<|rg<|rr 3 ?_;refine rn<|rt ?_;cases hm;exact⟨_,.cons (.tmp rfl) .nil,rfl,G⟩
  ·refine sq<|ct (fun(t6:Bool) F w9=>zV fuel x0 t6=some r∧Ext w4 w9∧St w w9 []∧F=[(0,.int .i64 x0),(18,.bool t6)]) ?_ ?_
   ·rintro t6 F Y ⟨hm,M,q,rfl⟩;unfold zV at hm;refine ci hm (fun hm=>?_) (fun hm=>?_)
    ·refine sq<|rg<|rr 1 ?_;refine rn<|rt ?_;cases hm;exact⟨_,.cons (.tmp rfl) .nil,rfl,q⟩
    ·refine sp<|sq<|rg<|qt (qBuildK (cs:=[.int .i64 0,.int .i64 1,.int .i64 3,.int .i64 3,.int .i64 3,.int .i64 1,.int .i64 1,.int .i64 3,.int .i64 2,.int .i64 0,.int .i64 2,.int .i64 2,.int .i64 1])) ?_;refine rr 1 ?_;obtain⟨a0,y,hm⟩:=bS hm;refine qt (Quiet.arrIdx ttok (xs:=([0,1,3,3,3,1,1,3,2,0,2,2,1]:List Int)) (e:=2) rfl (by kernel_rfl) rfl rfl rfl rfl rfl rfl (z1y y).1 (z1y y).2) ?_;refine rr 1 ?_;refine rn<|rt ?_;cases hm;exact⟨_,.cons (.tmp rfl) .nil,rfl,q⟩
   ·refine rg<|rr 1 ?_;obtain⟨O,H,hm⟩:=bS hm;refine ca z7C (z5g (hE.trans G.ext)  H) (fun X Z z=>?_);obtain⟨rfl,d⟩:=z;have o:=G.join d;refine rr 2 ?_;refine rb 22 hm (fun hm=>?_) (fun hm=>?_)
    ·refine rr 8 ?_;refine rn ?_;exact⟨true,_,⟨hm,d.ext,o,rfl⟩,rfl⟩
    ·refine rr 4 ?_;refine rb 26 hm (fun hm=>?_) (fun hm=>?_)
     ·refine rr 4 ?_;refine rn ?_;exact⟨true,_,⟨hm,d.ext,o,rfl⟩,rfl⟩
     ·refine rr 4 ?_;refine rn ?_;exact⟨(x1 != 0),_,⟨hm,d.ext,o,rfl⟩,rfl⟩
 ·refine rg<|rr 3 ?_;refine rb 8 hm (fun hm=>?_) (fun hm=>?_)
  ·refine rr 4 ?_;refine rb 12 hm (fun hm=>?_) (fun hm=>?_)
   ·refine rr 4 ?_;refine rn ?_;exact⟨decide (x1≤3),_,⟨hm,(Ext.refl _),hS,rfl⟩,rfl⟩
   ·refine rr 4 ?_;refine rn ?_;exact⟨false,_,⟨hm,(Ext.refl _),hS,rfl⟩,rfl⟩
  ·refine rr 8 ?_;refine rn ?_;exact⟨false,_,⟨hm,(Ext.refl _),hS,rfl⟩,rfl⟩

theorem zaV:Enters Tryz.prog 205:=⟨_,_,Tryz.func205,rfl,by kernel_rfl⟩
def z3G (fuel:Nat) (x0:Int):Option (Bool):=((z30 fuel x0).bind fun r1=>(if r1=true then(if(x0 != 1)=true then(if(x0 != 5)=true then some (x0 != 6) else some false) else some false) else some false))

theorem z6W {W w:World}(hE:Ext W w){x0:Int}  {fuel:Nat}{r:Bool}(hm:z3G fuel x0=some r):
  Calls Tryz.prog 205 ⟨[.int .i64 x0]⟩ w (Ret fun v w8=>v=.bool r∧St w w8 []):=by
 refine into Tryz.func205 17 _ ?_;unfold z3G at hm;have hS:=St.start w;refine sq<|rg<|rr 1 ?_;refine rn<|sq<|rg<|rr 1 ?_;obtain⟨r1,y,hm⟩:=bS hm;refine ca z7C (z5g (hE.trans hS.ext)  y) (fun v3 w4 o=>?_);obtain⟨rfl,q⟩:=o;have d:=hS.join q;refine rr 1 ?_;refine rb 5 hm (fun hm=>?_) (fun hm=>?_)
 ·refine rr 4 ?_;refine rb 9 hm (fun hm=>?_) (fun hm=>?_)
  ·refine rr 4 ?_;refine rb 13 hm (fun hm=>?_) (fun hm=>?_)
   ·refine rr 4 ?_;refine rn<|rt ?_;cases hm;exact⟨_,.cons (.tmp rfl) .nil,rfl,d⟩
   ·refine rr 4 ?_;refine rn<|rt ?_;cases hm;exact⟨_,.cons (.tmp rfl) .nil,rfl,d⟩
  ·refine rr 8 ?_;refine rn<|rt ?_;cases hm;exact⟨_,.cons (.tmp rfl) .nil,rfl,d⟩
 ·refine rr 12 ?_;refine rn<|rt ?_;cases hm;exact⟨_,.cons (.tmp rfl) .nil,rfl,d⟩

theorem zaT:Enters Tryz.prog 209:=⟨_,_,Tryz.func209,rfl,by kernel_rfl⟩
def z4f (fuel:Nat) (x0:Int):Option (Bool):=(if(decide (x0≥0))=true then some (decide (x0≤8)) else some false)

theorem z7w {W w:World}(hE:Ext W w){x0:Int}  {fuel:Nat}{r:Bool}(hm:z4f fuel x0=some r):
  Calls Tryz.prog 209 ⟨[.int .i64 x0]⟩ w (Ret fun v w8=>v=.bool r∧St w w8 []):=by
 refine into Tryz.func209 9 _ ?_;unfold z4f at hm;have hS:=St.start w;refine sq<|rg<|rr 1 ?_;refine rn<|sq<|rg<|rr 3 ?_;refine rb 5 hm (fun hm=>?_) (fun hm=>?_)
 ·refine rr 4 ?_;refine rn<|rt ?_;cases hm;exact⟨_,.cons (.tmp rfl) .nil,rfl,hS⟩
 ·refine rr 4 ?_;refine rn<|rt ?_;cases hm;exact⟨_,.cons (.tmp rfl) .nil,rfl,hS⟩

theorem zaY:Enters Tryz.prog 192:=⟨_,_,Tryz.func192,rfl,by kernel_rfl⟩
def z3g (fuel:Nat) (x0:Int) (x1:Int):Option (Bool):=((z30 fuel x0).bind fun r1=>(if r1=true then(if(x1 == 0)=true then some true else((z3G fuel x0).bind fun d=>(if d=true then((z4f fuel x1).bind fun o=>some o) else some false))) else some false))

theorem z6F {W w:World}(hE:Ext W w){x0:Int}{x1:Int}  {fuel:Nat}{r:Bool}(hm:z3g fuel x0 x1=some r):
  Calls Tryz.prog 192 ⟨[.int .i64 x0,.int .i64 x1]⟩ w (Ret fun v w8=>v=.bool r∧St w w8 []):=by
 refine into Tryz.func192 19 _ ?_;unfold z3g at hm;have hS:=St.start w;refine sq<|rg<|rr 1 ?_;refine rn<|sq<|rg<|rr 1 ?_;obtain⟨r1,Y,hm⟩:=bS hm;refine ca z7C (z5g (hE.trans hS.ext)  Y) (fun v3 w4 O=>?_);obtain⟨rfl,X⟩:=O;have o:=hS.join X;refine rr 1 ?_;refine rb 7 hm (fun hm=>?_) (fun hm=>?_)
 ·refine rr 3 ?_;refine rb 10 hm (fun hm=>?_) (fun hm=>?_)
  ·refine rr 9 ?_;refine rn<|rt ?_;cases hm;exact⟨_,.cons (.tmp rfl) .nil,rfl,o⟩
  ·refine rr 1 ?_;obtain⟨Z,L,hm⟩:=bS hm;refine ca zaV (z6W (hE.trans o.ext)  L) (fun b0 d0 q=>?_);obtain⟨rfl,y⟩:=q;have d:=o.join y;refine rr 1 ?_;refine rb 13 hm (fun hm=>?_) (fun hm=>?_)
   ·refine rr 1 ?_;obtain⟨a0,M,hm⟩:=bS hm;refine ca zaT (z7w (hE.trans d.ext)  M) (fun c0 e0 z=>?_);obtain⟨rfl,G⟩:=z;have H:=d.join G;refine rr 4 ?_;refine rn<|rt ?_;cases hm;exact⟨_,.cons (.tmp rfl) .nil,rfl,H⟩
   ·refine rr 6 ?_;refine rn<|rt ?_;cases hm;exact⟨_,.cons (.tmp rfl) .nil,rfl,d⟩
 ·refine rr 12 ?_;refine rn<|rt ?_;cases hm;exact⟨_,.cons (.tmp rfl) .nil,rfl,o⟩

theorem zaS:Enters Tryz.prog 210:=⟨_,_,Tryz.func210,rfl,by kernel_rfl⟩
def z1c (fuel:Nat) (t2:Unit):Option Int:=some (-1)
def zt (fuel:Nat) (x0:(List Int)) (x1:Int→Option Bool) (s1:Int):Option (Rd (Int) (Unit) (Int)):=(if(decide (s1<(x0.length:Int)))=true then((idx x0 s1).bind fun o=>((x1 o).bind fun d=>(if d=true then some (.ret s1) else some (.next (w64 (s1+1)))))) else some (.brk ()))
def z13 (fuel:Nat) (x0:(List Int)) (x1:Int→Option Bool):Option (Int):=((iter (zt fuel x0 x1) fuel 0).bind fun o=>aft o (z1c fuel))

theorem z4A {W w:World}(hE:Ext W w){G:Option Addr}{b0:Nat}{x0:(List Int)}{f1_:Nat}{u1_:List Value}{x1:Int→Option Bool}(f0:ty80.ro W [sl G x0 b0] x0) (c0:Enters Tryz.prog f1_∧∀ {w9:World},Ext W w9→∀ {z0:Int}{y9:Bool},x1 z0=some y9→Calls Tryz.prog f1_ ⟨[.int .i64 z0]++u1_⟩ w9 (Ret fun v w8=>v=.bool y9∧St w9 w8 [])){fuel:Nat}{r:Int}(hm:z13 fuel x0 x1=some r):
  Calls Tryz.prog 210 ⟨[sl G x0 b0,.func (.func f1_) #[] ⟨u1_⟩]⟩ w (Ret fun v w8=>v=.int .i64 r∧St w w8 []):=by
 refine into Tryz.func210 19 _ ?_;unfold z13 at hm;have hS:=St.start w;refine sq<|rg<|rr 1 ?_;refine rn<|sq<|sq<|rg<|rr 3 ?_;refine rn ?_;obtain⟨g0,O,hm⟩:=bS hm;refine ct (fun(t2:Unit) F w9=>g0=.inl t2∧Ext w w9∧St w w9 []∧F=[]) ?_ ?_
 ·rintro t2 F w7 ⟨X,i0,L,rfl⟩;subst X;rw [z4] at hm;unfold z1c at hm;refine sq<|rg<|rr 1 ?_;refine rn<|rt ?_;cases hm;exact⟨_,.cons (.tmp rfl) .nil,rfl,L⟩
 ·refine bk<|wk [0,1,7,8] ?_;refine it (fun(s1:Int) F w9=>Ext w w9∧St w w9 []∧F=[(0,sl G x0 b0),(1,.func (.func f1_) #[] ⟨u1_⟩),(7,.int .i64 (x0.length:Int)),(8,.int .i64 s1)]) O ⟨(Ext.refl _),hS,rfl⟩ ?_;rintro s1 F q0 _ j0 ⟨d0,o,rfl⟩ d z;unfold zt at d;refine sq<|rg<|rr 1 ?_;refine rn<|sq<|ci d (fun d=>?_) (fun d=>?_)
  ·refine sp<|sq<|bk<|sq<|rg<|rr 2 ?_;refine rn<|sq<|rg<|rr 3 ?_;obtain⟨t0,Z,d⟩:=bS d;refine ix (hE.trans o.ext) f0 Z (fun k0 e0 M Y=>?_);cases Y;refine l1 (At.ext (hE.trans o.ext) M) 0 ?_;obtain⟨o0,a0,d⟩:=bS d;refine ca c0.1 (c0.2 (hE.trans o.ext)  a0) (fun p0 r0 H=>?_);obtain⟨rfl,q⟩:=H;have y:=o.join q;refine rn<|ci d (fun d=>?_) (fun d=>?_)
   ·refine sq<|rg<|rr 2 ?_;refine rn<|rt ?_;cases d;cases z;have hm:some _=some _:=hm;cases hm;exact⟨_,.cons (.tmp rfl) .nil,rfl,y⟩
   ·refine sp<|rg<|rr 2 ?_;refine rn ?_;cases d;exact⟨_,_,rfl,⟨(d0.trans q.ext),y,rfl⟩,rfl⟩
  ·refine xt ?_;cases d;exact⟨_,_,⟨z,d0,o,rfl⟩,rfl⟩

theorem zaX:Enters Tryz.prog 193:=⟨_,_,Tryz.func193,rfl,by kernel_rfl⟩
def zu (fuel:Nat) (x0:(List Int)) (x1:Int→Option Bool):Option (Bool):=((z13 fuel x0 x1).bind fun r1=>some (decide (r1≥0)))

theorem z4k {W w:World}(hE:Ext W w){d:Option Addr}{o:Nat}{x0:(List Int)}{f1_:Nat}{u1_:List Value}{x1:Int→Option Bool}(q:ty80.ro W [sl d x0 o] x0) (y:Enters Tryz.prog f1_∧∀ {w9:World},Ext W w9→∀ {z0:Int}{y9:Bool},x1 z0=some y9→Calls Tryz.prog f1_ ⟨[.int .i64 z0]++u1_⟩ w9 (Ret fun v w8=>v=.bool y9∧St w9 w8 [])){fuel:Nat}{r:Bool}(hm:zu fuel x0 x1=some r):
  Calls Tryz.prog 193 ⟨[sl d x0 o,.func (.func f1_) #[] ⟨u1_⟩]⟩ w (Ret fun v w8=>v=.bool r∧St w w8 []):=by
 refine into Tryz.func193 9 _ ?_;unfold zu at hm;have hS:=St.start w;refine sq<|rg<|rr 1 ?_;refine rn<|sq<|rg<|rr 2 ?_;obtain⟨r1,L,hm⟩:=bS hm;refine ca zaS (z4A (hE.trans hS.ext) q y L) (fun v3 w4 z=>?_);obtain⟨rfl,G⟩:=z;have H:=hS.join G;refine rr 2 ?_;refine rn<|rt ?_;cases hm;exact⟨_,.cons (.tmp rfl) .nil,rfl,H⟩

theorem z95:Enters Tryz.prog 195:=⟨_,_,Tryz.func195,rfl,by kernel_rfl⟩
def z28 (fuel:Nat) (x0:Int):Option (Bool):=(if(decide (x0≥0))=true then some (decide (x0<24)) else some false)

theorem z5e {W w:World}(hE:Ext W w){x0:Int}  {fuel:Nat}{r:Bool}(hm:z28 fuel x0=some r):
  Calls Tryz.prog 195 ⟨[.int .i64 x0]⟩ w (Ret fun v w8=>v=.bool r∧St w w8 []):=by
 refine into Tryz.func195 9 _ ?_;unfold z28 at hm;have hS:=St.start w;refine sq<|rg<|rr 1 ?_;refine rn<|sq<|rg<|rr 3 ?_;refine rb 5 hm (fun hm=>?_) (fun hm=>?_)
 ·refine rr 4 ?_;refine rn<|rt ?_;cases hm;exact⟨_,.cons (.tmp rfl) .nil,rfl,hS⟩
 ·refine rr 4 ?_;refine rn<|rt ?_;cases hm;exact⟨_,.cons (.tmp rfl) .nil,rfl,hS⟩

theorem zaW:Enters Tryz.prog 194:=⟨_,_,Tryz.func194,rfl,by kernel_rfl⟩
def z2D (fuel:Nat) (x0:Int):Option (Bool):=((z28 fuel x0).bind fun r1=>some (!r1))

theorem z5K {W w:World}(hE:Ext W w){x0:Int}  {fuel:Nat}{r:Bool}(hm:z2D fuel x0=some r):
  Calls Tryz.prog 194 ⟨[.int .i64 x0]⟩ w (Ret fun v w8=>v=.bool r∧St w w8 []):=by
 refine into Tryz.func194 6 _ ?_;unfold z2D at hm;have hS:=St.start w;refine sq<|rg<|rr 1 ?_;refine rn<|sq<|rg<|rr 1 ?_;obtain⟨r1,y,hm⟩:=bS hm;refine ca z95 (z5e (hE.trans hS.ext)  y) (fun v3 w4 d=>?_);obtain⟨rfl,o⟩:=d;have q:=hS.join o;refine rr 2 ?_;refine rn<|rt ?_;cases hm;exact⟨_,.cons (.tmp rfl) .nil,rfl,q⟩

theorem z94:Enters Tryz.prog 196:=⟨_,_,Tryz.func196,rfl,by kernel_rfl⟩
def z4i (fuel:Nat) (x0:Int):Option (Bool):=(if(decide (x0≥(-2147483648)))=true then some (decide (x0≤2147483647)) else some false)

theorem z6m {W w:World}(hE:Ext W w){x0:Int}  {fuel:Nat}{r:Bool}(hm:z4i fuel x0=some r):
  Calls Tryz.prog 196 ⟨[.int .i64 x0]⟩ w (Ret fun v w8=>v=.bool r∧St w w8 []):=by
 refine into Tryz.func196 9 _ ?_;unfold z4i at hm;have hS:=St.start w;refine sq<|rg<|rr 1 ?_;refine rn<|sq<|rg<|rr 3 ?_;refine rb 5 hm (fun hm=>?_) (fun hm=>?_)
 ·refine rr 4 ?_;refine rn<|rt ?_;cases hm;exact⟨_,.cons (.tmp rfl) .nil,rfl,hS⟩
 ·refine rr 4 ?_;refine rn<|rt ?_;cases hm;exact⟨_,.cons (.tmp rfl) .nil,rfl,hS⟩

theorem z93:Enters Tryz.prog 197:=⟨_,_,Tryz.func197,rfl,by kernel_rfl⟩
def z27 (fuel:Nat) (x0:Int):Option (Bool):=(if(decide (x0≥1))=true then some (decide (x0≤6)) else some false)

theorem z5d {W w:World}(hE:Ext W w){x0:Int}  {fuel:Nat}{r:Bool}(hm:z27 fuel x0=some r):
  Calls Tryz.prog 197 ⟨[.int .i64 x0]⟩ w (Ret fun v w8=>v=.bool r∧St w w8 []):=by
 refine into Tryz.func197 9 _ ?_;unfold z27 at hm;have hS:=St.start w;refine sq<|rg<|rr 1 ?_;refine rn<|sq<|rg<|rr 3 ?_;refine rb 5 hm (fun hm=>?_) (fun hm=>?_)
 ·refine rr 4 ?_;refine rn<|rt ?_;cases hm;exact⟨_,.cons (.tmp rfl) .nil,rfl,hS⟩
 ·refine rr 4 ?_;refine rn<|rt ?_;cases hm;exact⟨_,.cons (.tmp rfl) .nil,rfl,hS⟩

theorem zba:Enters Tryz.prog 166:=⟨_,_,Tryz.func166,rfl,by kernel_rfl⟩
def z1U (fuel:Nat) (d:Bool × Bool):Option Bool:=(if d.1=true then some d.2 else some false)
def z1T (fuel:Nat) (d:Bool × Bool):Option Bool:=z1U fuel (d.1,d.2)
def z1S (fuel:Nat) (d:Bool × Bool):Option Bool:=z1T fuel (d.1,d.2)
def z1R (fuel:Nat) (x0:D.Agent) (d:Bool):Option Bool:=z1S fuel (d,((x0.Data.length:Int) == 0))
def z1Q (fuel:Nat) (d:Bool × Bool):Option Bool:=z1S fuel (d.1,d.2)
def z1p (fuel:Nat) (x0:D.Agent) (d:Bool):Option Bool:=z1Q fuel ((x0.Value == 0),d)
def z1P (fuel:Nat) (d:Bool × Bool):Option Bool:=z1Q fuel (d.1,d.2)
def z1O (fuel:Nat) (x0:D.Agent) (d:Bool):Option Bool:=z1P fuel ((x0.Value == 0),d)
def z1B (fuel:Nat) (x0:D.Agent) (d:Bool):Option Bool:=z1P fuel (d,((x0.Data.length:Int) == 0))
def z12 (fuel:Nat) (x0:D.Agent) (H:Bool):Option Bool:=(if H=true then some false else((zu fuel x0.Data (fun y0=>z2D fuel y0)).bind fun o=>(if(x0.Kind == 6)=true then((z4i fuel x0.Value).bind fun q=>z1U fuel (q,((x0.Data.length:Int) == 0))) else(if(x0.Kind == 7)=true then((z27 fuel x0.Value).bind fun y=>z1T fuel (y,((x0.Data.length:Int) == 0))) else(if(x0.Kind == 8)=true then((z27 fuel x0.Value).bind fun z=>(if z=true then(if((x0.Data.length:Int) == 1)=true then((idx x0.Data 0).bind fun L=>((z4i fuel L).bind fun G=>some G)) else some false) else some false)) else(if(x0.Kind == 9)=true then(if(decide (x0.Value≥0))=true then z1R fuel x0 (decide (x0.Value<4)) else z1R fuel x0 false) else(if(x0.Kind == 10)=true then(if(decide ((x0.Data.length:Int)≥1))=true then(if(decide ((x0.Data.length:Int)≤4))=true then z1p fuel x0 (!o) else z1p fuel x0 false) else z1p fuel x0 false) else(if(x0.Kind == 11)=true then(if((x0.Data.length:Int) == 2)=true then z1O fuel x0 (!o) else z1O fuel x0 false) else(if(x0.Kind == 12)=true then((z28 fuel x0.Value).bind fun d=>z1B fuel x0 d) else z1B fuel x0 (x0.Value == 0))))))))))
def z2V (fuel:Nat) (x0:D.Agent):Option (Bool):=(if((x0.Ports.length:Int) == 0)=true then z12 fuel x0 true else((z3E fuel x0.Kind (x0.Ports.length:Int)).bind fun d=>((z3k fuel x0.Kind d).bind fun o=>(if(o != (x0.Ports.length:Int))=true then z12 fuel x0 true else((z3g fuel x0.Kind x0.Level).bind fun q=>z12 fuel x0 (!q))))))

theorem z6k {W w:World}(hE:Ext W w){F1:List Value}{x0:D.Agent}(K1:z9i.ro W F1 x0){fuel:Nat}{r:Bool}(hm:z2V fuel x0=some r):
  Calls Tryz.prog 166 ⟨[.agg ⟨F1⟩]⟩ w (Ret fun v w8=>v=.bool r∧St w w8 []):=by
 obtain⟨A1,k2,A4,k5,e7,h3,h6⟩:=z5S K1;subst e7;refine into Tryz.func166 117 _ ?_;unfold z2V at hm;have hS:=St.start w;refine sq<|rg<|nw hS (fun G1 Y1 g2 q=>?_);refine rr 1 ?_;refine rn<|sq<|sq<|ct (fun(E1:Bool) F w9=>z12 fuel x0 E1=some r∧Ext Y1 w9∧St w w9 [Box G1 [.int .i64 x0.Kind,.int .i64 x0.Level,.int .i64 x0.Value,sl A1 x0.Data k2,sl A4 x0.Ports k5] 148]∧F=[(1,.pointer (some ⟨G1,0,none⟩)),(32,.bool E1)]) ?_ ?_
 ·rintro E1 F s2 ⟨hm,L1,X,rfl⟩;unfold z12 at hm;refine ci hm (fun hm=>?_) (fun hm=>?_)
  ·refine sq<|rg<|rr 1 ?_;refine rn<|rt ?_;cases hm;exact⟨_,.cons (.tmp rfl) .nil,rfl,(X.taken 0)⟩
  ·refine sp<|sq<|dn 0 mixed 9 [([],511),([0],510),([1],509),([],511),([3],503),([4],495),([5],479),([2,0,1,2],507),([6,7,0,1,2,3,4,5,6,7],447)] X.ext (fun H=>?_);have d0:=X.step (Ext.draw _);refine dr 7 H [0,3] ?_;refine dl H 1 ((X.bring 0 rfl).box) 2 ?_;refine dr 4 H [2,7] ?_;refine dl H 4 ((X.bring 0 rfl).box) 3 ?_;refine dr 0 H [5,6,8] ?_;refine dw [1,3,4] ?_;refine dd H ?_;refine sq<|rg<|rr 1 ?_;refine l1 ((d0.bring 0 rfl).box) 3 ?_;obtain⟨H1,s1,hm⟩:=bS hm;refine ca zaX (z4k (hE.trans d0.ext) h3 ⟨zaW,fun e9=>(fun  N1=>z5K (Ext.refl _)  N1)⟩ s1) (fun n2 a0 S0=>?_);obtain⟨rfl,T0⟩:=S0;have o:=d0.join T0;refine rr 2 ?_;refine rn<|sq<|sq<|rg<|rr 1 ?_;refine l1 ((o.bring 0 rfl).box) 0 ?_;refine rn<|bk<|sq<|rg<|rr 2 ?_;refine rn<|ct (fun(K0:Bool × Bool) F w9=>z1U fuel K0=some r∧Ext a0 w9∧St w w9 []∧F=[(3,.bool K0.1),(4,.bool K0.2)]) ?_ ?_
   ·rintro K0 F t2 ⟨hm,M1,E0,rfl⟩;unfold z1U at hm;refine sq<|rg<|rr 2 ?_;refine rb 114 hm (fun hm=>?_) (fun hm=>?_)
    ·refine rr 3 ?_;refine rn<|rt ?_;cases hm;exact⟨_,.cons (.tmp rfl) .nil,rfl,E0⟩
    ·refine rr 3 ?_;refine rn<|rt ?_;cases hm;exact⟨_,.cons (.tmp rfl) .nil,rfl,E0⟩
   ·refine ci hm (fun hm=>?_) (fun hm=>?_)
    ·refine rg<|rr 1 ?_;refine l1 ((o.bring 0 rfl).box) 2 ?_;obtain⟨Q1,t1,hm⟩:=bS hm;refine ca z94 (z6m (hE.trans o.ext)  t1) (fun o2 u2 U0=>?_);obtain⟨rfl,u0⟩:=U0;have b1:=o.join u0;refine rr 1 ?_;refine rn ?_;exact⟨(Q1,((x0.Data.length:Int) == 0)),_,⟨hm,u0.ext,(b1.taken 0),rfl⟩,rfl⟩
    ·refine sq<|rg<|rr 2 ?_;refine rn<|ct (fun(e0:Bool × Bool) F w9=>z1T fuel e0=some r∧Ext a0 w9∧St w w9 []∧F=[(3,.bool e0.1),(4,.bool e0.2)]) ?_ ?_
     ·rintro e0 F v2 ⟨hm,N0,d1,rfl⟩;unfold z1T at hm;exact⟨(e0.1,e0.2),_,⟨hm,N0,d1,rfl⟩,rfl⟩
     ·refine ci hm (fun hm=>?_) (fun hm=>?_)
      ·refine rg<|rr 1 ?_;refine l1 ((o.bring 0 rfl).box) 2 ?_;obtain⟨R1,u1,hm⟩:=bS hm;refine ca z93 (z5d (hE.trans o.ext)  u1) (fun p2 y2 V0=>?_);obtain⟨rfl,v0⟩:=V0;have e1:=o.join v0;refine rr 1 ?_;refine rn ?_;exact⟨(R1,((x0.Data.length:Int) == 0)),_,⟨hm,v0.ext,(e1.taken 0),rfl⟩,rfl⟩
      ·refine sq<|rg<|rr 2 ?_;refine rn<|ci hm (fun hm=>?_) (fun hm=>?_)
       ·refine sq<|rg<|rr 1 ?_;refine l1 ((o.bring 0 rfl).box) 2 ?_;obtain⟨j2,v1,hm⟩:=bS hm;refine ca z93 (z5d (hE.trans o.ext)  v1) (fun q2 A2 W0=>?_);obtain⟨rfl,X0⟩:=W0;have y:=o.join X0;refine rr 1 ?_;refine rb 61 hm (fun hm=>?_) (fun hm=>?_)
        ·refine rr 1 ?_;refine l1 ((y.bring 0 rfl).box) 3 ?_;refine rr 4 ?_;refine rb 67 hm (fun hm=>?_) (fun hm=>?_)
         ·refine rr 1 ?_;refine l1 ((y.bring 0 rfl).box) 3 ?_;obtain⟨G2,y1,hm⟩:=bS hm;refine ix (hE.trans y.ext) h3 y1 (fun i2 J1 n1 p1=>?_);cases p1;refine l1 (At.ext (hE.trans y.ext) n1) 0 ?_;obtain⟨m2,B1,hm⟩:=bS hm;refine ca z94 (z6m (hE.trans y.ext)  B1) (fun r2 B2 Y0=>?_);obtain⟨rfl,a1⟩:=Y0;have f1:=y.join a1;refine rr 2 ?_;refine rn<|rt ?_;cases hm;exact⟨_,.cons (.tmp rfl) .nil,rfl,(f1.taken 0)⟩
         ·refine rr 7 ?_;refine rn<|rt ?_;cases hm;exact⟨_,.cons (.tmp rfl) .nil,rfl,(y.taken 0)⟩
        ·refine rr 13 ?_;refine rn<|rt ?_;cases hm;exact⟨_,.cons (.tmp rfl) .nil,rfl,(y.taken 0)⟩
       ·refine sq<|rg<|rr 2 ?_;refine rn<|ct (fun(f0:Bool × Bool) F w9=>z1S fuel f0=some r∧Ext a0 w9∧St w w9 []∧F=[(3,.bool f0.1),(4,.bool f0.2)]) ?_ ?_
        ·rintro f0 F C2 ⟨hm,O0,g1,rfl⟩;unfold z1S at hm;exact⟨(f0.1,f0.2),_,⟨hm,O0,g1,rfl⟩,rfl⟩
        ·refine ci hm (fun hm=>?_) (fun hm=>?_)
         ·refine ct (fun(L0:Bool) F w9=>z1R fuel x0 L0=some r∧Ext a0 w9∧St w w9 []∧F=[(3,.bool L0),(4,.bool ((x0.Data.length:Int) == 0))]) ?_ ?_
          ·rintro L0 F D2 ⟨hm,P0,i1,rfl⟩;unfold z1R at hm;exact⟨(L0,((x0.Data.length:Int) == 0)),_,⟨hm,P0,i1,rfl⟩,rfl⟩
          ·refine rg<|rr 1 ?_;refine l1 ((o.bring 0 rfl).box) 2 ?_;refine rr 2 ?_;refine rb 79 hm (fun hm=>?_) (fun hm=>?_)
           ·refine rr 1 ?_;refine l1 ((o.bring 0 rfl).box) 2 ?_;refine rr 3 ?_;refine rn ?_;exact⟨decide (x0.Value<4),_,⟨hm,(Ext.refl _),(o.taken 0),rfl⟩,rfl⟩
           ·refine rr 5 ?_;refine rn ?_;exact⟨false,_,⟨hm,(Ext.refl _),(o.taken 0),rfl⟩,rfl⟩
         ·refine sq<|rg<|rr 2 ?_;refine rn<|ct (fun(g0:Bool × Bool) F w9=>z1Q fuel g0=some r∧Ext a0 w9∧St w w9 []∧F=[(3,.bool g0.1),(4,.bool g0.2)]) ?_ ?_
          ·rintro g0 F E2 ⟨hm,Q0,j1,rfl⟩;unfold z1Q at hm;exact⟨(g0.1,g0.2),_,⟨hm,Q0,j1,rfl⟩,rfl⟩
          ·refine ci hm (fun hm=>?_) (fun hm=>?_)
           ·refine ct (fun(M0:Bool) F w9=>z1p fuel x0 M0=some r∧Ext a0 w9∧St w w9 []∧F=[(3,.bool (x0.Value == 0)),(4,.bool M0)]) ?_ ?_
            ·rintro M0 F F2 ⟨hm,R0,m1,rfl⟩;unfold z1p at hm;exact⟨((x0.Value == 0),M0),_,⟨hm,R0,m1,rfl⟩,rfl⟩
            ·refine rg<|rr 1 ?_;refine l1 ((o.bring 0 rfl).box) 3 ?_;refine rr 3 ?_;refine rb 90 hm (fun hm=>?_) (fun hm=>?_)
             ·refine rr 1 ?_;refine l1 ((o.bring 0 rfl).box) 3 ?_;refine rr 4 ?_;refine rb 96 hm (fun hm=>?_) (fun hm=>?_)
              ·refine rr 3 ?_;refine rn ?_;exact⟨!H1,_,⟨hm,(Ext.refl _),(o.taken 0),rfl⟩,rfl⟩
              ·refine rr 3 ?_;refine rn ?_;exact⟨false,_,⟨hm,(Ext.refl _),(o.taken 0),rfl⟩,rfl⟩
             ·refine rr 9 ?_;refine rn ?_;exact⟨false,_,⟨hm,(Ext.refl _),(o.taken 0),rfl⟩,rfl⟩
           ·refine sq<|rg<|rr 2 ?_;refine rn<|ct (fun(i0:Bool × Bool) F w9=>z1P fuel i0=some r∧Ext a0 w9∧St w w9 []∧F=[(3,.bool i0.1),(4,.bool i0.2)]) ?_ ?_
            ·rintro i0 F W1 ⟨hm,j0,y0,rfl⟩;unfold z1P at hm;exact⟨(i0.1,i0.2),_,⟨hm,j0,y0,rfl⟩,rfl⟩
            ·refine ci hm (fun hm=>?_) (fun hm=>?_)
             ·refine ct (fun(Y:Bool) F w9=>z1O fuel x0 Y=some r∧Ext a0 w9∧St w w9 []∧F=[(3,.bool (x0.Value == 0)),(4,.bool Y)]) ?_ ?_
              ·rintro Y F X1 ⟨hm,k0,A0,rfl⟩;unfold z1O at hm;exact⟨((x0.Value == 0),Y),_,⟨hm,k0,A0,rfl⟩,rfl⟩
              ·refine rg<|rr 1 ?_;refine l1 ((o.bring 0 rfl).box) 3 ?_;refine rr 3 ?_;refine rb 105 hm (fun hm=>?_) (fun hm=>?_)
               ·refine rr 3 ?_;refine rn ?_;exact⟨!H1,_,⟨hm,(Ext.refl _),(o.taken 0),rfl⟩,rfl⟩
               ·refine rr 3 ?_;refine rn ?_;exact⟨false,_,⟨hm,(Ext.refl _),(o.taken 0),rfl⟩,rfl⟩
             ·refine sq<|rg<|rr 2 ?_;refine rn<|ct (fun(Z:Bool) F w9=>z1B fuel x0 Z=some r∧Ext a0 w9∧St w w9 []∧F=[(3,.bool Z),(4,.bool ((x0.Data.length:Int) == 0))]) ?_ ?_
              ·rintro Z F a2 ⟨hm,o0,B0,rfl⟩;unfold z1B at hm;exact⟨(Z,((x0.Data.length:Int) == 0)),_,⟨hm,o0,B0,rfl⟩,rfl⟩
              ·refine ci hm (fun hm=>?_) (fun hm=>?_)
               ·refine rg<|rr 1 ?_;refine l1 ((o.bring 0 rfl).box) 2 ?_;obtain⟨C1,F0,hm⟩:=bS hm;refine ca z95 (z5e (hE.trans o.ext)  F0) (fun S1 b2 p0=>?_);obtain⟨rfl,b0⟩:=p0;have C0:=o.join b0;refine rr 1 ?_;refine rn ?_;exact⟨C1,_,⟨hm,b0.ext,(C0.taken 0),rfl⟩,rfl⟩
               ·refine sp ?_;exact⟨(x0.Value == 0),_,⟨hm,(Ext.refl _),(o.taken 0),rfl⟩,rfl⟩
 ·refine dn 0 mixed 27 [([],134217727),([0],134217726),([1],134217725),([2],134217723),([3],134217719),([4],134217711),([5,4],134217679),([4],134217711),([7,4],134217583),([4],134217711),([9,4],134217199),([10,4],134216687),([8,11,4,4],134215407),([6,12,12,4],134213551),([4],134217711),([14,4],134201327),([15,4],134184943),([13,16,4],134143983),([4,17],134086639),([18,13],133955583),([19],133693439),([20,19],132644863),([19],133693439),([22,19],129499135),([21,23,19,19],123207679),([24,19],116916223),([19,25],100139007)] q.ext (fun d=>?_);have M:=q.step (Ext.draw _);refine dr 26 d [0] ?_;refine dl d 1 ((q.bring 0 rfl).box) 4 ?_;refine dr 22 d [2,3,4] ?_;refine dw [1,10] ?_;refine db 10 hm (fun hm=>?_) (fun hm=>?_)
  ·refine dr 0 d [5,6,7,8,9,10,11,12,13,14,15,16,17,18,19,20,21,22,23,24,25,26] ?_;refine dw [1,32] ?_;refine dd d ?_;exact⟨true,_,⟨hm,(Ext.draw _),M,rfl⟩,rfl⟩
  ·refine dr 18 d [5,7,9,14] ?_;refine dl d 6 ((q.bring 0 rfl).box) 0 ?_;refine dl d 8 ((q.bring 0 rfl).box) 0 ?_;refine dl d 10 ((q.bring 0 rfl).box) 4 ?_;refine dr 14 d [11] ?_;refine dl d 15 ((q.bring 0 rfl).box) 4 ?_;refine dr 12 d [16] ?_;refine dw [1,10,12,14,17,22] ?_;obtain⟨O1,G0,hm⟩:=bS hm;refine o1 d 12 (mc d zaZ (z6V (hE.trans M.ext)  G0) (fun T1 d2 q0=>?_));obtain⟨rfl,z⟩:=q0;refine⟨z.ext,?_⟩;have c0:=M.join z;obtain⟨P1,H0,hm⟩:=bS hm;refine o1 d 13 (mc d zb0 (z7x (hE.trans c0.ext)  H0) (fun U1 e2 r0=>?_));obtain⟨rfl,G⟩:=r0;refine⟨G.ext,?_⟩;have O:=c0.join G;refine dr 7 d [17,18,19] ?_;refine dw [1,25] ?_;refine db 25 hm (fun hm=>?_) (fun hm=>?_)
   ·refine dr 0 d [20,21,22,23,24,25,26] ?_;refine dw [1,32] ?_;refine dd d ?_;exact⟨true,_,⟨hm,(((Ext.draw _).trans z.ext).trans G.ext),O,rfl⟩,rfl⟩
   ·refine dr 5 d [20,22] ?_;refine dl d 21 ((q.bring 0 rfl).box) 0 ?_;refine dl d 23 ((q.bring 0 rfl).box) 1 ?_;obtain⟨D1,J0,hm⟩:=bS hm;refine o1 d 24 (mc d zaY (z6F (hE.trans O.ext)  J0) (fun V1 f2 t0=>?_));obtain⟨rfl,L⟩:=t0;refine⟨L.ext,?_⟩;have D0:=O.join L;refine dr 0 d [25,26] ?_;refine dw [1,32] ?_;refine dd d ?_;exact⟨!D1,_,⟨hm,((((Ext.draw _).trans z.ext).trans G.ext).trans L.ext),D0,rfl⟩,rfl⟩

end Go.E


