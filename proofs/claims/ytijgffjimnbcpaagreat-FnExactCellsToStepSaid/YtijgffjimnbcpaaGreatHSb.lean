/- Models of functions and proofs that the code runs as they say (written by program). Conditions: the model gives a value. -/
import Derived.Test.YtijgffjimnbcpaaGreatHS
import Derived.Test.YtijgffjimnbcpaaGreatMixed
namespace Go.E
open Go.RowKit Go.Proofs
set_option linter.unusedVariables false
set_option linter.unusedSimpArgs false
set_option maxHeartbeats 2000000
set_option maxRecDepth 100000

theorem ze6:Enters Tryz.prog 215:=⟨_,_,Tryz.func215,rfl,by kernel_rfl⟩
def z2m (fuel:Nat) (x0:Int) (x1:Int) (x2:Int) (t1:Bool):Option Bool:=(if t1=true then some false else(if(x1 == 6)=true then some true else(if(x1 == 12)=true then some true else((z2O fuel x1).bind fun d=>(if d=true then some (decide (x2>x0)) else some false)))))
def z3V (fuel:Nat) (x0:Int) (x1:Int) (x2:Int):Option (Bool):=((z2r fuel x0).bind fun d=>(if(!d)=true then z2m fuel x0 x1 x2 true else((z1C fuel x1 x2).bind fun h=>z2m fuel x0 x1 x2 (!h))))

theorem z8w {W w:World}(hE:Ext W w){x0:Int}{x1:Int}{x2:Int}  {fuel:Nat}{r:Bool}(hm:z3V fuel x0 x1 x2=some r):
  Calls Tryz.prog 215 ⟨[.int .i64 x0,.int .i64 x1,.int .i64 x2]⟩ w (Ret fun v w8=>v=.bool r∧St w w8 []):=by
 refine into Tryz.func215 31 _ ?_;unfold z3V at hm;have hS:=St.start w;refine sq<|rg<|rr 1 ?_;refine rn<|sq<|sq<|ct (fun(t1:Bool) F w9=>z2m fuel x0 x1 x2 t1=some r∧Ext w w9∧St w w9 []∧F=[(0,.int .i64 x0),(1,.int .i64 x1),(2,.int .i64 x2),(15,.bool t1)]) ?_ ?_
 ·rintro t1 F w4 ⟨hm,Y,y,rfl⟩;unfold z2m at hm;refine ci hm (fun hm=>?_) (fun hm=>?_)
  ·refine sq<|rg<|rr 1 ?_;refine rn<|rt ?_;cases hm;exact⟨_,.cons (.tmp rfl) .nil,rfl,y⟩
  ·refine sp<|sq<|rg<|rr 3 ?_;refine rb 18 hm (fun hm=>?_) (fun hm=>?_)
   ·refine rr 13 ?_;refine rn<|rt ?_;cases hm;exact⟨_,.cons (.tmp rfl) .nil,rfl,y⟩
   ·refine rr 4 ?_;refine rb 22 hm (fun hm=>?_) (fun hm=>?_)
    ·refine rr 9 ?_;refine rn<|rt ?_;cases hm;exact⟨_,.cons (.tmp rfl) .nil,rfl,y⟩
    ·refine rr 1 ?_;obtain⟨Z,O,hm⟩:=bS hm;refine ca z9W (z6r (hE.trans y.ext)  O) (fun b0 f0 z=>?_);obtain⟨rfl,G⟩:=z;have u:=y.join G;refine rr 1 ?_;refine rb 25 hm (fun hm=>?_) (fun hm=>?_)
     ·refine rr 6 ?_;refine rn<|rt ?_;cases hm;exact⟨_,.cons (.tmp rfl) .nil,rfl,u⟩
     ·refine rr 6 ?_;refine rn<|rt ?_;cases hm;exact⟨_,.cons (.tmp rfl) .nil,rfl,u⟩
 ·refine rg<|rr 1 ?_;obtain⟨a0,S,hm⟩:=bS hm;refine ca zbM (z7M (hE.trans hS.ext)  S) (fun d0 g0 H=>?_);obtain⟨rfl,d⟩:=H;have h:=hS.join d;refine rr 2 ?_;refine rb 10 hm (fun hm=>?_) (fun hm=>?_)
  ·refine rr 5 ?_;refine rn ?_;exact⟨true,_,⟨hm,d.ext,h,rfl⟩,rfl⟩
  ·refine rr 2 ?_;obtain⟨X,V,hm⟩:=bS hm;refine ca z8C (z53 (hE.trans h.ext)  V) (fun e0 i0 L=>?_);obtain⟨rfl,o⟩:=L;have M:=h.join o;refine rr 2 ?_;refine rn ?_;exact⟨!X,_,⟨hm,(d.ext.trans o.ext),M,rfl⟩,rfl⟩

theorem ze5:Enters Tryz.prog 216:=⟨_,_,Tryz.func216,rfl,by kernel_rfl⟩
def z3U (fuel:Nat) (x0:Int):Option (Bool):=(if(x0 == 3)=true then some true else(if(x0 == 7)=true then some true else(if(x0 == 8)=true then some true else(if(x0 == 10)=true then some true else some (x0 == 11)))))

theorem z8v {W w:World}(hE:Ext W w){x0:Int}  {fuel:Nat}{r:Bool}(hm:z3U fuel x0=some r):
  Calls Tryz.prog 216 ⟨[.int .i64 x0]⟩ w (Ret fun v w8=>v=.bool r∧St w w8 []):=by
 refine into Tryz.func216 21 _ ?_;unfold z3U at hm;have hS:=St.start w;refine sq<|rg<|rr 1 ?_;refine rn<|sq<|rg<|rr 3 ?_;refine rb 5 hm (fun hm=>?_) (fun hm=>?_)
 ·refine rr 16 ?_;refine rn<|rt ?_;cases hm;exact⟨_,.cons (.tmp rfl) .nil,rfl,hS⟩
 ·refine rr 4 ?_;refine rb 9 hm (fun hm=>?_) (fun hm=>?_)
  ·refine rr 12 ?_;refine rn<|rt ?_;cases hm;exact⟨_,.cons (.tmp rfl) .nil,rfl,hS⟩
  ·refine rr 4 ?_;refine rb 13 hm (fun hm=>?_) (fun hm=>?_)
   ·refine rr 8 ?_;refine rn<|rt ?_;cases hm;exact⟨_,.cons (.tmp rfl) .nil,rfl,hS⟩
   ·refine rr 4 ?_;refine rb 17 hm (fun hm=>?_) (fun hm=>?_)
    ·refine rr 4 ?_;refine rn<|rt ?_;cases hm;exact⟨_,.cons (.tmp rfl) .nil,rfl,hS⟩
    ·refine rr 4 ?_;refine rn<|rt ?_;cases hm;exact⟨_,.cons (.tmp rfl) .nil,rfl,hS⟩

theorem zbL:Enters Tryz.prog 213:=⟨_,_,Tryz.func213,rfl,by kernel_rfl⟩
def z2B (fuel:Nat) (x1:Int) (x2:Int) (x3:Int) (t1:Bool):Option Int:=(if t1=true then some 2 else((z3V fuel x1 x2 x3).bind fun r6=>(if r6=true then some 3 else some 0)))
def z2A (fuel:Nat) (d:Bool):Option Int:=(if d=true then some 1 else some 0)
def z2z (fuel:Nat) (x2:Int) (d:Bool):Option Int:=(if d=true then some 5 else(if(x2 == 11)=true then some 6 else some 0))
def z3j (fuel:Nat) (x0:Int) (x1:Int) (x2:Int) (x3:Int):Option (Int):=(if(x0 == 5)=true then some 4 else(if(x0 == 4)=true then(if(x2 == 4)=true then z2B fuel x1 x2 x3 (x1 == x3) else z2B fuel x1 x2 x3 false) else(if(x0 == 2)=true then(if(x2 == 3)=true then z2A fuel (x1 == x3) else z2A fuel false) else(if(x0 == 6)=true then(if(x2 == 7)=true then z2z fuel x2 (x2 == 7) else z2z fuel x2 (x2 == 8)) else(if(x0 == 9)=true then(if(x2 == 10)=true then some 6 else some 0) else(if(x0 == 12)=true then((z3U fuel x2).bind fun d=>(if d=true then some 7 else some 0)) else some 0))))))

theorem z7N {W w:World}(hE:Ext W w){x0:Int}{x1:Int}{x2:Int}{x3:Int}  {fuel:Nat}{r:Int}(hm:z3j fuel x0 x1 x2 x3=some r):
  Calls Tryz.prog 213 ⟨[.int .i64 x0,.int .i64 x1,.int .i64 x2,.int .i64 x3]⟩ w (Ret fun v w8=>v=.int .i64 r∧St w w8 []):=by
 refine into Tryz.func213 52 _ ?_;unfold z3j at hm;have hS:=St.start w;refine sq<|rg<|rr 1 ?_;refine rn<|sq<|sq<|rg<|rr 1 ?_;refine rn<|bk<|sq<|rg<|rr 2 ?_;refine rn<|ci hm (fun hm=>?_) (fun hm=>?_)
 ·refine sq<|rg<|rr 1 ?_;refine rn<|rt ?_;cases hm;exact⟨_,.cons (.tmp rfl) .nil,rfl,hS⟩
 ·refine sq<|rg<|rr 2 ?_;refine rn<|ci hm (fun hm=>?_) (fun hm=>?_)
  ·refine bk<|sq<|ct (fun(t1:Bool) F w9=>z2B fuel x1 x2 x3 t1=some r∧Ext w w9∧St w w9 []∧F=[(1,.int .i64 x1),(2,.int .i64 x2),(3,.int .i64 x3),(14,.bool t1)]) ?_ ?_
   ·rintro t1 F w4 ⟨hm,Z,L,rfl⟩;unfold z2B at hm;refine ci hm (fun hm=>?_) (fun hm=>?_)
    ·refine sq<|rg<|rr 1 ?_;refine rn<|rt ?_;cases hm;exact⟨_,.cons (.tmp rfl) .nil,rfl,L⟩
    ·refine sq<|rg<|rr 3 ?_;obtain⟨r6,Y,hm⟩:=bS hm;refine ca ze6 (z8w (hE.trans L.ext)  Y) (fun b0 e0 y=>?_);obtain⟨rfl,z⟩:=y;have h:=L.join z;refine rr 1 ?_;refine rn<|ci hm (fun hm=>?_) (fun hm=>?_)
     ·refine sq<|rg<|rr 1 ?_;refine rn<|rt ?_;cases hm;exact⟨_,.cons (.tmp rfl) .nil,rfl,h⟩
     ·refine sp<|sq<|rg<|rr 1 ?_;refine rn<|rt ?_;cases hm;exact⟨_,.cons (.tmp rfl) .nil,rfl,h⟩
   ·refine rg<|rr 3 ?_;refine rb 17 hm (fun hm=>?_) (fun hm=>?_)
    ·refine rr 5 ?_;refine rn ?_;exact⟨(x1 == x3),_,⟨hm,(Ext.refl _),hS,rfl⟩,rfl⟩
    ·refine rr 5 ?_;refine rn ?_;exact⟨false,_,⟨hm,(Ext.refl _),hS,rfl⟩,rfl⟩
  ·refine sq<|rg<|rr 2 ?_;refine rn<|ci hm (fun hm=>?_) (fun hm=>?_)
   ·refine sq<|ct (fun(O:Bool) F w9=>z2A fuel O=some r∧Ext w w9∧St w w9 []∧F=[(35,.bool O)]) ?_ ?_
    ·rintro O F f0 ⟨hm,V,o,rfl⟩;unfold z2A at hm;refine ci hm (fun hm=>?_) (fun hm=>?_)
     ·refine sq<|rg<|rr 1 ?_;refine rn<|rt ?_;cases hm;exact⟨_,.cons (.tmp rfl) .nil,rfl,o⟩
     ·refine sp<|sq<|rg<|rr 1 ?_;refine rn<|rt ?_;cases hm;exact⟨_,.cons (.tmp rfl) .nil,rfl,o⟩
    ·refine rg<|rr 3 ?_;refine rb 31 hm (fun hm=>?_) (fun hm=>?_)
     ·refine rr 4 ?_;refine rn ?_;exact⟨(x1 == x3),_,⟨hm,(Ext.refl _),hS,rfl⟩,rfl⟩
     ·refine rr 4 ?_;refine rn ?_;exact⟨false,_,⟨hm,(Ext.refl _),hS,rfl⟩,rfl⟩
   ·refine sq<|rg<|rr 2 ?_;refine rn<|ci hm (fun hm=>?_) (fun hm=>?_)
    ·refine sq<|rg<|rr 1 ?_;refine rn<|bk<|sq<|sq<|rg<|rr 2 ?_;refine rn<|ct (fun(S:Bool) F w9=>z2z fuel x2 S=some r∧Ext w w9∧St w w9 []∧F=[(38,.int .i64 x2),(39,.bool S)]) ?_ ?_
     ·rintro S F g0 ⟨hm,X,d,rfl⟩;unfold z2z at hm;refine ci hm (fun hm=>?_) (fun hm=>?_)
      ·refine sq<|rg<|rr 1 ?_;refine rn<|rt ?_;cases hm;exact⟨_,.cons (.tmp rfl) .nil,rfl,d⟩
      ·refine sq<|rg<|rr 2 ?_;refine rn<|ci hm (fun hm=>?_) (fun hm=>?_)
       ·refine sq<|rg<|rr 1 ?_;refine rn<|rt ?_;cases hm;exact⟨_,.cons (.tmp rfl) .nil,rfl,d⟩
       ·refine sp<|sq<|rg<|rr 1 ?_;refine rn<|rt ?_;cases hm;exact⟨_,.cons (.tmp rfl) .nil,rfl,d⟩
     ·refine ci hm (fun hm=>?_) (fun hm=>?_)
      ·refine sp ?_;exact⟨(x2 == 7),_,⟨hm,(Ext.refl _),hS,rfl⟩,rfl⟩
      ·refine rg<|rr 2 ?_;refine rn ?_;exact⟨(x2 == 8),_,⟨hm,(Ext.refl _),hS,rfl⟩,rfl⟩
    ·refine sq<|rg<|rr 2 ?_;refine rn<|ci hm (fun hm=>?_) (fun hm=>?_)
     ·refine sq<|rg<|rr 2 ?_;refine rn<|ci hm (fun hm=>?_) (fun hm=>?_)
      ·refine sq<|rg<|rr 1 ?_;refine rn<|rt ?_;cases hm;exact⟨_,.cons (.tmp rfl) .nil,rfl,hS⟩
      ·refine sp<|sq<|rg<|rr 1 ?_;refine rn<|rt ?_;cases hm;exact⟨_,.cons (.tmp rfl) .nil,rfl,hS⟩
     ·refine sq<|rg<|rr 2 ?_;refine rn<|ci hm (fun hm=>?_) (fun hm=>?_)
      ·refine sq<|rg<|rr 1 ?_;obtain⟨a0,M,hm⟩:=bS hm;refine ca ze5 (z8v (hE.trans hS.ext)  M) (fun d0 i0 G=>?_);obtain⟨rfl,H⟩:=G;have u:=hS.join H;refine rn<|ci hm (fun hm=>?_) (fun hm=>?_)
       ·refine sq<|rg<|rr 1 ?_;refine rn<|rt ?_;cases hm;exact⟨_,.cons (.tmp rfl) .nil,rfl,u⟩
       ·refine sp<|sq<|rg<|rr 1 ?_;refine rn<|rt ?_;cases hm;exact⟨_,.cons (.tmp rfl) .nil,rfl,u⟩
      ·refine sp<|sq<|rg<|rr 1 ?_;refine rn<|rt ?_;cases hm;exact⟨_,.cons (.tmp rfl) .nil,rfl,hS⟩

theorem zed:Enters Tryz.prog 203:=⟨_,_,Tryz.func203,rfl,by kernel_rfl⟩
def z20 (fuel:Nat) (x0:Int) (x1:Int) (x2:Int) (x3:Int) (t1:Bool):Option (Int × Int):=(if t1=true then some (0,0) else((z3j fuel x0 x1 x2 x3).bind fun r6=>(if(r6 != 0)=true then some (r6,1) else((z3j fuel x2 x3 x0 x1).bind fun d=>(if(d != 0)=true then some (d,2) else some (8,0))))))
def z3d (fuel:Nat) (x0:Int) (x1:Int) (x2:Int) (x3:Int):Option (Int × Int):=(if(x0 == 1)=true then z20 fuel x0 x1 x2 x3 true else(if(x2 == 1)=true then z20 fuel x0 x1 x2 x3 true else((z1C fuel x0 x1).bind fun d=>(if(!d)=true then z20 fuel x0 x1 x2 x3 true else((z1C fuel x2 x3).bind fun h=>z20 fuel x0 x1 x2 x3 (!h))))))

theorem za1 {W w:World}(hE:Ext W w){x0:Int}{x1:Int}{x2:Int}{x3:Int}  {fuel:Nat}{r:Int × Int}(hm:z3d fuel x0 x1 x2 x3=some r):
  Calls Tryz.prog 203 ⟨[.int .i64 x0,.int .i64 x1,.int .i64 x2,.int .i64 x3]⟩ w (Ret fun v w8=>v=.tuple ⟨[.int .i64 r.1,.int .i64 r.2]⟩∧St w w8 []):=by
 refine into Tryz.func203 46 _ ?_;unfold z3d at hm;have hS:=St.start w;refine sq<|rg<|rr 2 ?_;refine rn<|sq<|sq<|ct (fun(t1:Bool) F w9=>z20 fuel x0 x1 x2 x3 t1=some r∧Ext w w9∧St w w9 []∧F=[(0,.int .i64 x0),(1,.int .i64 x1),(2,.int .i64 x2),(3,.int .i64 x3),(29,.bool t1)]) ?_ ?_
 ·rintro t1 F w4 ⟨hm,d0,S,rfl⟩;unfold z20 at hm;refine ci hm (fun hm=>?_) (fun hm=>?_)
  ·refine sq<|rg<|rr 2 ?_;refine rn<|rt ?_;cases hm;exact⟨_,.cons (.tmp rfl) (.cons (.tmp rfl) .nil),rfl,S⟩
  ·refine sp<|sq<|sq<|rg<|rr 4 ?_;obtain⟨r6,a0,hm⟩:=bS hm;refine ca zbL (z7N (hE.trans S.ext)  a0) (fun g0 o0 z=>?_);obtain⟨rfl,G⟩:=z;have h:=S.join G;refine rr 1 ?_;refine rn<|sq<|rg<|rr 2 ?_;refine rn<|ci hm (fun hm=>?_) (fun hm=>?_)
   ·refine sq<|rg<|rr 3 ?_;refine rn<|rt ?_;cases hm;exact⟨_,.cons (.tmp rfl) (.cons (.tmp rfl) .nil),rfl,h⟩
   ·refine sp<|sq<|sq<|rg<|rr 4 ?_;obtain⟨e0,X,hm⟩:=bS hm;refine ca zbL (z7N (hE.trans h.ext)  X) (fun i0 p0 H=>?_);obtain⟨rfl,L⟩:=H;have y:=h.join L;refine rr 1 ?_;refine rn<|sq<|rg<|rr 2 ?_;refine rn<|ci hm (fun hm=>?_) (fun hm=>?_)
    ·refine sq<|rg<|rr 3 ?_;refine rn<|rt ?_;cases hm;exact⟨_,.cons (.tmp rfl) (.cons (.tmp rfl) .nil),rfl,y⟩
    ·refine sp<|sq<|rg<|rr 2 ?_;refine rn<|rt ?_;cases hm;exact⟨_,.cons (.tmp rfl) (.cons (.tmp rfl) .nil),rfl,y⟩
 ·refine rg<|rr 3 ?_;refine rb 14 hm (fun hm=>?_) (fun hm=>?_)
  ·refine rr 15 ?_;refine rn ?_;exact⟨true,_,⟨hm,(Ext.refl _),hS,rfl⟩,rfl⟩
  ·refine rr 4 ?_;refine rb 18 hm (fun hm=>?_) (fun hm=>?_)
   ·refine rr 11 ?_;refine rn ?_;exact⟨true,_,⟨hm,(Ext.refl _),hS,rfl⟩,rfl⟩
   ·refine rr 2 ?_;obtain⟨f0,Y,hm⟩:=bS hm;refine ca z8C (z53 (hE.trans hS.ext)  Y) (fun j0 q0 M=>?_);obtain⟨rfl,d⟩:=M;have o:=hS.join d;refine rr 3 ?_;refine rb 24 hm (fun hm=>?_) (fun hm=>?_)
    ·refine rr 5 ?_;refine rn ?_;exact⟨true,_,⟨hm,d.ext,o,rfl⟩,rfl⟩
    ·refine rr 2 ?_;obtain⟨b0,Z,hm⟩:=bS hm;refine ca z8C (z53 (hE.trans o.ext)  Z) (fun k0 r0 O=>?_);obtain⟨rfl,u⟩:=O;have V:=o.join u;refine rr 2 ?_;refine rn ?_;exact⟨!b0,_,⟨hm,(d.ext.trans u.ext),V,rfl⟩,rfl⟩

theorem zbT:Enters Tryz.prog 177:=⟨_,_,Tryz.func177,rfl,by kernel_rfl⟩
def z17 (fuel:Nat) (d:Int × Int) (h:Bool):Option (Int × Bool):=(if h=true then some (8,false) else some (d.1,(d.2 == 2)))
def z1n (fuel:Nat) (d:Int × Int) (h:Int × Int × Int × (List Int) × (List D.Port) × Int × Int × Int × (List Int) × (List D.Port)):Option (Int × Bool):=(if(d.1 == 6)=true then(if(h.2.2.2.2.2.1 == 10)=true then z17 fuel d (decide (h.2.2.1≥(h.2.2.2.2.2.2.2.2.1.length:Int))) else z17 fuel d false) else z17 fuel d false)
def z3g (fuel:Nat) (d:(Int × Int × Int × (List Int) × (List D.Port)) × (Int × Int × Int × (List Int) × (List D.Port))):Option (Int × Bool):=((z3d fuel d.1.1 d.1.2.1 d.2.1 d.2.2.1).bind fun h=>(if(h.2 == 2)=true then z1n fuel h (d.2.1,d.2.2.1,d.2.2.2.1,d.2.2.2.2.1,d.2.2.2.2.2,d.1.1,d.1.2.1,d.1.2.2.1,d.1.2.2.2.1,d.1.2.2.2.2) else z1n fuel h (d.1.1,d.1.2.1,d.1.2.2.1,d.1.2.2.2.1,d.1.2.2.2.2,d.2.1,d.2.2.1,d.2.2.2.1,d.2.2.2.2.1,d.2.2.2.2.2)))
def z1t (fuel:Nat) (x0:D.Net) (x1:D.Pair):Option (Int × Bool):=((idx x0.Agents x1.A).bind fun d=>((idx x0.Agents x1.B).bind fun h=>z3g fuel ((d.Kind,d.Level,d.Value,d.Data,d.Ports),(h.Kind,h.Level,h.Value,h.Data,h.Ports))))

theorem z6E {W w:World}(hE:Ext W w){S3:Addr}{D3:List Value}{x0:D.Net}{E3:List Value}{x1:D.Pair}(i4:ty42.ro W D3 x0) (N3:At W S3 D3) (j4:ty87.ro W E3 x1){fuel:Nat}{r:Int × Bool}(hm:z1t fuel x0 x1=some r):
  Calls Tryz.prog 177 ⟨[.pointer (some S3),.agg ⟨E3⟩]⟩ w (Ret fun v w8=>v=.tuple ⟨[.int .i64 r.1,.bool r.2]⟩∧St w w8 []):=by
 obtain⟨A1,k2,e4,h3⟩:=z15 i4;subst e4;have e5:=z1i j4;subst e5;refine into Tryz.func177 60 _ ?_;unfold z1t at hm;have hS:=St.start w;refine sq<|rg<|nw hS (fun g6 w7 f5 G=>?_);refine rr 2 ?_;refine rn<|sq<|ct (fun(h:(Int × Int × Int × (List Int) × (List D.Port)) × (Int × Int × Int × (List Int) × (List D.Port))) F w9=>∃ y0 r0 V1 t0 W1 B0 u0 X1 v0 Y1,z3g fuel h=some r∧ty80.ro W [sl r0 h.1.2.2.2.1 V1] h.1.2.2.2.1∧z2R.ro W [sl t0 h.1.2.2.2.2 W1] h.1.2.2.2.2∧ty80.ro W [sl u0 h.2.2.2.2.1 X1] h.2.2.2.2.1∧z2R.ro W [sl v0 h.2.2.2.2.2 Y1] h.2.2.2.2.2∧St w w9 [Box y0 [.int .i64 h.1.1,.int .i64 h.1.2.1,.int .i64 h.1.2.2.1,sl r0 h.1.2.2.2.1 V1,sl t0 h.1.2.2.2.2 W1] 148,Box B0 [.int .i64 h.2.1,.int .i64 h.2.2.1,.int .i64 h.2.2.2.1,sl u0 h.2.2.2.2.1 X1,sl v0 h.2.2.2.2.2 Y1] 148]∧F=[(6,.pointer (some ⟨y0,0,none⟩)),(7,.pointer (some ⟨B0,0,none⟩))]) ?_ ?_
 ·rintro h F o5 ⟨y0,r0,V1,t0,W1,B0,u0,X1,v0,Y1,hm,O3,P3,Q3,R3,H,rfl⟩;unfold z3g at hm;refine sq<|rg<|rr 1 ?_;refine l1 ((H.bring 0 rfl).box) 0 ?_;refine rr 1 ?_;refine l1 ((H.bring 0 rfl).box) 1 ?_;refine rr 1 ?_;refine l1 ((H.bring 1 rfl).box) 0 ?_;refine rr 1 ?_;refine l1 ((H.bring 1 rfl).box) 1 ?_;obtain⟨o0,g3,hm⟩:=bS hm;refine ca zed (za1 (hE.trans H.ext)  g3) (fun n5 p5 X2=>?_);obtain⟨rfl,Y2⟩:=X2;have Y:=H.join Y2;refine rr 5 ?_;refine rn<|sq<|sq<|rg<|rr 2 ?_;refine rn<|ct (fun(y:Int × Int × Int × (List Int) × (List D.Port) × Int × Int × Int × (List Int) × (List D.Port)) F w9=>∃ q2 x3 r2 y3 s2 A3 t2 B3,z1n fuel o0 y=some r∧ty80.ro W [sl q2 y.2.2.2.1 x3] y.2.2.2.1∧z2R.ro W [sl r2 y.2.2.2.2.1 y3] y.2.2.2.2.1∧ty80.ro W [sl s2 y.2.2.2.2.2.2.2.2.1 A3] y.2.2.2.2.2.2.2.2.1∧z2R.ro W [sl t2 y.2.2.2.2.2.2.2.2.2 B3] y.2.2.2.2.2.2.2.2.2∧St w w9 [Box y0 [.int .i64 y.1,.int .i64 y.2.1,.int .i64 y.2.2.1,sl q2 y.2.2.2.1 x3,sl r2 y.2.2.2.2.1 y3] 148,Box B0 [.int .i64 y.2.2.2.2.2.1,.int .i64 y.2.2.2.2.2.2.1,.int .i64 y.2.2.2.2.2.2.2.1,sl s2 y.2.2.2.2.2.2.2.2.1 A3,sl t2 y.2.2.2.2.2.2.2.2.2 B3] 148]∧F=[(6,.pointer (some ⟨y0,0,none⟩)),(7,.pointer (some ⟨B0,0,none⟩)),(8,.int .i64 o0.1),(9,.int .i64 o0.2)]) ?_ ?_
  ·rintro y F d5 ⟨q2,x3,r2,y3,s2,A3,t2,B3,hm,g5,i5,j5,k5,L,rfl⟩;unfold z1n at hm;refine sq<|sq<|ct (fun(C3:Bool) F w9=>z17 fuel o0 C3=some r∧Ext d5 w9∧St w w9 []∧F=[(8,.int .i64 o0.1),(9,.int .i64 o0.2),(56,.bool C3)]) ?_ ?_
   ·rintro C3 F q5 ⟨hm,k4,D1,rfl⟩;unfold z17 at hm;refine ci hm (fun hm=>?_) (fun hm=>?_)
    ·refine sq<|rg<|rr 2 ?_;refine rn<|rt ?_;cases hm;exact⟨_,.cons (.tmp rfl) (.cons (.tmp rfl) .nil),rfl,D1⟩
    ·refine sp<|sq<|rg<|rr 5 ?_;refine rn<|rt ?_;cases hm;exact⟨_,.cons (.tmp rfl) (.cons (.tmp rfl) .nil),rfl,D1⟩
   ·refine rg<|rr 3 ?_;refine rb 44 hm (fun hm=>?_) (fun hm=>?_)
    ·refine rr 1 ?_;refine l1 ((L.bring 1 rfl).box) 0 ?_;refine rr 3 ?_;refine rb 49 hm (fun hm=>?_) (fun hm=>?_)
     ·refine rr 1 ?_;refine l1 ((L.bring 0 rfl).box) 2 ?_;refine rr 1 ?_;refine l1 ((L.bring 1 rfl).box) 3 ?_;refine rr 3 ?_;refine rn ?_;exact⟨decide (y.2.2.1≥(y.2.2.2.2.2.2.2.2.1.length:Int)),_,⟨hm,(Ext.refl _),(L.taken 0),rfl⟩,rfl⟩
     ·refine rr 7 ?_;refine rn ?_;exact⟨false,_,⟨hm,(Ext.refl _),(L.taken 0),rfl⟩,rfl⟩
    ·refine rr 12 ?_;refine rn ?_;exact⟨false,_,⟨hm,(Ext.refl _),(L.taken 0),rfl⟩,rfl⟩
  ·refine ci hm (fun hm=>?_) (fun hm=>?_)
   ·refine rg<|lN ((Y.bring 1 rfl).box) ?_;refine lN ((Y.bring 0 rfl).box) ?_;have a3:=Y.bring 0 rfl;refine so (A:=[]) a3 0 (fun r5 b3=>?_);have c3:=b3.bring 1 rfl;refine so (A:=[]) c3 0 (fun s5 d3=>?_);refine rn ?_;exact⟨(h.2.1,h.2.2.1,h.2.2.2.1,h.2.2.2.2.1,h.2.2.2.2.2,h.1.1,h.1.2.1,h.1.2.2.1,h.1.2.2.2.1,h.1.2.2.2.2),_,⟨u0,X1,v0,Y1,r0,V1,t0,W1,hm,Q3,R3,O3,P3,((d3.bring 0 rfl).bring 1 rfl),rfl⟩,rfl⟩
   ·refine sp ?_;exact⟨(h.1.1,h.1.2.1,h.1.2.2.1,h.1.2.2.2.1,h.1.2.2.2.2,h.2.1,h.2.2.1,h.2.2.2.1,h.2.2.2.2.1,h.2.2.2.2.2),_,⟨r0,V1,t0,W1,u0,X1,v0,Y1,hm,O3,P3,Q3,R3,Y,rfl⟩,rfl⟩
 ·refine dn 786432 mixed 20 [([],1048575),([0],1048574),([1],1048573),([2],1048571),([],1048575),([4],1048559),([3,5],1048535),([6],1048511),([],1048575),([8],1048319),([9],1048063),([10],1047551),([],1048575),([12],1044479),([11,13],1038335),([14],1032191),([],1048575),([],1048575),([16,7,0,1,2,3,4,5,6,7,16,17],982911),([17,15,18,0,1,2,3,4,5,6,7,8,9,10,11,12,13,14,15,16,17,18],884735)] G.ext (fun d=>?_);have X:=G.step (Ext.draw _);refine dr 12 d [0,1,2,4,8,9,10,12] ?_;refine dw [12,14,20,22] ?_;refine dl d 3 (At.ext (hE.trans G.ext) N3) 0 ?_;refine dl d 5 ((G.bring 0 rfl).box) 0 ?_;obtain⟨o,i3,hm⟩:=bS hm;refine dx (hE.trans G.ext) d 6 h3 i3 (fun m5 g4 e3 f3=>?_);obtain⟨Z,g0,a0,i0,f4,b0,d0⟩:=z6 f3;subst f4;refine dL d 7 (At.ext (hE.trans G.ext) e3) ?_;refine dV d 11 rfl (q1 (At.ext hE N3) 0) ?_;obtain⟨u,z,hm⟩:=bS hm;refine da d [13,16,17] (by simp) ?_;intro m4 hi110;simp only [List.mem_cons,List.not_mem_nil,or_false] at hi110
  rcases hi110 with rfl | rfl | rfl
  ·refine mq d rfl (q1 ((X.bring 0 rfl).box) 1) ?_;refine dv hE d 14 h3 z (fun s4 F3 E1 M1=>?_);obtain⟨p0,T1,q0,U1,u2,D0,E0⟩:=z6 M1;subst u2;refine dV d 15 rfl (qN (At.ext hE E1)) ?_;refine da d [16,17] (by simp) ?_;intro n4 hi123;simp only [List.mem_cons,List.not_mem_nil,or_false] at hi123
   rcases hi123 with rfl | rfl
   ·refine mw d X (fun E2 B4 T3 F0=>?_);refine o1 d 17 (mw d F0 (fun F2 C4 U3 G0=>?_));have H0:=G0.bring 1 rfl;refine o1 d 18 (ms (A:=[]) H0 d 0 (fun D4 J0=>?_));have K0:=J0.bring 1 rfl;refine o1 d 19 (ms (A:=[]) K0 d 0 (fun E4 L0=>?_));refine dd d ?_;exact⟨((o.Kind,o.Level,o.Value,o.Data,o.Ports),(u.Kind,u.Level,u.Value,u.Data,u.Ports)),_,⟨E2,Z,g0,a0,i0,F2,p0,T1,q0,U1,hm,b0,d0,D0,E0,(((L0.bring 0 rfl).bring 1 rfl).taken 2),rfl⟩,rfl⟩
   ·refine mw d X (fun G2 F4 V3 M0=>?_);refine o1 d 16 (mw d M0 (fun H2 G4 W3 N0=>?_));have O0:=N0.bring 0 rfl;refine o1 d 18 (ms (A:=[]) O0 d 0 (fun H4 P0=>?_));have Q0:=P0.bring 1 rfl;refine o1 d 19 (ms (A:=[]) Q0 d 0 (fun J4 R0=>?_));refine dd d ?_;exact⟨((o.Kind,o.Level,o.Value,o.Data,o.Ports),(u.Kind,u.Level,u.Value,u.Data,u.Ports)),_,⟨H2,Z,g0,a0,i0,G2,p0,T1,q0,U1,hm,b0,d0,D0,E0,(((R0.bring 0 rfl).bring 1 rfl).taken 2),rfl⟩,rfl⟩
  ·refine mw d X (fun j0 K4 X3 M=>?_);refine da d [13,17] (by simp) ?_;intro o4 hi157;simp only [List.mem_cons,List.not_mem_nil,or_false] at hi157
   rcases hi157 with rfl | rfl
   ·refine mq d rfl (q1 ((M.bring 1 rfl).box) 1) ?_;refine dv hE d 14 h3 z (fun t4 G3 F1 N1=>?_);obtain⟨a2,j3,b2,k3,v2,L2,M2⟩:=z6 N1;subst v2;refine dV d 15 rfl (qN (At.ext hE F1)) ?_;refine o1 d 17 (mw d M (fun J2 L4 Y3 S0=>?_));have T0:=S0.bring 1 rfl;refine o1 d 18 (ms (A:=[]) T0 d 0 (fun M4 U0=>?_));have V0:=U0.bring 1 rfl;refine o1 d 19 (ms (A:=[]) V0 d 0 (fun N4 X0=>?_));refine dd d ?_;exact⟨((o.Kind,o.Level,o.Value,o.Data,o.Ports),(u.Kind,u.Level,u.Value,u.Data,u.Ports)),_,⟨j0,Z,g0,a0,i0,J2,a2,j3,b2,k3,hm,b0,d0,L2,M2,(((X0.bring 0 rfl).bring 1 rfl).taken 2),rfl⟩,rfl⟩
   ·refine mw d M (fun A0 O4 a4 O=>?_);refine da d [13,18] (by simp) ?_;intro p4 hi184;simp only [List.mem_cons,List.not_mem_nil,or_false] at hi184
    rcases hi184 with rfl | rfl
    ·refine mq d rfl (q1 ((O.bring 2 rfl).box) 1) ?_;refine dv hE d 14 h3 z (fun u4 H3 G1 O1=>?_);obtain⟨d2,m3,e2,n3,y2,N2,O2⟩:=z6 O1;subst y2;refine dV d 15 rfl (qN (At.ext hE G1)) ?_;have Y0:=O.bring 1 rfl;refine o1 d 18 (ms (A:=[]) Y0 d 0 (fun P4 a1=>?_));have b1:=a1.bring 1 rfl;refine o1 d 19 (ms (A:=[]) b1 d 0 (fun Q4 d1=>?_));refine dd d ?_;exact⟨((o.Kind,o.Level,o.Value,o.Data,o.Ports),(u.Kind,u.Level,u.Value,u.Data,u.Ports)),_,⟨j0,Z,g0,a0,i0,A0,d2,m3,e2,n3,hm,b0,d0,N2,O2,(((d1.bring 0 rfl).bring 1 rfl).taken 2),rfl⟩,rfl⟩
    ·have e1:=O.bring 1 rfl;refine ms (A:=[]) e1 d 0 (fun R4 e0=>?_);refine o1 d 13 (mq d rfl (q1 ((e0.bring 2 rfl).box) 1) ?_);refine dv hE d 14 h3 z (fun v4 J3 H1 P1=>?_);obtain⟨f2,o3,g2,p3,A2,P2,Q2⟩:=z6 P1;subst A2;refine dV d 15 rfl (qN (At.ext hE H1)) ?_;have f1:=e0.bring 1 rfl;refine o1 d 19 (ms (A:=[]) f1 d 0 (fun S4 g1=>?_));refine dd d ?_;exact⟨((o.Kind,o.Level,o.Value,o.Data,o.Ports),(u.Kind,u.Level,u.Value,u.Data,u.Ports)),_,⟨j0,Z,g0,a0,i0,A0,f2,o3,g2,p3,hm,b0,d0,P2,Q2,(((g1.bring 0 rfl).bring 1 rfl).taken 2),rfl⟩,rfl⟩
  ·refine mw d X (fun k0 T4 b4 S=>?_);refine da d [13,16] (by simp) ?_;intro q4 hi224;simp only [List.mem_cons,List.not_mem_nil,or_false] at hi224
   rcases hi224 with rfl | rfl
   ·refine mq d rfl (q1 ((S.bring 1 rfl).box) 1) ?_;refine dv hE d 14 h3 z (fun x4 K3 J1 Q1=>?_);obtain⟨i2,q3,j2,r3,B2,R2,S2⟩:=z6 Q1;subst B2;refine dV d 15 rfl (qN (At.ext hE J1)) ?_;refine o1 d 16 (mw d S (fun K2 U4 c4 i1=>?_));have j1:=i1.bring 0 rfl;refine o1 d 18 (ms (A:=[]) j1 d 0 (fun V4 m1=>?_));have n1:=m1.bring 1 rfl;refine o1 d 19 (ms (A:=[]) n1 d 0 (fun W4 p1=>?_));refine dd d ?_;exact⟨((o.Kind,o.Level,o.Value,o.Data,o.Ports),(u.Kind,u.Level,u.Value,u.Data,u.Ports)),_,⟨K2,Z,g0,a0,i0,k0,i2,q3,j2,r3,hm,b0,d0,R2,S2,(((p1.bring 0 rfl).bring 1 rfl).taken 2),rfl⟩,rfl⟩
   ·refine mw d S (fun C0 X4 d4 V=>?_);refine da d [13,18] (by simp) ?_;intro r4 hi251;simp only [List.mem_cons,List.not_mem_nil,or_false] at hi251
    rcases hi251 with rfl | rfl
    ·refine mq d rfl (q1 ((V.bring 2 rfl).box) 1) ?_;refine dv hE d 14 h3 z (fun y4 L3 K1 R1=>?_);obtain⟨m2,s3,n2,t3,C2,T2,U2⟩:=z6 R1;subst C2;refine dV d 15 rfl (qN (At.ext hE K1)) ?_;have s1:=V.bring 0 rfl;refine o1 d 18 (ms (A:=[]) s1 d 0 (fun Y4 t1=>?_));have u1:=t1.bring 1 rfl;refine o1 d 19 (ms (A:=[]) u1 d 0 (fun a5 v1=>?_));refine dd d ?_;exact⟨((o.Kind,o.Level,o.Value,o.Data,o.Ports),(u.Kind,u.Level,u.Value,u.Data,u.Ports)),_,⟨C0,Z,g0,a0,i0,k0,m2,s3,n2,t3,hm,b0,d0,T2,U2,(((v1.bring 0 rfl).bring 1 rfl).taken 2),rfl⟩,rfl⟩
    ·have y1:=V.bring 0 rfl;refine ms (A:=[]) y1 d 0 (fun b5 f0=>?_);refine o1 d 13 (mq d rfl (q1 ((f0.bring 2 rfl).box) 1) ?_);refine dv hE d 14 h3 z (fun A4 M3 L1 S1=>?_);obtain⟨o2,u3,p2,v3,D2,V2,W2⟩:=z6 S1;subst D2;refine dV d 15 rfl (qN (At.ext hE L1)) ?_;have B1:=f0.bring 1 rfl;refine o1 d 19 (ms (A:=[]) B1 d 0 (fun c5 C1=>?_));refine dd d ?_;exact⟨((o.Kind,o.Level,o.Value,o.Data,o.Ports),(u.Kind,u.Level,u.Value,u.Data,u.Ports)),_,⟨C0,Z,g0,a0,i0,k0,o2,u3,p2,v3,hm,b0,d0,V2,W2,(((C1.bring 0 rfl).bring 1 rfl).taken 2),rfl⟩,rfl⟩

theorem zbS:Enters Tryz.prog 178:=⟨_,_,Tryz.func178,rfl,by kernel_rfl⟩
def z7e (fuel:Nat) (d:(List D.Agent)):Option (D.Net × Bool):=some ((⟨d⟩:D.Net),true)
def z3Q (fuel:Nat) (d:Int × (List D.Agent)) (h:(List D.Agent)):Option (Rd (Int × (List D.Agent)) ((List D.Agent)) (D.Net × Bool)):=some (.next (w64 (d.1+1),h))
def z3R (fuel:Nat) (x1:Int) (o:D.Net) (d:Int × (List D.Agent)):Option (Rd (Int × (List D.Agent)) ((List D.Agent)) (D.Net × Bool)):=(if(decide (d.1<(o.Agents.length:Int)))=true then((idx d.2 d.1).bind fun h=>((z2O fuel h.Kind).bind fun u=>(if(!u)=true then z3Q fuel d d.2 else(if(decide ((w64 (h.Level+x1))>8))=true then some (.ret ((⟨[]⟩:D.Net),false)) else z3Q fuel d (d.2.set d.1.toNat (⟨h.Kind,w64 (h.Level+x1),h.Value,h.Data,h.Ports⟩:D.Agent)))))) else some (.brk d.2))
def z5v (fuel:Nat) (x0:D.Net) (x1:Int):Option (D.Net × Bool):=((z5x fuel x0).bind fun d=>((iter (z3R fuel x1 d) fuel (0,d.Agents)).bind fun o=>aft o (z7e fuel)))

theorem z7L {W w:World}(hE:Ext W w){f1:List Value}{x0:D.Net}{x1:Int}(g1:ty42.ro W f1 x0){fuel:Nat}{r:D.Net × Bool}(hm:z5v fuel x0 x1=some r):
  Calls Tryz.prog 178 ⟨[.agg ⟨f1⟩,.int .i64 x1]⟩ w (Ret fun v w8=>∃ A0 k0,v=.tuple ⟨[.agg ⟨[sl A0 r.1.Agents k0]⟩,.bool r.2]⟩∧St w w8 [ow ty40 A0 r.1.Agents k0]):=by
 obtain⟨A1,k2,e4,h3⟩:=z15 g1;subst e4;refine into Tryz.func178 43 _ ?_;unfold z5v at hm;have hS:=St.start w;refine sq<|rg<|nw hS (fun g5 w6 e7 o0=>?_);refine nw o0 (fun X E1 t1 G=>?_);refine rr 1 ?_;refine rn<|sq<|rg<|lN ((G.bring 1 rfl).box) ?_;obtain⟨y,b1,hm⟩:=bS hm;refine ca zec (z9Q (hE.trans G.ext) g1 b1) (fun C1 F1 f0=>?_);obtain⟨o,u,rfl,g0⟩:=f0;have p0:=G.join g0;refine nw p0 (fun Y G1 u1 q0=>?_);have r0:=q0.bring 0 rfl;refine so (A:=[]) r0 0 (fun H1 Z=>?_);refine rn<|sq<|sq<|rg<|rr 1 ?_;refine l1 ((Z.bring 0 rfl).box) 0 ?_;refine rr 2 ?_;refine rn ?_;obtain⟨m1,Y0,hm⟩:=bS hm;refine ct (fun(V:(List D.Agent)) F w9=>m1=.inl V∧St w w9 [Box Y [sl o y.Agents u] 42,Own ty40 [sl o y.Agents u] V,Box X [.slice none 0 0] 42]∧F=[(4,.pointer (some ⟨X,0,none⟩)),(6,.pointer (some ⟨Y,0,none⟩))]) ?_ ?_
 ·rintro V F J1 ⟨a1,a0,rfl⟩;subst a1;rw [zi] at hm;unfold z7e at hm;refine sq<|rg<|lN ((a0.bring 0 rfl).box) ?_;have t0:=a0.bring 2 rfl;refine so (A:=[]) t0 0 (fun K1 H=>?_);refine rr 1 ?_;refine rn<|rt ?_;cases hm;have hn42:=(H.bring 2 rfl).lenEq;have u0:=(H.bring 2 rfl).reLen hn42;have v0:=(u0.bring 1 rfl).reBox (cs':=[.slice o V.length u]) (by show([.slice o y.Agents.length u]:List Value)=[.slice o V.length u];first | (simp only [sl,hn42];done) | (simp only [sl,hn42];rfl));have y0:=(v0.bring 2 rfl).reBox (cs':=[.slice o V.length u]) (by show([.slice o y.Agents.length u]:List Value)=[.slice o V.length u];first | (simp only [sl,hn42];done) | (simp only [sl,hn42];rfl));exact⟨_,.cons (ra ((H.bring 0 rfl).box)) (.cons (.tmp rfl) .nil),o,u,(by first | (simp only [sl,hn42];done) | (simp only [sl,hn42];rfl)),((y0.bring 2 rfl).taken 1)⟩
 ·refine bk<|wk [1,4,6,13,14] ?_;refine it (fun(z:Int × (List D.Agent)) F w9=>St w w9 [Box Y [sl o y.Agents u] 42,Own ty40 [sl o y.Agents u] z.2,Box X [.slice none 0 0] 42]∧F=[(1,.int .i64 x1),(4,.pointer (some ⟨X,0,none⟩)),(6,.pointer (some ⟨Y,0,none⟩)),(13,.int .i64 (y.Agents.length:Int)),(14,.int .i64 z.1)]) Y0 ⟨(Z.taken 3),rfl⟩ ?_;rintro z F L1 _ n1 ⟨L,rfl⟩ d d0;unfold z3R at d;refine sq<|rg<|rr 1 ?_;refine rn<|sq<|ci d (fun d=>?_) (fun d=>?_)
  ·refine sp<|sq<|ct (fun(e1:(List D.Agent)) F w9=>z3Q fuel z e1=some n1∧St w w9 [Box Y [sl o y.Agents u] 42,Own ty40 [sl o y.Agents u] e1,Box X [.slice none 0 0] 42]∧F=[(1,.int .i64 x1),(4,.pointer (some ⟨X,0,none⟩)),(6,.pointer (some ⟨Y,0,none⟩)),(13,.int .i64 (y.Agents.length:Int)),(14,.int .i64 z.1)]) ?_ ?_
   ·rintro e1 F M1 ⟨d,B0,rfl⟩;unfold z3Q at d;refine rg<|rr 2 ?_;refine rn ?_;cases d;exact⟨_,_,rfl,⟨B0,rfl⟩,rfl⟩
   ·refine bk<|sq<|rg<|rr 2 ?_;refine rn<|sq<|rg<|rr 1 ?_;refine l1 ((L.bring 0 rfl).box) 0 ?_;refine rr 1 ?_;have C0:=L.bring 1 rfl;obtain⟨h,e0,d⟩:=bS d;refine fo C0 e0 (fun q58 j1 hq60 D0=>?_);obtain⟨p1,v1,s1,y1,i1,M⟩:=zcf (D0.bring 1 rfl);subst i1;refine rr 1 ?_;refine rn<|sq<|sq<|rg<|rr 3 ?_;refine l1 ((M.bring 2 rfl).hole_atN hq60) 0 ?_;obtain⟨B1,d1,d⟩:=bS d;refine ca z9W (z6r (hE.trans M.ext)  d1) (fun D1 N1 i0=>?_);obtain⟨rfl,j0⟩:=i0;have O:=M.join j0;refine rr 1 ?_;refine rn<|ci d (fun d=>?_) (fun d=>?_)
    ·refine xt ?_;have E0:=O.bring 1 rfl;have F0:=E0.bring 1 rfl;have G0:=z6A (c:=(⟨h.Kind,h.Level,h.Value,h.Data,h.Ports⟩:D.Agent)) (B:=_) F0;have H0:=G0.bring 1 rfl;have J0:=St.unfocusN0 H0 (z65 e0).2;exact⟨z.2,_,⟨d,(J0.sel [1,0,2]),rfl⟩,rfl⟩
    ·refine sp<|sq<|rg<|rr 3 ?_;refine l1 ((O.bring 2 rfl).hole_atN hq60) 1 ?_;refine rr 4 ?_;have K0:=O.bring 2 rfl;refine sh K0 hq60 1 (fun O1 S=>?_);refine rn<|sq<|rg<|rr 3 ?_;refine l1 ((S.bring 0 rfl).hole_atN hq60) 1 ?_;refine rr 1 ?_;refine rn<|ci d (fun d=>?_) (fun d=>?_)
     ·refine sq<|rg<|qt (qb) ?_;have L0:=S.bring 4 rfl;refine so (A:=[]) L0 0 (fun P1 M0=>?_);refine rr 1 ?_;refine rn<|rt ?_;have N0:=M0.bring 3 rfl;have O0:=N0.bring 3 rfl;have P0:=z6A (c:=(⟨h.Kind,w64 (h.Level+x1),h.Value,h.Data,h.Ports⟩:D.Agent)) (B:=_) O0;have Q0:=P0.bring 2 rfl;have b0:=St.unfocusN Q0;cases d;cases d0;have hm:some _=some _:=hm;cases hm;have R0:=b0.nilSl z6i 148;exact⟨_,.cons (ra ((b0.bring 1 rfl).box)) (.cons (.tmp rfl) .nil),none,0,rfl,(R0.taken 1)⟩
     ·refine sp ?_;have S0:=S.bring 2 rfl;have T0:=S0.bring 2 rfl;have U0:=z6A (c:=(⟨h.Kind,w64 (h.Level+x1),h.Value,h.Data,h.Ports⟩:D.Agent)) (B:=_) T0;have V0:=U0.bring 1 rfl;have X0:=St.unfocusN V0;exact⟨(z.2.set z.1.toNat (⟨h.Kind,w64 (h.Level+x1),h.Value,h.Data,h.Ports⟩:D.Agent)),_,⟨d,(X0.sel [1,0,2]),rfl⟩,rfl⟩
  ·refine xt ?_;cases d;exact⟨_,_,⟨d0,L,rfl⟩,rfl⟩

theorem zf0:Enters Tryz.prog 129:=⟨_,_,Tryz.func129,rfl,by kernel_rfl⟩
def z1W (fuel:Nat) (h:Int × Bool) (d:Int × Int) (o:Bool):Option (Int × Int × Int × Int):=(if(!o)=true then some (0,0,0,9) else some (h.1,d.1,d.2,0))
def zm (fuel:Nat) (x0:D.rewriter) (d:Int × Bool) (h:Int × Int):Option (Int × Int × Int × Int):=(if(d.1 == 8)=true then some (0,0,0,11) else(if(d.1 == 7)=true then((idx x0.Net.Agents h.1).bind fun o=>(if(decide (o.Value≥(x0.book.length:Int)))=true then some (0,0,0,3) else((idx x0.book o.Value).bind fun y=>((z5v fuel y o.Level).bind fun u=>z1W fuel d h u.2)))) else some (d.1,h.1,h.2,0)))
def z3c (fuel:Nat) (x0:D.rewriter) (x1:D.Pair):Option (Int × Int × Int × Int):=((z1t fuel (⟨x0.Net.Agents⟩:D.Net) x1).bind fun d=>(if d.2=true then zm fuel x0 d (x1.B,x1.A) else zm fuel x0 d (x1.A,x1.B)))

theorem z7v {W w:World}(hE:Ext W w){H0:Addr}{K0:List Value}{x0:D.rewriter}{L0:List Value}{x1:D.Pair}(Y0:zfq.ro W K0 x0) (o0:At W H0 K0) (M0:ty87.ro W L0 x1){fuel:Nat}{r:Int × Int × Int × Int}(hm:z3c fuel x0 x1=some r):
  Calls Tryz.prog 129 ⟨[.pointer (some H0),.agg ⟨L0⟩]⟩ w (Ret fun v w8=>v=.tuple ⟨[.int .i64 r.1,.int .i64 r.2.1,.int .i64 r.2.2.1,.int .i64 r.2.2.2]⟩∧St w w8 []):=by
 obtain⟨A1,k2,A4,k5,e7,h3,h6⟩:=zd8 Y0;subst e7;have Q0:=z1i M0;subst Q0;refine into Tryz.func129 67 _ ?_;unfold z3c at hm;have hS:=St.start w;refine sq<|rg<|nw hS (fun v1 P1 s1 O=>?_);refine rr 4 ?_;refine rn<|sq<|dn 0 mixed 10 [([],1023),([0],1022),([1],1021),([],1023),([2,3],1011),([4],1007),([5],991),([5],991),([6,4,0,1,2,3,4,5,6],959),([7,8,0,1,2,3,4,5,6,7,8],895)] O.ext (fun u=>?_);have g0:=O.step (Ext.draw _);refine dr 7 u [0,1,2] ?_;refine dw [0,3,4,15] ?_;refine dL u 3 ((O.bring 0 rfl).box) ?_;obtain⟨p0,E0,hm⟩:=bS hm;refine o1 u 4 (mc u zbT (z6E (hE.trans g0.ext) (z8b (⟨x0.Net.Agents⟩:D.Net) h3) (At.sub o0 0 1) M0 E0) (fun N1 O0 q0=>?_));obtain⟨rfl,Z⟩:=q0;refine⟨Z.ext,?_⟩;have G:=g0.join Z;refine dr 0 u [5,6,7,8,9] ?_;refine dw [0,3,4,8] ?_;refine dd u ?_;refine sq<|dn 0 mixed 6 [([],63),([0],62),([],63),([2],59),([1,0,1],61),([3,4,0,1,2,3,4],55)] G.ext (fun y=>?_);have i0:=G.step (Ext.draw _);refine dr 4 y [0,2] ?_;refine dl y 1 ((G.bring 0 rfl).box) 0 ?_;refine dr 2 y [4] ?_;refine dl y 3 ((G.bring 0 rfl).box) 1 ?_;refine dr 0 y [5] ?_;refine dd y ?_;refine sq<|sq<|rg<|rr 1 ?_;refine rn<|ct (fun(X:Int × Int) F w9=>zm fuel x0 p0 X=some r∧Ext ({ O0 with drawn:=O0.drawn+1 }) w9∧St w w9 []∧F=[(0,.pointer (some H0)),(4,.int .i64 p0.1),(5,.int .i64 X.1),(6,.int .i64 X.2)]) ?_ ?_
 ·rintro X F Q1 ⟨hm,a1,o,rfl⟩;unfold zm at hm;refine sq<|sq<|rg<|rr 1 ?_;refine rn<|bk<|sq<|rg<|rr 2 ?_;refine rn<|ci hm (fun hm=>?_) (fun hm=>?_)
  ·refine sq<|rg<|rr 4 ?_;refine rn<|rt ?_;cases hm;exact⟨_,.cons (.tmp rfl) (.cons (.tmp rfl) (.cons (.tmp rfl) (.cons (.tmp rfl) .nil))),rfl,o⟩
  ·refine sq<|rg<|rr 2 ?_;refine rn<|ci hm (fun hm=>?_) (fun hm=>?_)
   ·refine sq<|rg<|rr 4 ?_;refine l1 (At.ext (hE.trans o.ext) o0) 0 ?_;refine rr 1 ?_;obtain⟨W1,F0,hm⟩:=bS hm;refine ix (hE.trans o.ext) h3 F0 (fun L1 U0 B0 D0=>?_);obtain⟨j1,G1,m1,H1,S0,C1,D1⟩:=z6 D0;subst S0;refine lN (At.ext (hE.trans o.ext) B0) ?_;refine nw o (fun y1 R1 t1 t0=>?_);have u0:=t0.bring 0 rfl;refine so (A:=[]) u0 0 (fun S1 H=>?_);refine rn<|sq<|sq<|dn 0 mixed 8 [([],255),([0],254),([],255),([2],251),([3],247),([4],239),([5],223),([1,6],189)] H.ext (fun z=>?_);have h:=H.step (Ext.draw _);refine dr 4 z [0,2,3,4] ?_;refine dw [0,4,5,6,9,40,44] ?_;refine dl z 1 ((H.bring 0 rfl).box) 2 ?_;refine dl z 5 (At.ext (hE.trans H.ext) o0) 1 ?_;refine dr 0 z [6,7] ?_;refine dd z ?_;refine ci hm (fun hm=>?_) (fun hm=>?_)
    ·refine sq<|rg<|rr 4 ?_;refine rn<|rt ?_;cases hm;exact⟨_,.cons (.tmp rfl) (.cons (.tmp rfl) (.cons (.tmp rfl) (.cons (.tmp rfl) .nil))),rfl,(h.taken 0)⟩
    ·refine sp<|sq<|ct (fun(J0:Bool) F w9=>z1W fuel p0 X J0=some r∧St w w9 []∧F=[(4,.int .i64 p0.1),(5,.int .i64 X.1),(6,.int .i64 X.2),(11,.bool J0)]) ?_ ?_
     ·rintro J0 F T1 ⟨hm,j0,rfl⟩;unfold z1W at hm;refine sq<|rg<|rr 2 ?_;refine rn<|ci hm (fun hm=>?_) (fun hm=>?_)
      ·refine sq<|rg<|rr 4 ?_;refine rn<|rt ?_;cases hm;exact⟨_,.cons (.tmp rfl) (.cons (.tmp rfl) (.cons (.tmp rfl) (.cons (.tmp rfl) .nil))),rfl,j0⟩
      ·refine sp<|sq<|rg<|rr 7 ?_;refine rn<|rt ?_;cases hm;exact⟨_,.cons (.tmp rfl) (.cons (.tmp rfl) (.cons (.tmp rfl) (.cons (.tmp rfl) .nil))),rfl,j0⟩
     ·refine dn 32768 mixed 17 [([],131071),([0],131070),([1],131069),([2],131067),([],131071),([4],131055),([3,5],131031),([6],131007),([],131071),([8],130815),([7,9],130431),([10],130047),([11],129023),([11],129023),([],131071),([14,12,10,0,1,2,3,4,5,6,7,8,9,10,11,12,14],110591),([13,15,0,1,2,3,4,5,6,7,8,9,10,11,12,13,14,15],122879)] h.ext (fun d=>?_);have S:=h.step (Ext.draw _);refine dr 12 d [0,1,2,4,8] ?_;refine dw [4,5,6,51,53,57] ?_;refine dl d 3 (At.ext (hE.trans h.ext) o0) 1 ?_;refine dl d 5 ((h.bring 0 rfl).box) 2 ?_;obtain⟨X1,G0,hm⟩:=bS hm;refine dx (hE.trans h.ext) d 6 h6 G0 (fun M1 V0 C0 V=>?_);obtain⟨n1,J1,T0,E1⟩:=z15 V;subst T0;refine dL d 7 (At.ext (hE.trans h.ext) C0) ?_;refine dl d 9 ((h.bring 0 rfl).box) 1 ?_;obtain⟨N0,k0,hm⟩:=bS hm;refine da d [10,14] (by simp) ?_;intro F1 hi87;simp only [List.mem_cons,List.not_mem_nil,or_false] at hi87
      rcases hi87 with rfl | rfl
      ·refine mc d zbS (z7L (hE.trans S.ext) V k0) (fun O1 U1 r0=>?_);obtain⟨p1,K1,rfl,a0⟩:=r0;refine⟨a0.ext,?_⟩;have v0:=S.join a0;refine dr 3 d [11,12,13] ?_;refine dw [4,5,6,60,61] ?_;refine o1 d 14 (mw d v0 (fun B1 V1 u1 y0=>?_));have A0:=y0.bring 0 rfl;refine o1 d 15 (ms (A:=[]) A0 d 0 (fun e1 b0=>?_));refine dr 0 d [16] ?_;refine dd d ?_;exact⟨N0.2,_,⟨hm,(b0.taken 0),rfl⟩,rfl⟩
      ·refine mw d S (fun X0 f1 R0 M=>?_);refine o1 d 10 (mc d zbS (z7L (hE.trans M.ext) V k0) (fun d1 g1 Y=>?_));obtain⟨P0,b1,rfl,L⟩:=Y;refine⟨L.ext,?_⟩;have d0:=M.join L;refine dr 2 d [11,12,13] ?_;refine dw [4,5,6,10,60,61] ?_;have e0:=d0.bring 1 rfl;refine o1 d 15 (ms (A:=[]) e0 d 0 (fun i1 f0=>?_));refine dr 0 d [16] ?_;refine dd d ?_;exact⟨N0.2,_,⟨hm,(f0.taken 0),rfl⟩,rfl⟩
   ·refine sp<|sq<|rg<|rr 7 ?_;refine rn<|rt ?_;cases hm;exact⟨_,.cons (.tmp rfl) (.cons (.tmp rfl) (.cons (.tmp rfl) (.cons (.tmp rfl) .nil))),rfl,o⟩
 ·refine ci hm (fun hm=>?_) (fun hm=>?_)
  ·refine rg<|rr 4 ?_;refine rn ?_;exact⟨(x1.B,x1.A),_,⟨hm,(Ext.refl _),(i0.taken 0),rfl⟩,rfl⟩
  ·refine sp ?_;exact⟨(x1.A,x1.B),_,⟨hm,(Ext.refl _),(i0.taken 0),rfl⟩,rfl⟩

theorem zeZ:Enters Tryz.prog 130:=⟨_,_,Tryz.func130,rfl,by kernel_rfl⟩
def z1R (fuel:Nat) (x0:D.Memory) (x1:D.Pair):Option (Int × Int × Int):=((z13 fuel x0 x1).bind fun h=>((z1t fuel (⟨h.Agents⟩:D.Net) (⟨0,1⟩:D.Pair)).bind fun d=>(if d.2=true then some (d.1,x1.B,x1.A) else some (d.1,x1.A,x1.B))))

theorem z7z {W w:World}(hE:Ext W w){f0:Addr}{a0:List Value}{x0:D.Memory}{b0:List Value}{x1:D.Pair}(d0:ty33.ro W a0 x0) (i0:At W f0 a0) (e0:ty87.ro W b0 x1){fuel:Nat}{r:Int × Int × Int}(hm:z1R fuel x0 x1=some r):
  Calls Tryz.prog 130 ⟨[.pointer (some f0),.agg ⟨b0⟩]⟩ w (Ret fun v w8=>v=.tuple ⟨[.int .i64 r.1,.int .i64 r.2.1,.int .i64 r.2.2]⟩∧St w w8 []):=by
 obtain⟨A1,k2,A4,k5,e7,h3,h6⟩:=zp d0;subst e7;have g0:=z1i e0;subst g0;refine into Tryz.func130 28 _ ?_;unfold z1R at hm;have hS:=St.start w;refine sq<|rg<|nw hS (fun q0 A0 o0 u=>?_);refine rr 3 ?_;refine rn<|sq<|rg<|rr 1 ?_;refine lN ((u.bring 0 rfl).box) ?_;obtain⟨j0,Y,hm⟩:=bS hm;refine ca zc2 (z64 (hE.trans u.ext) d0 i0 e0 Y) (fun v0 B0 z=>?_);obtain⟨k0,t0,rfl,G⟩:=z;have M:=u.join G;refine nw M (fun r0 C0 p0 O=>?_);have S:=O.bring 0 rfl;refine so (A:=[]) S 0 (fun D0 y=>?_);refine rn<|sq<|rg<|qt (qb) ?_;obtain⟨u0,Z,hm⟩:=bS hm;refine ca zbT (z6E (Ext.refl _) (z8b (⟨j0.Agents⟩:D.Net) (roOf zb1 (St.ownE (W0:=W) hE (y.bring 1 rfl)))) ((y.bring 0 rfl).box) (zaW (⟨0,1⟩:D.Pair)) Z) (fun y0 E0 H=>?_);obtain⟨rfl,L⟩:=H;have d:=y.join L;refine rr 5 ?_;refine rn<|sq<|sq<|rg<|rr 1 ?_;refine rn<|ci hm (fun hm=>?_) (fun hm=>?_)
 ·refine sq<|dn 0 mixed 8 [([],255),([],255),([1],253),([],255),([3],247),([0,0],254),([2,5,0,1,2,5],251),([4,6,0,1,2,3,4,5,6],239)] d.ext (fun h=>?_);have V:=d.step (Ext.draw _);refine dr 4 h [0,1,3,5] ?_;refine dw [4,5,6,19,21] ?_;refine dl h 2 ((d.bring 2 rfl).box) 1 ?_;refine dr 2 h [6] ?_;refine dl h 4 ((d.bring 2 rfl).box) 0 ?_;refine dr 0 h [7] ?_;refine dd h ?_;refine rt ?_;cases hm;exact⟨_,.cons (.tmp rfl) (.cons (.tmp rfl) (.cons (.tmp rfl) .nil)),rfl,(V.taken 0)⟩
 ·refine sp<|sq<|dn 0 mixed 8 [([],255),([],255),([1],253),([],255),([3],247),([0,0],254),([2,5,0,1,2,5],251),([4,6,0,1,2,3,4,5,6],239)] d.ext (fun o=>?_);have X:=d.step (Ext.draw _);refine dr 4 o [0,1,3,5] ?_;refine dw [4,5,6,24,26] ?_;refine dl o 2 ((d.bring 2 rfl).box) 0 ?_;refine dr 2 o [6] ?_;refine dl o 4 ((d.bring 2 rfl).box) 1 ?_;refine dr 0 o [7] ?_;refine dd o ?_;refine rt ?_;cases hm;exact⟨_,.cons (.tmp rfl) (.cons (.tmp rfl) (.cons (.tmp rfl) .nil)),rfl,(X.taken 0)⟩

theorem zeY:Enters Tryz.prog 131:=⟨_,_,Tryz.func131,rfl,by kernel_rfl⟩
def z6t (fuel:Nat) (d:(List D.Wire)):Option (List D.Wire):=some d
def z2i (fuel:Nat) (d:(List D.Wire) × Int) (h:(List D.Wire)):Option (Rd ((List D.Wire) × Int) ((List D.Wire)) ((List D.Wire))):=some (.next (h,w64 (d.2+1)))
def z1B (fuel:Nat) (d:(List D.Wire) × Int) (o:D.Port) (h:D.Port) (u:Bool):Option (Rd ((List D.Wire) × Int) ((List D.Wire)) ((List D.Wire))):=(if u=true then(if decide ((d.1.length:Int)+(([(⟨(⟨o.Agent,o.Slot⟩:D.Port),(⟨h.Agent,h.Slot⟩:D.Port)⟩:D.Wire)]:(List D.Wire)).length:Int)≤4294967296)=true then z2i fuel d (d.1++([(⟨(⟨o.Agent,o.Slot⟩:D.Port),(⟨h.Agent,h.Slot⟩:D.Port)⟩:D.Wire)]:(List D.Wire))) else none) else z2i fuel d d.1)
def z2j (fuel:Nat) (x0:D.Net) (r5:(List D.Port)) (d:(List D.Wire) × Int):Option (Rd ((List D.Wire) × Int) ((List D.Wire)) ((List D.Wire))):=(if(decide (d.2<(r5.length:Int)))=true then((idx r5 d.2).bind fun h=>((z2M fuel x0 h).bind fun o=>((z3f fuel h o).bind fun u=>(if u=true then(if(decide (h.Slot>0))=true then z1B fuel d h o (decide (o.Slot>0)) else z1B fuel d h o false) else z1B fuel d h o false)))) else some (.brk d.1))
def z3S (fuel:Nat) (x0:D.Net):Option ((List D.Wire)):=((z2S fuel x0).bind fun r5=>((iter (z2j fuel x0 r5) fuel ([],0)).bind fun o=>aft o (z6t fuel)))

theorem z8t {W w:World}(hE:Ext W w){Z:Addr}{T0:List Value}{x0:D.Net}(i0:ty42.ro W T0 x0) (U0:At W Z T0){fuel:Nat}{r:(List D.Wire)}(hm:z3S fuel x0=some r):
  Calls Tryz.prog 131 ⟨[.pointer (some Z)]⟩ w (Ret fun v w8=>∃ A0 k0,v=sl A0 r k0∧St w w8 [ow z80 A0 r k0]):=by
 obtain⟨A1,k2,e4,h3⟩:=z15 i0;subst e4;refine into Tryz.func131 38 _ ?_;unfold z3S at hm;have hS:=St.start w;refine sq<|rg<|rr 1 ?_;refine rn<|sq<|rg<|rr 1 ?_;refine rn<|sq<|sq<|rg<|rr 1 ?_;obtain⟨r5,f1,hm⟩:=bS hm;refine ca zc3 (z7f (hE.trans hS.ext) i0 U0 f1) (fun v7 C1 j0=>?_);obtain⟨V,X,rfl,o0⟩:=j0;have t0:=hS.join o0;refine rr 2 ?_;refine rn ?_;obtain⟨i1,L0,hm⟩:=bS hm;refine ct (fun(f0:(List D.Wire)) F w9=>∃ a0 d0,i1=.inl f0∧St w w9 [ow z80 a0 f0 d0]∧F=[(3,sl a0 f0 d0)]) ?_ ?_
 ·rintro f0 F D1 ⟨a0,d0,M0,u0,rfl⟩;subst M0;rw [zi] at hm;unfold z6t at hm;refine sq<|rg<|rr 2 ?_;refine rn<|rt ?_;cases hm;exact⟨_,.cons (.tmp rfl) .nil,a0,d0,rfl,u0⟩
 ·refine bk ?_;have v0:=t0.nilSl z9Z 213;refine wk [0,3,8,9,10] ?_;refine it (fun(u:(List D.Wire) × Int) F w9=>∃ L S,St w w9 [ow z80 L u.1 S,ow z2R V r5 X]∧F=[(0,.pointer (some Z)),(3,sl L u.1 S),(8,sl V r5 X),(9,.int .i64 (r5.length:Int)),(10,.int .i64 u.2)]) L0 ⟨none,0,v0,rfl⟩ ?_;rintro u F E1 _ Y0 ⟨L,S,M,rfl⟩ d N0;unfold z2j at d;refine sq<|rg<|rr 1 ?_;refine rn<|sq<|ci d (fun d=>?_) (fun d=>?_)
  ·refine sp<|sq<|bk<|sq<|rg ?_;obtain⟨o,P0,d⟩:=bS d;refine ix (Ext.refl _) ((M.bring 1 rfl).own) P0 (fun u1 d1 J0 O0=>?_);have b1:=zY O0;subst b1;refine lN J0 ?_;refine nw M (fun V0 F1 n1 y0=>?_);have B0:=y0.bring 0 rfl;refine so (A:=[]) B0 0 (fun G1 O=>?_);refine rn<|sq<|rg<|rr 1 ?_;refine lN ((O.bring 0 rfl).box) ?_;obtain⟨h,Q0,d⟩:=bS d;refine ca z9X (z6q (hE.trans O.ext) i0 U0 (z69 o) Q0) (fun y1 H1 p0=>?_);obtain⟨rfl,q0⟩:=p0;have C0:=O.join q0;refine nw C0 (fun X0 J1 p1 D0=>?_);have E0:=D0.bring 0 rfl;refine so (A:=[]) E0 0 (fun j1 G=>?_);refine rn<|sq<|ct (fun(S0:Bool) F w9=>z1B fuel u o h S0=some Y0∧Ext j1 w9∧St w w9 [Box X0 [.int .i64 h.Agent,.int .i64 h.Slot] 141,Box V0 [.int .i64 o.Agent,.int .i64 o.Slot] 141,ow z80 L u.1 S,ow z2R V r5 X]∧F=[(0,.pointer (some Z)),(3,sl L u.1 S),(5,.pointer (some ⟨V0,0,none⟩)),(6,.pointer (some ⟨X0,0,none⟩)),(8,sl V r5 X),(9,.int .i64 (r5.length:Int)),(10,.int .i64 u.2),(29,.bool S0)]) ?_ ?_
   ·rintro S0 F K1 ⟨d,e1,H,rfl⟩;unfold z1B at d;refine ct (fun(g0:(List D.Wire)) F w9=>∃ b0 e0,z2i fuel u g0=some Y0∧St w w9 [ow z80 b0 g0 e0,ow z2R V r5 X]∧F=[(0,.pointer (some Z)),(3,sl b0 g0 e0),(8,sl V r5 X),(9,.int .i64 (r5.length:Int)),(10,.int .i64 u.2)]) ?_ ?_
    ·rintro g0 F L1 ⟨b0,e0,d,F0,rfl⟩;unfold z2i at d;refine rg<|rr 2 ?_;refine rn ?_;cases d;exact⟨_,_,rfl,⟨b0,e0,F0,rfl⟩,rfl⟩
    ·refine ci d (fun d=>?_) (fun d=>?_)
     ·refine rg<|rr 1 ?_;refine lN ((H.bring 1 rfl).box) ?_;refine lN ((H.bring 0 rfl).box) ?_;refine qt (qb) ?_;refine ns (H.flatEls (U:=z9Z) (els:=[.int .i64 o.Agent,.int .i64 o.Slot,.int .i64 h.Agent,.int .i64 h.Slot]) (ys:=[(⟨(⟨o.Agent,o.Slot⟩:D.Port),(⟨h.Agent,h.Slot⟩:D.Port)⟩:D.Wire)]) ⟨[.int .i64 o.Agent,.int .i64 o.Slot,.int .i64 h.Agent,.int .i64 h.Slot],_,[],[],rfl,rfl,(za7 (c:=(⟨(⟨o.Agent,o.Slot⟩:D.Port),(⟨h.Agent,h.Slot⟩:D.Port)⟩:D.Wire)) rfl),⟨rfl,rfl⟩⟩) (fun m1 t1 M1 s1 G0=>?_);have Y:=G0.bring 3 rfl;obtain⟨K0,d⟩:=iS d;refine ap (Flat.map (Flat.pair (Flat.map (Flat.pair Flat.int (Flat.pair Flat.int Flat.unit))) (Flat.pair (Flat.map (Flat.pair Flat.int (Flat.pair Flat.int Flat.unit))) Flat.unit))) Y ((Y.bring 1 rfl).own) K0 (fun a1 g1 N1 H0=>?_);refine rr 1 ?_;refine rn ?_;exact⟨(u.1++([(⟨(⟨o.Agent,o.Slot⟩:D.Port),(⟨h.Agent,h.Slot⟩:D.Port)⟩:D.Wire)]:(List D.Wire))),_,⟨a1,g1,d,(((H0.bring 4 rfl).bring 1 rfl).taken 2),rfl⟩,rfl⟩
     ·refine sp ?_;exact⟨u.1,_,⟨L,S,d,(((H.bring 3 rfl).bring 3 rfl).taken 2),rfl⟩,rfl⟩
   ·refine rg<|lN ((G.bring 1 rfl).box) ?_;refine lN ((G.bring 0 rfl).box) ?_;obtain⟨v1,R0,d⟩:=bS d;refine ca zf6 (z86 (hE.trans G.ext) (z69 o) (z69 h) R0) (fun B1 O1 r0=>?_);obtain⟨rfl,z⟩:=r0;have y:=G.join z;refine rr 1 ?_;refine rb 20 d (fun d=>?_) (fun d=>?_)
    ·refine rr 1 ?_;refine l1 ((y.bring 1 rfl).box) 1 ?_;refine rr 3 ?_;refine rb 25 d (fun d=>?_) (fun d=>?_)
     ·refine rr 1 ?_;refine l1 ((y.bring 0 rfl).box) 1 ?_;refine rr 2 ?_;refine rn ?_;exact⟨decide (h.Slot>0),_,⟨d,z.ext,y,rfl⟩,rfl⟩
     ·refine rr 4 ?_;refine rn ?_;exact⟨false,_,⟨d,z.ext,y,rfl⟩,rfl⟩
    ·refine rr 9 ?_;refine rn ?_;exact⟨false,_,⟨d,z.ext,y,rfl⟩,rfl⟩
  ·refine xt ?_;cases d;exact⟨_,_,⟨L,S,N0,(M.taken 1),rfl⟩,rfl⟩

theorem zfY:Enters Tryz.prog 70:=⟨_,_,Tryz.func70,rfl,by kernel_rfl⟩
def z1m (fuel:Nat) (x0:D.machine) (x1:D.Pair):Option (Int × Int):=((z13 fuel (⟨x0.Memory.Cells,x0.Memory.Free,(⟨x0.Memory.Root.Tag,x0.Memory.Root.At⟩:D.Word),x0.Memory.Redexes⟩:D.Memory) x1).bind fun z=>((z3c fuel (⟨(⟨z.Agents⟩:D.Net),x0.book,()⟩:D.rewriter) (⟨0,1⟩:D.Pair)).bind fun d=>(if(d.2.2.2 != 0)=true then some (0,d.2.2.2) else((z1R fuel (⟨x0.Memory.Cells,x0.Memory.Free,(⟨x0.Memory.Root.Tag,x0.Memory.Root.At⟩:D.Word),x0.Memory.Redexes⟩:D.Memory) x1).bind fun o=>((idx x0.Memory.Cells o.2.2).bind fun u=>(if(d.1 == 3)=true then some (w64 (2+(w64 (3*(u.Words.length:Int)))),0) else(if(d.1 == 4)=true then some ((u.Words.length:Int),0) else(if(d.1 == 5)=true then some (1,0) else(if(d.1 == 6)=true then((idx x0.Memory.Cells o.2.1).bind fun G=>some (w64 (1+(G.Words.length:Int)),0)) else(if(d.1 == 7)=true then((idx x0.Memory.Cells o.2.1).bind fun H=>((idx x0.book H.Value).bind fun y=>((z3S fuel (⟨y.Agents⟩:D.Net)).bind fun h=>some (w64 ((w64 ((y.Agents.length:Int) - 1))+(h.length:Int)),0)))) else some (0,0)))))))))))

theorem z7w {W w:World}(hE:Ext W w){P0:Addr}{M0:List Value}{x0:D.machine}{N0:List Value}{x1:D.Pair}(f1:zfr.ro W M0 x0) (S:At W P0 M0) (i0:ty87.ro W N0 x1){fuel:Nat}{r:Int × Int}(hm:z1m fuel x0 x1=some r):
  Calls Tryz.prog 70 ⟨[.pointer (some P0),.agg ⟨N0⟩]⟩ w (Ret fun v w8=>v=.tuple ⟨[.int .i64 r.1,.int .i64 r.2]⟩∧St w w8 []):=by
 obtain⟨A1,k2,A4,k5,A7,S1,S0,h3,h6,O0⟩:=zda f1;subst S0;have T0:=z1i i0;subst T0;refine into Tryz.func70 105 _ ?_;unfold z1m at hm;have hS:=St.start w;refine sq<|rg<|nw hS (fun K1 p2 H1 H=>?_);refine rr 2 ?_;refine rn<|sq<|dn 0 mixed 12 [([],4095),([0],4094),([1],4093),([],4095),([2,3],4083),([],4095),([5],4063),([6],4031),([7],3967),([4,8],3823),([9],3583),([10,4,0,1,2,3,4,5,6,7,8,9,10],3071)] H.ext (fun u=>?_);have d0:=H.step (Ext.draw _);refine dr 6 u [0,1,2,5,6,7] ?_;refine dw [0,3,18,23] ?_;refine dL u 3 ((H.bring 0 rfl).box) ?_;refine dl u 8 (At.ext (hE.trans H.ext) S) 5 ?_;obtain⟨m1,E0,hm⟩:=bS hm;refine o1 u 4 (mc u zc2 (z64 (hE.trans d0.ext) (z6z (⟨x0.Memory.Cells,x0.Memory.Free,(⟨x0.Memory.Root.Tag,x0.Memory.Root.At⟩:D.Word),x0.Memory.Redexes⟩:D.Memory) h3 h6) (At.sub S 0 5) i0 E0) (fun m2 q2 j0=>?_));obtain⟨v1,T1,rfl,X⟩:=j0;refine⟨X.ext,?_⟩;have q0:=d0.join X;refine dp u 9 rfl (fun _=>qb) ?_;refine o1 u 10 (mw u q0 (fun L1 r2 J1 L=>?_));refine dr 0 u [11] ?_;refine dw [0,3,6] ?_;refine dd u ?_;refine sq<|rg<|rr 1 ?_;refine qt (qb) ?_;obtain⟨i2,F0,hm⟩:=bS hm;refine ca zf0 (z7v (Ext.refl _) (zd7 (⟨(⟨m1.Agents⟩:D.Net),x0.book,()⟩:D.rewriter) (roOf zb1 (St.ownE (W0:=W) hE (L.bring 1 rfl))) (ty64.ext (hE.trans L.ext) O0)) ((L.bring 0 rfl).box) (zaW (⟨0,1⟩:D.Pair)) F0) (fun n2 s2 k0=>?_);obtain⟨rfl,o0⟩:=k0;have M:=L.join o0;refine rr 9 ?_;refine rn<|sq<|sq<|rg<|rr 2 ?_;refine rn<|ci hm (fun hm=>?_) (fun hm=>?_)
 ·refine sq<|rg<|rr 3 ?_;refine rn<|rt ?_;cases hm;exact⟨_,.cons (.tmp rfl) (.cons (.tmp rfl) .nil),rfl,(M.taken 0)⟩
 ·refine sp<|sq<|dn 0 mixed 12 [([],4095),([0],4094),([1],4093),([],4095),([2,3],4083),([4],4079),([5],4063),([5],4063),([5],4063),([6,4,0,1,2,3,4,5,6],4031),([7,9,0,1,2,3,4,5,6,7,9],3967),([8,10,0,1,2,3,4,5,6,7,8,9,10],3839)] M.ext (fun y=>?_);have e0:=M.step (Ext.draw _);refine dr 9 y [0,1,2] ?_;refine dw [0,3,7,41] ?_;refine dL y 3 ((M.bring 2 rfl).box) ?_;obtain⟨j2,G0,hm⟩:=bS hm;refine o1 y 4 (mc y zeZ (z7z (hE.trans e0.ext) (z6z (⟨x0.Memory.Cells,x0.Memory.Free,(⟨x0.Memory.Root.Tag,x0.Memory.Root.At⟩:D.Word),x0.Memory.Redexes⟩:D.Memory) h3 h6) (At.sub S 0 5) i0 G0) (fun o2 t2 p0=>?_));obtain⟨rfl,Y⟩:=p0;refine⟨Y.ext,?_⟩;have d:=e0.join Y;refine dr 0 y [5,6,7,8,9,10,11] ?_;refine dw [0,7,12,13] ?_;refine dd y ?_;refine sq<|rg<|rr 4 ?_;refine l1 (At.ext (hE.trans d.ext) S) 0 ?_;refine rr 1 ?_;obtain⟨u2,H0,hm⟩:=bS hm;refine ix (hE.trans d.ext) h3 H0 (fun d2 Y0 t0 A0=>?_);obtain⟨y1,U1,B1,V1,U0,M1,N1⟩:=z4 A0;subst U0;refine rr 1 ?_;refine l1 (At.ext (hE.trans d.ext) t0) 4 ?_;refine rr 2 ?_;refine rn<|sq<|sq<|rg<|rr 1 ?_;refine rn<|bk<|sq<|rg<|rr 2 ?_;refine rn<|ci hm (fun hm=>?_) (fun hm=>?_)
  ·refine sq<|rg<|rr 5 ?_;refine rn<|rt ?_;cases hm;exact⟨_,.cons (.tmp rfl) (.cons (.tmp rfl) .nil),rfl,(d.taken 0)⟩
  ·refine sq<|rg<|rr 2 ?_;refine rn<|ci hm (fun hm=>?_) (fun hm=>?_)
   ·refine sq<|rg<|rr 3 ?_;refine rn<|rt ?_;cases hm;exact⟨_,.cons (.tmp rfl) (.cons (.tmp rfl) .nil),rfl,(d.taken 0)⟩
   ·refine sq<|rg<|rr 2 ?_;refine rn<|ci hm (fun hm=>?_) (fun hm=>?_)
    ·refine sq<|rg<|rr 2 ?_;refine rn<|rt ?_;cases hm;exact⟨_,.cons (.tmp rfl) (.cons (.tmp rfl) .nil),rfl,(d.taken 0)⟩
    ·refine sq<|rg<|rr 2 ?_;refine rn<|ci hm (fun hm=>?_) (fun hm=>?_)
     ·refine sq<|rg<|rr 4 ?_;refine l1 (At.ext (hE.trans d.ext) S) 0 ?_;refine rr 1 ?_;obtain⟨v2,J0,hm⟩:=bS hm;refine ix (hE.trans d.ext) h3 J0 (fun e2 a1 u0 B0=>?_);obtain⟨C1,W1,D1,X1,V0,O1,P1⟩:=z4 B0;subst V0;refine rr 1 ?_;refine l1 (At.ext (hE.trans d.ext) u0) 4 ?_;refine rr 4 ?_;refine rn<|rt ?_;cases hm;exact⟨_,.cons (.tmp rfl) (.cons (.tmp rfl) .nil),rfl,(d.taken 0)⟩
     ·refine sq<|rg<|rr 2 ?_;refine rn<|ci hm (fun hm=>?_) (fun hm=>?_)
      ·refine sq<|dn 65536 mixed 17 [([],131071),([0],131070),([1],131069),([2],131067),([],131071),([4],131055),([5],131039),([6],131007),([7],130943),([],131071),([8,9],130303),([10],130047),([11],129023),([3,12],126967),([13],122879),([],131071),([15,14,0,1,2,3,4,5,6,7,8,9,10,11,12,13,14,15],81919)] d.ext (fun h=>?_);have r0:=d.step (Ext.draw _);refine dr 9 h [0,1,2,4,5,6,7,9] ?_;refine dw [85,90,92] ?_;refine dl h 3 (At.ext (hE.trans d.ext) S) 5 ?_;refine dl h 8 (At.ext (hE.trans d.ext) S) 0 ?_;obtain⟨y2,K0,hm⟩:=bS hm;refine dx (hE.trans d.ext) h 10 h3 K0 (fun f2 b1 v0 C0=>?_);obtain⟨E1,Y1,F1,a2,X0,Q1,R1⟩:=z4 C0;subst X0;refine dr 5 h [11] ?_;refine dl h 12 (At.ext (hE.trans d.ext) v0) 2 ?_;obtain⟨u1,L0,hm⟩:=bS hm;refine dx (hE.trans d.ext) h 13 O0 L0 (fun g2 d1 y0 D0=>?_);obtain⟨G1,b2,g0,g1⟩:=z15 D0;subst g0;refine dL h 14 (At.ext (hE.trans d.ext) y0) ?_;refine o1 h 15 (mw h r0 (fun e1 p1 R0 Z=>?_));have a0:=Z.bring 0 rfl;refine o1 h 16 (ms (A:=[]) a0 h 0 (fun s1 z=>?_));refine dd h ?_;refine sq<|dn 0 mixed 9 [([],511),([0],510),([1],509),([2],507),([],511),([4],495),([3,5],471),([6,4,0,1,2,3,4,5,6],447),([7,0,1,2,3,4,5,6,7],511)] z.ext (fun o=>?_);have G:=z.step (Ext.draw _);refine dr 8 o [0] ?_;refine dw [15,98] ?_;refine dl o 1 ((z.bring 0 rfl).box) 0 ?_;refine dr 5 o [2,3] ?_;obtain⟨j1,f0,hm⟩:=bS hm;refine o1 o 4 (mc o zeY (z8t (Ext.refl _) (z8b (⟨u1.Agents⟩:D.Net) (ty40.ext (hE.trans G.ext) g1)) ((G.bring 0 rfl).box) f0) (fun n1 t1 V=>?_));obtain⟨Q0,i1,rfl,O⟩:=V;refine⟨O.ext,?_⟩;have b0:=G.join O;refine dr 0 o [5,6,7,8] ?_;refine dw [4,5] ?_;refine dd o ?_;refine rt ?_;cases hm;exact⟨_,.cons (.tmp rfl) (.cons (.tmp rfl) .nil),rfl,(b0.taken 0)⟩
      ·refine sp<|sq<|rg<|rr 2 ?_;refine rn<|rt ?_;cases hm;exact⟨_,.cons (.tmp rfl) (.cons (.tmp rfl) .nil),rfl,(d.taken 0)⟩

theorem zgi:Enters Tryz.prog 29:=⟨_,_,Tryz.func29,rfl,by kernel_rfl⟩
def z3h (fuel:Nat) (x0:(List D.Net)) (x1:D.Memory) (x2:Int):Option (Int × Int):=((z5C fuel x0 x1 x2).bind fun d=>((d.1).elim (if(d.2 != 0)=true then some (0,d.2) else((idx x1.Redexes x2).bind fun u=>none)) (fun m19=>(if(d.2 != 0)=true then some (0,d.2) else((idx x1.Redexes x2).bind fun o=>((z1m fuel m19 o).bind fun h=>some (h.1,h.2)))))))

theorem z87 {W w:World}(hE:Ext W w){b0:Option Addr}{f0:Nat}{x0:(List D.Net)}{d0:List Value}{x1:D.Memory}{x2:Int}(q0:ty64.ro W [sl b0 x0 f0] x0) (e0:ty33.ro W d0 x1){fuel:Nat}{r:Int × Int}(hm:z3h fuel x0 x1 x2=some r):
  Calls Tryz.prog 29 ⟨[sl b0 x0 f0,.agg ⟨d0⟩,.int .i64 x2]⟩ w (Ret fun v w8=>v=.tuple ⟨[.int .i64 r.1,.int .i64 r.2]⟩∧St w w8 []):=by
 obtain⟨A1,k2,A4,k5,e7,h3,h6⟩:=zp e0;subst e7;refine into Tryz.func29 29 _ ?_;unfold z3h at hm;have hS:=St.start w;refine sq<|rg<|nw hS (fun A0 M0 y0 h=>?_);refine rr 2 ?_;refine rn<|sq<|rg<|rr 1 ?_;refine lN ((h.bring 0 rfl).box) ?_;refine rr 1 ?_;obtain⟨H0,X,hm⟩:=bS hm;refine ca zfZ (z8R (hE.trans h.ext) q0 e0 X) (fun K0 N0 y=>?_)
 rcases y with⟨g0,rfl,z⟩ | ⟨m19,B0,t0,C0,u0,D0,v0,E0,i0,rfl,G,r0⟩
 ·rw [g0,Option.elim_none] at hm;have o:=h.join z;refine rr 5 ?_;refine rn<|sq<|sq<|rg<|rr 2 ?_;refine rn<|ci hm (fun hm=>?_) (fun hm=>?_)
  ·refine sq<|rg<|rr 3 ?_;refine rn<|rt ?_;cases hm;exact⟨_,.cons (.tmp rfl) (.cons (.tmp rfl) .nil),rfl,(o.taken 0)⟩
  ·refine sp<|sq<|rg<|rr 2 ?_;refine l1 ((o.bring 0 rfl).box) 4 ?_;refine rr 1 ?_;obtain⟨P0,Y,hm⟩:=bS hm;refine ix (hE.trans o.ext) h6 Y (fun F0 o0 O V=>?_);have j0:=z1i V;subst j0;refine lN (At.ext (hE.trans o.ext) O) ?_;cases hm
 ·rw [i0,Option.elim_some] at hm;have d:=h.join G;refine rr 5 ?_;refine rn<|sq<|sq<|rg<|rr 2 ?_;refine rn<|ci hm (fun hm=>?_) (fun hm=>?_)
  ·refine sq<|rg<|rr 3 ?_;refine rn<|rt ?_;cases hm;exact⟨_,.cons (.tmp rfl) (.cons (.tmp rfl) .nil),rfl,(d.taken 0)⟩
  ·refine sp<|sq<|rg<|rr 2 ?_;refine l1 ((d.bring 3 rfl).box) 4 ?_;refine rr 1 ?_;obtain⟨Q0,Z,hm⟩:=bS hm;refine ix (hE.trans d.ext) h6 Z (fun G0 p0 S u=>?_);have k0:=z1i u;subst k0;refine lN (At.ext (hE.trans d.ext) S) ?_;obtain⟨J0,a0,hm⟩:=bS hm;refine ca zfY (z7w (Ext.refl _) (zd9 m19 ((d.bring 1 rfl).own) ((d.bring 2 rfl).own) (ty64.ext (hE.trans d.ext) r0)) ((d.bring 0 rfl).box) (ty87.ext (hE.trans d.ext) u) a0) (fun L0 O0 H=>?_);obtain⟨rfl,L⟩:=H;have M:=d.join L;refine rr 4 ?_;refine rn<|rt ?_;cases hm;exact⟨_,.cons (.tmp rfl) (.cons (.tmp rfl) .nil),rfl,(M.taken 0)⟩

theorem zbY:Enters Tryz.prog 156:=⟨_,_,Tryz.func156,rfl,by kernel_rfl⟩
def z6S (fuel:Nat) (t2:Unit):Option Bool:=some true
def z4p (fuel:Nat) (x0:(List Int)) (x1:(List Int)) (s1:Int):Option (Rd (Int) (Unit) (Bool)):=(if(decide (s1<(x0.length:Int)))=true then((idx x0 s1).bind fun d=>((idx x1 s1).bind fun h=>(if(d != h)=true then some (.ret false) else some (.next (w64 (s1+1)))))) else some (.brk ()))
def z3P (fuel:Nat) (x0:(List Int)) (x1:(List Int)):Option (Bool):=(if((x0.length:Int) != (x1.length:Int))=true then some false else((iter (z4p fuel x0 x1) fuel 0).bind fun o=>aft o (z6S fuel)))

theorem laws_eqInt64S_ok {W w:World}(hE:Ext W w){z:Option Addr}{a0:Nat}{x0:(List Int)}{G:Option Addr}{b0:Nat}{x1:(List Int)}(g0:ty80.ro W [sl z x0 a0] x0) (i0:ty80.ro W [sl G x1 b0] x1){fuel:Nat}{r:Bool}(hm:z3P fuel x0 x1=some r):
  Calls Tryz.prog 156 ⟨[sl z x0 a0,sl G x1 b0]⟩ w (Ret fun v w8=>v=.bool r∧St w w8 []):=by
 refine into Tryz.func156 26 _ ?_;unfold z3P at hm;have hS:=St.start w;refine sq<|rg<|rr 1 ?_;refine rn<|sq<|sq<|rg<|rr 5 ?_;refine rn<|ci hm (fun hm=>?_) (fun hm=>?_)
 ·refine sq<|rg<|rr 1 ?_;refine rn<|rt ?_;cases hm;exact⟨_,.cons (.tmp rfl) .nil,rfl,hS⟩
 ·refine sp<|sq<|sq<|rg<|rr 1 ?_;refine rn ?_;obtain⟨j0,O,hm⟩:=bS hm;refine ct (fun(t2:Unit) F w9=>j0=.inl t2∧Ext w w9∧St w w9 []∧F=[]) ?_ ?_
  ·rintro t2 F w7 ⟨S,k0,H,rfl⟩;subst S;rw [zi] at hm;unfold z6S at hm;refine sq<|rg<|rr 1 ?_;refine rn<|rt ?_;cases hm;exact⟨_,.cons (.tmp rfl) .nil,rfl,H⟩
  ·refine bk<|wk [0,1,5] ?_;refine it (fun(s1:Int) F w9=>Ext w w9∧St w w9 []∧F=[(0,sl z x0 a0),(1,sl G x1 b0),(5,.int .i64 s1)]) O ⟨(Ext.refl _),hS,rfl⟩ ?_;rintro s1 F r0 _ o0 ⟨d0,h,rfl⟩ d y;unfold z4p at d;refine sq<|sq<|rg<|rr 4 ?_;refine rn<|ci d (fun d=>?_) (fun d=>?_)
   ·refine sp<|sq<|bk<|sq<|dn 0 mixed 9 [([],511),([],511),([0,1],508),([2],507),([],511),([],511),([4,5],463),([6],447),([3,7],375)] h.ext (fun o=>?_);have u:=h.step (Ext.draw _);refine dr 5 o [0,1,4,5] ?_;obtain⟨t0,Y,d⟩:=bS d;refine dx (hE.trans h.ext) o 2 g0 Y (fun p0 e0 L V=>?_);cases V;refine dl o 3 (At.ext (hE.trans h.ext) L) 0 ?_;obtain⟨u0,Z,d⟩:=bS d;refine dx (hE.trans h.ext) o 6 i0 Z (fun q0 f0 M X=>?_);cases X;refine dl o 7 (At.ext (hE.trans h.ext) M) 0 ?_;refine dr 0 o [8] ?_;refine dw [0,1,5,25] ?_;refine dd o ?_;refine ci d (fun d=>?_) (fun d=>?_)
    ·refine sq<|rg<|rr 1 ?_;refine rn<|rt ?_;cases d;cases y;have hm:some _=some _:=hm;cases hm;exact⟨_,.cons (.tmp rfl) .nil,rfl,u⟩
    ·refine sp<|rg<|rr 3 ?_;refine rn ?_;cases d;exact⟨_,_,rfl,⟨(d0.trans (Ext.draw _)),u,rfl⟩,rfl⟩
   ·refine xt ?_;cases d;exact⟨_,_,⟨y,d0,h,rfl⟩,rfl⟩

theorem zeq:Enters Tryz.prog 183:=⟨_,_,Tryz.func183,rfl,by kernel_rfl⟩
def z5Z (fuel:Nat) (x0:D.Port) (x1:D.Port):Option (Bool):=(if(x0.Agent != x1.Agent)=true then some false else(if(x0.Slot != x1.Slot)=true then some false else some true))

theorem laws_eqPort_ok {W w:World}(hE:Ext W w){h:List Value}{x0:D.Port}{o:List Value}{x1:D.Port}(u:z4s.ro W h x0) (y:z4s.ro W o x1){fuel:Nat}{r:Bool}(hm:z5Z fuel x0 x1=some r):
  Calls Tryz.prog 183 ⟨[.agg ⟨h⟩,.agg ⟨o⟩]⟩ w (Ret fun v w8=>v=.bool r∧St w w8 []):=by
 have e1:=zY u;subst e1;have e2:=zY y;subst e2;refine into Tryz.func183 15 _ ?_;unfold z5Z at hm;have hS:=St.start w;refine sq<|rg<|nw hS (fun g3 w4 e5 z=>?_);refine nw z (fun g7 H G d=>?_);refine rr 1 ?_;refine rn<|sq<|sq<|rg<|rr 1 ?_;refine l1 ((d.bring 1 rfl).box) 0 ?_;refine rr 1 ?_;refine l1 ((d.bring 0 rfl).box) 0 ?_;refine rr 1 ?_;refine rn<|ci hm (fun hm=>?_) (fun hm=>?_)
 ·refine sq<|rg<|rr 1 ?_;refine rn<|rt ?_;cases hm;exact⟨_,.cons (.tmp rfl) .nil,rfl,(d.taken 0)⟩
 ·refine sp<|sq<|sq<|rg<|rr 1 ?_;refine l1 ((d.bring 1 rfl).box) 1 ?_;refine rr 1 ?_;refine l1 ((d.bring 0 rfl).box) 1 ?_;refine rr 1 ?_;refine rn<|ci hm (fun hm=>?_) (fun hm=>?_)
  ·refine sq<|rg<|rr 1 ?_;refine rn<|rt ?_;cases hm;exact⟨_,.cons (.tmp rfl) .nil,rfl,(d.taken 0)⟩
  ·refine sp<|sq<|rg<|rr 1 ?_;refine rn<|rt ?_;cases hm;exact⟨_,.cons (.tmp rfl) .nil,rfl,(d.taken 0)⟩

theorem zeD:Enters Tryz.prog 158:=⟨_,_,Tryz.func158,rfl,by kernel_rfl⟩
def z7b (fuel:Nat) (t2:Unit):Option Bool:=some true
def z4Z (fuel:Nat) (x0:(List D.Port)) (x1:(List D.Port)) (s1:Int):Option (Rd (Int) (Unit) (Bool)):=(if(decide (s1<(x0.length:Int)))=true then((idx x0 s1).bind fun h=>((idx x1 s1).bind fun o=>((z5Z fuel h o).bind fun d=>(if(!d)=true then some (.ret false) else some (.next (w64 (s1+1))))))) else some (.brk ()))
def z5r (fuel:Nat) (x0:(List D.Port)) (x1:(List D.Port)):Option (Bool):=(if((x0.length:Int) != (x1.length:Int))=true then some false else((iter (z4Z fuel x0 x1) fuel 0).bind fun o=>aft o (z7b fuel)))

theorem laws_eqPortS_ok {W w:World}(hE:Ext W w){M:Option Addr}{f0:Nat}{x0:(List D.Port)}{O:Option Addr}{g0:Nat}{x1:(List D.Port)}(q0:z2R.ro W [sl M x0 f0] x0) (r0:z2R.ro W [sl O x1 g0] x1){fuel:Nat}{r:Bool}(hm:z5r fuel x0 x1=some r):
  Calls Tryz.prog 158 ⟨[sl M x0 f0,sl O x1 g0]⟩ w (Ret fun v w8=>v=.bool r∧St w w8 []):=by
 refine into Tryz.func158 27 _ ?_;unfold z5r at hm;have hS:=St.start w;refine sq<|rg<|rr 1 ?_;refine rn<|sq<|sq<|rg<|rr 5 ?_;refine rn<|ci hm (fun hm=>?_) (fun hm=>?_)
 ·refine sq<|rg<|rr 1 ?_;refine rn<|rt ?_;cases hm;exact⟨_,.cons (.tmp rfl) .nil,rfl,hS⟩
 ·refine sp<|sq<|sq<|rg<|rr 1 ?_;refine rn ?_;obtain⟨t0,Z,hm⟩:=bS hm;refine ct (fun(t2:Unit) F w9=>t0=.inl t2∧Ext w w9∧St w w9 []∧F=[]) ?_ ?_
  ·rintro t2 F w7 ⟨a0,u0,V,rfl⟩;subst a0;rw [zi] at hm;unfold z7b at hm;refine sq<|rg<|rr 1 ?_;refine rn<|rt ?_;cases hm;exact⟨_,.cons (.tmp rfl) .nil,rfl,V⟩
  ·refine bk<|wk [0,1,5] ?_;refine it (fun(s1:Int) F w9=>Ext w w9∧St w w9 []∧F=[(0,sl M x0 f0),(1,sl O x1 g0),(5,.int .i64 s1)]) Z ⟨(Ext.refl _),hS,rfl⟩ ?_;rintro s1 F D0 _ v0 ⟨i0,o,rfl⟩ d G;unfold z4Z at d;refine sq<|sq<|rg<|rr 4 ?_;refine rn<|ci d (fun d=>?_) (fun d=>?_)
   ·refine sp<|sq<|bk<|sq<|dn 0 mixed 10 [([],1023),([],1023),([0,1],1020),([2],1019),([],1023),([],1023),([4,5],975),([6],959),([3,7],887),([8],767)] o.ext (fun h=>?_);have y:=o.step (Ext.draw _);refine dr 6 h [0,1,4,5] ?_;obtain⟨F0,b0,d⟩:=bS d;refine dx (hE.trans o.ext) h 2 q0 b0 (fun y0 o0 X H=>?_);have j0:=zY H;subst j0;refine dL h 3 (At.ext (hE.trans o.ext) X) ?_;obtain⟨G0,d0,d⟩:=bS d;refine dx (hE.trans o.ext) h 6 r0 d0 (fun A0 p0 Y L=>?_);have k0:=zY L;subst k0;refine dL h 7 (At.ext (hE.trans o.ext) Y) ?_;obtain⟨B0,e0,d⟩:=bS d;refine o1 h 8 (mc h zeq (laws_eqPort_ok (hE.trans y.ext) H L e0) (fun C0 E0 S=>?_));obtain⟨rfl,u⟩:=S;refine⟨u.ext,?_⟩;have z:=y.join u;refine dr 0 h [9] ?_;refine dw [0,1,5,26] ?_;refine dd h ?_;refine ci d (fun d=>?_) (fun d=>?_)
    ·refine sq<|rg<|rr 1 ?_;refine rn<|rt ?_;cases d;cases G;have hm:some _=some _:=hm;cases hm;exact⟨_,.cons (.tmp rfl) .nil,rfl,z⟩
    ·refine sp<|rg<|rr 3 ?_;refine rn ?_;cases d;exact⟨_,_,rfl,⟨((i0.trans (Ext.draw _)).trans u.ext),z,rfl⟩,rfl⟩
   ·refine xt ?_;cases d;exact⟨_,_,⟨G,i0,o,rfl⟩,rfl⟩

theorem zfN:Enters Tryz.prog 99:=⟨_,_,Tryz.func99,rfl,by kernel_rfl⟩
def z5u (fuel:Nat) (x0:D.Agent) (x1:D.Agent):Option (Bool):=(if(x0.Kind != x1.Kind)=true then some false else(if(x0.Level != x1.Level)=true then some false else(if(x0.Value != x1.Value)=true then some false else((z3P fuel x0.Data x1.Data).bind fun d=>(if(!d)=true then some false else((z5r fuel x0.Ports x1.Ports).bind fun h=>(if(!h)=true then some false else some true)))))))

theorem laws_eqAgent_ok {W w:World}(hE:Ext W w){O:List Value}{x0:D.Agent}{S:List Value}{x1:D.Agent}(X:z6i.ro W O x0) (a0:z6i.ro W S x1){fuel:Nat}{r:Bool}(hm:z5u fuel x0 x1=some r):
  Calls Tryz.prog 99 ⟨[.agg ⟨O⟩,.agg ⟨S⟩]⟩ w (Ret fun v w8=>v=.bool r∧St w w8 []):=by
 obtain⟨A1,k2,A4,k5,e7,h3,h6⟩:=z6 X;subst e7;obtain⟨b0,j0,d0,k0,V,Y,Z⟩:=z6 a0;subst V;refine into Tryz.func99 32 _ ?_;unfold z5u at hm;have hS:=St.start w;refine sq<|rg<|nw hS (fun g0 t0 e0 H=>?_);refine nw H (fun i0 u0 f0 d=>?_);refine rr 1 ?_;refine rn<|sq<|sq<|rg<|rr 1 ?_;refine l1 ((d.bring 1 rfl).box) 0 ?_;refine rr 1 ?_;refine l1 ((d.bring 0 rfl).box) 0 ?_;refine rr 1 ?_;refine rn<|ci hm (fun hm=>?_) (fun hm=>?_)
 ·refine sq<|rg<|rr 1 ?_;refine rn<|rt ?_;cases hm;exact⟨_,.cons (.tmp rfl) .nil,rfl,(d.taken 0)⟩
 ·refine sp<|sq<|sq<|rg<|rr 1 ?_;refine l1 ((d.bring 1 rfl).box) 1 ?_;refine rr 1 ?_;refine l1 ((d.bring 0 rfl).box) 1 ?_;refine rr 1 ?_;refine rn<|ci hm (fun hm=>?_) (fun hm=>?_)
  ·refine sq<|rg<|rr 1 ?_;refine rn<|rt ?_;cases hm;exact⟨_,.cons (.tmp rfl) .nil,rfl,(d.taken 0)⟩
  ·refine sp<|sq<|sq<|rg<|rr 1 ?_;refine l1 ((d.bring 1 rfl).box) 2 ?_;refine rr 1 ?_;refine l1 ((d.bring 0 rfl).box) 2 ?_;refine rr 1 ?_;refine rn<|ci hm (fun hm=>?_) (fun hm=>?_)
   ·refine sq<|rg<|rr 1 ?_;refine rn<|rt ?_;cases hm;exact⟨_,.cons (.tmp rfl) .nil,rfl,(d.taken 0)⟩
   ·refine sp<|sq<|sq<|rg<|rr 1 ?_;refine l1 ((d.bring 1 rfl).box) 3 ?_;refine rr 1 ?_;refine l1 ((d.bring 0 rfl).box) 3 ?_;obtain⟨o0,L,hm⟩:=bS hm;refine ca zbY (laws_eqInt64S_ok (hE.trans d.ext) h3 Y L) (fun q0 v0 u=>?_);obtain⟨rfl,y⟩:=u;have h:=d.join y;refine rr 1 ?_;refine rn<|ci hm (fun hm=>?_) (fun hm=>?_)
    ·refine sq<|rg<|rr 1 ?_;refine rn<|rt ?_;cases hm;exact⟨_,.cons (.tmp rfl) .nil,rfl,(h.taken 0)⟩
    ·refine sp<|sq<|sq<|rg<|rr 1 ?_;refine l1 ((h.bring 1 rfl).box) 4 ?_;refine rr 1 ?_;refine l1 ((h.bring 0 rfl).box) 4 ?_;obtain⟨p0,M,hm⟩:=bS hm;refine ca zeD (laws_eqPortS_ok (hE.trans h.ext) h6 Z M) (fun r0 y0 z=>?_);obtain⟨rfl,G⟩:=z;have o:=h.join G;refine rr 1 ?_;refine rn<|ci hm (fun hm=>?_) (fun hm=>?_)
     ·refine sq<|rg<|rr 1 ?_;refine rn<|rt ?_;cases hm;exact⟨_,.cons (.tmp rfl) .nil,rfl,(o.taken 0)⟩
     ·refine sp<|sq<|rg<|rr 1 ?_;refine rn<|rt ?_;cases hm;exact⟨_,.cons (.tmp rfl) .nil,rfl,(o.taken 0)⟩

theorem zg7:Enters Tryz.prog 52:=⟨_,_,Tryz.func52,rfl,by kernel_rfl⟩
def z6T (fuel:Nat) (t2:Unit):Option Bool:=some true
def z4q (fuel:Nat) (x0:(List D.Agent)) (x1:(List D.Agent)) (s1:Int):Option (Rd (Int) (Unit) (Bool)):=(if(decide (s1<(x0.length:Int)))=true then((idx x0 s1).bind fun h=>((idx x1 s1).bind fun o=>((z5u fuel h o).bind fun d=>(if(!d)=true then some (.ret false) else some (.next (w64 (s1+1))))))) else some (.brk ()))
def z4H (fuel:Nat) (x0:(List D.Agent)) (x1:(List D.Agent)):Option (Bool):=(if((x0.length:Int) != (x1.length:Int))=true then some false else((iter (z4q fuel x0 x1) fuel 0).bind fun o=>aft o (z6T fuel)))

theorem laws_eqAgentS_ok {W w:World}(hE:Ext W w){M:Option Addr}{f0:Nat}{x0:(List D.Agent)}{O:Option Addr}{g0:Nat}{x1:(List D.Agent)}(q0:ty40.ro W [sl M x0 f0] x0) (r0:ty40.ro W [sl O x1 g0] x1){fuel:Nat}{r:Bool}(hm:z4H fuel x0 x1=some r):
  Calls Tryz.prog 52 ⟨[sl M x0 f0,sl O x1 g0]⟩ w (Ret fun v w8=>v=.bool r∧St w w8 []):=by
 refine into Tryz.func52 27 _ ?_;unfold z4H at hm;have hS:=St.start w;refine sq<|rg<|rr 1 ?_;refine rn<|sq<|sq<|rg<|rr 5 ?_;refine rn<|ci hm (fun hm=>?_) (fun hm=>?_)
 ·refine sq<|rg<|rr 1 ?_;refine rn<|rt ?_;cases hm;exact⟨_,.cons (.tmp rfl) .nil,rfl,hS⟩
 ·refine sp<|sq<|sq<|rg<|rr 1 ?_;refine rn ?_;obtain⟨t0,Z,hm⟩:=bS hm;refine ct (fun(t2:Unit) F w9=>t0=.inl t2∧Ext w w9∧St w w9 []∧F=[]) ?_ ?_
  ·rintro t2 F w7 ⟨a0,F0,V,rfl⟩;subst a0;rw [zi] at hm;unfold z6T at hm;refine sq<|rg<|rr 1 ?_;refine rn<|rt ?_;cases hm;exact⟨_,.cons (.tmp rfl) .nil,rfl,V⟩
  ·refine bk<|wk [0,1,5] ?_;refine it (fun(s1:Int) F w9=>Ext w w9∧St w w9 []∧F=[(0,sl M x0 f0),(1,sl O x1 g0),(5,.int .i64 s1)]) Z ⟨(Ext.refl _),hS,rfl⟩ ?_;rintro s1 F Q0 _ L0 ⟨i0,o,rfl⟩ d G;unfold z4q at d;refine sq<|sq<|rg<|rr 4 ?_;refine rn<|ci d (fun d=>?_) (fun d=>?_)
   ·refine sp<|sq<|bk<|sq<|dn 0 mixed 10 [([],1023),([],1023),([0,1],1020),([2],1019),([],1023),([],1023),([4,5],975),([6],959),([3,7],887),([8],767)] o.ext (fun h=>?_);have y:=o.step (Ext.draw _);refine dr 6 h [0,1,4,5] ?_;obtain⟨S0,b0,d⟩:=bS d;refine dx (hE.trans o.ext) h 2 q0 b0 (fun M0 o0 X H=>?_);obtain⟨u0,G0,v0,H0,j0,B0,C0⟩:=z6 H;subst j0;refine dL h 3 (At.ext (hE.trans o.ext) X) ?_;obtain⟨T0,d0,d⟩:=bS d;refine dx (hE.trans o.ext) h 6 r0 d0 (fun N0 p0 Y L=>?_);obtain⟨y0,J0,A0,K0,k0,D0,E0⟩:=z6 L;subst k0;refine dL h 7 (At.ext (hE.trans o.ext) Y) ?_;obtain⟨O0,e0,d⟩:=bS d;refine o1 h 8 (mc h zfN (laws_eqAgent_ok (hE.trans y.ext) H L e0) (fun P0 R0 S=>?_));obtain⟨rfl,u⟩:=S;refine⟨u.ext,?_⟩;have z:=y.join u;refine dr 0 h [9] ?_;refine dw [0,1,5,26] ?_;refine dd h ?_;refine ci d (fun d=>?_) (fun d=>?_)
    ·refine sq<|rg<|rr 1 ?_;refine rn<|rt ?_;cases d;cases G;have hm:some _=some _:=hm;cases hm;exact⟨_,.cons (.tmp rfl) .nil,rfl,z⟩
    ·refine sp<|rg<|rr 3 ?_;refine rn ?_;cases d;exact⟨_,_,rfl,⟨((i0.trans (Ext.draw _)).trans u.ext),z,rfl⟩,rfl⟩
   ·refine xt ?_;cases d;exact⟨_,_,⟨G,i0,o,rfl⟩,rfl⟩

theorem zgo:Enters Tryz.prog 16:=⟨_,_,Tryz.func16,rfl,by kernel_rfl⟩
def z6o (fuel:Nat) (x0:D.Net) (x1:D.Net):Option (Bool):=((z4H fuel x0.Agents x1.Agents).bind fun d=>(if(!d)=true then some false else some true))

theorem laws_eqNet_ok {W w:World}(hE:Ext W w){G:List Value}{x0:D.Net}{H:List Value}{x1:D.Net}(M:ty42.ro W G x0) (O:ty42.ro W H x1){fuel:Nat}{r:Bool}(hm:z6o fuel x0 x1=some r):
  Calls Tryz.prog 16 ⟨[.agg ⟨G⟩,.agg ⟨H⟩]⟩ w (Ret fun v w8=>v=.bool r∧St w w8 []):=by
 obtain⟨A1,k2,e4,h3⟩:=z15 M;subst e4;obtain⟨A5,k6,L,h7⟩:=z15 O;subst L;refine into Tryz.func16 11 _ ?_;unfold z6o at hm;have hS:=St.start w;refine sq<|rg<|nw hS (fun X b0 S y=>?_);refine nw y (fun Y d0 V d=>?_);refine rr 1 ?_;refine rn<|sq<|sq<|rg<|rr 1 ?_;refine l1 ((d.bring 1 rfl).box) 0 ?_;refine rr 1 ?_;refine l1 ((d.bring 0 rfl).box) 0 ?_;obtain⟨Z,z,hm⟩:=bS hm;refine ca zg7 (laws_eqAgentS_ok (hE.trans d.ext) h3 h7 z) (fun a0 e0 o=>?_);obtain⟨rfl,u⟩:=o;have h:=d.join u;refine rr 1 ?_;refine rn<|ci hm (fun hm=>?_) (fun hm=>?_)
 ·refine sq<|rg<|rr 1 ?_;refine rn<|rt ?_;cases hm;exact⟨_,.cons (.tmp rfl) .nil,rfl,(h.taken 0)⟩
 ·refine sp<|sq<|rg<|rr 1 ?_;refine rn<|rt ?_;cases hm;exact⟨_,.cons (.tmp rfl) .nil,rfl,(h.taken 0)⟩

theorem zgh:Enters Tryz.prog 30:=⟨_,_,Tryz.func30,rfl,by kernel_rfl⟩
def z7u (fuel:Nat) (t2:Unit):Option Bool:=some true
def z5B (fuel:Nat) (x0:(List D.Net)) (x1:(List D.Net)) (s1:Int):Option (Rd (Int) (Unit) (Bool)):=(if(decide (s1<(x0.length:Int)))=true then((idx x0 s1).bind fun h=>((idx x1 s1).bind fun o=>((z6o fuel h o).bind fun d=>(if(!d)=true then some (.ret false) else some (.next (w64 (s1+1))))))) else some (.brk ()))
def z61 (fuel:Nat) (x0:(List D.Net)) (x1:(List D.Net)):Option (Bool):=(if((x0.length:Int) != (x1.length:Int))=true then some false else((iter (z5B fuel x0 x1) fuel 0).bind fun o=>aft o (z7u fuel)))

theorem laws_eqNetS_ok {W w:World}(hE:Ext W w){M:Option Addr}{f0:Nat}{x0:(List D.Net)}{O:Option Addr}{g0:Nat}{x1:(List D.Net)}(q0:ty64.ro W [sl M x0 f0] x0) (r0:ty64.ro W [sl O x1 g0] x1){fuel:Nat}{r:Bool}(hm:z61 fuel x0 x1=some r):
  Calls Tryz.prog 30 ⟨[sl M x0 f0,sl O x1 g0]⟩ w (Ret fun v w8=>v=.bool r∧St w w8 []):=by
 refine into Tryz.func30 27 _ ?_;unfold z61 at hm;have hS:=St.start w;refine sq<|rg<|rr 1 ?_;refine rn<|sq<|sq<|rg<|rr 5 ?_;refine rn<|ci hm (fun hm=>?_) (fun hm=>?_)
 ·refine sq<|rg<|rr 1 ?_;refine rn<|rt ?_;cases hm;exact⟨_,.cons (.tmp rfl) .nil,rfl,hS⟩
 ·refine sp<|sq<|sq<|rg<|rr 1 ?_;refine rn ?_;obtain⟨t0,Z,hm⟩:=bS hm;refine ct (fun(t2:Unit) F w9=>t0=.inl t2∧Ext w w9∧St w w9 []∧F=[]) ?_ ?_
  ·rintro t2 F w7 ⟨a0,B0,V,rfl⟩;subst a0;rw [zi] at hm;unfold z7u at hm;refine sq<|rg<|rr 1 ?_;refine rn<|rt ?_;cases hm;exact⟨_,.cons (.tmp rfl) .nil,rfl,V⟩
  ·refine bk<|wk [0,1,5] ?_;refine it (fun(s1:Int) F w9=>Ext w w9∧St w w9 []∧F=[(0,sl M x0 f0),(1,sl O x1 g0),(5,.int .i64 s1)]) Z ⟨(Ext.refl _),hS,rfl⟩ ?_;rintro s1 F K0 _ E0 ⟨i0,o,rfl⟩ d G;unfold z5B at d;refine sq<|sq<|rg<|rr 4 ?_;refine rn<|ci d (fun d=>?_) (fun d=>?_)
   ·refine sp<|sq<|bk<|sq<|dn 0 mixed 10 [([],1023),([],1023),([0,1],1020),([2],1019),([],1023),([],1023),([4,5],975),([6],959),([3,7],887),([8],767)] o.ext (fun h=>?_);have y:=o.step (Ext.draw _);refine dr 6 h [0,1,4,5] ?_;obtain⟨M0,b0,d⟩:=bS d;refine dx (hE.trans o.ext) h 2 q0 b0 (fun F0 o0 X H=>?_);obtain⟨u0,C0,j0,y0⟩:=z15 H;subst j0;refine dL h 3 (At.ext (hE.trans o.ext) X) ?_;obtain⟨N0,d0,d⟩:=bS d;refine dx (hE.trans o.ext) h 6 r0 d0 (fun G0 p0 Y L=>?_);obtain⟨v0,D0,k0,A0⟩:=z15 L;subst k0;refine dL h 7 (At.ext (hE.trans o.ext) Y) ?_;obtain⟨H0,e0,d⟩:=bS d;refine o1 h 8 (mc h zgo (laws_eqNet_ok (hE.trans y.ext) H L e0) (fun J0 L0 S=>?_));obtain⟨rfl,u⟩:=S;refine⟨u.ext,?_⟩;have z:=y.join u;refine dr 0 h [9] ?_;refine dw [0,1,5,26] ?_;refine dd h ?_;refine ci d (fun d=>?_) (fun d=>?_)
    ·refine sq<|rg<|rr 1 ?_;refine rn<|rt ?_;cases d;cases G;have hm:some _=some _:=hm;cases hm;exact⟨_,.cons (.tmp rfl) .nil,rfl,z⟩
    ·refine sp<|rg<|rr 3 ?_;refine rn ?_;cases d;exact⟨_,_,rfl,⟨((i0.trans (Ext.draw _)).trans u.ext),z,rfl⟩,rfl⟩
   ·refine xt ?_;cases d;exact⟨_,_,⟨G,i0,o,rfl⟩,rfl⟩

theorem zcR:Enters Tryz.prog 44:=⟨_,_,Tryz.func44,rfl,by kernel_rfl⟩
def z4Y (fuel:Nat) (x0:D.Word) (x1:D.Word):Option (Bool):=(if(x0.Tag != x1.Tag)=true then some false else(if(x0.At != x1.At)=true then some false else some true))

theorem laws_eqWord_ok {W w:World}(hE:Ext W w){h:List Value}{x0:D.Word}{o:List Value}{x1:D.Word}(u:ty30.ro W h x0) (y:ty30.ro W o x1){fuel:Nat}{r:Bool}(hm:z4Y fuel x0 x1=some r):
  Calls Tryz.prog 44 ⟨[.agg ⟨h⟩,.agg ⟨o⟩]⟩ w (Ret fun v w8=>v=.bool r∧St w w8 []):=by
 have e1:=z21 u;subst e1;have e2:=z21 y;subst e2;refine into Tryz.func44 15 _ ?_;unfold z4Y at hm;have hS:=St.start w;refine sq<|rg<|nw hS (fun g3 w4 e5 z=>?_);refine nw z (fun g7 H G d=>?_);refine rr 1 ?_;refine rn<|sq<|sq<|rg<|rr 1 ?_;refine l1 ((d.bring 1 rfl).box) 0 ?_;refine rr 1 ?_;refine l1 ((d.bring 0 rfl).box) 0 ?_;refine rr 1 ?_;refine rn<|ci hm (fun hm=>?_) (fun hm=>?_)
 ·refine sq<|rg<|rr 1 ?_;refine rn<|rt ?_;cases hm;exact⟨_,.cons (.tmp rfl) .nil,rfl,(d.taken 0)⟩
 ·refine sp<|sq<|sq<|rg<|rr 1 ?_;refine l1 ((d.bring 1 rfl).box) 1 ?_;refine rr 1 ?_;refine l1 ((d.bring 0 rfl).box) 1 ?_;refine rr 1 ?_;refine rn<|ci hm (fun hm=>?_) (fun hm=>?_)
  ·refine sq<|rg<|rr 1 ?_;refine rn<|rt ?_;cases hm;exact⟨_,.cons (.tmp rfl) .nil,rfl,(d.taken 0)⟩
  ·refine sp<|sq<|rg<|rr 1 ?_;refine rn<|rt ?_;cases hm;exact⟨_,.cons (.tmp rfl) .nil,rfl,(d.taken 0)⟩

theorem zeE:Enters Tryz.prog 157:=⟨_,_,Tryz.func157,rfl,by kernel_rfl⟩
def z7a (fuel:Nat) (t2:Unit):Option Bool:=some true
def z4X (fuel:Nat) (x0:(List D.Word)) (x1:(List D.Word)) (s1:Int):Option (Rd (Int) (Unit) (Bool)):=(if(decide (s1<(x0.length:Int)))=true then((idx x0 s1).bind fun h=>((idx x1 s1).bind fun o=>((z4Y fuel h o).bind fun d=>(if(!d)=true then some (.ret false) else some (.next (w64 (s1+1))))))) else some (.brk ()))
def z5q (fuel:Nat) (x0:(List D.Word)) (x1:(List D.Word)):Option (Bool):=(if((x0.length:Int) != (x1.length:Int))=true then some false else((iter (z4X fuel x0 x1) fuel 0).bind fun o=>aft o (z7a fuel)))

theorem laws_eqWordS_ok {W w:World}(hE:Ext W w){M:Option Addr}{f0:Nat}{x0:(List D.Word)}{O:Option Addr}{g0:Nat}{x1:(List D.Word)}(q0:ty81.ro W [sl M x0 f0] x0) (r0:ty81.ro W [sl O x1 g0] x1){fuel:Nat}{r:Bool}(hm:z5q fuel x0 x1=some r):
  Calls Tryz.prog 157 ⟨[sl M x0 f0,sl O x1 g0]⟩ w (Ret fun v w8=>v=.bool r∧St w w8 []):=by
 refine into Tryz.func157 27 _ ?_;unfold z5q at hm;have hS:=St.start w;refine sq<|rg<|rr 1 ?_;refine rn<|sq<|sq<|rg<|rr 5 ?_;refine rn<|ci hm (fun hm=>?_) (fun hm=>?_)
 ·refine sq<|rg<|rr 1 ?_;refine rn<|rt ?_;cases hm;exact⟨_,.cons (.tmp rfl) .nil,rfl,hS⟩
 ·refine sp<|sq<|sq<|rg<|rr 1 ?_;refine rn ?_;obtain⟨t0,Z,hm⟩:=bS hm;refine ct (fun(t2:Unit) F w9=>t0=.inl t2∧Ext w w9∧St w w9 []∧F=[]) ?_ ?_
  ·rintro t2 F w7 ⟨a0,u0,V,rfl⟩;subst a0;rw [zi] at hm;unfold z7a at hm;refine sq<|rg<|rr 1 ?_;refine rn<|rt ?_;cases hm;exact⟨_,.cons (.tmp rfl) .nil,rfl,V⟩
  ·refine bk<|wk [0,1,5] ?_;refine it (fun(s1:Int) F w9=>Ext w w9∧St w w9 []∧F=[(0,sl M x0 f0),(1,sl O x1 g0),(5,.int .i64 s1)]) Z ⟨(Ext.refl _),hS,rfl⟩ ?_;rintro s1 F D0 _ v0 ⟨i0,o,rfl⟩ d G;unfold z4X at d;refine sq<|sq<|rg<|rr 4 ?_;refine rn<|ci d (fun d=>?_) (fun d=>?_)
   ·refine sp<|sq<|bk<|sq<|dn 0 mixed 10 [([],1023),([],1023),([0,1],1020),([2],1019),([],1023),([],1023),([4,5],975),([6],959),([3,7],887),([8],767)] o.ext (fun h=>?_);have y:=o.step (Ext.draw _);refine dr 6 h [0,1,4,5] ?_;obtain⟨F0,b0,d⟩:=bS d;refine dx (hE.trans o.ext) h 2 q0 b0 (fun y0 o0 X H=>?_);have j0:=z21 H;subst j0;refine dL h 3 (At.ext (hE.trans o.ext) X) ?_;obtain⟨G0,d0,d⟩:=bS d;refine dx (hE.trans o.ext) h 6 r0 d0 (fun A0 p0 Y L=>?_);have k0:=z21 L;subst k0;refine dL h 7 (At.ext (hE.trans o.ext) Y) ?_;obtain⟨B0,e0,d⟩:=bS d;refine o1 h 8 (mc h zcR (laws_eqWord_ok (hE.trans y.ext) H L e0) (fun C0 E0 S=>?_));obtain⟨rfl,u⟩:=S;refine⟨u.ext,?_⟩;have z:=y.join u;refine dr 0 h [9] ?_;refine dw [0,1,5,26] ?_;refine dd h ?_;refine ci d (fun d=>?_) (fun d=>?_)
    ·refine sq<|rg<|rr 1 ?_;refine rn<|rt ?_;cases d;cases G;have hm:some _=some _:=hm;cases hm;exact⟨_,.cons (.tmp rfl) .nil,rfl,z⟩
    ·refine sp<|rg<|rr 3 ?_;refine rn ?_;cases d;exact⟨_,_,rfl,⟨((i0.trans (Ext.draw _)).trans u.ext),z,rfl⟩,rfl⟩
   ·refine xt ?_;cases d;exact⟨_,_,⟨G,i0,o,rfl⟩,rfl⟩

theorem zfR:Enters Tryz.prog 83:=⟨_,_,Tryz.func83,rfl,by kernel_rfl⟩
def z62 (fuel:Nat) (x0:D.Cell) (x1:D.Cell):Option (Bool):=(if(x0.Kind != x1.Kind)=true then some false else(if(x0.Level != x1.Level)=true then some false else(if(x0.Value != x1.Value)=true then some false else((z3P fuel x0.Data x1.Data).bind fun d=>(if(!d)=true then some false else((z5q fuel x0.Words x1.Words).bind fun h=>(if(!h)=true then some false else some true)))))))

theorem laws_eqCell_ok {W w:World}(hE:Ext W w){O:List Value}{x0:D.Cell}{S:List Value}{x1:D.Cell}(X:ty83.ro W O x0) (a0:ty83.ro W S x1){fuel:Nat}{r:Bool}(hm:z62 fuel x0 x1=some r):
  Calls Tryz.prog 83 ⟨[.agg ⟨O⟩,.agg ⟨S⟩]⟩ w (Ret fun v w8=>v=.bool r∧St w w8 []):=by
 obtain⟨A1,k2,A4,k5,e7,h3,h6⟩:=z4 X;subst e7;obtain⟨b0,j0,d0,k0,V,Y,Z⟩:=z4 a0;subst V;refine into Tryz.func83 32 _ ?_;unfold z62 at hm;have hS:=St.start w;refine sq<|rg<|nw hS (fun g0 t0 e0 H=>?_);refine nw H (fun i0 u0 f0 d=>?_);refine rr 1 ?_;refine rn<|sq<|sq<|rg<|rr 1 ?_;refine l1 ((d.bring 1 rfl).box) 0 ?_;refine rr 1 ?_;refine l1 ((d.bring 0 rfl).box) 0 ?_;refine rr 1 ?_;refine rn<|ci hm (fun hm=>?_) (fun hm=>?_)
 ·refine sq<|rg<|rr 1 ?_;refine rn<|rt ?_;cases hm;exact⟨_,.cons (.tmp rfl) .nil,rfl,(d.taken 0)⟩
 ·refine sp<|sq<|sq<|rg<|rr 1 ?_;refine l1 ((d.bring 1 rfl).box) 1 ?_;refine rr 1 ?_;refine l1 ((d.bring 0 rfl).box) 1 ?_;refine rr 1 ?_;refine rn<|ci hm (fun hm=>?_) (fun hm=>?_)
  ·refine sq<|rg<|rr 1 ?_;refine rn<|rt ?_;cases hm;exact⟨_,.cons (.tmp rfl) .nil,rfl,(d.taken 0)⟩
  ·refine sp<|sq<|sq<|rg<|rr 1 ?_;refine l1 ((d.bring 1 rfl).box) 2 ?_;refine rr 1 ?_;refine l1 ((d.bring 0 rfl).box) 2 ?_;refine rr 1 ?_;refine rn<|ci hm (fun hm=>?_) (fun hm=>?_)
   ·refine sq<|rg<|rr 1 ?_;refine rn<|rt ?_;cases hm;exact⟨_,.cons (.tmp rfl) .nil,rfl,(d.taken 0)⟩
   ·refine sp<|sq<|sq<|rg<|rr 1 ?_;refine l1 ((d.bring 1 rfl).box) 3 ?_;refine rr 1 ?_;refine l1 ((d.bring 0 rfl).box) 3 ?_;obtain⟨o0,L,hm⟩:=bS hm;refine ca zbY (laws_eqInt64S_ok (hE.trans d.ext) h3 Y L) (fun q0 v0 u=>?_);obtain⟨rfl,y⟩:=u;have h:=d.join y;refine rr 1 ?_;refine rn<|ci hm (fun hm=>?_) (fun hm=>?_)
    ·refine sq<|rg<|rr 1 ?_;refine rn<|rt ?_;cases hm;exact⟨_,.cons (.tmp rfl) .nil,rfl,(h.taken 0)⟩
    ·refine sp<|sq<|sq<|rg<|rr 1 ?_;refine l1 ((h.bring 1 rfl).box) 4 ?_;refine rr 1 ?_;refine l1 ((h.bring 0 rfl).box) 4 ?_;obtain⟨p0,M,hm⟩:=bS hm;refine ca zeE (laws_eqWordS_ok (hE.trans h.ext) h6 Z M) (fun r0 y0 z=>?_);obtain⟨rfl,G⟩:=z;have o:=h.join G;refine rr 1 ?_;refine rn<|ci hm (fun hm=>?_) (fun hm=>?_)
     ·refine sq<|rg<|rr 1 ?_;refine rn<|rt ?_;cases hm;exact⟨_,.cons (.tmp rfl) .nil,rfl,(o.taken 0)⟩
     ·refine sp<|sq<|rg<|rr 1 ?_;refine rn<|rt ?_;cases hm;exact⟨_,.cons (.tmp rfl) .nil,rfl,(o.taken 0)⟩

theorem zg9:Enters Tryz.prog 43:=⟨_,_,Tryz.func43,rfl,by kernel_rfl⟩
def z7d (fuel:Nat) (t2:Unit):Option Bool:=some true
def z51 (fuel:Nat) (x0:(List D.Cell)) (x1:(List D.Cell)) (s1:Int):Option (Rd (Int) (Unit) (Bool)):=(if(decide (s1<(x0.length:Int)))=true then((idx x0 s1).bind fun h=>((idx x1 s1).bind fun o=>((z62 fuel h o).bind fun d=>(if(!d)=true then some (.ret false) else some (.next (w64 (s1+1))))))) else some (.brk ()))
def z5t (fuel:Nat) (x0:(List D.Cell)) (x1:(List D.Cell)):Option (Bool):=(if((x0.length:Int) != (x1.length:Int))=true then some false else((iter (z51 fuel x0 x1) fuel 0).bind fun o=>aft o (z7d fuel)))

theorem laws_eqCellS_ok {W w:World}(hE:Ext W w){M:Option Addr}{f0:Nat}{x0:(List D.Cell)}{O:Option Addr}{g0:Nat}{x1:(List D.Cell)}(q0:ty29.ro W [sl M x0 f0] x0) (r0:ty29.ro W [sl O x1 g0] x1){fuel:Nat}{r:Bool}(hm:z5t fuel x0 x1=some r):
  Calls Tryz.prog 43 ⟨[sl M x0 f0,sl O x1 g0]⟩ w (Ret fun v w8=>v=.bool r∧St w w8 []):=by
 refine into Tryz.func43 27 _ ?_;unfold z5t at hm;have hS:=St.start w;refine sq<|rg<|rr 1 ?_;refine rn<|sq<|sq<|rg<|rr 5 ?_;refine rn<|ci hm (fun hm=>?_) (fun hm=>?_)
 ·refine sq<|rg<|rr 1 ?_;refine rn<|rt ?_;cases hm;exact⟨_,.cons (.tmp rfl) .nil,rfl,hS⟩
 ·refine sp<|sq<|sq<|rg<|rr 1 ?_;refine rn ?_;obtain⟨t0,Z,hm⟩:=bS hm;refine ct (fun(t2:Unit) F w9=>t0=.inl t2∧Ext w w9∧St w w9 []∧F=[]) ?_ ?_
  ·rintro t2 F w7 ⟨a0,F0,V,rfl⟩;subst a0;rw [zi] at hm;unfold z7d at hm;refine sq<|rg<|rr 1 ?_;refine rn<|rt ?_;cases hm;exact⟨_,.cons (.tmp rfl) .nil,rfl,V⟩
  ·refine bk<|wk [0,1,5] ?_;refine it (fun(s1:Int) F w9=>Ext w w9∧St w w9 []∧F=[(0,sl M x0 f0),(1,sl O x1 g0),(5,.int .i64 s1)]) Z ⟨(Ext.refl _),hS,rfl⟩ ?_;rintro s1 F Q0 _ L0 ⟨i0,o,rfl⟩ d G;unfold z51 at d;refine sq<|sq<|rg<|rr 4 ?_;refine rn<|ci d (fun d=>?_) (fun d=>?_)
   ·refine sp<|sq<|bk<|sq<|dn 0 mixed 10 [([],1023),([],1023),([0,1],1020),([2],1019),([],1023),([],1023),([4,5],975),([6],959),([3,7],887),([8],767)] o.ext (fun h=>?_);have y:=o.step (Ext.draw _);refine dr 6 h [0,1,4,5] ?_;obtain⟨S0,b0,d⟩:=bS d;refine dx (hE.trans o.ext) h 2 q0 b0 (fun M0 o0 X H=>?_);obtain⟨u0,G0,v0,H0,j0,B0,C0⟩:=z4 H;subst j0;refine dL h 3 (At.ext (hE.trans o.ext) X) ?_;obtain⟨T0,d0,d⟩:=bS d;refine dx (hE.trans o.ext) h 6 r0 d0 (fun N0 p0 Y L=>?_);obtain⟨y0,J0,A0,K0,k0,D0,E0⟩:=z4 L;subst k0;refine dL h 7 (At.ext (hE.trans o.ext) Y) ?_;obtain⟨O0,e0,d⟩:=bS d;refine o1 h 8 (mc h zfR (laws_eqCell_ok (hE.trans y.ext) H L e0) (fun P0 R0 S=>?_));obtain⟨rfl,u⟩:=S;refine⟨u.ext,?_⟩;have z:=y.join u;refine dr 0 h [9] ?_;refine dw [0,1,5,26] ?_;refine dd h ?_;refine ci d (fun d=>?_) (fun d=>?_)
    ·refine sq<|rg<|rr 1 ?_;refine rn<|rt ?_;cases d;cases G;have hm:some _=some _:=hm;cases hm;exact⟨_,.cons (.tmp rfl) .nil,rfl,z⟩
    ·refine sp<|rg<|rr 3 ?_;refine rn ?_;cases d;exact⟨_,_,rfl,⟨((i0.trans (Ext.draw _)).trans u.ext),z,rfl⟩,rfl⟩
   ·refine xt ?_;cases d;exact⟨_,_,⟨G,i0,o,rfl⟩,rfl⟩

theorem zfQ:Enters Tryz.prog 84:=⟨_,_,Tryz.func84,rfl,by kernel_rfl⟩
def z60 (fuel:Nat) (x0:D.Pair) (x1:D.Pair):Option (Bool):=(if(x0.A != x1.A)=true then some false else(if(x0.B != x1.B)=true then some false else some true))

theorem laws_eqPair_ok {W w:World}(hE:Ext W w){h:List Value}{x0:D.Pair}{o:List Value}{x1:D.Pair}(u:ty87.ro W h x0) (y:ty87.ro W o x1){fuel:Nat}{r:Bool}(hm:z60 fuel x0 x1=some r):
  Calls Tryz.prog 84 ⟨[.agg ⟨h⟩,.agg ⟨o⟩]⟩ w (Ret fun v w8=>v=.bool r∧St w w8 []):=by
 have e1:=z1i u;subst e1;have e2:=z1i y;subst e2;refine into Tryz.func84 15 _ ?_;unfold z60 at hm;have hS:=St.start w;refine sq<|rg<|nw hS (fun g3 w4 e5 z=>?_);refine nw z (fun g7 H G d=>?_);refine rr 1 ?_;refine rn<|sq<|sq<|rg<|rr 1 ?_;refine l1 ((d.bring 1 rfl).box) 0 ?_;refine rr 1 ?_;refine l1 ((d.bring 0 rfl).box) 0 ?_;refine rr 1 ?_;refine rn<|ci hm (fun hm=>?_) (fun hm=>?_)
 ·refine sq<|rg<|rr 1 ?_;refine rn<|rt ?_;cases hm;exact⟨_,.cons (.tmp rfl) .nil,rfl,(d.taken 0)⟩
 ·refine sp<|sq<|sq<|rg<|rr 1 ?_;refine l1 ((d.bring 1 rfl).box) 1 ?_;refine rr 1 ?_;refine l1 ((d.bring 0 rfl).box) 1 ?_;refine rr 1 ?_;refine rn<|ci hm (fun hm=>?_) (fun hm=>?_)
  ·refine sq<|rg<|rr 1 ?_;refine rn<|rt ?_;cases hm;exact⟨_,.cons (.tmp rfl) .nil,rfl,(d.taken 0)⟩
  ·refine sp<|sq<|rg<|rr 1 ?_;refine rn<|rt ?_;cases hm;exact⟨_,.cons (.tmp rfl) .nil,rfl,(d.taken 0)⟩

theorem zg8:Enters Tryz.prog 45:=⟨_,_,Tryz.func45,rfl,by kernel_rfl⟩
def z7c (fuel:Nat) (t2:Unit):Option Bool:=some true
def z50 (fuel:Nat) (x0:(List D.Pair)) (x1:(List D.Pair)) (s1:Int):Option (Rd (Int) (Unit) (Bool)):=(if(decide (s1<(x0.length:Int)))=true then((idx x0 s1).bind fun h=>((idx x1 s1).bind fun o=>((z60 fuel h o).bind fun d=>(if(!d)=true then some (.ret false) else some (.next (w64 (s1+1))))))) else some (.brk ()))
def z5s (fuel:Nat) (x0:(List D.Pair)) (x1:(List D.Pair)):Option (Bool):=(if((x0.length:Int) != (x1.length:Int))=true then some false else((iter (z50 fuel x0 x1) fuel 0).bind fun o=>aft o (z7c fuel)))

theorem laws_eqPairS_ok {W w:World}(hE:Ext W w){M:Option Addr}{f0:Nat}{x0:(List D.Pair)}{O:Option Addr}{g0:Nat}{x1:(List D.Pair)}(q0:ty31.ro W [sl M x0 f0] x0) (r0:ty31.ro W [sl O x1 g0] x1){fuel:Nat}{r:Bool}(hm:z5s fuel x0 x1=some r):
  Calls Tryz.prog 45 ⟨[sl M x0 f0,sl O x1 g0]⟩ w (Ret fun v w8=>v=.bool r∧St w w8 []):=by
 refine into Tryz.func45 27 _ ?_;unfold z5s at hm;have hS:=St.start w;refine sq<|rg<|rr 1 ?_;refine rn<|sq<|sq<|rg<|rr 5 ?_;refine rn<|ci hm (fun hm=>?_) (fun hm=>?_)
 ·refine sq<|rg<|rr 1 ?_;refine rn<|rt ?_;cases hm;exact⟨_,.cons (.tmp rfl) .nil,rfl,hS⟩
 ·refine sp<|sq<|sq<|rg<|rr 1 ?_;refine rn ?_;obtain⟨t0,Z,hm⟩:=bS hm;refine ct (fun(t2:Unit) F w9=>t0=.inl t2∧Ext w w9∧St w w9 []∧F=[]) ?_ ?_
  ·rintro t2 F w7 ⟨a0,u0,V,rfl⟩;subst a0;rw [zi] at hm;unfold z7c at hm;refine sq<|rg<|rr 1 ?_;refine rn<|rt ?_;cases hm;exact⟨_,.cons (.tmp rfl) .nil,rfl,V⟩
  ·refine bk<|wk [0,1,5] ?_;refine it (fun(s1:Int) F w9=>Ext w w9∧St w w9 []∧F=[(0,sl M x0 f0),(1,sl O x1 g0),(5,.int .i64 s1)]) Z ⟨(Ext.refl _),hS,rfl⟩ ?_;rintro s1 F D0 _ v0 ⟨i0,o,rfl⟩ d G;unfold z50 at d;refine sq<|sq<|rg<|rr 4 ?_;refine rn<|ci d (fun d=>?_) (fun d=>?_)
   ·refine sp<|sq<|bk<|sq<|dn 0 mixed 10 [([],1023),([],1023),([0,1],1020),([2],1019),([],1023),([],1023),([4,5],975),([6],959),([3,7],887),([8],767)] o.ext (fun h=>?_);have y:=o.step (Ext.draw _);refine dr 6 h [0,1,4,5] ?_;obtain⟨F0,b0,d⟩:=bS d;refine dx (hE.trans o.ext) h 2 q0 b0 (fun y0 o0 X H=>?_);have j0:=z1i H;subst j0;refine dL h 3 (At.ext (hE.trans o.ext) X) ?_;obtain⟨G0,d0,d⟩:=bS d;refine dx (hE.trans o.ext) h 6 r0 d0 (fun A0 p0 Y L=>?_);have k0:=z1i L;subst k0;refine dL h 7 (At.ext (hE.trans o.ext) Y) ?_;obtain⟨B0,e0,d⟩:=bS d;refine o1 h 8 (mc h zfQ (laws_eqPair_ok (hE.trans y.ext) H L e0) (fun C0 E0 S=>?_));obtain⟨rfl,u⟩:=S;refine⟨u.ext,?_⟩;have z:=y.join u;refine dr 0 h [9] ?_;refine dw [0,1,5,26] ?_;refine dd h ?_;refine ci d (fun d=>?_) (fun d=>?_)
    ·refine sq<|rg<|rr 1 ?_;refine rn<|rt ?_;cases d;cases G;have hm:some _=some _:=hm;cases hm;exact⟨_,.cons (.tmp rfl) .nil,rfl,z⟩
    ·refine sp<|rg<|rr 3 ?_;refine rn ?_;cases d;exact⟨_,_,rfl,⟨((i0.trans (Ext.draw _)).trans u.ext),z,rfl⟩,rfl⟩
   ·refine xt ?_;cases d;exact⟨_,_,⟨G,i0,o,rfl⟩,rfl⟩

theorem zgp:Enters Tryz.prog 11:=⟨_,_,Tryz.func11,rfl,by kernel_rfl⟩
def z4G (fuel:Nat) (x0:D.Memory) (x1:D.Memory):Option (Bool):=((z5t fuel x0.Cells x1.Cells).bind fun d=>(if(!d)=true then some false else(if(x0.Free != x1.Free)=true then some false else((z4Y fuel x0.Root x1.Root).bind fun h=>(if(!h)=true then some false else((z5s fuel x0.Redexes x1.Redexes).bind fun o=>(if(!o)=true then some false else some true)))))))

theorem laws_eqMemory_ok {W w:World}(hE:Ext W w){Y:List Value}{x0:D.Memory}{Z:List Value}{x1:D.Memory}(b0:ty33.ro W Y x0) (f0:ty33.ro W Z x1){fuel:Nat}{r:Bool}(hm:z4G fuel x0 x1=some r):
  Calls Tryz.prog 11 ⟨[.agg ⟨Y⟩,.agg ⟨Z⟩]⟩ w (Ret fun v w8=>v=.bool r∧St w w8 []):=by
 obtain⟨A1,k2,A4,k5,e7,h3,h6⟩:=zp b0;subst e7;obtain⟨g0,q0,i0,r0,a0,d0,e0⟩:=zp f0;subst a0;refine into Tryz.func11 28 _ ?_;unfold z4G at hm;have hS:=St.start w;refine sq<|rg<|nw hS (fun o0 C0 j0 O=>?_);refine nw O (fun p0 D0 k0 o=>?_);refine rr 1 ?_;refine rn<|sq<|sq<|rg<|rr 1 ?_;refine l1 ((o.bring 1 rfl).box) 0 ?_;refine rr 1 ?_;refine l1 ((o.bring 0 rfl).box) 0 ?_;obtain⟨t0,S,hm⟩:=bS hm;refine ca zg9 (laws_eqCellS_ok (hE.trans o.ext) h3 d0 S) (fun y0 E0 y=>?_);obtain⟨rfl,z⟩:=y;have d:=o.join z;refine rr 1 ?_;refine rn<|ci hm (fun hm=>?_) (fun hm=>?_)
 ·refine sq<|rg<|rr 1 ?_;refine rn<|rt ?_;cases hm;exact⟨_,.cons (.tmp rfl) .nil,rfl,(d.taken 0)⟩
 ·refine sp<|sq<|sq<|rg<|rr 1 ?_;refine l1 ((d.bring 1 rfl).box) 1 ?_;refine rr 1 ?_;refine l1 ((d.bring 0 rfl).box) 1 ?_;refine rr 1 ?_;refine rn<|ci hm (fun hm=>?_) (fun hm=>?_)
  ·refine sq<|rg<|rr 1 ?_;refine rn<|rt ?_;cases hm;exact⟨_,.cons (.tmp rfl) .nil,rfl,(d.taken 0)⟩
  ·refine sp<|sq<|sq<|rg<|rr 1 ?_;refine lN (At.sub ((d.bring 1 rfl).box) 2 2) ?_;refine rr 1 ?_;refine lN (At.sub ((d.bring 0 rfl).box) 2 2) ?_;obtain⟨u0,V,hm⟩:=bS hm;refine ca zcR (laws_eqWord_ok (hE.trans d.ext) (z72 x0.Root) (z72 x1.Root) V) (fun A0 F0 G=>?_);obtain⟨rfl,H⟩:=G;have h:=d.join H;refine rr 1 ?_;refine rn<|ci hm (fun hm=>?_) (fun hm=>?_)
   ·refine sq<|rg<|rr 1 ?_;refine rn<|rt ?_;cases hm;exact⟨_,.cons (.tmp rfl) .nil,rfl,(h.taken 0)⟩
   ·refine sp<|sq<|sq<|rg<|rr 1 ?_;refine l1 ((h.bring 1 rfl).box) 4 ?_;refine rr 1 ?_;refine l1 ((h.bring 0 rfl).box) 4 ?_;obtain⟨v0,X,hm⟩:=bS hm;refine ca zg8 (laws_eqPairS_ok (hE.trans h.ext) h6 e0 X) (fun B0 G0 L=>?_);obtain⟨rfl,M⟩:=L;have u:=h.join M;refine rr 1 ?_;refine rn<|ci hm (fun hm=>?_) (fun hm=>?_)
    ·refine sq<|rg<|rr 1 ?_;refine rn<|rt ?_;cases hm;exact⟨_,.cons (.tmp rfl) .nil,rfl,(u.taken 0)⟩
    ·refine sp<|sq<|rg<|rr 1 ?_;refine rn<|rt ?_;cases hm;exact⟨_,.cons (.tmp rfl) .nil,rfl,(u.taken 0)⟩

def z14 (fuel:Nat) (x0:(List D.Net)) (x1:D.Memory) (u:(List D.Net)) (y:D.Memory) (G:Bool):Option Bool:=(if G=true then some false else((z3Y fuel x0).bind fun z=>((z61 fuel u z).bind fun d=>(if(!d)=true then some false else((z2G fuel x1).bind fun h=>((z4G fuel y h).bind fun o=>(if(!o)=true then some false else some true)))))))
def z1L (fuel:Nat) (x0:(List D.Net)) (x1:D.Memory) (x2:Int):Option (Bool):=((z5X fuel x0 1048576).bind fun o=>(if(decide (o<0))=true then some true else((z4E fuel x1 o).bind fun z=>(if(decide (z<0))=true then some true else((z3Y fuel x0).bind fun G=>((z2G fuel x1).bind fun H=>((z3b fuel G H x2).bind fun u=>((z3Y fuel x0).bind fun d=>((z2G fuel x1).bind fun h=>((z3h fuel d h x2).bind fun y=>(if(y.1 != u.1)=true then z14 fuel x0 x1 d h true else z14 fuel x0 x1 d h (y.2 != u.2))))))))))))

theorem laws_FnExactCellsToStep_ok {W w:World}(hE:Ext W w){C0:Option Addr}{g1:Nat}{x0:(List D.Net)}{t1:List Value}{x1:D.Memory}{x2:Int}(B0:ty60.ro W [sl C0 x0 g1] x0) (a0:ty27.ro W t1 x1){fuel:Nat}{r:Bool}(hm:z1L fuel x0 x1 x2=some r):
  Calls Tryz.prog 6 ⟨[sl C0 x0 g1,.agg ⟨t1⟩,.int .i64 x2]⟩ w (Ret fun v w8=>v=.bool r∧St w w8 []):=by
 obtain⟨A1,k2,A4,k5,e7,h3,h6⟩:=z9m a0;subst e7;refine into Tryz.func6 62 _ ?_;unfold z1L at hm;have hS:=St.start w;refine sq<|rg<|nw hS (fun u1 B2 d2 p0=>?_);refine rr 1 ?_;refine rn<|sq<|rg<|rr 1 ?_;refine rn<|sq<|rg<|rr 2 ?_;obtain⟨j2,U0,hm⟩:=bS hm;refine ca zgk (laws_szNetS_ok (hE.trans p0.ext) B0 U0) (fun p2 C2 D0=>?_);obtain⟨rfl,E0⟩:=D0;have H:=p0.join E0;refine rr 1 ?_;refine rn<|sq<|sq<|rg<|rr 2 ?_;refine rn<|ci hm (fun hm=>?_) (fun hm=>?_)
 ·refine sq<|rg<|rr 1 ?_;refine rn<|rt ?_;cases hm;exact⟨_,.cons (.tmp rfl) .nil,rfl,(H.taken 0)⟩
 ·refine sp<|sq<|rg<|lN ((H.bring 0 rfl).box) ?_;refine rr 1 ?_;obtain⟨m2,V0,hm⟩:=bS hm;refine ca zgL (laws_szMemory_ok (hE.trans H.ext) a0 V0) (fun q2 D2 F0=>?_);obtain⟨rfl,G0⟩:=F0;have L:=H.join G0;refine rr 1 ?_;refine rn<|sq<|sq<|rg<|rr 2 ?_;refine rn<|ci hm (fun hm=>?_) (fun hm=>?_)
  ·refine sq<|rg<|rr 1 ?_;refine rn<|rt ?_;cases hm;exact⟨_,.cons (.tmp rfl) .nil,rfl,(L.taken 0)⟩
  ·refine sp<|sq<|dn 0 mixed 11 [([],2047),([0],2046),([],2047),([2,1],2043),([],2047),([1,3,4,3],2021),([5],2015),([6],1983),([6],1983),([7,5,0,1,2,3,4,5,6,7],1919),([8,9,0,1,2,3,4,5,6,7,8,9],1791)] L.ext (fun h=>?_);have q0:=L.step (Ext.draw _);refine dr 9 h [0,4] ?_;refine dw [0,2,4,25,29] ?_;refine dL h 2 ((L.bring 0 rfl).box) ?_;obtain⟨n2,X0,hm⟩:=bS hm;refine o1 h 1 (mc h zaL (laws_toNetS_ok (hE.trans q0.ext) B0 X0) (fun r2 E2 H0=>?_));obtain⟨Y1,f2,rfl,j0⟩:=H0;refine⟨j0.ext,?_⟩;have r0:=q0.join j0;obtain⟨N1,Y0,hm⟩:=bS hm;refine o1 h 3 (mc h zcv (laws_toMemory_ok (hE.trans r0.ext) a0 Y0) (fun s2 F2 J0=>?_));obtain⟨a2,g2,b2,i2,rfl,k0⟩:=J0;refine⟨k0.ext,?_⟩;have M:=r0.join k0;obtain⟨O1,a1,hm⟩:=bS hm;refine o1 h 5 (mc h zgj (z82 (Ext.refl _) ((M.bring 2 rfl).own) (z6z N1 ((M.bring 0 rfl).own) ((M.bring 1 rfl).own)) a1) (fun t2 G2 K0=>?_));obtain⟨rfl,o0⟩:=K0;refine⟨o0.ext,?_⟩;have t0:=M.join o0;refine dr 0 h [6,7,8,9,10] ?_;refine dw [0,2,4,8,9] ?_;refine dd h ?_;refine sq<|rg<|rr 1 ?_;obtain⟨j1,b1,hm⟩:=bS hm;refine ca zaL (laws_toNetS_ok (hE.trans t0.ext) B0 b1) (fun u2 H2 L0=>?_);obtain⟨n1,y1,rfl,M0⟩:=L0;have Y:=t0.join M0;refine rr 1 ?_;refine rn<|sq<|rg<|lN ((Y.bring 4 rfl).box) ?_;obtain⟨G,d1,hm⟩:=bS hm;refine ca zcv (laws_toMemory_ok (hE.trans Y.ext) a0 d1) (fun v2 J2 N0=>?_);obtain⟨p1,B1,s1,C1,rfl,O0⟩:=N0;have R0:=Y.join O0;refine nw R0 (fun v1 K2 e2 S0=>?_);have T0:=S0.bring 0 rfl;refine so (A:=[]) T0 0 (fun L2 z=>?_);refine rn<|sq<|rg<|rr 1 ?_;refine lN ((z.bring 0 rfl).box) ?_;refine rr 1 ?_;obtain⟨P1,e1,hm⟩:=bS hm;refine ca zgi (z87 (Ext.refl _) ((z.bring 3 rfl).own) (z6z G ((z.bring 1 rfl).own) ((z.bring 2 rfl).own)) e1) (fun y2 X1 P0=>?_);obtain⟨rfl,Q0⟩:=P0;have u0:=z.join Q0;refine rr 5 ?_;refine rn<|sq<|sq<|ct (fun(m1:Bool) F w9=>z14 fuel x0 x1 j1 G m1=some r∧Ext X1 w9∧St w w9 [Box v1 [sl p1 G.Cells B1,.int .i64 G.Free,.int .i64 G.Root.Tag,.int .i64 G.Root.At,sl s1 G.Redexes C1] 33,ow ty29 p1 G.Cells B1,ow ty31 s1 G.Redexes C1,ow ty64 n1 j1 y1,Box u1 [sl A1 x1.Cells k2,.int .i64 x1.Free,.int .i64 x1.Root.Tag,.int .i64 x1.Root.At,sl A4 x1.Redexes k5] 27]∧F=[(0,sl C0 x0 g1),(4,.pointer (some ⟨u1,0,none⟩)),(10,sl n1 j1 y1),(11,.pointer (some ⟨v1,0,none⟩)),(51,.bool m1)]) ?_ ?_
   ·rintro m1 F M2 ⟨hm,G1,Z,rfl⟩;unfold z14 at hm;refine ci hm (fun hm=>?_) (fun hm=>?_)
    ·refine sq<|rg<|rr 1 ?_;refine rn<|rt ?_;cases hm;exact⟨_,.cons (.tmp rfl) .nil,rfl,(Z.taken 0)⟩
    ·refine sp<|sq<|sq<|rg<|rr 2 ?_;obtain⟨o2,f1,hm⟩:=bS hm;refine ca zaL (laws_toNetS_ok (hE.trans Z.ext) B0 f1) (fun A2 T1 b0=>?_);obtain⟨D1,H1,rfl,d0⟩:=b0;have y:=Z.join d0;obtain⟨L1,v0,hm⟩:=bS hm;refine ca zgh (laws_eqNetS_ok (Ext.refl _) ((y.bring 4 rfl).own) ((y.bring 0 rfl).own) v0) (fun Q1 U1 e0=>?_);obtain⟨rfl,f0⟩:=e0;have o:=y.join f0;refine rr 1 ?_;refine rn<|ci hm (fun hm=>?_) (fun hm=>?_)
     ·refine sq<|rg<|rr 1 ?_;refine rn<|rt ?_;cases hm;exact⟨_,.cons (.tmp rfl) .nil,rfl,(o.taken 0)⟩
     ·refine sp<|sq<|sq<|dn 0 mixed 5 [([],31),([],31),([1],29),([0,2,2],26),([3],23)] o.ext (fun d=>?_);have V:=o.step (Ext.draw _);refine dL d 0 ((o.bring 1 rfl).box) ?_;refine dL d 1 ((o.bring 5 rfl).box) ?_;obtain⟨i1,y0,hm⟩:=bS hm;refine o1 d 2 (mc d zcv (laws_toMemory_ok (hE.trans V.ext) a0 y0) (fun R1 V1 g0=>?_));obtain⟨E1,J1,F1,K1,rfl,O⟩:=g0;refine⟨O.ext,?_⟩;have u:=V.join O;obtain⟨M1,A0,hm⟩:=bS hm;refine o1 d 3 (mc d zgp (laws_eqMemory_ok (Ext.refl _) (z6z G ((u.bring 4 rfl).own) ((u.bring 5 rfl).own)) (z6z i1 ((u.bring 0 rfl).own) ((u.bring 1 rfl).own)) A0) (fun S1 W1 i0=>?_));obtain⟨rfl,S⟩:=i0;refine⟨S.ext,?_⟩;have X:=u.join S;refine dr 0 d [4] ?_;refine dw [61] ?_;refine dd d ?_;refine ci hm (fun hm=>?_) (fun hm=>?_)
      ·refine sq<|rg<|rr 1 ?_;refine rn<|rt ?_;cases hm;exact⟨_,.cons (.tmp rfl) .nil,rfl,(X.taken 0)⟩
      ·refine sp<|sq<|rg<|rr 1 ?_;refine rn<|rt ?_;cases hm;exact⟨_,.cons (.tmp rfl) .nil,rfl,(X.taken 0)⟩
   ·refine rg<|rr 4 ?_;refine rb 47 hm (fun hm=>?_) (fun hm=>?_)
    ·refine rr 4 ?_;refine rn ?_;exact⟨true,_,⟨hm,(Ext.refl _),(u0.sel [0,1,2,3,7]),rfl⟩,rfl⟩
    ·refine rr 4 ?_;refine rn ?_;exact⟨(P1.2 != O1.2),_,⟨hm,(Ext.refl _),(u0.sel [0,1,2,3,7]),rfl⟩,rfl⟩

end Go.E


