/- Models of functions and proofs that the code runs as they say (written by program). Conditions: the model gives a value. -/
import Derived.Test.YtngggnjnenfgbaaGreatDoorFN
import Derived.Test.YtngggnjnenfgbaaGreatDoorMixed
namespace Go.E
open Go.RowKit Go.Proofs
set_option linter.unusedVariables false
set_option linter.unusedSimpArgs false
set_option maxHeartbeats 2000000

theorem ze7:Enters Tryz.prog 36:=⟨_,_,Tryz.func36,rfl,by kernel_rfl⟩
def z4L (fuel:Nat) (x0:D.Net) (x1:Int):Option (D.Pair × Int):=((z5y fuel x0).bind fun o=>(if(!o)=true then some ((⟨0,0⟩:D.Pair),1) else((z4r fuel x0).bind fun b=>((zt fuel x1 0 (w64 ((b.length:Int) - 1))).bind fun y=>(if(!y)=true then some ((⟨0,0⟩:D.Pair),2) else((idx b x1).bind fun d=>some ((⟨d.A,d.B⟩:D.Pair),0)))))))

set_option maxRecDepth 100000 in
theorem z8p {W:Base}{w:World}(hE:Ext W w){y0:Addr}{u0:List Value}{x0:D.Net}{x1:Int}(a0:ty31.ro W u0 x0) (v0:At W y0 u0){fuel:Nat}{r:D.Pair × Int}(hm:z4L fuel x0 x1=some r):
  Calls Tryz.prog 36 ⟨[.pointer (some y0),.int .i64 x1]⟩ w (Ret fun v w8=>v=.tuple ⟨[.agg ⟨[.int .i64 r.1.A,.int .i64 r.1.B]⟩,.int .i64 r.2]⟩∧St w w8 []):=by
 obtain⟨A1,k2,e4,h3⟩:=zK a0;subst e4
 refine Calls.into Tryz.func36 rfl 24 rfl rfl _ rfl ?_
 unfold z4L at hm
 have hS:=St.start w
 refine WP.seq ?_
 refine WP.region ?_
 refine RW.new ttok hS rfl rfl rfl rfl (fun g5 w6 e7 o=>?_)
 refine RW.run ttok 1 rfl ?_
 refine RW.nil ?_
 refine WP.seq ?_
 refine WP.seq ?_
 refine WP.region ?_
 refine RW.run ttok 1 rfl ?_
 obtain⟨C0,q0,hm⟩:=bind_some hm
 refine RW.call rfl rfl rfl zed (z9u (hE.trans o.ext) a0 v0 q0) (fun J0 N0 b0=>?_)
 obtain⟨rfl,c0⟩:=b0
 have b:=o.join c0
 refine RW.run ttok 1 rfl ?_
 refine RW.nil ?_
 refine WP.cond (!C0) rfl (fun hc=>?_) (fun hc=>?_)
 ·skip
  rw [if_pos hc] at hm
  refine WP.seq ?_
  refine WP.region ?_
  refine RW.quiet rfl (Quiet.build ttok rfl rfl rfl rfl rfl) rfl rfl ?_
  have i0:=b.bring 0 rfl
  refine RW.store ttok (A:=[]) i0 rfl rfl rfl rfl rfl 0 rfl rfl rfl rfl rfl (fun O0 y=>?_)
  refine RW.run ttok 1 rfl ?_
  refine RW.nil ?_
  refine WP.ret ?_
  cases hm
  exact⟨_,.cons (ResIs.agg ttok rfl rfl rfl ((y.bring 0 rfl).box) rfl) (.cons (.tmp rfl) .nil),rfl,(y.taken 0)⟩
 ·skip
  rw [if_neg (z8 hc)] at hm
  refine WP.skip ?_
  refine WP.seq ?_
  refine WP.region ?_
  refine RW.run ttok 1 rfl ?_
  obtain⟨H0,r0,hm⟩:=bind_some hm
  refine RW.call rfl rfl rfl zdW (z7Z (hE.trans b.ext) a0 v0 r0) (fun K0 P0 d0=>?_)
  obtain⟨E0,F0,rfl,e0⟩:=d0
  have G:=b.join e0
  refine RW.run ttok 1 rfl ?_
  refine RW.nil ?_
  refine WP.seq ?_
  refine WP.seq ?_
  refine WP.region ?_
  refine RW.run ttok 4 rfl ?_
  obtain⟨D0,t0,hm⟩:=bind_some hm
  refine RW.call rfl rfl rfl z3h (zJ (hE.trans G.ext)  t0) (fun M0 Q0 f0=>?_)
  obtain⟨rfl,g0⟩:=f0
  have d:=G.join g0
  refine RW.run ttok 1 rfl ?_
  refine RW.nil ?_
  refine WP.cond (!D0) rfl (fun hc=>?_) (fun hc=>?_)
  ·skip
   rw [if_pos hc] at hm
   refine WP.seq ?_
   refine WP.region ?_
   refine RW.quiet rfl (Quiet.build ttok rfl rfl rfl rfl rfl) rfl rfl ?_
   have j0:=d.bring 1 rfl
   refine RW.store ttok (A:=[]) j0 rfl rfl rfl rfl rfl 0 rfl rfl rfl rfl rfl (fun R0 H=>?_)
   refine RW.run ttok 1 rfl ?_
   refine RW.nil ?_
   refine WP.ret ?_
   cases hm
   exact⟨_,.cons (ResIs.agg ttok rfl rfl rfl ((H.bring 0 rfl).box) rfl) (.cons (.tmp rfl) .nil),rfl,(H.taken 0)⟩
  ·skip
   rw [if_neg (z8 hc)] at hm
   refine WP.skip ?_
   refine WP.seq ?_
   refine WP.region ?_
   refine RW.run ttok 2 rfl ?_
   obtain⟨T0,Y,hm⟩:=bind_some hm
   refine RW.idx ttok (Ext.refl _) rfl rfl rfl rfl rfl rfl (by decide) rfl rfl ((d.bring 0 rfl).own) (z6 Y).1 (z6 Y).2 rfl rfl (fun G0 B0 o0 p0=>?_)
   have A0:=z6g p0;subst A0
   refine RW.loadN ttok rfl rfl rfl rfl rfl o0 rfl rfl rfl ?_
   have k0:=d.bring 1 rfl
   refine RW.store ttok (A:=[]) k0 rfl rfl rfl rfl rfl 0 rfl rfl rfl rfl rfl (fun S0 O=>?_)
   refine RW.run ttok 1 rfl ?_
   refine RW.nil ?_
   refine WP.ret ?_
   cases hm
   exact⟨_,.cons (ResIs.agg ttok rfl rfl rfl ((O.bring 0 rfl).box) rfl) (.cons (.tmp rfl) .nil),rfl,(O.taken 0)⟩

theorem zaA:Enters Tryz.prog 101:=⟨_,_,Tryz.func101,rfl,by kernel_rfl⟩
def z4b (fuel:Nat) (x0:Int) (x1:Int) (x2:Int) (x3:Int):Option (Bool):=((z1L fuel x0 x1).bind fun r1=>(if r1=true then((z1L fuel x2 x3).bind fun b=>(if b=true then(if(x0 != 1)=true then some (x2 != 1) else some false) else some false)) else some false))

set_option maxRecDepth 100000 in
theorem z6H {W:Base}{w:World}(hE:Ext W w){x0:Int}{x1:Int}{x2:Int}{x3:Int}  {fuel:Nat}{r:Bool}(hm:z4b fuel x0 x1 x2 x3=some r):
  Calls Tryz.prog 101 ⟨[.int .i64 x0,.int .i64 x1,.int .i64 x2,.int .i64 x3]⟩ w (Ret fun v w8=>v=.bool r∧St w w8 []):=by
 refine Calls.into Tryz.func101 rfl 25 rfl rfl _ rfl ?_
 unfold z4b at hm
 have hS:=St.start w
 refine WP.seq ?_
 refine WP.region ?_
 refine RW.run ttok 1 rfl ?_
 refine RW.nil ?_
 refine WP.seq ?_
 refine WP.region ?_
 refine RW.run ttok 2 rfl ?_
 obtain⟨r1,Y,hm⟩:=bind_some hm
 refine RW.call rfl rfl rfl z8b (z4Y (hE.trans hS.ext)  Y) (fun v3 w4 H=>?_)
 obtain⟨rfl,O⟩:=H
 have y:=hS.join O
 refine RW.run ttok 1 rfl ?_
 by_cases hg10:r1=true
 ·skip
  rw [if_pos hg10] at hm
  refine RW.know 12 rfl (congrArg Value.bool hg10) ?_
  refine RW.run ttok 2 rfl ?_
  obtain⟨a0,G,hm⟩:=bind_some hm
  refine RW.call rfl rfl rfl z8b (z4Y (hE.trans y.ext)  G) (fun b0 c0 d=>?_)
  obtain⟨rfl,o⟩:=d
  have b:=y.join o
  refine RW.run ttok 2 rfl ?_
  by_cases hg18:a0=true
  ·skip
   rw [if_pos hg18] at hm
   refine RW.know 17 rfl (congrArg Value.bool hg18) ?_
   refine RW.run ttok 4 rfl ?_
   by_cases hg19:(x0 != 1)=true
   ·skip
    rw [if_pos hg19] at hm
    refine RW.know 21 rfl (congrArg Value.bool hg19) ?_
    refine RW.run ttok 4 rfl ?_
    refine RW.nil ?_
    refine WP.ret ?_
    cases hm
    exact⟨_,.cons (.tmp rfl) .nil,rfl,b⟩
   ·skip
    rw [if_neg hg19] at hm
    refine RW.know 21 rfl (congrArg Value.bool (Bool.eq_false_iff.2 hg19)) ?_
    refine RW.run ttok 4 rfl ?_
    refine RW.nil ?_
    refine WP.ret ?_
    cases hm
    exact⟨_,.cons (.tmp rfl) .nil,rfl,b⟩
  ·skip
   rw [if_neg hg18] at hm
   refine RW.know 17 rfl (congrArg Value.bool (Bool.eq_false_iff.2 hg18)) ?_
   refine RW.run ttok 8 rfl ?_
   refine RW.nil ?_
   refine WP.ret ?_
   cases hm
   exact⟨_,.cons (.tmp rfl) .nil,rfl,b⟩
 ·skip
  rw [if_neg hg10] at hm
  refine RW.know 12 rfl (congrArg Value.bool (Bool.eq_false_iff.2 hg10)) ?_
  refine RW.run ttok 13 rfl ?_
  refine RW.nil ?_
  refine WP.ret ?_
  cases hm
  exact⟨_,.cons (.tmp rfl) .nil,rfl,y⟩

theorem zcF:Enters Tryz.prog 118:=⟨_,_,Tryz.func118,rfl,by kernel_rfl⟩
def z24 (fuel:Nat) (x0:Int) (x1:Int) (x2:Int) (t6:Bool):Option Bool:=(if t6=true then some true else((z3G fuel x1).bind fun b=>(if b=true then some (decide (x2>x0)) else some false)))
def z25 (fuel:Nat) (x0:Int) (x1:Int) (x2:Int) (t1:Bool):Option Bool:=(if t1=true then some false else(if(x1 == 6)=true then z24 fuel x0 x1 x2 true else z24 fuel x0 x1 x2 (x1 == 12)))
def z3H (fuel:Nat) (x0:Int) (x1:Int) (x2:Int):Option (Bool):=((zt fuel x0 0 8).bind fun b=>(if(!b)=true then z25 fuel x0 x1 x2 true else((z1L fuel x1 x2).bind fun d=>z25 fuel x0 x1 x2 (!d))))

set_option maxRecDepth 100000 in
theorem z7h {W:Base}{w:World}(hE:Ext W w){x0:Int}{x1:Int}{x2:Int}  {fuel:Nat}{r:Bool}(hm:z3H fuel x0 x1 x2=some r):
  Calls Tryz.prog 118 ⟨[.int .i64 x0,.int .i64 x1,.int .i64 x2]⟩ w (Ret fun v w8=>v=.bool r∧St w w8 []):=by
 refine Calls.into Tryz.func118 rfl 29 rfl rfl _ rfl ?_
 unfold z3H at hm
 have hS:=St.start w
 refine WP.seq ?_
 refine WP.region ?_
 refine RW.run ttok 1 rfl ?_
 refine RW.nil ?_
 refine WP.seq ?_
 refine WP.seq ?_
 refine WP.cut (fun(t1:Bool) F w9=>z25 fuel x0 x1 x2 t1=some r∧Ext w w9∧St w w9 []∧F=[(0,.int .i64 x0),(1,.int .i64 x1),(2,.int .i64 x2),(15,.bool t1)]) ?_ ?_
 ·skip
  rintro t1 F w4 ⟨hm,k0,b0,rfl⟩
  unfold z25 at hm
  refine WP.cond t1 rfl (fun hc=>?_) (fun hc=>?_)
  ·skip
   rw [if_pos hc] at hm
   refine WP.seq ?_
   refine WP.region ?_
   refine RW.run ttok 1 rfl ?_
   refine RW.nil ?_
   refine WP.ret ?_
   cases hm
   exact⟨_,.cons (.tmp rfl) .nil,rfl,b0⟩
  ·skip
   rw [if_neg (z8 hc)] at hm
   refine WP.skip ?_
   refine WP.seq ?_
   refine WP.seq ?_
   refine WP.cut (fun(t6:Bool) F w9=>z24 fuel x0 x1 x2 t6=some r∧Ext w4 w9∧St w w9 []∧F=[(0,.int .i64 x0),(1,.int .i64 x1),(2,.int .i64 x2),(21,.bool t6)]) ?_ ?_
   ·skip
    rintro t6 F t0 ⟨hm,o0,d,rfl⟩
    unfold z24 at hm
    refine WP.cond t6 rfl (fun hc=>?_) (fun hc=>?_)
    ·skip
     rw [if_pos hc] at hm
     refine WP.seq ?_
     refine WP.region ?_
     refine RW.run ttok 1 rfl ?_
     refine RW.nil ?_
     refine WP.ret ?_
     cases hm
     exact⟨_,.cons (.tmp rfl) .nil,rfl,d⟩
    ·skip
     rw [if_neg (z8 hc)] at hm
     refine WP.skip ?_
     refine WP.seq ?_
     refine WP.region ?_
     refine RW.run ttok 1 rfl ?_
     obtain⟨i0,d0,hm⟩:=bind_some hm
     refine RW.call rfl rfl rfl zaz (z6C (hE.trans d.ext)  d0) (fun p0 u0 H=>?_)
     obtain⟨rfl,O⟩:=H
     have G:=d.join O
     refine RW.run ttok 1 rfl ?_
     by_cases hg20:i0=true
     ·skip
      rw [if_pos hg20] at hm
      refine RW.know 24 rfl (congrArg Value.bool hg20) ?_
      refine RW.run ttok 5 rfl ?_
      refine RW.nil ?_
      refine WP.ret ?_
      cases hm
      exact⟨_,.cons (.tmp rfl) .nil,rfl,G⟩
     ·skip
      rw [if_neg hg20] at hm
      refine RW.know 24 rfl (congrArg Value.bool (Bool.eq_false_iff.2 hg20)) ?_
      refine RW.run ttok 5 rfl ?_
      refine RW.nil ?_
      refine WP.ret ?_
      cases hm
      exact⟨_,.cons (.tmp rfl) .nil,rfl,G⟩
   ·skip
    refine WP.region ?_
    refine RW.run ttok 3 rfl ?_
    by_cases hg21:(x1 == 6)=true
    ·skip
     rw [if_pos hg21] at hm
     refine RW.know 18 rfl (congrArg Value.bool hg21) ?_
     refine RW.run ttok 3 rfl ?_
     refine RW.nil ?_
     exact⟨true,[(0,.int .i64 x0),(1,.int .i64 x1),(2,.int .i64 x2),(21,.bool true)],⟨rfl,rfl,rfl,rfl,trivial⟩,hm,(Ext.refl _),b0,rfl⟩
    ·skip
     rw [if_neg hg21] at hm
     refine RW.know 18 rfl (congrArg Value.bool (Bool.eq_false_iff.2 hg21)) ?_
     refine RW.run ttok 3 rfl ?_
     refine RW.nil ?_
     exact⟨(x1 == 12),[(0,.int .i64 x0),(1,.int .i64 x1),(2,.int .i64 x2),(21,.bool (x1 == 12))],⟨rfl,rfl,rfl,rfl,trivial⟩,hm,(Ext.refl _),b0,rfl⟩
 ·skip
  refine WP.region ?_
  refine RW.run ttok 1 rfl ?_
  obtain⟨j0,e0,hm⟩:=bind_some hm
  refine RW.call rfl rfl rfl z3h (zJ (hE.trans hS.ext)  e0) (fun q0 v0 Y=>?_)
  obtain⟨rfl,b⟩:=Y
  have o:=hS.join b
  refine RW.run ttok 2 rfl ?_
  by_cases hg29:(!j0)=true
  ·skip
   rw [if_pos hg29] at hm
   refine RW.know 10 rfl (congrArg Value.bool hg29) ?_
   refine RW.run ttok 5 rfl ?_
   refine RW.nil ?_
   exact⟨true,[(0,.int .i64 x0),(1,.int .i64 x1),(2,.int .i64 x2),(15,.bool true)],⟨rfl,rfl,rfl,rfl,trivial⟩,hm,b.ext,o,rfl⟩
  ·skip
   rw [if_neg hg29] at hm
   refine RW.know 10 rfl (congrArg Value.bool (Bool.eq_false_iff.2 hg29)) ?_
   refine RW.run ttok 2 rfl ?_
   obtain⟨g0,f0,hm⟩:=bind_some hm
   refine RW.call rfl rfl rfl z8b (z4Y (hE.trans o.ext)  f0) (fun r0 y0 a0=>?_)
   obtain⟨rfl,y⟩:=a0
   have c0:=o.join y
   refine RW.run ttok 2 rfl ?_
   refine RW.nil ?_
   exact⟨!g0,[(0,.int .i64 x0),(1,.int .i64 x1),(2,.int .i64 x2),(15,.bool (!g0))],⟨rfl,rfl,rfl,rfl,trivial⟩,hm,(b.ext.trans y.ext),c0,rfl⟩

theorem zcE:Enters Tryz.prog 119:=⟨_,_,Tryz.func119,rfl,by kernel_rfl⟩
def z23 (fuel:Nat) (t1:Bool):Option Bool:=(if t1=true then some true else some false)
def z22 (fuel:Nat) (t6:Bool):Option Bool:=z23 fuel t6
def z21 (fuel:Nat) (b:Bool):Option Bool:=z22 fuel b
def z1Z (fuel:Nat) (b:Bool):Option Bool:=z21 fuel b
def z3F (fuel:Nat) (x0:Int):Option (Bool):=(if(x0 == 3)=true then z23 fuel (x0 == 3) else(if(x0 == 7)=true then z22 fuel (x0 == 7) else(if(x0 == 8)=true then z21 fuel (x0 == 8) else(if(x0 == 10)=true then z1Z fuel (x0 == 10) else z1Z fuel (x0 == 11)))))

set_option maxRecDepth 100000 in
theorem z7g {W:Base}{w:World}(hE:Ext W w){x0:Int}  {fuel:Nat}{r:Bool}(hm:z3F fuel x0=some r):
  Calls Tryz.prog 119 ⟨[.int .i64 x0]⟩ w (Ret fun v w8=>v=.bool r∧St w w8 []):=by
 refine Calls.into Tryz.func119 rfl 10 rfl rfl _ rfl ?_
 unfold z3F at hm
 have hS:=St.start w
 refine WP.seq ?_
 refine WP.region ?_
 refine RW.run ttok 1 rfl ?_
 refine RW.nil ?_
 refine WP.seq ?_
 refine WP.seq ?_
 refine WP.region ?_
 refine RW.run ttok 1 rfl ?_
 refine RW.nil ?_
 refine WP.block ?_
 refine WP.seq ?_
 refine WP.seq ?_
 refine WP.region ?_
 refine RW.run ttok 2 rfl ?_
 refine RW.nil ?_
 refine WP.cut (fun(t1:Bool) F w9=>z23 fuel t1=some r∧Ext w w9∧St w w9 []∧F=[(4,.bool t1)]) ?_ ?_
 ·skip
  rintro t1 F w4 ⟨hm,b0,Y,rfl⟩
  unfold z23 at hm
  refine WP.cond t1 rfl (fun hc=>?_) (fun hc=>?_)
  ·skip
   rw [if_pos hc] at hm
   refine WP.seq ?_
   refine WP.region ?_
   refine RW.run ttok 1 rfl ?_
   refine RW.nil ?_
   refine WP.ret ?_
   cases hm
   exact⟨_,.cons (.tmp rfl) .nil,rfl,Y⟩
  ·skip
   rw [if_neg (z8 hc)] at hm
   refine WP.skip ?_
   refine WP.seq ?_
   refine WP.region ?_
   refine RW.run ttok 1 rfl ?_
   refine RW.nil ?_
   refine WP.ret ?_
   cases hm
   exact⟨_,.cons (.tmp rfl) .nil,rfl,Y⟩
 ·skip
  refine WP.cond (x0 == 3) rfl (fun hc=>?_) (fun hc=>?_)
  ·skip
   rw [if_pos hc] at hm
   refine WP.skip ?_
   exact⟨(x0 == 3),[(4,.bool (x0 == 3))],⟨rfl,trivial⟩,hm,(Ext.refl _),hS,rfl⟩
  ·skip
   rw [if_neg (z8 hc)] at hm
   refine WP.seq ?_
   refine WP.region ?_
   refine RW.run ttok 2 rfl ?_
   refine RW.nil ?_
   refine WP.cut (fun(t6:Bool) F w9=>z22 fuel t6=some r∧Ext w w9∧St w w9 []∧F=[(4,.bool t6)]) ?_ ?_
   ·skip
    rintro t6 F c0 ⟨hm,a0,G,rfl⟩
    unfold z22 at hm
    exact⟨t6,[(4,.bool t6)],⟨rfl,trivial⟩,hm,a0,G,rfl⟩
   ·skip
    refine WP.cond (x0 == 7) rfl (fun hc=>?_) (fun hc=>?_)
    ·skip
     rw [if_pos hc] at hm
     refine WP.skip ?_
     exact⟨(x0 == 7),[(4,.bool (x0 == 7))],⟨rfl,trivial⟩,hm,(Ext.refl _),hS,rfl⟩
    ·skip
     rw [if_neg (z8 hc)] at hm
     refine WP.seq ?_
     refine WP.region ?_
     refine RW.run ttok 2 rfl ?_
     refine RW.nil ?_
     refine WP.cut (fun(b:Bool) F w9=>z21 fuel b=some r∧Ext w w9∧St w w9 []∧F=[(4,.bool b)]) ?_ ?_
     ·skip
      rintro b F d0 ⟨hm,o,H,rfl⟩
      unfold z21 at hm
      exact⟨b,[(4,.bool b)],⟨rfl,trivial⟩,hm,o,H,rfl⟩
     ·skip
      refine WP.cond (x0 == 8) rfl (fun hc=>?_) (fun hc=>?_)
      ·skip
       rw [if_pos hc] at hm
       refine WP.skip ?_
       exact⟨(x0 == 8),[(4,.bool (x0 == 8))],⟨rfl,trivial⟩,hm,(Ext.refl _),hS,rfl⟩
      ·skip
       rw [if_neg (z8 hc)] at hm
       refine WP.seq ?_
       refine WP.region ?_
       refine RW.run ttok 2 rfl ?_
       refine RW.nil ?_
       refine WP.cut (fun(d:Bool) F w9=>z1Z fuel d=some r∧Ext w w9∧St w w9 []∧F=[(4,.bool d)]) ?_ ?_
       ·skip
        rintro d F e0 ⟨hm,y,O,rfl⟩
        unfold z1Z at hm
        exact⟨d,[(4,.bool d)],⟨rfl,trivial⟩,hm,y,O,rfl⟩
       ·skip
        refine WP.cond (x0 == 10) rfl (fun hc=>?_) (fun hc=>?_)
        ·skip
         rw [if_pos hc] at hm
         refine WP.skip ?_
         exact⟨(x0 == 10),[(4,.bool (x0 == 10))],⟨rfl,trivial⟩,hm,(Ext.refl _),hS,rfl⟩
        ·skip
         rw [if_neg (z8 hc)] at hm
         refine WP.region ?_
         refine RW.run ttok 2 rfl ?_
         refine RW.nil ?_
         exact⟨(x0 == 11),[(4,.bool (x0 == 11))],⟨rfl,trivial⟩,hm,(Ext.refl _),hS,rfl⟩

theorem z7w:Enters Tryz.prog 102:=⟨_,_,Tryz.func102,rfl,by kernel_rfl⟩
def z3w (fuel:Nat) (x1:Int) (x2:Int) (x3:Int) (t1:Bool):Option Int:=(if t1=true then some 2 else((z3H fuel x1 x2 x3).bind fun r6=>(if r6=true then some 3 else some 0)))
def z3v (fuel:Nat) (b:Bool):Option Int:=(if b=true then some 1 else some 0)
def z3u (fuel:Nat) (x2:Int) (b:Bool):Option Int:=(if b=true then some 5 else(if(x2 == 11)=true then some 6 else some 0))
def z2k (fuel:Nat) (x0:Int) (x1:Int) (x2:Int) (x3:Int):Option (Int):=(if(x0 == 5)=true then some 4 else(if(x0 == 4)=true then(if(x2 == 4)=true then z3w fuel x1 x2 x3 (x1 == x3) else z3w fuel x1 x2 x3 false) else(if(x0 == 2)=true then(if(x2 == 3)=true then z3v fuel (x1 == x3) else z3v fuel false) else(if(x0 == 6)=true then(if(x2 == 7)=true then z3u fuel x2 (x2 == 7) else z3u fuel x2 (x2 == 8)) else(if(x0 == 9)=true then(if(x2 == 10)=true then some 6 else some 0) else(if(x0 == 12)=true then((z3F fuel x2).bind fun b=>(if b=true then some 7 else some 0)) else some 0))))))

set_option maxRecDepth 100000 in
theorem z5a {W:Base}{w:World}(hE:Ext W w){x0:Int}{x1:Int}{x2:Int}{x3:Int}  {fuel:Nat}{r:Int}(hm:z2k fuel x0 x1 x2 x3=some r):
  Calls Tryz.prog 102 ⟨[.int .i64 x0,.int .i64 x1,.int .i64 x2,.int .i64 x3]⟩ w (Ret fun v w8=>v=.int .i64 r∧St w w8 []):=by
 refine Calls.into Tryz.func102 rfl 50 rfl rfl _ rfl ?_
 unfold z2k at hm
 have hS:=St.start w
 refine WP.seq ?_
 refine WP.region ?_
 refine RW.run ttok 1 rfl ?_
 refine RW.nil ?_
 refine WP.seq ?_
 refine WP.seq ?_
 refine WP.region ?_
 refine RW.run ttok 1 rfl ?_
 refine RW.nil ?_
 refine WP.block ?_
 refine WP.seq ?_
 refine WP.region ?_
 refine RW.run ttok 2 rfl ?_
 refine RW.nil ?_
 refine WP.cond (x0 == 5) rfl (fun hc=>?_) (fun hc=>?_)
 ·skip
  rw [if_pos hc] at hm
  refine WP.seq ?_
  refine WP.region ?_
  refine RW.run ttok 1 rfl ?_
  refine RW.nil ?_
  refine WP.ret ?_
  cases hm
  exact⟨_,.cons (.tmp rfl) .nil,rfl,hS⟩
 ·skip
  rw [if_neg (z8 hc)] at hm
  refine WP.seq ?_
  refine WP.region ?_
  refine RW.run ttok 2 rfl ?_
  refine RW.nil ?_
  refine WP.cond (x0 == 4) rfl (fun hc=>?_) (fun hc=>?_)
  ·skip
   rw [if_pos hc] at hm
   refine WP.seq ?_
   refine WP.seq ?_
   refine WP.cut (fun(t1:Bool) F w9=>z3w fuel x1 x2 x3 t1=some r∧Ext w w9∧St w w9 []∧F=[(1,.int .i64 x1),(2,.int .i64 x2),(3,.int .i64 x3),(20,.bool t1)]) ?_ ?_
   ·skip
    rintro t1 F w4 ⟨hm,j0,c0,rfl⟩
    unfold z3w at hm
    refine WP.cond t1 rfl (fun hc=>?_) (fun hc=>?_)
    ·skip
     rw [if_pos hc] at hm
     refine WP.seq ?_
     refine WP.region ?_
     refine RW.run ttok 1 rfl ?_
     refine RW.nil ?_
     refine WP.ret ?_
     cases hm
     exact⟨_,.cons (.tmp rfl) .nil,rfl,c0⟩
    ·skip
     rw [if_neg (z8 hc)] at hm
     refine WP.skip ?_
     refine WP.seq ?_
     refine WP.region ?_
     refine RW.run ttok 3 rfl ?_
     obtain⟨r6,g0,hm⟩:=bind_some hm
     refine RW.call rfl rfl rfl zcF (z7h (hE.trans c0.ext)  g0) (fun k0 p0 O=>?_)
     obtain⟨rfl,Y⟩:=O
     have d:=c0.join Y
     refine RW.nil ?_
     refine WP.cond r6 rfl (fun hc=>?_) (fun hc=>?_)
     ·skip
      rw [if_pos hc] at hm
      refine WP.seq ?_
      refine WP.region ?_
      refine RW.run ttok 1 rfl ?_
      refine RW.nil ?_
      refine WP.ret ?_
      cases hm
      exact⟨_,.cons (.tmp rfl) .nil,rfl,d⟩
     ·skip
      rw [if_neg (z8 hc)] at hm
      refine WP.skip ?_
      refine WP.seq ?_
      refine WP.region ?_
      refine RW.run ttok 1 rfl ?_
      refine RW.nil ?_
      refine WP.ret ?_
      cases hm
      exact⟨_,.cons (.tmp rfl) .nil,rfl,d⟩
   ·skip
    refine WP.region ?_
    refine RW.run ttok 3 rfl ?_
    by_cases hg15:(x2 == 4)=true
    ·skip
     rw [if_pos hg15] at hm
     refine RW.know 16 rfl (congrArg Value.bool hg15) ?_
     refine RW.run ttok 4 rfl ?_
     refine RW.nil ?_
     exact⟨(x1 == x3),[(1,.int .i64 x1),(2,.int .i64 x2),(3,.int .i64 x3),(20,.bool (x1 == x3))],⟨rfl,rfl,rfl,rfl,trivial⟩,hm,(Ext.refl _),hS,rfl⟩
    ·skip
     rw [if_neg hg15] at hm
     refine RW.know 16 rfl (congrArg Value.bool (Bool.eq_false_iff.2 hg15)) ?_
     refine RW.run ttok 4 rfl ?_
     refine RW.nil ?_
     exact⟨false,[(1,.int .i64 x1),(2,.int .i64 x2),(3,.int .i64 x3),(20,.bool false)],⟨rfl,rfl,rfl,rfl,trivial⟩,hm,(Ext.refl _),hS,rfl⟩
  ·skip
   rw [if_neg (z8 hc)] at hm
   refine WP.seq ?_
   refine WP.region ?_
   refine RW.run ttok 2 rfl ?_
   refine RW.nil ?_
   refine WP.cond (x0 == 2) rfl (fun hc=>?_) (fun hc=>?_)
   ·skip
    rw [if_pos hc] at hm
    refine WP.seq ?_
    refine WP.cut (fun(G:Bool) F w9=>z3v fuel G=some r∧Ext w w9∧St w w9 []∧F=[(33,.bool G)]) ?_ ?_
    ·skip
     rintro G F q0 ⟨hm,e0,o,rfl⟩
     unfold z3v at hm
     refine WP.cond G rfl (fun hc=>?_) (fun hc=>?_)
     ·skip
      rw [if_pos hc] at hm
      refine WP.seq ?_
      refine WP.region ?_
      refine RW.run ttok 1 rfl ?_
      refine RW.nil ?_
      refine WP.ret ?_
      cases hm
      exact⟨_,.cons (.tmp rfl) .nil,rfl,o⟩
     ·skip
      rw [if_neg (z8 hc)] at hm
      refine WP.skip ?_
      refine WP.seq ?_
      refine WP.region ?_
      refine RW.run ttok 1 rfl ?_
      refine RW.nil ?_
      refine WP.ret ?_
      cases hm
      exact⟨_,.cons (.tmp rfl) .nil,rfl,o⟩
    ·skip
     refine WP.region ?_
     refine RW.run ttok 3 rfl ?_
     by_cases hg21:(x2 == 3)=true
     ·skip
      rw [if_pos hg21] at hm
      refine RW.know 29 rfl (congrArg Value.bool hg21) ?_
      refine RW.run ttok 4 rfl ?_
      refine RW.nil ?_
      exact⟨(x1 == x3),[(33,.bool (x1 == x3))],⟨rfl,trivial⟩,hm,(Ext.refl _),hS,rfl⟩
     ·skip
      rw [if_neg hg21] at hm
      refine RW.know 29 rfl (congrArg Value.bool (Bool.eq_false_iff.2 hg21)) ?_
      refine RW.run ttok 4 rfl ?_
      refine RW.nil ?_
      exact⟨false,[(33,.bool false)],⟨rfl,trivial⟩,hm,(Ext.refl _),hS,rfl⟩
   ·skip
    rw [if_neg (z8 hc)] at hm
    refine WP.seq ?_
    refine WP.region ?_
    refine RW.run ttok 2 rfl ?_
    refine RW.nil ?_
    refine WP.cond (x0 == 6) rfl (fun hc=>?_) (fun hc=>?_)
    ·skip
     rw [if_pos hc] at hm
     refine WP.seq ?_
     refine WP.region ?_
     refine RW.run ttok 1 rfl ?_
     refine RW.nil ?_
     refine WP.block ?_
     refine WP.seq ?_
     refine WP.seq ?_
     refine WP.region ?_
     refine RW.run ttok 2 rfl ?_
     refine RW.nil ?_
     refine WP.cut (fun(H:Bool) F w9=>z3u fuel x2 H=some r∧Ext w w9∧St w w9 []∧F=[(36,.int .i64 x2),(37,.bool H)]) ?_ ?_
     ·skip
      rintro H F r0 ⟨hm,f0,b,rfl⟩
      unfold z3u at hm
      refine WP.cond H rfl (fun hc=>?_) (fun hc=>?_)
      ·skip
       rw [if_pos hc] at hm
       refine WP.seq ?_
       refine WP.region ?_
       refine RW.run ttok 1 rfl ?_
       refine RW.nil ?_
       refine WP.ret ?_
       cases hm
       exact⟨_,.cons (.tmp rfl) .nil,rfl,b⟩
      ·skip
       rw [if_neg (z8 hc)] at hm
       refine WP.seq ?_
       refine WP.region ?_
       refine RW.run ttok 2 rfl ?_
       refine RW.nil ?_
       refine WP.cond (x2 == 11) rfl (fun hc=>?_) (fun hc=>?_)
       ·skip
        rw [if_pos hc] at hm
        refine WP.seq ?_
        refine WP.region ?_
        refine RW.run ttok 1 rfl ?_
        refine RW.nil ?_
        refine WP.ret ?_
        cases hm
        exact⟨_,.cons (.tmp rfl) .nil,rfl,b⟩
       ·skip
        rw [if_neg (z8 hc)] at hm
        refine WP.skip ?_
        refine WP.seq ?_
        refine WP.region ?_
        refine RW.run ttok 1 rfl ?_
        refine RW.nil ?_
        refine WP.ret ?_
        cases hm
        exact⟨_,.cons (.tmp rfl) .nil,rfl,b⟩
     ·skip
      refine WP.cond (x2 == 7) rfl (fun hc=>?_) (fun hc=>?_)
      ·skip
       rw [if_pos hc] at hm
       refine WP.skip ?_
       exact⟨(x2 == 7),[(36,.int .i64 x2),(37,.bool (x2 == 7))],⟨rfl,rfl,trivial⟩,hm,(Ext.refl _),hS,rfl⟩
      ·skip
       rw [if_neg (z8 hc)] at hm
       refine WP.region ?_
       refine RW.run ttok 2 rfl ?_
       refine RW.nil ?_
       exact⟨(x2 == 8),[(36,.int .i64 x2),(37,.bool (x2 == 8))],⟨rfl,rfl,trivial⟩,hm,(Ext.refl _),hS,rfl⟩
    ·skip
     rw [if_neg (z8 hc)] at hm
     refine WP.seq ?_
     refine WP.region ?_
     refine RW.run ttok 2 rfl ?_
     refine RW.nil ?_
     refine WP.cond (x0 == 9) rfl (fun hc=>?_) (fun hc=>?_)
     ·skip
      rw [if_pos hc] at hm
      refine WP.seq ?_
      refine WP.region ?_
      refine RW.run ttok 2 rfl ?_
      refine RW.nil ?_
      refine WP.cond (x2 == 10) rfl (fun hc=>?_) (fun hc=>?_)
      ·skip
       rw [if_pos hc] at hm
       refine WP.seq ?_
       refine WP.region ?_
       refine RW.run ttok 1 rfl ?_
       refine RW.nil ?_
       refine WP.ret ?_
       cases hm
       exact⟨_,.cons (.tmp rfl) .nil,rfl,hS⟩
      ·skip
       rw [if_neg (z8 hc)] at hm
       refine WP.skip ?_
       refine WP.seq ?_
       refine WP.region ?_
       refine RW.run ttok 1 rfl ?_
       refine RW.nil ?_
       refine WP.ret ?_
       cases hm
       exact⟨_,.cons (.tmp rfl) .nil,rfl,hS⟩
     ·skip
      rw [if_neg (z8 hc)] at hm
      refine WP.seq ?_
      refine WP.region ?_
      refine RW.run ttok 2 rfl ?_
      refine RW.nil ?_
      refine WP.cond (x0 == 12) rfl (fun hc=>?_) (fun hc=>?_)
      ·skip
       rw [if_pos hc] at hm
       refine WP.seq ?_
       refine WP.region ?_
       refine RW.run ttok 1 rfl ?_
       obtain⟨i0,d0,hm⟩:=bind_some hm
       refine RW.call rfl rfl rfl zcE (z7g (hE.trans hS.ext)  d0) (fun o0 t0 a0=>?_)
       obtain⟨rfl,b0⟩:=a0
       have y:=hS.join b0
       refine RW.nil ?_
       refine WP.cond i0 rfl (fun hc=>?_) (fun hc=>?_)
       ·skip
        rw [if_pos hc] at hm
        refine WP.seq ?_
        refine WP.region ?_
        refine RW.run ttok 1 rfl ?_
        refine RW.nil ?_
        refine WP.ret ?_
        cases hm
        exact⟨_,.cons (.tmp rfl) .nil,rfl,y⟩
       ·skip
        rw [if_neg (z8 hc)] at hm
        refine WP.skip ?_
        refine WP.seq ?_
        refine WP.region ?_
        refine RW.run ttok 1 rfl ?_
        refine RW.nil ?_
        refine WP.ret ?_
        cases hm
        exact⟨_,.cons (.tmp rfl) .nil,rfl,y⟩
      ·skip
       rw [if_neg (z8 hc)] at hm
       refine WP.skip ?_
       refine WP.seq ?_
       refine WP.region ?_
       refine RW.run ttok 1 rfl ?_
       refine RW.nil ?_
       refine WP.ret ?_
       cases hm
       exact⟨_,.cons (.tmp rfl) .nil,rfl,hS⟩

theorem zdy:Enters Tryz.prog 84:=⟨_,_,Tryz.func84,rfl,by kernel_rfl⟩
def z31 (fuel:Nat) (x0:Int) (x1:Int) (x2:Int) (x3:Int):Option (Int):=((z4b fuel x0 x1 x2 x3).bind fun r1=>(if(!r1)=true then some 0 else((z2k fuel x0 x1 x2 x3).bind fun b=>(if(b != 0)=true then some 1 else((z2k fuel x2 x3 x0 x1).bind fun d=>(if(d != 0)=true then some 2 else some 0))))))

set_option maxRecDepth 100000 in
theorem z79 {W:Base}{w:World}(hE:Ext W w){x0:Int}{x1:Int}{x2:Int}{x3:Int}  {fuel:Nat}{r:Int}(hm:z31 fuel x0 x1 x2 x3=some r):
  Calls Tryz.prog 84 ⟨[.int .i64 x0,.int .i64 x1,.int .i64 x2,.int .i64 x3]⟩ w (Ret fun v w8=>v=.int .i64 r∧St w w8 []):=by
 refine Calls.into Tryz.func84 rfl 27 rfl rfl _ rfl ?_
 unfold z31 at hm
 have hS:=St.start w
 refine WP.seq ?_
 refine WP.region ?_
 refine RW.run ttok 1 rfl ?_
 refine RW.nil ?_
 refine WP.seq ?_
 refine WP.seq ?_
 refine WP.region ?_
 refine RW.run ttok 4 rfl ?_
 obtain⟨r1,d0,hm⟩:=bind_some hm
 refine RW.call rfl rfl rfl zaA (z6H (hE.trans hS.ext)  d0) (fun v3 w4 b0=>?_)
 obtain⟨rfl,c0⟩:=b0
 have O:=hS.join c0
 refine RW.run ttok 1 rfl ?_
 refine RW.nil ?_
 refine WP.cond (!r1) rfl (fun hc=>?_) (fun hc=>?_)
 ·skip
  rw [if_pos hc] at hm
  refine WP.seq ?_
  refine WP.region ?_
  refine RW.run ttok 1 rfl ?_
  refine RW.nil ?_
  refine WP.ret ?_
  cases hm
  exact⟨_,.cons (.tmp rfl) .nil,rfl,O⟩
 ·skip
  rw [if_neg (z8 hc)] at hm
  refine WP.skip ?_
  refine WP.seq ?_
  refine WP.seq ?_
  refine WP.region ?_
  refine RW.run ttok 4 rfl ?_
  obtain⟨e0,Y,hm⟩:=bind_some hm
  refine RW.call rfl rfl rfl z7w (z5a (hE.trans O.ext)  Y) (fun g0 j0 o=>?_)
  obtain⟨rfl,y⟩:=o
  have b:=O.join y
  refine RW.run ttok 1 rfl ?_
  refine RW.nil ?_
  refine WP.cond (e0 != 0) rfl (fun hc=>?_) (fun hc=>?_)
  ·skip
   rw [if_pos hc] at hm
   refine WP.seq ?_
   refine WP.region ?_
   refine RW.run ttok 1 rfl ?_
   refine RW.nil ?_
   refine WP.ret ?_
   cases hm
   exact⟨_,.cons (.tmp rfl) .nil,rfl,b⟩
  ·skip
   rw [if_neg (z8 hc)] at hm
   refine WP.skip ?_
   refine WP.seq ?_
   refine WP.seq ?_
   refine WP.region ?_
   refine RW.run ttok 4 rfl ?_
   obtain⟨f0,a0,hm⟩:=bind_some hm
   refine RW.call rfl rfl rfl z7w (z5a (hE.trans b.ext)  a0) (fun i0 k0 G=>?_)
   obtain⟨rfl,H⟩:=G
   have d:=b.join H
   refine RW.run ttok 1 rfl ?_
   refine RW.nil ?_
   refine WP.cond (f0 != 0) rfl (fun hc=>?_) (fun hc=>?_)
   ·skip
    rw [if_pos hc] at hm
    refine WP.seq ?_
    refine WP.region ?_
    refine RW.run ttok 1 rfl ?_
    refine RW.nil ?_
    refine WP.ret ?_
    cases hm
    exact⟨_,.cons (.tmp rfl) .nil,rfl,d⟩
   ·skip
    rw [if_neg (z8 hc)] at hm
    refine WP.skip ?_
    refine WP.seq ?_
    refine WP.region ?_
    refine RW.run ttok 1 rfl ?_
    refine RW.nil ?_
    refine WP.ret ?_
    cases hm
    exact⟨_,.cons (.tmp rfl) .nil,rfl,d⟩

theorem zdV:Enters Tryz.prog 53:=⟨_,_,Tryz.func53,rfl,by kernel_rfl⟩
def z5f (fuel:Nat) (x0:D.Net) (x1:Int) (x2:Int):Option (Int × Int):=((idx x0.Agents x1).bind fun x5=>((idx x0.Agents x2).bind fun b=>((z31 fuel x5.Kind x5.Level b.Kind b.Level).bind fun d=>(if(d == 2)=true then some (x2,x1) else some (x1,x2)))))

set_option maxRecDepth 100000 in
theorem z7X {W:Base}{w:World}(hE:Ext W w){f0:Addr}{c0:List Value}{x0:D.Net}{x1:Int}{x2:Int}(q0:ty31.ro W c0 x0) (d0:At W f0 c0){fuel:Nat}{r:Int × Int}(hm:z5f fuel x0 x1 x2=some r):
  Calls Tryz.prog 53 ⟨[.pointer (some f0),.int .i64 x1,.int .i64 x2]⟩ w (Ret fun v w8=>v=.tuple ⟨[.int .i64 r.1,.int .i64 r.2]⟩∧St w w8 []):=by
 obtain⟨A1,k2,e4,h3⟩:=zK q0;subst e4
 refine Calls.into Tryz.func53 rfl 44 rfl rfl _ rfl ?_
 unfold z5f at hm
 have hS:=St.start w
 refine WP.seq ?_
 refine WP.region ?_
 refine RW.run ttok 2 rfl ?_
 refine RW.nil ?_
 refine WP.seq ?_
 refine WP.region ?_
 refine RW.run ttok 3 rfl ?_
 refine RW.load1 ttok rfl rfl rfl rfl rfl (At.ext (hE.trans hS.ext) d0) 0 rfl rfl rfl rfl ?_
 refine RW.run ttok 1 rfl ?_
 obtain⟨x5,e0,hm⟩:=bind_some hm
 refine RW.idx ttok (hE.trans hS.ext) rfl rfl rfl rfl rfl rfl (by decide) rfl rfl h3 (z6 e0).1 (z6 e0).2 rfl rfl (fun p7 o0 y Y=>?_)
 obtain⟨r0,D0,t0,E0,j0,y0,A0⟩:=za Y;subst j0
 refine RW.run ttok 1 rfl ?_
 refine RW.nil ?_
 refine WP.seq ?_
 refine WP.region ?_
 refine RW.run ttok 3 rfl ?_
 refine RW.load1 ttok rfl rfl rfl rfl rfl (At.ext (hE.trans hS.ext) d0) 0 rfl rfl rfl rfl ?_
 refine RW.run ttok 1 rfl ?_
 obtain⟨K0,H,hm⟩:=bind_some hm
 refine RW.idx ttok (hE.trans hS.ext) rfl rfl rfl rfl rfl rfl (by decide) rfl rfl h3 (z6 H).1 (z6 H).2 rfl rfl (fun g0 p0 G a0=>?_)
 obtain⟨u0,F0,v0,G0,k0,B0,C0⟩:=za a0;subst k0
 refine RW.run ttok 1 rfl ?_
 refine RW.nil ?_
 refine WP.seq ?_
 refine WP.seq ?_
 refine WP.drawnM 0 mixed 18 (by kernel_rfl) (by kernel_rfl) [([],262143),([0],262142),([1],262141),([2],262139),([],262143),([4],262127),([5],262111),([6],262079),([],262143),([8],261887),([9],261631),([10],261119),([],262143),([12],258047),([13],253951),([14],245759),([3,7,11,15],227191),([16],196607)] (by kernel_rfl) hS.ext (fun hsk33=>?_)
 have d:=hS.step (Ext.draw _)
 refine DM.run (fuel:=6) ttok hsk33 [0,1,2,4,5,6,8,9,10,12,13,14] 30583 (by kernel_rfl) (by kernel_rfl) rfl ?_
 refine DM.weak [(1,.int .i64 x1),(2,.int .i64 x2),(24,.pointer (some p7)),(28,.pointer (some (p7.add 1))),(32,.pointer (some g0)),(36,.pointer (some (g0.add 1)))] ⟨rfl,rfl,rfl,rfl,rfl,rfl,trivial⟩ ?_
 refine DM.load1 ttok hsk33 3 30591 (by kernel_rfl) (by kernel_rfl) (by kernel_rfl) (by kernel_rfl) rfl (by kernel_rfl) rfl rfl rfl rfl rfl (At.ext (hE.trans hS.ext) y) 0 rfl rfl rfl rfl ?_
 refine DM.load1 ttok hsk33 7 30719 (by kernel_rfl) (by kernel_rfl) (by kernel_rfl) (by kernel_rfl) rfl (by kernel_rfl) rfl rfl rfl rfl rfl (At.ext (hE.trans hS.ext) y) 1 rfl rfl rfl rfl ?_
 refine DM.load1 ttok hsk33 11 32767 (by kernel_rfl) (by kernel_rfl) (by kernel_rfl) (by kernel_rfl) rfl (by kernel_rfl) rfl rfl rfl rfl rfl (At.ext (hE.trans hS.ext) G) 0 rfl rfl rfl rfl ?_
 refine DM.load1 ttok hsk33 15 65535 (by kernel_rfl) (by kernel_rfl) (by kernel_rfl) (by kernel_rfl) rfl (by kernel_rfl) rfl rfl rfl rfl rfl (At.ext (hE.trans hS.ext) G) 1 rfl rfl rfl rfl ?_
 obtain⟨i0,b0,hm⟩:=bind_some hm
 refine DM.one hsk33 16 (by kernel_rfl) (LM.call hsk33 131071 (by kernel_rfl) (by kernel_rfl) rfl rfl rfl rfl zdy (z79 (hE.trans d.ext)  b0) (fun H0 J0 O=>?_))
 obtain⟨rfl,b⟩:=O
 refine⟨b.ext,?_⟩
 have o:=d.join b
 refine DM.run (fuel:=0) ttok hsk33 [17] 262143 (by kernel_rfl) (by kernel_rfl) rfl ?_
 refine DM.weak [(1,.int .i64 x1),(2,.int .i64 x2),(39,.bool (i0 == 2))] ⟨rfl,rfl,rfl,trivial⟩ ?_
 refine DM.done hsk33 (by kernel_rfl) ?_
 refine WP.cond (i0 == 2) rfl (fun hc=>?_) (fun hc=>?_)
 ·skip
  rw [if_pos hc] at hm
  refine WP.seq ?_
  refine WP.region ?_
  refine RW.run ttok 4 rfl ?_
  refine RW.nil ?_
  refine WP.ret ?_
  cases hm
  exact⟨_,.cons (.tmp rfl) (.cons (.tmp rfl) .nil),rfl,o⟩
 ·skip
  rw [if_neg (z8 hc)] at hm
  refine WP.skip ?_
  refine WP.seq ?_
  refine WP.region ?_
  refine RW.run ttok 4 rfl ?_
  refine RW.nil ?_
  refine WP.ret ?_
  cases hm
  exact⟨_,.cons (.tmp rfl) (.cons (.tmp rfl) .nil),rfl,o⟩

theorem zdx:Enters Tryz.prog 85:=⟨_,_,Tryz.func85,rfl,by kernel_rfl⟩
def z2A (fuel:Nat) (b:Int):Option Int:=(if(b == 0)=true then some 8 else some b)
def z40 (fuel:Nat) (x0:Int) (x1:Int) (x2:Int) (x3:Int):Option (Int):=((z4b fuel x0 x1 x2 x3).bind fun r1=>(if(!r1)=true then some 0 else((z2k fuel x0 x1 x2 x3).bind fun b=>(if(b == 0)=true then((z2k fuel x2 x3 x0 x1).bind fun d=>z2A fuel d) else z2A fuel b))))

set_option maxRecDepth 100000 in
theorem z7C {W:Base}{w:World}(hE:Ext W w){x0:Int}{x1:Int}{x2:Int}{x3:Int}  {fuel:Nat}{r:Int}(hm:z40 fuel x0 x1 x2 x3=some r):
  Calls Tryz.prog 85 ⟨[.int .i64 x0,.int .i64 x1,.int .i64 x2,.int .i64 x3]⟩ w (Ret fun v w8=>v=.int .i64 r∧St w w8 []):=by
 refine Calls.into Tryz.func85 rfl 31 rfl rfl _ rfl ?_
 unfold z40 at hm
 have hS:=St.start w
 refine WP.seq ?_
 refine WP.region ?_
 refine RW.run ttok 1 rfl ?_
 refine RW.nil ?_
 refine WP.seq ?_
 refine WP.seq ?_
 refine WP.region ?_
 refine RW.run ttok 4 rfl ?_
 obtain⟨r1,j0,hm⟩:=bind_some hm
 refine RW.call rfl rfl rfl zaA (z6H (hE.trans hS.ext)  j0) (fun v3 w4 g0=>?_)
 obtain⟨rfl,i0⟩:=g0
 have a0:=hS.join i0
 refine RW.run ttok 1 rfl ?_
 refine RW.nil ?_
 refine WP.cond (!r1) rfl (fun hc=>?_) (fun hc=>?_)
 ·skip
  rw [if_pos hc] at hm
  refine WP.seq ?_
  refine WP.region ?_
  refine RW.run ttok 1 rfl ?_
  refine RW.nil ?_
  refine WP.ret ?_
  cases hm
  exact⟨_,.cons (.tmp rfl) .nil,rfl,a0⟩
 ·skip
  rw [if_neg (z8 hc)] at hm
  refine WP.skip ?_
  refine WP.seq ?_
  refine WP.region ?_
  refine RW.run ttok 4 rfl ?_
  obtain⟨d0,b0,hm⟩:=bind_some hm
  refine RW.call rfl rfl rfl z7w (z5a (hE.trans a0.ext)  b0) (fun o0 k0 G=>?_)
  obtain⟨rfl,H⟩:=G
  have b:=a0.join H
  refine RW.run ttok 1 rfl ?_
  refine RW.nil ?_
  refine WP.seq ?_
  refine WP.seq ?_
  refine WP.region ?_
  refine RW.run ttok 2 rfl ?_
  refine RW.nil ?_
  refine WP.cut (fun(y:Int) F w9=>z2A fuel y=some r∧Ext k0 w9∧St w w9 []∧F=[(9,.int .i64 y)]) ?_ ?_
  ·skip
   rintro y F q0 ⟨hm,f0,o,rfl⟩
   unfold z2A at hm
   refine WP.seq ?_
   refine WP.seq ?_
   refine WP.region ?_
   refine RW.run ttok 2 rfl ?_
   refine RW.nil ?_
   refine WP.cond (y == 0) rfl (fun hc=>?_) (fun hc=>?_)
   ·skip
    rw [if_pos hc] at hm
    refine WP.seq ?_
    refine WP.region ?_
    refine RW.run ttok 1 rfl ?_
    refine RW.nil ?_
    refine WP.ret ?_
    cases hm
    exact⟨_,.cons (.tmp rfl) .nil,rfl,o⟩
   ·skip
    rw [if_neg (z8 hc)] at hm
    refine WP.skip ?_
    refine WP.seq ?_
    refine WP.region ?_
    refine RW.run ttok 2 rfl ?_
    refine RW.nil ?_
    refine WP.ret ?_
    cases hm
    exact⟨_,.cons (.tmp rfl) .nil,rfl,o⟩
  ·skip
   refine WP.cond (d0 == 0) rfl (fun hc=>?_) (fun hc=>?_)
   ·skip
    rw [if_pos hc] at hm
    refine WP.region ?_
    refine RW.run ttok 4 rfl ?_
    obtain⟨e0,c0,hm⟩:=bind_some hm
    refine RW.call rfl rfl rfl z7w (z5a (hE.trans b.ext)  c0) (fun p0 r0 O=>?_)
    obtain⟨rfl,d⟩:=O
    have Y:=b.join d
    refine RW.run ttok 1 rfl ?_
    refine RW.nil ?_
    exact⟨e0,[(9,.int .i64 e0)],⟨rfl,trivial⟩,hm,d.ext,Y,rfl⟩
   ·skip
    rw [if_neg (z8 hc)] at hm
    refine WP.skip ?_
    exact⟨d0,[(9,.int .i64 d0)],⟨rfl,trivial⟩,hm,(Ext.refl _),b,rfl⟩

theorem zdU:Enters Tryz.prog 54:=⟨_,_,Tryz.func54,rfl,by kernel_rfl⟩
def z1Q (fuel:Nat) (x0:D.Agent) (x1:D.Agent) (d:Bool):Option Int:=(if d=true then some 8 else((z40 fuel x0.Kind x0.Level x1.Kind x1.Level).bind fun b=>some b))
def z1R (fuel:Nat) (x0:D.Agent) (x1:D.Agent) (b:Bool):Option Int:=(if b=true then some 8 else(if(x0.Kind == 10)=true then(if(x1.Kind == 9)=true then z1Q fuel x0 x1 (decide (x1.Value≥(x0.Data.length:Int))) else z1Q fuel x0 x1 false) else z1Q fuel x0 x1 false))
def z4q (fuel:Nat) (x0:D.Agent) (x1:D.Agent):Option (Int):=(if(x0.Kind == 9)=true then(if(x1.Kind == 10)=true then z1R fuel x0 x1 (decide (x0.Value≥(x1.Data.length:Int))) else z1R fuel x0 x1 false) else z1R fuel x0 x1 false)

set_option maxRecDepth 100000 in
theorem z7Y {W:Base}{w:World}(hE:Ext W w){b:Addr}{i0:List Value}{x0:D.Agent}{d:Addr}{j0:List Value}{x1:D.Agent}(o0:ty67.ro W i0 x0) (O:At W b i0) (p0:ty67.ro W j0 x1) (Y:At W d j0){fuel:Nat}{r:Int}(hm:z4q fuel x0 x1=some r):
  Calls Tryz.prog 54 ⟨[.pointer (some b),.pointer (some d)]⟩ w (Ret fun v w8=>v=.int .i64 r∧St w w8 []):=by
 obtain⟨A1,k2,A4,k5,e7,h3,h6⟩:=za o0;subst e7
 obtain⟨v0,C0,y0,D0,k0,A0,B0⟩:=za p0;subst k0
 refine Calls.into Tryz.func54 rfl 70 rfl rfl _ rfl ?_
 unfold z4q at hm
 have hS:=St.start w
 refine WP.seq ?_
 refine WP.region ?_
 refine RW.run ttok 1 rfl ?_
 refine RW.nil ?_
 refine WP.seq ?_
 refine WP.seq ?_
 refine WP.cut (fun(c0:Bool) F w9=>z1R fuel x0 x1 c0=some r∧Ext w w9∧St w w9 []∧F=[(0,.pointer (some b)),(1,.pointer (some d)),(28,.bool c0)]) ?_ ?_
 ·skip
  rintro c0 F u0 ⟨hm,q0,o,rfl⟩
  unfold z1R at hm
  refine WP.cond c0 rfl (fun hc=>?_) (fun hc=>?_)
  ·skip
   rw [if_pos hc] at hm
   refine WP.seq ?_
   refine WP.region ?_
   refine RW.run ttok 1 rfl ?_
   refine RW.nil ?_
   refine WP.ret ?_
   cases hm
   exact⟨_,.cons (.tmp rfl) .nil,rfl,o⟩
  ·skip
   rw [if_neg (z8 hc)] at hm
   refine WP.skip ?_
   refine WP.seq ?_
   refine WP.seq ?_
   refine WP.cut (fun(d0:Bool) F w9=>z1Q fuel x0 x1 d0=some r∧Ext u0 w9∧St w w9 []∧F=[(0,.pointer (some b)),(1,.pointer (some d)),(52,.bool d0)]) ?_ ?_
   ·skip
    rintro d0 F F0 ⟨hm,r0,y,rfl⟩
    unfold z1Q at hm
    refine WP.cond d0 rfl (fun hc=>?_) (fun hc=>?_)
    ·skip
     rw [if_pos hc] at hm
     refine WP.seq ?_
     refine WP.region ?_
     refine RW.run ttok 1 rfl ?_
     refine RW.nil ?_
     refine WP.ret ?_
     cases hm
     exact⟨_,.cons (.tmp rfl) .nil,rfl,y⟩
    ·skip
     rw [if_neg (z8 hc)] at hm
     refine WP.skip ?_
     refine WP.seq ?_
     refine WP.drawnM 0 mixed 18 (by kernel_rfl) (by kernel_rfl) [([],262143),([0],262142),([1],262141),([2],262139),([],262143),([4],262127),([5],262111),([6],262079),([],262143),([8],261887),([9],261631),([10],261119),([],262143),([12],258047),([13],253951),([14],245759),([3,7,11,15],227191),([16,16,0,1,2,3,4,5,6,7,8,9,10,11,12,13,14,15,16],196607)] (by kernel_rfl) y.ext (fun hsk27=>?_)
     have b0:=y.step (Ext.draw _)
     refine DM.run (fuel:=6) ttok hsk27 [0,1,2,4,5,6,8,9,10,12,13,14] 30583 (by kernel_rfl) (by kernel_rfl) rfl ?_
     refine DM.weak [(55,.pointer (some b)),(59,.pointer (some (b.add 1))),(63,.pointer (some d)),(67,.pointer (some (d.add 1)))] ⟨rfl,rfl,rfl,rfl,trivial⟩ ?_
     refine DM.load1 ttok hsk27 3 30591 (by kernel_rfl) (by kernel_rfl) (by kernel_rfl) (by kernel_rfl) rfl (by kernel_rfl) rfl rfl rfl rfl rfl (At.ext (hE.trans y.ext) O) 0 rfl rfl rfl rfl ?_
     refine DM.load1 ttok hsk27 7 30719 (by kernel_rfl) (by kernel_rfl) (by kernel_rfl) (by kernel_rfl) rfl (by kernel_rfl) rfl rfl rfl rfl rfl (At.ext (hE.trans y.ext) O) 1 rfl rfl rfl rfl ?_
     refine DM.load1 ttok hsk27 11 32767 (by kernel_rfl) (by kernel_rfl) (by kernel_rfl) (by kernel_rfl) rfl (by kernel_rfl) rfl rfl rfl rfl rfl (At.ext (hE.trans y.ext) Y) 0 rfl rfl rfl rfl ?_
     refine DM.load1 ttok hsk27 15 65535 (by kernel_rfl) (by kernel_rfl) (by kernel_rfl) (by kernel_rfl) rfl (by kernel_rfl) rfl rfl rfl rfl rfl (At.ext (hE.trans y.ext) Y) 1 rfl rfl rfl rfl ?_
     obtain⟨t0,g0,hm⟩:=bind_some hm
     refine DM.one hsk27 16 (by kernel_rfl) (LM.call hsk27 131071 (by kernel_rfl) (by kernel_rfl) rfl rfl rfl rfl zdx (z7C (hE.trans b0.ext)  g0) (fun E0 G0 e0=>?_))
     obtain⟨rfl,a0⟩:=e0
     refine⟨a0.ext,?_⟩
     have f0:=b0.join a0
     refine DM.run (fuel:=0) ttok hsk27 [17] 262143 (by kernel_rfl) (by kernel_rfl) rfl ?_
     refine DM.weak [(4,.int .i64 t0)] ⟨rfl,trivial⟩ ?_
     refine DM.done hsk27 (by kernel_rfl) ?_
     refine WP.ret ?_
     cases hm
     exact⟨_,.cons (.tmp rfl) .nil,rfl,f0⟩
   ·skip
    refine WP.drawnM 0 mixed 24 (by kernel_rfl) (by kernel_rfl) [([],16777215),([0],16777214),([1],16777213),([2],16777211),([3],16777207),([4],16777199),([5],16777183),([6,5],16777119),([7,5],16777055),([8,5],16776927),([9,5],16776671),([5,10],16776159),([11,5],16775167),([12],16773119),([13,12],16764927),([14,12],16756735),([15,12],16740351),([12],16773119),([17,12],16642047),([18,12],16510975),([19,12],16248831),([20,12],15724543),([16,21,12],14610431),([12,22],12578815)] (by kernel_rfl) o.ext (fun hsk36=>?_)
    have G:=o.step (Ext.draw _)
    refine DM.run (fuel:=21) ttok hsk36 [0,1,2] 7 (by kernel_rfl) (by kernel_rfl) rfl ?_
    refine DM.load1 ttok hsk36 3 15 (by kernel_rfl) (by kernel_rfl) (by kernel_rfl) (by kernel_rfl) rfl (by kernel_rfl) rfl rfl rfl rfl rfl (At.ext (hE.trans o.ext) O) 0 rfl rfl rfl rfl ?_
    refine DM.run (fuel:=18) ttok hsk36 [4,5] 63 (by kernel_rfl) (by kernel_rfl) rfl ?_
    refine DM.weak [(0,.pointer (some b)),(1,.pointer (some d)),(34,.bool (x0.Kind == 10))] ⟨rfl,rfl,rfl,trivial⟩ ?_
    by_cases hg38:(x0.Kind == 10)=true
    ·skip
     rw [if_pos hg38] at hm
     refine DM.know 34 rfl (congrArg Value.bool hg38) ?_
     refine DM.run (fuel:=15) ttok hsk36 [6,7,8] 511 (by kernel_rfl) (by kernel_rfl) rfl ?_
     refine DM.load1 ttok hsk36 9 1023 (by kernel_rfl) (by kernel_rfl) (by kernel_rfl) (by kernel_rfl) rfl (by kernel_rfl) rfl rfl rfl rfl rfl (At.ext (hE.trans o.ext) Y) 0 rfl rfl rfl rfl ?_
     refine DM.run (fuel:=11) ttok hsk36 [10,11,12] 8191 (by kernel_rfl) (by kernel_rfl) rfl ?_
     refine DM.weak [(0,.pointer (some b)),(1,.pointer (some d)),(41,.bool (x1.Kind == 9))] ⟨rfl,rfl,rfl,trivial⟩ ?_
     by_cases hg39:(x1.Kind == 9)=true
     ·skip
      rw [if_pos hg39] at hm
      refine DM.know 41 rfl (congrArg Value.bool hg39) ?_
      refine DM.run (fuel:=5) ttok hsk36 [13,14,15,17,18,19] 983039 (by kernel_rfl) (by kernel_rfl) rfl ?_
      refine DM.load1 ttok hsk36 16 1048575 (by kernel_rfl) (by kernel_rfl) (by kernel_rfl) (by kernel_rfl) rfl (by kernel_rfl) rfl rfl rfl rfl rfl (At.ext (hE.trans o.ext) Y) 2 rfl rfl rfl rfl ?_
      refine DM.load1 ttok hsk36 20 2097151 (by kernel_rfl) (by kernel_rfl) (by kernel_rfl) (by kernel_rfl) rfl (by kernel_rfl) rfl rfl rfl rfl rfl (At.ext (hE.trans o.ext) O) 3 rfl rfl rfl rfl ?_
      refine DM.run (fuel:=0) ttok hsk36 [21,22,23] 16777215 (by kernel_rfl) (by kernel_rfl) rfl ?_
      refine DM.weak [(0,.pointer (some b)),(1,.pointer (some d)),(52,.bool (decide (x1.Value≥(x0.Data.length:Int))))] ⟨rfl,rfl,rfl,trivial⟩ ?_
      refine DM.done hsk36 (by kernel_rfl) ?_
      exact⟨decide (x1.Value≥(x0.Data.length:Int)),[(0,.pointer (some b)),(1,.pointer (some d)),(52,.bool (decide (x1.Value≥(x0.Data.length:Int))))],⟨rfl,rfl,rfl,trivial⟩,hm,(Ext.draw _),G,rfl⟩
     ·skip
      rw [if_neg hg39] at hm
      refine DM.know 41 rfl (congrArg Value.bool (Bool.eq_false_iff.2 hg39)) ?_
      refine DM.run (fuel:=0) ttok hsk36 [13,14,15,16,17,18,19,20,21,22,23] 16777215 (by kernel_rfl) (by kernel_rfl) rfl ?_
      refine DM.weak [(0,.pointer (some b)),(1,.pointer (some d)),(52,.bool false)] ⟨rfl,rfl,rfl,trivial⟩ ?_
      refine DM.done hsk36 (by kernel_rfl) ?_
      exact⟨false,[(0,.pointer (some b)),(1,.pointer (some d)),(52,.bool false)],⟨rfl,rfl,rfl,trivial⟩,hm,(Ext.draw _),G,rfl⟩
    ·skip
     rw [if_neg hg38] at hm
     refine DM.know 34 rfl (congrArg Value.bool (Bool.eq_false_iff.2 hg38)) ?_
     refine DM.run (fuel:=0) ttok hsk36 [6,7,8,9,10,11,12,13,14,15,16,17,18,19,20,21,22,23] 16777215 (by kernel_rfl) (by kernel_rfl) rfl ?_
     refine DM.weak [(0,.pointer (some b)),(1,.pointer (some d)),(52,.bool false)] ⟨rfl,rfl,rfl,trivial⟩ ?_
     refine DM.done hsk36 (by kernel_rfl) ?_
     exact⟨false,[(0,.pointer (some b)),(1,.pointer (some d)),(52,.bool false)],⟨rfl,rfl,rfl,trivial⟩,hm,(Ext.draw _),G,rfl⟩
 ·skip
  refine WP.drawnM 0 mixed 24 (by kernel_rfl) (by kernel_rfl) [([],16777215),([0],16777214),([1],16777213),([2],16777211),([3],16777207),([4],16777199),([5],16777183),([6,5],16777119),([7,5],16777055),([8,5],16776927),([9,5],16776671),([5,10],16776159),([11,5],16775167),([12],16773119),([13,12],16764927),([14,12],16756735),([15,12],16740351),([12],16773119),([17,12],16642047),([18,12],16510975),([19,12],16248831),([20,12],15724543),([16,21,12],14610431),([12,22],12578815)] (by kernel_rfl) hS.ext (fun hsk40=>?_)
  have H:=hS.step (Ext.draw _)
  refine DM.run (fuel:=21) ttok hsk40 [0,1,2] 7 (by kernel_rfl) (by kernel_rfl) rfl ?_
  refine DM.load1 ttok hsk40 3 15 (by kernel_rfl) (by kernel_rfl) (by kernel_rfl) (by kernel_rfl) rfl (by kernel_rfl) rfl rfl rfl rfl rfl (At.ext (hE.trans hS.ext) O) 0 rfl rfl rfl rfl ?_
  refine DM.run (fuel:=18) ttok hsk40 [4,5] 63 (by kernel_rfl) (by kernel_rfl) rfl ?_
  refine DM.weak [(0,.pointer (some b)),(1,.pointer (some d)),(10,.bool (x0.Kind == 9))] ⟨rfl,rfl,rfl,trivial⟩ ?_
  by_cases hg42:(x0.Kind == 9)=true
  ·skip
   rw [if_pos hg42] at hm
   refine DM.know 10 rfl (congrArg Value.bool hg42) ?_
   refine DM.run (fuel:=15) ttok hsk40 [6,7,8] 511 (by kernel_rfl) (by kernel_rfl) rfl ?_
   refine DM.load1 ttok hsk40 9 1023 (by kernel_rfl) (by kernel_rfl) (by kernel_rfl) (by kernel_rfl) rfl (by kernel_rfl) rfl rfl rfl rfl rfl (At.ext (hE.trans hS.ext) Y) 0 rfl rfl rfl rfl ?_
   refine DM.run (fuel:=11) ttok hsk40 [10,11,12] 8191 (by kernel_rfl) (by kernel_rfl) rfl ?_
   refine DM.weak [(0,.pointer (some b)),(1,.pointer (some d)),(17,.bool (x1.Kind == 10))] ⟨rfl,rfl,rfl,trivial⟩ ?_
   by_cases hg43:(x1.Kind == 10)=true
   ·skip
    rw [if_pos hg43] at hm
    refine DM.know 17 rfl (congrArg Value.bool hg43) ?_
    refine DM.run (fuel:=5) ttok hsk40 [13,14,15,17,18,19] 983039 (by kernel_rfl) (by kernel_rfl) rfl ?_
    refine DM.load1 ttok hsk40 16 1048575 (by kernel_rfl) (by kernel_rfl) (by kernel_rfl) (by kernel_rfl) rfl (by kernel_rfl) rfl rfl rfl rfl rfl (At.ext (hE.trans hS.ext) O) 2 rfl rfl rfl rfl ?_
    refine DM.load1 ttok hsk40 20 2097151 (by kernel_rfl) (by kernel_rfl) (by kernel_rfl) (by kernel_rfl) rfl (by kernel_rfl) rfl rfl rfl rfl rfl (At.ext (hE.trans hS.ext) Y) 3 rfl rfl rfl rfl ?_
    refine DM.run (fuel:=0) ttok hsk40 [21,22,23] 16777215 (by kernel_rfl) (by kernel_rfl) rfl ?_
    refine DM.weak [(0,.pointer (some b)),(1,.pointer (some d)),(28,.bool (decide (x0.Value≥(x1.Data.length:Int))))] ⟨rfl,rfl,rfl,trivial⟩ ?_
    refine DM.done hsk40 (by kernel_rfl) ?_
    exact⟨decide (x0.Value≥(x1.Data.length:Int)),[(0,.pointer (some b)),(1,.pointer (some d)),(28,.bool (decide (x0.Value≥(x1.Data.length:Int))))],⟨rfl,rfl,rfl,trivial⟩,hm,(Ext.draw _),H,rfl⟩
   ·skip
    rw [if_neg hg43] at hm
    refine DM.know 17 rfl (congrArg Value.bool (Bool.eq_false_iff.2 hg43)) ?_
    refine DM.run (fuel:=0) ttok hsk40 [13,14,15,16,17,18,19,20,21,22,23] 16777215 (by kernel_rfl) (by kernel_rfl) rfl ?_
    refine DM.weak [(0,.pointer (some b)),(1,.pointer (some d)),(28,.bool false)] ⟨rfl,rfl,rfl,trivial⟩ ?_
    refine DM.done hsk40 (by kernel_rfl) ?_
    exact⟨false,[(0,.pointer (some b)),(1,.pointer (some d)),(28,.bool false)],⟨rfl,rfl,rfl,trivial⟩,hm,(Ext.draw _),H,rfl⟩
  ·skip
   rw [if_neg hg42] at hm
   refine DM.know 10 rfl (congrArg Value.bool (Bool.eq_false_iff.2 hg42)) ?_
   refine DM.run (fuel:=0) ttok hsk40 [6,7,8,9,10,11,12,13,14,15,16,17,18,19,20,21,22,23] 16777215 (by kernel_rfl) (by kernel_rfl) rfl ?_
   refine DM.weak [(0,.pointer (some b)),(1,.pointer (some d)),(28,.bool false)] ⟨rfl,rfl,rfl,trivial⟩ ?_
   refine DM.done hsk40 (by kernel_rfl) ?_
   exact⟨false,[(0,.pointer (some b)),(1,.pointer (some d)),(28,.bool false)],⟨rfl,rfl,rfl,trivial⟩,hm,(Ext.draw _),H,rfl⟩

theorem ze5:Enters Tryz.prog 38:=⟨_,_,Tryz.func38,rfl,by kernel_rfl⟩
def z1g (fuel:Nat) (x0:D.Net) (b:Int × Int) (d:Int) (o:Bool):Option Int:=(if o=true then some b.2 else(if(d == 5)=true then((idx x0.Agents b.2).bind fun y=>(if(y.Kind == 8)=true then some b.2 else some (-1))) else some (-1)))
def zY (fuel:Nat) (x0:D.Net) (b:Int × Int) (d:Int) (o:Bool):Option Int:=z1g fuel x0 b d o
def z1P (fuel:Nat) (x0:D.Net) (x1:D.Pair):Option (Int):=((z5f fuel x0 x1.A x1.B).bind fun d=>((idx x0.Agents d.1).bind fun o=>((idx x0.Agents d.2).bind fun y=>((z4q fuel o y).bind fun b=>(if(b == 1)=true then z1g fuel x0 d b (b == 1) else(if(b == 6)=true then zY fuel x0 d b (b == 6) else zY fuel x0 d b (b == 7)))))))

set_option maxRecDepth 100000 in
theorem z78 {W:Base}{w:World}(hE:Ext W w){y:Addr}{C0:List Value}{x0:D.Net}{D0:List Value}{x1:D.Pair}(E0:ty31.ro W C0 x0) (i0:At W y C0) (O0:ty71.ro W D0 x1){fuel:Nat}{r:Int}(hm:z1P fuel x0 x1=some r):
  Calls Tryz.prog 38 ⟨[.pointer (some y),.agg ⟨D0⟩]⟩ w (Ret fun v w8=>v=.int .i64 r∧St w w8 []):=by
 obtain⟨A1,k2,e4,h3⟩:=zK E0;subst e4
 have e5:=z6g O0;subst e5
 refine Calls.into Tryz.func38 rfl 46 rfl rfl _ rfl ?_
 unfold z1P at hm
 have hS:=St.start w
 refine WP.seq ?_
 refine WP.region ?_
 refine RW.new ttok hS rfl rfl rfl rfl (fun g6 w7 Y0 H=>?_)
 refine RW.run ttok 1 rfl ?_
 refine RW.nil ?_
 refine WP.seq ?_
 refine WP.region ?_
 refine RW.run ttok 2 rfl ?_
 refine RW.load1 ttok rfl rfl rfl rfl rfl ((H.bring 0 rfl).box) 0 rfl rfl rfl rfl ?_
 refine RW.run ttok 1 rfl ?_
 refine RW.load1 ttok rfl rfl rfl rfl rfl ((H.bring 0 rfl).box) 1 rfl rfl rfl rfl ?_
 obtain⟨G,A0,hm⟩:=bind_some hm
 refine RW.call rfl rfl rfl zdV (z7X (hE.trans H.ext) E0 i0 A0) (fun y1 C1 o0=>?_)
 obtain⟨rfl,p0⟩:=o0
 have o:=H.join p0
 refine RW.run ttok 5 rfl ?_
 refine RW.nil ?_
 refine WP.seq ?_
 refine WP.seq ?_
 refine WP.drawnM 0 mixed 13 (by kernel_rfl) (by kernel_rfl) [([],8191),([0],8190),([1],8189),([2],8187),([],8191),([3,4],8167),([],8191),([6],8127),([7],8063),([8],7935),([],8191),([9,10],6655),([5,11],6111)] (by kernel_rfl) o.ext (fun hsk19=>?_)
 have a0:=o.step (Ext.draw _)
 refine DM.run (fuel:=5) ttok hsk19 [0,1,2,4,6,7,8,10] 1495 (by kernel_rfl) (by kernel_rfl) rfl ?_
 refine DM.weak [(0,.pointer (some y)),(6,.int .i64 G.2),(18,.pointer (some y)),(20,.int .i64 G.1),(24,.pointer (some y)),(26,.int .i64 G.2)] ⟨rfl,rfl,rfl,rfl,rfl,rfl,trivial⟩ ?_
 refine DM.load1 ttok hsk19 3 1503 (by kernel_rfl) (by kernel_rfl) (by kernel_rfl) (by kernel_rfl) rfl (by kernel_rfl) rfl rfl rfl rfl rfl (At.ext (hE.trans o.ext) i0) 0 rfl rfl rfl rfl ?_
 obtain⟨F1,d0,hm⟩:=bind_some hm
 refine DM.idx ttok (hE.trans o.ext) hsk19 5 1535 (by kernel_rfl) (by kernel_rfl) (by kernel_rfl) (by kernel_rfl) rfl (by kernel_rfl) rfl rfl rfl rfl rfl rfl (by decide) rfl rfl h3 (z6 d0).1 (z6 d0).2 rfl rfl (fun t1 K0 t0 b0=>?_)
 obtain⟨R0,i1,S0,j1,G0,a1,b1⟩:=za b0;subst G0
 refine DM.load1 ttok hsk19 9 2047 (by kernel_rfl) (by kernel_rfl) (by kernel_rfl) (by kernel_rfl) rfl (by kernel_rfl) rfl rfl rfl rfl rfl (At.ext (hE.trans o.ext) i0) 0 rfl rfl rfl rfl ?_
 obtain⟨G1,e0,hm⟩:=bind_some hm
 refine DM.idx ttok (hE.trans o.ext) hsk19 11 4095 (by kernel_rfl) (by kernel_rfl) (by kernel_rfl) (by kernel_rfl) rfl (by kernel_rfl) rfl rfl rfl rfl rfl rfl (by decide) rfl rfl h3 (z6 e0).1 (z6 e0).2 rfl rfl (fun u1 M0 u0 c0=>?_)
 obtain⟨T0,k1,U0,m1,H0,d1,e1⟩:=za c0;subst H0
 obtain⟨b,B0,hm⟩:=bind_some hm
 refine DM.one hsk19 12 (by kernel_rfl) (LM.call hsk19 8191 (by kernel_rfl) (by kernel_rfl) rfl rfl rfl rfl zdU (z7Y (hE.trans a0.ext) b0 t0 c0 u0 B0) (fun B1 F0 q0=>?_))
 obtain⟨rfl,Y⟩:=q0
 refine⟨Y.ext,?_⟩
 have O:=a0.join Y
 refine DM.done hsk19 (by kernel_rfl) ?_
 refine WP.block ?_
 refine WP.seq ?_
 refine WP.seq ?_
 refine WP.region ?_
 refine RW.run ttok 2 rfl ?_
 refine RW.nil ?_
 refine WP.cut (fun(j0:Bool) F w9=>z1g fuel x0 G b j0=some r∧Ext F0 w9∧St w w9 []∧F=[(0,.pointer (some y)),(6,.int .i64 G.2),(28,.int .i64 b),(29,.bool j0)]) ?_ ?_
 ·skip
  rintro j0 F D1 ⟨hm,P0,d,rfl⟩
  unfold z1g at hm
  refine WP.cond j0 rfl (fun hc=>?_) (fun hc=>?_)
  ·skip
   rw [if_pos hc] at hm
   refine WP.seq ?_
   refine WP.region ?_
   refine RW.run ttok 2 rfl ?_
   refine RW.nil ?_
   refine WP.ret ?_
   cases hm
   exact⟨_,.cons (.tmp rfl) .nil,rfl,d⟩
  ·skip
   rw [if_neg (z8 hc)] at hm
   refine WP.seq ?_
   refine WP.region ?_
   refine RW.run ttok 2 rfl ?_
   refine RW.nil ?_
   refine WP.cond (b == 5) rfl (fun hc=>?_) (fun hc=>?_)
   ·skip
    rw [if_pos hc] at hm
    refine WP.seq ?_
    refine WP.region ?_
    refine RW.run ttok 3 rfl ?_
    refine RW.load1 ttok rfl rfl rfl rfl rfl (At.ext (hE.trans d.ext) i0) 0 rfl rfl rfl rfl ?_
    refine RW.run ttok 1 rfl ?_
    obtain⟨Q0,f0,hm⟩:=bind_some hm
    refine RW.idx ttok (hE.trans d.ext) rfl rfl rfl rfl rfl rfl (by decide) rfl rfl h3 (z6 f0).1 (z6 f0).2 rfl rfl (fun v1 N0 v0 y0=>?_)
    obtain⟨V0,n1,X0,p1,J0,f1,g1⟩:=za y0;subst J0
    refine RW.run ttok 1 rfl ?_
    refine RW.load1 ttok rfl rfl rfl rfl rfl (At.ext (hE.trans d.ext) v0) 0 rfl rfl rfl rfl ?_
    refine RW.run ttok 1 rfl ?_
    refine RW.nil ?_
    refine WP.cond (Q0.Kind == 8) rfl (fun hc=>?_) (fun hc=>?_)
    ·skip
     rw [if_pos hc] at hm
     refine WP.seq ?_
     refine WP.region ?_
     refine RW.run ttok 2 rfl ?_
     refine RW.nil ?_
     refine WP.ret ?_
     cases hm
     exact⟨_,.cons (.tmp rfl) .nil,rfl,d⟩
    ·skip
     rw [if_neg (z8 hc)] at hm
     refine WP.skip ?_
     refine WP.seq ?_
     refine WP.region ?_
     refine RW.run ttok 1 rfl ?_
     refine RW.nil ?_
     refine WP.ret ?_
     cases hm
     exact⟨_,.cons (.tmp rfl) .nil,rfl,d⟩
   ·skip
    rw [if_neg (z8 hc)] at hm
    refine WP.skip ?_
    refine WP.seq ?_
    refine WP.region ?_
    refine RW.run ttok 1 rfl ?_
    refine RW.nil ?_
    refine WP.ret ?_
    cases hm
    exact⟨_,.cons (.tmp rfl) .nil,rfl,d⟩
 ·skip
  refine WP.cond (b == 1) rfl (fun hc=>?_) (fun hc=>?_)
  ·skip
   rw [if_pos hc] at hm
   refine WP.skip ?_
   exact⟨(b == 1),[(0,.pointer (some y)),(6,.int .i64 G.2),(28,.int .i64 b),(29,.bool (b == 1))],⟨rfl,rfl,rfl,rfl,trivial⟩,hm,(Ext.refl _),(O.taken 0),rfl⟩
  ·skip
   rw [if_neg (z8 hc)] at hm
   refine WP.seq ?_
   refine WP.region ?_
   refine RW.run ttok 2 rfl ?_
   refine RW.nil ?_
   refine WP.cut (fun(g0:Bool) F w9=>zY fuel x0 G b g0=some r∧Ext F0 w9∧St w w9 []∧F=[(0,.pointer (some y)),(6,.int .i64 G.2),(28,.int .i64 b),(29,.bool g0)]) ?_ ?_
   ·skip
    rintro g0 F E1 ⟨hm,k0,r0,rfl⟩
    unfold zY at hm
    exact⟨g0,[(0,.pointer (some y)),(6,.int .i64 G.2),(28,.int .i64 b),(29,.bool g0)],⟨rfl,rfl,rfl,rfl,trivial⟩,hm,k0,r0,rfl⟩
   ·skip
    refine WP.cond (b == 6) rfl (fun hc=>?_) (fun hc=>?_)
    ·skip
     rw [if_pos hc] at hm
     refine WP.skip ?_
     exact⟨(b == 6),[(0,.pointer (some y)),(6,.int .i64 G.2),(28,.int .i64 b),(29,.bool (b == 6))],⟨rfl,rfl,rfl,rfl,trivial⟩,hm,(Ext.refl _),(O.taken 0),rfl⟩
    ·skip
     rw [if_neg (z8 hc)] at hm
     refine WP.region ?_
     refine RW.run ttok 2 rfl ?_
     refine RW.nil ?_
     exact⟨(b == 7),[(0,.pointer (some y)),(6,.int .i64 G.2),(28,.int .i64 b),(29,.bool (b == 7))],⟨rfl,rfl,rfl,rfl,trivial⟩,hm,(Ext.refl _),(O.taken 0),rfl⟩

theorem ze4:Enters Tryz.prog 39:=⟨_,_,Tryz.func39,rfl,by kernel_rfl⟩
def z42 (fuel:Nat) (x1:Int) (d:(List D.Pair)) (o:Bool):Option (D.Pair × Int):=(if o=true then some ((⟨0,0⟩:D.Pair),2) else((idx d x1).bind fun b=>some ((⟨b.A,b.B⟩:D.Pair),0)))
def z5m (fuel:Nat) (x0:D.Net) (x1:Int):Option (D.Pair × Int):=((z3M fuel x0).bind fun d=>(if(!d)=true then some ((⟨0,0⟩:D.Pair),1) else((z49 fuel x0).bind fun b=>(if(decide (x1<0))=true then z42 fuel x1 b true else z42 fuel x1 b (decide (x1≥(b.length:Int)))))))

set_option maxRecDepth 100000 in
theorem z8Y {W:Base}{w:World}(hE:Ext W w){A0:List Value}{x0:D.Net}{x1:Int}(f0:ty31.ro W A0 x0){fuel:Nat}{r:D.Pair × Int}(hm:z5m fuel x0 x1=some r):
  Calls Tryz.prog 39 ⟨[.agg ⟨A0⟩,.int .i64 x1]⟩ w (Ret fun v w8=>v=.tuple ⟨[.agg ⟨[.int .i64 r.1.A,.int .i64 r.1.B]⟩,.int .i64 r.2]⟩∧St w w8 []):=by
 obtain⟨A1,k2,e4,h3⟩:=zK f0;subst e4
 refine Calls.into Tryz.func39 rfl 25 rfl rfl _ rfl ?_
 unfold z5m at hm
 have hS:=St.start w
 refine WP.seq ?_
 refine WP.region ?_
 refine RW.new ttok hS rfl rfl rfl rfl (fun g5 w6 e7 o0=>?_)
 refine RW.new ttok o0 rfl rfl rfl rfl (fun c0 M0 G0 o=>?_)
 refine RW.run ttok 1 rfl ?_
 refine RW.nil ?_
 refine WP.seq ?_
 refine WP.seq ?_
 refine WP.region ?_
 refine RW.loadN ttok rfl rfl rfl rfl rfl ((o.bring 1 rfl).box) rfl rfl rfl ?_
 obtain⟨E0,v0,hm⟩:=bind_some hm
 refine RW.call rfl rfl rfl zbh (z6D (hE.trans o.ext) f0 v0) (fun J0 N0 g0=>?_)
 obtain⟨rfl,i0⟩:=g0
 have b:=o.join i0
 refine RW.run ttok 1 rfl ?_
 refine RW.nil ?_
 refine WP.cond (!E0) rfl (fun hc=>?_) (fun hc=>?_)
 ·skip
  rw [if_pos hc] at hm
  refine WP.seq ?_
  refine WP.region ?_
  refine RW.quiet rfl (Quiet.build ttok rfl rfl rfl rfl rfl) rfl rfl ?_
  have p0:=b.bring 0 rfl
  refine RW.store ttok (A:=[]) p0 rfl rfl rfl rfl rfl 0 rfl rfl rfl rfl rfl (fun O0 G=>?_)
  refine RW.run ttok 1 rfl ?_
  refine RW.nil ?_
  refine WP.ret ?_
  cases hm
  exact⟨_,.cons (ResIs.agg ttok rfl rfl rfl ((G.bring 0 rfl).box) rfl) (.cons (.tmp rfl) .nil),rfl,(G.taken 0)⟩
 ·skip
  rw [if_neg (z8 hc)] at hm
  refine WP.skip ?_
  refine WP.seq ?_
  refine WP.region ?_
  obtain⟨d,y0,hm⟩:=bind_some hm
  refine RW.call rfl rfl rfl zdT (z7N (Ext.refl _) (ty31.ext (hE.trans b.ext) f0) ((b.bring 1 rfl).box) y0) (fun K0 F0 j0=>?_)
  obtain⟨b0,d0,rfl,k0⟩:=j0
  have H:=b.join k0
  refine RW.run ttok 1 rfl ?_
  refine RW.nil ?_
  refine WP.seq ?_
  refine WP.seq ?_
  refine WP.cut (fun(e0:Bool) F w9=>z42 fuel x1 d e0=some r∧Ext F0 w9∧St w w9 [Own z7z [.slice b0 d.length d0] d,Box c0 [.int .i64 0,.int .i64 0] 71]∧F=[(1,.int .i64 x1),(4,.pointer (some ⟨c0,0,none⟩)),(6,.slice b0 d.length d0),(19,.bool e0)]) ?_ ?_
  ·skip
   rintro e0 F P0 ⟨hm,D0,y,rfl⟩
   unfold z42 at hm
   refine WP.cond e0 rfl (fun hc=>?_) (fun hc=>?_)
   ·skip
    rw [if_pos hc] at hm
    refine WP.seq ?_
    refine WP.region ?_
    refine RW.quiet rfl (Quiet.build ttok rfl rfl rfl rfl rfl) rfl rfl ?_
    have q0:=y.bring 1 rfl
    refine RW.store ttok (A:=[]) q0 rfl rfl rfl rfl rfl 0 rfl rfl rfl rfl rfl (fun Q0 O=>?_)
    refine RW.run ttok 1 rfl ?_
    refine RW.nil ?_
    refine WP.ret ?_
    cases hm
    exact⟨_,.cons (ResIs.agg ttok rfl rfl rfl ((O.bring 0 rfl).box) rfl) (.cons (.tmp rfl) .nil),rfl,(O.taken 0)⟩
   ·skip
    rw [if_neg (z8 hc)] at hm
    refine WP.skip ?_
    refine WP.seq ?_
    refine WP.region ?_
    refine RW.run ttok 2 rfl ?_
    obtain⟨S0,a0,hm⟩:=bind_some hm
    refine RW.idx ttok (Ext.refl _) rfl rfl rfl rfl rfl rfl (by decide) rfl rfl ((y.bring 0 rfl).own) (z6 a0).1 (z6 a0).2 rfl rfl (fun H0 C0 t0 u0=>?_)
    have B0:=z6g u0;subst B0
    refine RW.loadN ttok rfl rfl rfl rfl rfl t0 rfl rfl rfl ?_
    have r0:=y.bring 1 rfl
    refine RW.store ttok (A:=[]) r0 rfl rfl rfl rfl rfl 0 rfl rfl rfl rfl rfl (fun R0 Y=>?_)
    refine RW.run ttok 1 rfl ?_
    refine RW.nil ?_
    refine WP.ret ?_
    cases hm
    exact⟨_,.cons (ResIs.agg ttok rfl rfl rfl ((Y.bring 0 rfl).box) rfl) (.cons (.tmp rfl) .nil),rfl,(Y.taken 0)⟩
  ·skip
   refine WP.region ?_
   refine RW.run ttok 3 rfl ?_
   by_cases hg52:(decide (x1<0))=true
   ·skip
    rw [if_pos hg52] at hm
    refine RW.know 14 rfl (congrArg Value.bool hg52) ?_
    refine RW.run ttok 5 rfl ?_
    refine RW.nil ?_
    exact⟨true,[(1,.int .i64 x1),(4,.pointer (some ⟨c0,0,none⟩)),(6,.slice b0 d.length d0),(19,.bool true)],⟨rfl,rfl,rfl,rfl,trivial⟩,hm,(Ext.refl _),(H.taken 2),rfl⟩
   ·skip
    rw [if_neg hg52] at hm
    refine RW.know 14 rfl (congrArg Value.bool (Bool.eq_false_iff.2 hg52)) ?_
    refine RW.run ttok 5 rfl ?_
    refine RW.nil ?_
    exact⟨decide (x1≥(d.length:Int)),[(1,.int .i64 x1),(4,.pointer (some ⟨c0,0,none⟩)),(6,.slice b0 d.length d0),(19,.bool (decide (x1≥(d.length:Int))))],⟨rfl,rfl,rfl,rfl,trivial⟩,hm,(Ext.refl _),(H.taken 2),rfl⟩

theorem zcB:Enters Tryz.prog 130:=⟨_,_,Tryz.func130,rfl,by kernel_rfl⟩
def z2f (fuel:Nat) (x0:Int) (x1:Int) (x2:Int) (t1:Bool):Option Bool:=(if t1=true then some false else(if(x1 == 6)=true then some true else(if(x1 == 12)=true then some true else((z3O fuel x1).bind fun b=>(if b=true then some (decide (x2>x0)) else some false)))))
def z3Q (fuel:Nat) (x0:Int) (x1:Int) (x2:Int):Option (Bool):=((z2m fuel x0).bind fun b=>(if(!b)=true then z2f fuel x0 x1 x2 true else((z1x fuel x1 x2).bind fun d=>z2f fuel x0 x1 x2 (!d))))

set_option maxRecDepth 100000 in
theorem z7r {W:Base}{w:World}(hE:Ext W w){x0:Int}{x1:Int}{x2:Int}  {fuel:Nat}{r:Bool}(hm:z3Q fuel x0 x1 x2=some r):
  Calls Tryz.prog 130 ⟨[.int .i64 x0,.int .i64 x1,.int .i64 x2]⟩ w (Ret fun v w8=>v=.bool r∧St w w8 []):=by
 refine Calls.into Tryz.func130 rfl 31 rfl rfl _ rfl ?_
 unfold z3Q at hm
 have hS:=St.start w
 refine WP.seq ?_
 refine WP.region ?_
 refine RW.run ttok 1 rfl ?_
 refine RW.nil ?_
 refine WP.seq ?_
 refine WP.seq ?_
 refine WP.cut (fun(t1:Bool) F w9=>z2f fuel x0 x1 x2 t1=some r∧Ext w w9∧St w w9 []∧F=[(0,.int .i64 x0),(1,.int .i64 x1),(2,.int .i64 x2),(15,.bool t1)]) ?_ ?_
 ·skip
  rintro t1 F w4 ⟨hm,j0,G,rfl⟩
  unfold z2f at hm
  refine WP.cond t1 rfl (fun hc=>?_) (fun hc=>?_)
  ·skip
   rw [if_pos hc] at hm
   refine WP.seq ?_
   refine WP.region ?_
   refine RW.run ttok 1 rfl ?_
   refine RW.nil ?_
   refine WP.ret ?_
   cases hm
   exact⟨_,.cons (.tmp rfl) .nil,rfl,G⟩
  ·skip
   rw [if_neg (z8 hc)] at hm
   refine WP.skip ?_
   refine WP.seq ?_
   refine WP.region ?_
   refine RW.run ttok 3 rfl ?_
   by_cases hg6:(x1 == 6)=true
   ·skip
    rw [if_pos hg6] at hm
    refine RW.know 18 rfl (congrArg Value.bool hg6) ?_
    refine RW.run ttok 13 rfl ?_
    refine RW.nil ?_
    refine WP.ret ?_
    cases hm
    exact⟨_,.cons (.tmp rfl) .nil,rfl,G⟩
   ·skip
    rw [if_neg hg6] at hm
    refine RW.know 18 rfl (congrArg Value.bool (Bool.eq_false_iff.2 hg6)) ?_
    refine RW.run ttok 4 rfl ?_
    by_cases hg7:(x1 == 12)=true
    ·skip
     rw [if_pos hg7] at hm
     refine RW.know 22 rfl (congrArg Value.bool hg7) ?_
     refine RW.run ttok 9 rfl ?_
     refine RW.nil ?_
     refine WP.ret ?_
     cases hm
     exact⟨_,.cons (.tmp rfl) .nil,rfl,G⟩
    ·skip
     rw [if_neg hg7] at hm
     refine RW.know 22 rfl (congrArg Value.bool (Bool.eq_false_iff.2 hg7)) ?_
     refine RW.run ttok 1 rfl ?_
     obtain⟨g0,c0,hm⟩:=bind_some hm
     refine RW.call rfl rfl rfl zat (z6E (hE.trans G.ext)  c0) (fun k0 q0 H=>?_)
     obtain⟨rfl,O⟩:=H
     have y:=G.join O
     refine RW.run ttok 1 rfl ?_
     by_cases hg17:g0=true
     ·skip
      rw [if_pos hg17] at hm
      refine RW.know 25 rfl (congrArg Value.bool hg17) ?_
      refine RW.run ttok 6 rfl ?_
      refine RW.nil ?_
      refine WP.ret ?_
      cases hm
      exact⟨_,.cons (.tmp rfl) .nil,rfl,y⟩
     ·skip
      rw [if_neg hg17] at hm
      refine RW.know 25 rfl (congrArg Value.bool (Bool.eq_false_iff.2 hg17)) ?_
      refine RW.run ttok 6 rfl ?_
      refine RW.nil ?_
      refine WP.ret ?_
      cases hm
      exact⟨_,.cons (.tmp rfl) .nil,rfl,y⟩
 ·skip
  refine WP.region ?_
  refine RW.run ttok 1 rfl ?_
  obtain⟨i0,d0,hm⟩:=bind_some hm
  refine RW.call rfl rfl rfl zas (z6V (hE.trans hS.ext)  d0) (fun o0 r0 Y=>?_)
  obtain⟨rfl,b⟩:=Y
  have d:=hS.join b
  refine RW.run ttok 2 rfl ?_
  by_cases hg25:(!i0)=true
  ·skip
   rw [if_pos hg25] at hm
   refine RW.know 10 rfl (congrArg Value.bool hg25) ?_
   refine RW.run ttok 5 rfl ?_
   refine RW.nil ?_
   exact⟨true,[(0,.int .i64 x0),(1,.int .i64 x1),(2,.int .i64 x2),(15,.bool true)],⟨rfl,rfl,rfl,rfl,trivial⟩,hm,b.ext,d,rfl⟩
  ·skip
   rw [if_neg hg25] at hm
   refine RW.know 10 rfl (congrArg Value.bool (Bool.eq_false_iff.2 hg25)) ?_
   refine RW.run ttok 2 rfl ?_
   obtain⟨f0,e0,hm⟩:=bind_some hm
   refine RW.call rfl rfl rfl z7v (z4E (hE.trans d.ext)  e0) (fun p0 t0 a0=>?_)
   obtain⟨rfl,o⟩:=a0
   have b0:=d.join o
   refine RW.run ttok 2 rfl ?_
   refine RW.nil ?_
   exact⟨!f0,[(0,.int .i64 x0),(1,.int .i64 x1),(2,.int .i64 x2),(15,.bool (!f0))],⟨rfl,rfl,rfl,rfl,trivial⟩,hm,(b.ext.trans o.ext),b0,rfl⟩

theorem zcA:Enters Tryz.prog 131:=⟨_,_,Tryz.func131,rfl,by kernel_rfl⟩
def z3N (fuel:Nat) (x0:Int):Option (Bool):=(if(x0 == 3)=true then some true else(if(x0 == 7)=true then some true else(if(x0 == 8)=true then some true else(if(x0 == 10)=true then some true else some (x0 == 11)))))

set_option maxRecDepth 100000 in
theorem z7q {W:Base}{w:World}(hE:Ext W w){x0:Int}  {fuel:Nat}{r:Bool}(hm:z3N fuel x0=some r):
  Calls Tryz.prog 131 ⟨[.int .i64 x0]⟩ w (Ret fun v w8=>v=.bool r∧St w w8 []):=by
 refine Calls.into Tryz.func131 rfl 21 rfl rfl _ rfl ?_
 unfold z3N at hm
 have hS:=St.start w
 refine WP.seq ?_
 refine WP.region ?_
 refine RW.run ttok 1 rfl ?_
 refine RW.nil ?_
 refine WP.seq ?_
 refine WP.region ?_
 refine RW.run ttok 3 rfl ?_
 by_cases hg1:(x0 == 3)=true
 ·skip
  rw [if_pos hg1] at hm
  refine RW.know 5 rfl (congrArg Value.bool hg1) ?_
  refine RW.run ttok 16 rfl ?_
  refine RW.nil ?_
  refine WP.ret ?_
  cases hm
  exact⟨_,.cons (.tmp rfl) .nil,rfl,hS⟩
 ·skip
  rw [if_neg hg1] at hm
  refine RW.know 5 rfl (congrArg Value.bool (Bool.eq_false_iff.2 hg1)) ?_
  refine RW.run ttok 4 rfl ?_
  by_cases hg2:(x0 == 7)=true
  ·skip
   rw [if_pos hg2] at hm
   refine RW.know 9 rfl (congrArg Value.bool hg2) ?_
   refine RW.run ttok 12 rfl ?_
   refine RW.nil ?_
   refine WP.ret ?_
   cases hm
   exact⟨_,.cons (.tmp rfl) .nil,rfl,hS⟩
  ·skip
   rw [if_neg hg2] at hm
   refine RW.know 9 rfl (congrArg Value.bool (Bool.eq_false_iff.2 hg2)) ?_
   refine RW.run ttok 4 rfl ?_
   by_cases hg3:(x0 == 8)=true
   ·skip
    rw [if_pos hg3] at hm
    refine RW.know 13 rfl (congrArg Value.bool hg3) ?_
    refine RW.run ttok 8 rfl ?_
    refine RW.nil ?_
    refine WP.ret ?_
    cases hm
    exact⟨_,.cons (.tmp rfl) .nil,rfl,hS⟩
   ·skip
    rw [if_neg hg3] at hm
    refine RW.know 13 rfl (congrArg Value.bool (Bool.eq_false_iff.2 hg3)) ?_
    refine RW.run ttok 4 rfl ?_
    by_cases hg4:(x0 == 10)=true
    ·skip
     rw [if_pos hg4] at hm
     refine RW.know 17 rfl (congrArg Value.bool hg4) ?_
     refine RW.run ttok 4 rfl ?_
     refine RW.nil ?_
     refine WP.ret ?_
     cases hm
     exact⟨_,.cons (.tmp rfl) .nil,rfl,hS⟩
    ·skip
     rw [if_neg hg4] at hm
     refine RW.know 17 rfl (congrArg Value.bool (Bool.eq_false_iff.2 hg4)) ?_
     refine RW.run ttok 4 rfl ?_
     refine RW.nil ?_
     refine WP.ret ?_
     cases hm
     exact⟨_,.cons (.tmp rfl) .nil,rfl,hS⟩

theorem zau:Enters Tryz.prog 120:=⟨_,_,Tryz.func120,rfl,by kernel_rfl⟩
def z2x (fuel:Nat) (x1:Int) (x2:Int) (x3:Int) (t1:Bool):Option Int:=(if t1=true then some 2 else((z3Q fuel x1 x2 x3).bind fun r6=>(if r6=true then some 3 else some 0)))
def z2w (fuel:Nat) (b:Bool):Option Int:=(if b=true then some 1 else some 0)
def z2v (fuel:Nat) (x2:Int) (b:Bool):Option Int:=(if b=true then some 5 else(if(x2 == 11)=true then some 6 else some 0))
def z3c (fuel:Nat) (x0:Int) (x1:Int) (x2:Int) (x3:Int):Option (Int):=(if(x0 == 5)=true then some 4 else(if(x0 == 4)=true then(if(x2 == 4)=true then z2x fuel x1 x2 x3 (x1 == x3) else z2x fuel x1 x2 x3 false) else(if(x0 == 2)=true then(if(x2 == 3)=true then z2w fuel (x1 == x3) else z2w fuel false) else(if(x0 == 6)=true then(if(x2 == 7)=true then z2v fuel x2 (x2 == 7) else z2v fuel x2 (x2 == 8)) else(if(x0 == 9)=true then(if(x2 == 10)=true then some 6 else some 0) else(if(x0 == 12)=true then((z3N fuel x2).bind fun b=>(if b=true then some 7 else some 0)) else some 0))))))

set_option maxRecDepth 100000 in
theorem z6X {W:Base}{w:World}(hE:Ext W w){x0:Int}{x1:Int}{x2:Int}{x3:Int}  {fuel:Nat}{r:Int}(hm:z3c fuel x0 x1 x2 x3=some r):
  Calls Tryz.prog 120 ⟨[.int .i64 x0,.int .i64 x1,.int .i64 x2,.int .i64 x3]⟩ w (Ret fun v w8=>v=.int .i64 r∧St w w8 []):=by
 refine Calls.into Tryz.func120 rfl 52 rfl rfl _ rfl ?_
 unfold z3c at hm
 have hS:=St.start w
 refine WP.seq ?_
 refine WP.region ?_
 refine RW.run ttok 1 rfl ?_
 refine RW.nil ?_
 refine WP.seq ?_
 refine WP.seq ?_
 refine WP.region ?_
 refine RW.run ttok 1 rfl ?_
 refine RW.nil ?_
 refine WP.block ?_
 refine WP.seq ?_
 refine WP.region ?_
 refine RW.run ttok 2 rfl ?_
 refine RW.nil ?_
 refine WP.cond (x0 == 5) rfl (fun hc=>?_) (fun hc=>?_)
 ·skip
  rw [if_pos hc] at hm
  refine WP.seq ?_
  refine WP.region ?_
  refine RW.run ttok 1 rfl ?_
  refine RW.nil ?_
  refine WP.ret ?_
  cases hm
  exact⟨_,.cons (.tmp rfl) .nil,rfl,hS⟩
 ·skip
  rw [if_neg (z8 hc)] at hm
  refine WP.seq ?_
  refine WP.region ?_
  refine RW.run ttok 2 rfl ?_
  refine RW.nil ?_
  refine WP.cond (x0 == 4) rfl (fun hc=>?_) (fun hc=>?_)
  ·skip
   rw [if_pos hc] at hm
   refine WP.block ?_
   refine WP.seq ?_
   refine WP.cut (fun(t1:Bool) F w9=>z2x fuel x1 x2 x3 t1=some r∧Ext w w9∧St w w9 []∧F=[(1,.int .i64 x1),(2,.int .i64 x2),(3,.int .i64 x3),(14,.bool t1)]) ?_ ?_
   ·skip
    rintro t1 F w4 ⟨hm,j0,c0,rfl⟩
    unfold z2x at hm
    refine WP.cond t1 rfl (fun hc=>?_) (fun hc=>?_)
    ·skip
     rw [if_pos hc] at hm
     refine WP.seq ?_
     refine WP.region ?_
     refine RW.run ttok 1 rfl ?_
     refine RW.nil ?_
     refine WP.ret ?_
     cases hm
     exact⟨_,.cons (.tmp rfl) .nil,rfl,c0⟩
    ·skip
     rw [if_neg (z8 hc)] at hm
     refine WP.seq ?_
     refine WP.region ?_
     refine RW.run ttok 3 rfl ?_
     obtain⟨r6,g0,hm⟩:=bind_some hm
     refine RW.call rfl rfl rfl zcB (z7r (hE.trans c0.ext)  g0) (fun k0 p0 O=>?_)
     obtain⟨rfl,Y⟩:=O
     have d:=c0.join Y
     refine RW.run ttok 1 rfl ?_
     refine RW.nil ?_
     refine WP.cond r6 rfl (fun hc=>?_) (fun hc=>?_)
     ·skip
      rw [if_pos hc] at hm
      refine WP.seq ?_
      refine WP.region ?_
      refine RW.run ttok 1 rfl ?_
      refine RW.nil ?_
      refine WP.ret ?_
      cases hm
      exact⟨_,.cons (.tmp rfl) .nil,rfl,d⟩
     ·skip
      rw [if_neg (z8 hc)] at hm
      refine WP.skip ?_
      refine WP.seq ?_
      refine WP.region ?_
      refine RW.run ttok 1 rfl ?_
      refine RW.nil ?_
      refine WP.ret ?_
      cases hm
      exact⟨_,.cons (.tmp rfl) .nil,rfl,d⟩
   ·skip
    refine WP.region ?_
    refine RW.run ttok 3 rfl ?_
    by_cases hg15:(x2 == 4)=true
    ·skip
     rw [if_pos hg15] at hm
     refine RW.know 17 rfl (congrArg Value.bool hg15) ?_
     refine RW.run ttok 5 rfl ?_
     refine RW.nil ?_
     exact⟨(x1 == x3),[(1,.int .i64 x1),(2,.int .i64 x2),(3,.int .i64 x3),(14,.bool (x1 == x3))],⟨rfl,rfl,rfl,rfl,trivial⟩,hm,(Ext.refl _),hS,rfl⟩
    ·skip
     rw [if_neg hg15] at hm
     refine RW.know 17 rfl (congrArg Value.bool (Bool.eq_false_iff.2 hg15)) ?_
     refine RW.run ttok 5 rfl ?_
     refine RW.nil ?_
     exact⟨false,[(1,.int .i64 x1),(2,.int .i64 x2),(3,.int .i64 x3),(14,.bool false)],⟨rfl,rfl,rfl,rfl,trivial⟩,hm,(Ext.refl _),hS,rfl⟩
  ·skip
   rw [if_neg (z8 hc)] at hm
   refine WP.seq ?_
   refine WP.region ?_
   refine RW.run ttok 2 rfl ?_
   refine RW.nil ?_
   refine WP.cond (x0 == 2) rfl (fun hc=>?_) (fun hc=>?_)
   ·skip
    rw [if_pos hc] at hm
    refine WP.seq ?_
    refine WP.cut (fun(G:Bool) F w9=>z2w fuel G=some r∧Ext w w9∧St w w9 []∧F=[(35,.bool G)]) ?_ ?_
    ·skip
     rintro G F q0 ⟨hm,e0,o,rfl⟩
     unfold z2w at hm
     refine WP.cond G rfl (fun hc=>?_) (fun hc=>?_)
     ·skip
      rw [if_pos hc] at hm
      refine WP.seq ?_
      refine WP.region ?_
      refine RW.run ttok 1 rfl ?_
      refine RW.nil ?_
      refine WP.ret ?_
      cases hm
      exact⟨_,.cons (.tmp rfl) .nil,rfl,o⟩
     ·skip
      rw [if_neg (z8 hc)] at hm
      refine WP.skip ?_
      refine WP.seq ?_
      refine WP.region ?_
      refine RW.run ttok 1 rfl ?_
      refine RW.nil ?_
      refine WP.ret ?_
      cases hm
      exact⟨_,.cons (.tmp rfl) .nil,rfl,o⟩
    ·skip
     refine WP.region ?_
     refine RW.run ttok 3 rfl ?_
     by_cases hg21:(x2 == 3)=true
     ·skip
      rw [if_pos hg21] at hm
      refine RW.know 31 rfl (congrArg Value.bool hg21) ?_
      refine RW.run ttok 4 rfl ?_
      refine RW.nil ?_
      exact⟨(x1 == x3),[(35,.bool (x1 == x3))],⟨rfl,trivial⟩,hm,(Ext.refl _),hS,rfl⟩
     ·skip
      rw [if_neg hg21] at hm
      refine RW.know 31 rfl (congrArg Value.bool (Bool.eq_false_iff.2 hg21)) ?_
      refine RW.run ttok 4 rfl ?_
      refine RW.nil ?_
      exact⟨false,[(35,.bool false)],⟨rfl,trivial⟩,hm,(Ext.refl _),hS,rfl⟩
   ·skip
    rw [if_neg (z8 hc)] at hm
    refine WP.seq ?_
    refine WP.region ?_
    refine RW.run ttok 2 rfl ?_
    refine RW.nil ?_
    refine WP.cond (x0 == 6) rfl (fun hc=>?_) (fun hc=>?_)
    ·skip
     rw [if_pos hc] at hm
     refine WP.seq ?_
     refine WP.region ?_
     refine RW.run ttok 1 rfl ?_
     refine RW.nil ?_
     refine WP.block ?_
     refine WP.seq ?_
     refine WP.seq ?_
     refine WP.region ?_
     refine RW.run ttok 2 rfl ?_
     refine RW.nil ?_
     refine WP.cut (fun(H:Bool) F w9=>z2v fuel x2 H=some r∧Ext w w9∧St w w9 []∧F=[(38,.int .i64 x2),(39,.bool H)]) ?_ ?_
     ·skip
      rintro H F r0 ⟨hm,f0,b,rfl⟩
      unfold z2v at hm
      refine WP.cond H rfl (fun hc=>?_) (fun hc=>?_)
      ·skip
       rw [if_pos hc] at hm
       refine WP.seq ?_
       refine WP.region ?_
       refine RW.run ttok 1 rfl ?_
       refine RW.nil ?_
       refine WP.ret ?_
       cases hm
       exact⟨_,.cons (.tmp rfl) .nil,rfl,b⟩
      ·skip
       rw [if_neg (z8 hc)] at hm
       refine WP.seq ?_
       refine WP.region ?_
       refine RW.run ttok 2 rfl ?_
       refine RW.nil ?_
       refine WP.cond (x2 == 11) rfl (fun hc=>?_) (fun hc=>?_)
       ·skip
        rw [if_pos hc] at hm
        refine WP.seq ?_
        refine WP.region ?_
        refine RW.run ttok 1 rfl ?_
        refine RW.nil ?_
        refine WP.ret ?_
        cases hm
        exact⟨_,.cons (.tmp rfl) .nil,rfl,b⟩
       ·skip
        rw [if_neg (z8 hc)] at hm
        refine WP.skip ?_
        refine WP.seq ?_
        refine WP.region ?_
        refine RW.run ttok 1 rfl ?_
        refine RW.nil ?_
        refine WP.ret ?_
        cases hm
        exact⟨_,.cons (.tmp rfl) .nil,rfl,b⟩
     ·skip
      refine WP.cond (x2 == 7) rfl (fun hc=>?_) (fun hc=>?_)
      ·skip
       rw [if_pos hc] at hm
       refine WP.skip ?_
       exact⟨(x2 == 7),[(38,.int .i64 x2),(39,.bool (x2 == 7))],⟨rfl,rfl,trivial⟩,hm,(Ext.refl _),hS,rfl⟩
      ·skip
       rw [if_neg (z8 hc)] at hm
       refine WP.region ?_
       refine RW.run ttok 2 rfl ?_
       refine RW.nil ?_
       exact⟨(x2 == 8),[(38,.int .i64 x2),(39,.bool (x2 == 8))],⟨rfl,rfl,trivial⟩,hm,(Ext.refl _),hS,rfl⟩
    ·skip
     rw [if_neg (z8 hc)] at hm
     refine WP.seq ?_
     refine WP.region ?_
     refine RW.run ttok 2 rfl ?_
     refine RW.nil ?_
     refine WP.cond (x0 == 9) rfl (fun hc=>?_) (fun hc=>?_)
     ·skip
      rw [if_pos hc] at hm
      refine WP.seq ?_
      refine WP.region ?_
      refine RW.run ttok 2 rfl ?_
      refine RW.nil ?_
      refine WP.cond (x2 == 10) rfl (fun hc=>?_) (fun hc=>?_)
      ·skip
       rw [if_pos hc] at hm
       refine WP.seq ?_
       refine WP.region ?_
       refine RW.run ttok 1 rfl ?_
       refine RW.nil ?_
       refine WP.ret ?_
       cases hm
       exact⟨_,.cons (.tmp rfl) .nil,rfl,hS⟩
      ·skip
       rw [if_neg (z8 hc)] at hm
       refine WP.skip ?_
       refine WP.seq ?_
       refine WP.region ?_
       refine RW.run ttok 1 rfl ?_
       refine RW.nil ?_
       refine WP.ret ?_
       cases hm
       exact⟨_,.cons (.tmp rfl) .nil,rfl,hS⟩
     ·skip
      rw [if_neg (z8 hc)] at hm
      refine WP.seq ?_
      refine WP.region ?_
      refine RW.run ttok 2 rfl ?_
      refine RW.nil ?_
      refine WP.cond (x0 == 12) rfl (fun hc=>?_) (fun hc=>?_)
      ·skip
       rw [if_pos hc] at hm
       refine WP.seq ?_
       refine WP.region ?_
       refine RW.run ttok 1 rfl ?_
       obtain⟨i0,d0,hm⟩:=bind_some hm
       refine RW.call rfl rfl rfl zcA (z7q (hE.trans hS.ext)  d0) (fun o0 t0 a0=>?_)
       obtain⟨rfl,b0⟩:=a0
       have y:=hS.join b0
       refine RW.nil ?_
       refine WP.cond i0 rfl (fun hc=>?_) (fun hc=>?_)
       ·skip
        rw [if_pos hc] at hm
        refine WP.seq ?_
        refine WP.region ?_
        refine RW.run ttok 1 rfl ?_
        refine RW.nil ?_
        refine WP.ret ?_
        cases hm
        exact⟨_,.cons (.tmp rfl) .nil,rfl,y⟩
       ·skip
        rw [if_neg (z8 hc)] at hm
        refine WP.skip ?_
        refine WP.seq ?_
        refine WP.region ?_
        refine RW.run ttok 1 rfl ?_
        refine RW.nil ?_
        refine WP.ret ?_
        cases hm
        exact⟨_,.cons (.tmp rfl) .nil,rfl,y⟩
      ·skip
       rw [if_neg (z8 hc)] at hm
       refine WP.skip ?_
       refine WP.seq ?_
       refine WP.region ?_
       refine RW.run ttok 1 rfl ?_
       refine RW.nil ?_
       refine WP.ret ?_
       cases hm
       exact⟨_,.cons (.tmp rfl) .nil,rfl,hS⟩

theorem zcO:Enters Tryz.prog 103:=⟨_,_,Tryz.func103,rfl,by kernel_rfl⟩
def z1V (fuel:Nat) (x0:Int) (x1:Int) (x2:Int) (x3:Int) (t1:Bool):Option (Int × Int):=(if t1=true then some (0,0) else((z3c fuel x0 x1 x2 x3).bind fun r6=>(if(r6 != 0)=true then some (r6,1) else((z3c fuel x2 x3 x0 x1).bind fun b=>(if(b != 0)=true then some (b,2) else some (8,0))))))
def z32 (fuel:Nat) (x0:Int) (x1:Int) (x2:Int) (x3:Int):Option (Int × Int):=(if(x0 == 1)=true then z1V fuel x0 x1 x2 x3 true else(if(x2 == 1)=true then z1V fuel x0 x1 x2 x3 true else((z1x fuel x0 x1).bind fun b=>(if(!b)=true then z1V fuel x0 x1 x2 x3 true else((z1x fuel x2 x3).bind fun d=>z1V fuel x0 x1 x2 x3 (!d))))))

set_option maxRecDepth 100000 in
theorem z8X {W:Base}{w:World}(hE:Ext W w){x0:Int}{x1:Int}{x2:Int}{x3:Int}  {fuel:Nat}{r:Int × Int}(hm:z32 fuel x0 x1 x2 x3=some r):
  Calls Tryz.prog 103 ⟨[.int .i64 x0,.int .i64 x1,.int .i64 x2,.int .i64 x3]⟩ w (Ret fun v w8=>v=.tuple ⟨[.int .i64 r.1,.int .i64 r.2]⟩∧St w w8 []):=by
 refine Calls.into Tryz.func103 rfl 46 rfl rfl _ rfl ?_
 unfold z32 at hm
 have hS:=St.start w
 refine WP.seq ?_
 refine WP.region ?_
 refine RW.run ttok 2 rfl ?_
 refine RW.nil ?_
 refine WP.seq ?_
 refine WP.seq ?_
 refine WP.cut (fun(t1:Bool) F w9=>z1V fuel x0 x1 x2 x3 t1=some r∧Ext w w9∧St w w9 []∧F=[(0,.int .i64 x0),(1,.int .i64 x1),(2,.int .i64 x2),(3,.int .i64 x3),(29,.bool t1)]) ?_ ?_
 ·skip
  rintro t1 F w4 ⟨hm,q0,d0,rfl⟩
  unfold z1V at hm
  refine WP.cond t1 rfl (fun hc=>?_) (fun hc=>?_)
  ·skip
   rw [if_pos hc] at hm
   refine WP.seq ?_
   refine WP.region ?_
   refine RW.run ttok 2 rfl ?_
   refine RW.nil ?_
   refine WP.ret ?_
   cases hm
   exact⟨_,.cons (.tmp rfl) (.cons (.tmp rfl) .nil),rfl,d0⟩
  ·skip
   rw [if_neg (z8 hc)] at hm
   refine WP.skip ?_
   refine WP.seq ?_
   refine WP.seq ?_
   refine WP.region ?_
   refine RW.run ttok 4 rfl ?_
   obtain⟨r6,k0,hm⟩:=bind_some hm
   refine RW.call rfl rfl rfl zau (z6X (hE.trans d0.ext)  k0) (fun r0 y0 H=>?_)
   obtain⟨rfl,O⟩:=H
   have d:=d0.join O
   refine RW.run ttok 1 rfl ?_
   refine RW.nil ?_
   refine WP.seq ?_
   refine WP.region ?_
   refine RW.run ttok 2 rfl ?_
   refine RW.nil ?_
   refine WP.cond (r6 != 0) rfl (fun hc=>?_) (fun hc=>?_)
   ·skip
    rw [if_pos hc] at hm
    refine WP.seq ?_
    refine WP.region ?_
    refine RW.run ttok 3 rfl ?_
    refine RW.nil ?_
    refine WP.ret ?_
    cases hm
    exact⟨_,.cons (.tmp rfl) (.cons (.tmp rfl) .nil),rfl,d⟩
   ·skip
    rw [if_neg (z8 hc)] at hm
    refine WP.skip ?_
    refine WP.seq ?_
    refine WP.seq ?_
    refine WP.region ?_
    refine RW.run ttok 4 rfl ?_
    obtain⟨o0,f0,hm⟩:=bind_some hm
    refine RW.call rfl rfl rfl zau (z6X (hE.trans d.ext)  f0) (fun t0 A0 Y=>?_)
    obtain⟨rfl,a0⟩:=Y
    have G:=d.join a0
    refine RW.run ttok 1 rfl ?_
    refine RW.nil ?_
    refine WP.seq ?_
    refine WP.region ?_
    refine RW.run ttok 2 rfl ?_
    refine RW.nil ?_
    refine WP.cond (o0 != 0) rfl (fun hc=>?_) (fun hc=>?_)
    ·skip
     rw [if_pos hc] at hm
     refine WP.seq ?_
     refine WP.region ?_
     refine RW.run ttok 3 rfl ?_
     refine RW.nil ?_
     refine WP.ret ?_
     cases hm
     exact⟨_,.cons (.tmp rfl) (.cons (.tmp rfl) .nil),rfl,G⟩
    ·skip
     rw [if_neg (z8 hc)] at hm
     refine WP.skip ?_
     refine WP.seq ?_
     refine WP.region ?_
     refine RW.run ttok 2 rfl ?_
     refine RW.nil ?_
     refine WP.ret ?_
     cases hm
     exact⟨_,.cons (.tmp rfl) (.cons (.tmp rfl) .nil),rfl,G⟩
 ·skip
  refine WP.region ?_
  refine RW.run ttok 3 rfl ?_
  by_cases hg22:(x0 == 1)=true
  ·skip
   rw [if_pos hg22] at hm
   refine RW.know 14 rfl (congrArg Value.bool hg22) ?_
   refine RW.run ttok 15 rfl ?_
   refine RW.nil ?_
   exact⟨true,[(0,.int .i64 x0),(1,.int .i64 x1),(2,.int .i64 x2),(3,.int .i64 x3),(29,.bool true)],⟨rfl,rfl,rfl,rfl,rfl,trivial⟩,hm,(Ext.refl _),hS,rfl⟩
  ·skip
   rw [if_neg hg22] at hm
   refine RW.know 14 rfl (congrArg Value.bool (Bool.eq_false_iff.2 hg22)) ?_
   refine RW.run ttok 4 rfl ?_
   by_cases hg23:(x2 == 1)=true
   ·skip
    rw [if_pos hg23] at hm
    refine RW.know 18 rfl (congrArg Value.bool hg23) ?_
    refine RW.run ttok 11 rfl ?_
    refine RW.nil ?_
    exact⟨true,[(0,.int .i64 x0),(1,.int .i64 x1),(2,.int .i64 x2),(3,.int .i64 x3),(29,.bool true)],⟨rfl,rfl,rfl,rfl,rfl,trivial⟩,hm,(Ext.refl _),hS,rfl⟩
   ·skip
    rw [if_neg hg23] at hm
    refine RW.know 18 rfl (congrArg Value.bool (Bool.eq_false_iff.2 hg23)) ?_
    refine RW.run ttok 2 rfl ?_
    obtain⟨p0,g0,hm⟩:=bind_some hm
    refine RW.call rfl rfl rfl z7v (z4E (hE.trans hS.ext)  g0) (fun u0 B0 b0=>?_)
    obtain⟨rfl,b⟩:=b0
    have o:=hS.join b
    refine RW.run ttok 3 rfl ?_
    by_cases hg31:(!p0)=true
    ·skip
     rw [if_pos hg31] at hm
     refine RW.know 24 rfl (congrArg Value.bool hg31) ?_
     refine RW.run ttok 5 rfl ?_
     refine RW.nil ?_
     exact⟨true,[(0,.int .i64 x0),(1,.int .i64 x1),(2,.int .i64 x2),(3,.int .i64 x3),(29,.bool true)],⟨rfl,rfl,rfl,rfl,rfl,trivial⟩,hm,b.ext,o,rfl⟩
    ·skip
     rw [if_neg hg31] at hm
     refine RW.know 24 rfl (congrArg Value.bool (Bool.eq_false_iff.2 hg31)) ?_
     refine RW.run ttok 2 rfl ?_
     obtain⟨j0,i0,hm⟩:=bind_some hm
     refine RW.call rfl rfl rfl z7v (z4E (hE.trans o.ext)  i0) (fun v0 C0 c0=>?_)
     obtain⟨rfl,y⟩:=c0
     have e0:=o.join y
     refine RW.run ttok 2 rfl ?_
     refine RW.nil ?_
     exact⟨!j0,[(0,.int .i64 x0),(1,.int .i64 x1),(2,.int .i64 x2),(3,.int .i64 x3),(29,.bool (!j0))],⟨rfl,rfl,rfl,rfl,rfl,trivial⟩,hm,(b.ext.trans y.ext),e0,rfl⟩

theorem zdw:Enters Tryz.prog 86:=⟨_,_,Tryz.func86,rfl,by kernel_rfl⟩
def zZ (fuel:Nat) (b:Int × Int) (d:Bool):Option (Int × Bool):=(if d=true then some (8,false) else some (b.1,(b.2 == 2)))
def z1m (fuel:Nat) (b:Int × Int) (d:Int × Int × Int × (List Int) × (List D.Port) × Int × Int × Int × (List Int) × (List D.Port)):Option (Int × Bool):=(if(b.1 == 6)=true then(if(d.2.2.2.2.2.1 == 10)=true then zZ fuel b (decide (d.2.2.1≥(d.2.2.2.2.2.2.2.2.1.length:Int))) else zZ fuel b false) else zZ fuel b false)
def z33 (fuel:Nat) (b:(Int × Int × Int × (List Int) × (List D.Port)) × (Int × Int × Int × (List Int) × (List D.Port))):Option (Int × Bool):=((z32 fuel b.1.1 b.1.2.1 b.2.1 b.2.2.1).bind fun d=>(if(d.2 == 2)=true then z1m fuel d (b.2.1,b.2.2.1,b.2.2.2.1,b.2.2.2.2.1,b.2.2.2.2.2,b.1.1,b.1.2.1,b.1.2.2.1,b.1.2.2.2.1,b.1.2.2.2.2) else z1m fuel d (b.1.1,b.1.2.1,b.1.2.2.1,b.1.2.2.2.1,b.1.2.2.2.2,b.2.1,b.2.2.1,b.2.2.2.1,b.2.2.2.2.1,b.2.2.2.2.2)))
def z34 (fuel:Nat) (x0:D.Net) (x1:D.Pair):Option (Int × Bool):=((idx x0.Agents x1.A).bind fun b=>((idx x0.Agents x1.B).bind fun d=>z33 fuel ((b.Kind,b.Level,b.Value,b.Data,b.Ports),(d.Kind,d.Level,d.Value,d.Data,d.Ports))))

set_option maxRecDepth 100000 in
theorem z7c {W:Base}{w:World}(hE:Ext W w){s2:Addr}{O3:List Value}{x0:D.Net}{P3:List Value}{x1:D.Pair}(s4:ty31.ro W O3 x0) (X3:At W s2 O3) (t4:ty71.ro W P3 x1){fuel:Nat}{r:Int × Bool}(hm:z34 fuel x0 x1=some r):
  Calls Tryz.prog 86 ⟨[.pointer (some s2),.agg ⟨P3⟩]⟩ w (Ret fun v w8=>v=.tuple ⟨[.int .i64 r.1,.bool r.2]⟩∧St w w8 []):=by
 obtain⟨A1,k2,e4,h3⟩:=zK s4;subst e4
 have e5:=z6g t4;subst e5
 refine Calls.into Tryz.func86 rfl 60 rfl rfl _ rfl ?_
 unfold z34 at hm
 have hS:=St.start w
 refine WP.seq ?_
 refine WP.region ?_
 refine RW.new ttok hS rfl rfl rfl rfl (fun g6 w7 r5 a0=>?_)
 refine RW.run ttok 2 rfl ?_
 refine RW.nil ?_
 refine WP.seq ?_
 refine WP.cut (fun(b:(Int × Int × Int × (List Int) × (List D.Port)) × (Int × Int × Int × (List Int) × (List D.Port))) F w9=>∃ B0 F0 o2 G0 p2 C0 H0 q2 J0 r2,z33 fuel b=some r∧ty26.ro W [.slice F0 b.1.2.2.2.1.length o2] b.1.2.2.2.1∧ty65.ro W [.slice G0 b.1.2.2.2.2.length p2] b.1.2.2.2.2∧ty26.ro W [.slice H0 b.2.2.2.2.1.length q2] b.2.2.2.2.1∧ty65.ro W [.slice J0 b.2.2.2.2.2.length r2] b.2.2.2.2.2∧St w w9 [Box B0 [.int .i64 b.1.1,.int .i64 b.1.2.1,.int .i64 b.1.2.2.1,.slice F0 b.1.2.2.2.1.length o2,.slice G0 b.1.2.2.2.2.length p2] 67,Box C0 [.int .i64 b.2.1,.int .i64 b.2.2.1,.int .i64 b.2.2.2.1,.slice H0 b.2.2.2.2.1.length q2,.slice J0 b.2.2.2.2.2.length r2] 67]∧F=[(6,.pointer (some ⟨B0,0,none⟩)),(7,.pointer (some ⟨C0,0,none⟩))]) ?_ ?_
 ·skip
  rintro b F A5 ⟨B0,F0,o2,G0,p2,C0,H0,q2,J0,r2,hm,Y3,a4,b4,c4,b0,rfl⟩
  unfold z33 at hm
  refine WP.seq ?_
  refine WP.region ?_
  refine RW.run ttok 1 rfl ?_
  refine RW.load1 ttok rfl rfl rfl rfl rfl ((b0.bring 0 rfl).box) 0 rfl rfl rfl rfl ?_
  refine RW.run ttok 1 rfl ?_
  refine RW.load1 ttok rfl rfl rfl rfl rfl ((b0.bring 0 rfl).box) 1 rfl rfl rfl rfl ?_
  refine RW.run ttok 1 rfl ?_
  refine RW.load1 ttok rfl rfl rfl rfl rfl ((b0.bring 1 rfl).box) 0 rfl rfl rfl rfl ?_
  refine RW.run ttok 1 rfl ?_
  refine RW.load1 ttok rfl rfl rfl rfl rfl ((b0.bring 1 rfl).box) 1 rfl rfl rfl rfl ?_
  obtain⟨H,t3,hm⟩:=bind_some hm
  refine RW.call rfl rfl rfl zcO (z8X (hE.trans b0.ext)  t3) (fun y5 B5 k3=>?_)
  obtain⟨rfl,m3⟩:=k3
  have o0:=b0.join m3
  refine RW.run ttok 5 rfl ?_
  refine RW.nil ?_
  refine WP.seq ?_
  refine WP.seq ?_
  refine WP.region ?_
  refine RW.run ttok 2 rfl ?_
  refine RW.nil ?_
  refine WP.cut (fun(G:Int × Int × Int × (List Int) × (List D.Port) × Int × Int × Int × (List Int) × (List D.Port)) F w9=>∃ L2 K3 M2 L3 N2 M3 O2 N3,z1m fuel H G=some r∧ty26.ro W [.slice L2 G.2.2.2.1.length K3] G.2.2.2.1∧ty65.ro W [.slice M2 G.2.2.2.2.1.length L3] G.2.2.2.2.1∧ty26.ro W [.slice N2 G.2.2.2.2.2.2.2.2.1.length M3] G.2.2.2.2.2.2.2.2.1∧ty65.ro W [.slice O2 G.2.2.2.2.2.2.2.2.2.length N3] G.2.2.2.2.2.2.2.2.2∧St w w9 [Box B0 [.int .i64 G.1,.int .i64 G.2.1,.int .i64 G.2.2.1,.slice L2 G.2.2.2.1.length K3,.slice M2 G.2.2.2.2.1.length L3] 67,Box C0 [.int .i64 G.2.2.2.2.2.1,.int .i64 G.2.2.2.2.2.2.1,.int .i64 G.2.2.2.2.2.2.2.1,.slice N2 G.2.2.2.2.2.2.2.2.1.length M3,.slice O2 G.2.2.2.2.2.2.2.2.2.length N3] 67]∧F=[(6,.pointer (some ⟨B0,0,none⟩)),(7,.pointer (some ⟨C0,0,none⟩)),(8,.int .i64 H.1),(9,.int .i64 H.2)]) ?_ ?_
  ·skip
   rintro G F q5 ⟨L2,K3,M2,L3,N2,M3,O2,N3,hm,s5,t5,u5,v5,c0,rfl⟩
   unfold z1m at hm
   refine WP.seq ?_
   refine WP.seq ?_
   refine WP.cut (fun(u2:Bool) F w9=>zZ fuel H u2=some r∧Ext q5 w9∧St w w9 []∧F=[(8,.int .i64 H.1),(9,.int .i64 H.2),(56,.bool u2)]) ?_ ?_
   ·skip
    rintro u2 F C5 ⟨hm,u4,R1,rfl⟩
    unfold zZ at hm
    refine WP.cond u2 rfl (fun hc=>?_) (fun hc=>?_)
    ·skip
     rw [if_pos hc] at hm
     refine WP.seq ?_
     refine WP.region ?_
     refine RW.run ttok 2 rfl ?_
     refine RW.nil ?_
     refine WP.ret ?_
     cases hm
     exact⟨_,.cons (.tmp rfl) (.cons (.tmp rfl) .nil),rfl,R1⟩
    ·skip
     rw [if_neg (z8 hc)] at hm
     refine WP.skip ?_
     refine WP.seq ?_
     refine WP.region ?_
     refine RW.run ttok 5 rfl ?_
     refine RW.nil ?_
     refine WP.ret ?_
     cases hm
     exact⟨_,.cons (.tmp rfl) (.cons (.tmp rfl) .nil),rfl,R1⟩
   ·skip
    refine WP.region ?_
    refine RW.run ttok 3 rfl ?_
    by_cases hg58:(H.1 == 6)=true
    ·skip
     rw [if_pos hg58] at hm
     refine RW.know 44 rfl (congrArg Value.bool hg58) ?_
     refine RW.run ttok 1 rfl ?_
     refine RW.load1 ttok rfl rfl rfl rfl rfl ((c0.bring 1 rfl).box) 0 rfl rfl rfl rfl ?_
     refine RW.run ttok 3 rfl ?_
     by_cases hg59:(G.2.2.2.2.2.1 == 10)=true
     ·skip
      rw [if_pos hg59] at hm
      refine RW.know 49 rfl (congrArg Value.bool hg59) ?_
      refine RW.run ttok 1 rfl ?_
      refine RW.load1 ttok rfl rfl rfl rfl rfl ((c0.bring 0 rfl).box) 2 rfl rfl rfl rfl ?_
      refine RW.run ttok 1 rfl ?_
      refine RW.load1 ttok rfl rfl rfl rfl rfl ((c0.bring 1 rfl).box) 3 rfl rfl rfl rfl ?_
      refine RW.run ttok 3 rfl ?_
      refine RW.nil ?_
      exact⟨decide (G.2.2.1≥(G.2.2.2.2.2.2.2.2.1.length:Int)),[(8,.int .i64 H.1),(9,.int .i64 H.2),(56,.bool (decide (G.2.2.1≥(G.2.2.2.2.2.2.2.2.1.length:Int))))],⟨rfl,rfl,rfl,trivial⟩,hm,(Ext.refl _),(c0.taken 0),rfl⟩
     ·skip
      rw [if_neg hg59] at hm
      refine RW.know 49 rfl (congrArg Value.bool (Bool.eq_false_iff.2 hg59)) ?_
      refine RW.run ttok 7 rfl ?_
      refine RW.nil ?_
      exact⟨false,[(8,.int .i64 H.1),(9,.int .i64 H.2),(56,.bool false)],⟨rfl,rfl,rfl,trivial⟩,hm,(Ext.refl _),(c0.taken 0),rfl⟩
    ·skip
     rw [if_neg hg58] at hm
     refine RW.know 44 rfl (congrArg Value.bool (Bool.eq_false_iff.2 hg58)) ?_
     refine RW.run ttok 12 rfl ?_
     refine RW.nil ?_
     exact⟨false,[(8,.int .i64 H.1),(9,.int .i64 H.2),(56,.bool false)],⟨rfl,rfl,rfl,trivial⟩,hm,(Ext.refl _),(c0.taken 0),rfl⟩
  ·skip
   refine WP.cond (H.2 == 2) rfl (fun hc=>?_) (fun hc=>?_)
   ·skip
    rw [if_pos hc] at hm
    refine WP.region ?_
    refine RW.loadN ttok rfl rfl rfl rfl rfl ((o0.bring 1 rfl).box) rfl rfl rfl ?_
    refine RW.loadN ttok rfl rfl rfl rfl rfl ((o0.bring 0 rfl).box) rfl rfl rfl ?_
    have n3:=o0.bring 0 rfl
    refine RW.store ttok (A:=[]) n3 rfl rfl rfl rfl rfl 0 rfl rfl rfl rfl rfl (fun D5 o3=>?_)
    have p3:=o3.bring 1 rfl
    refine RW.store ttok (A:=[]) p3 rfl rfl rfl rfl rfl 0 rfl rfl rfl rfl rfl (fun E5 q3=>?_)
    refine RW.nil ?_
    exact⟨(b.2.1,b.2.2.1,b.2.2.2.1,b.2.2.2.2.1,b.2.2.2.2.2,b.1.1,b.1.2.1,b.1.2.2.1,b.1.2.2.2.1,b.1.2.2.2.2),[(6,.pointer (some ⟨B0,0,none⟩)),(7,.pointer (some ⟨C0,0,none⟩)),(8,.int .i64 H.1),(9,.int .i64 H.2)],⟨rfl,rfl,rfl,rfl,trivial⟩,H0,q2,J0,r2,F0,o2,G0,p2,hm,b4,c4,Y3,a4,((q3.bring 0 rfl).bring 1 rfl),rfl⟩
   ·skip
    rw [if_neg (z8 hc)] at hm
    refine WP.skip ?_
    exact⟨(b.1.1,b.1.2.1,b.1.2.2.1,b.1.2.2.2.1,b.1.2.2.2.2,b.2.1,b.2.2.1,b.2.2.2.1,b.2.2.2.2.1,b.2.2.2.2.2),[(6,.pointer (some ⟨B0,0,none⟩)),(7,.pointer (some ⟨C0,0,none⟩)),(8,.int .i64 H.1),(9,.int .i64 H.2)],⟨rfl,rfl,rfl,rfl,trivial⟩,F0,o2,G0,p2,H0,q2,J0,r2,hm,Y3,a4,b4,c4,o0,rfl⟩
 ·skip
  refine WP.drawnM 786432 mixed 20 (by kernel_rfl) (by kernel_rfl) [([],1048575),([0],1048574),([1],1048573),([2],1048571),([],1048575),([4],1048559),([3,5],1048535),([6],1048511),([],1048575),([8],1048319),([9],1048063),([10],1047551),([],1048575),([12],1044479),([11,13],1038335),([14],1032191),([],1048575),([],1048575),([16,7,0,1,2,3,4,5,6,7,16,17],982911),([17,15,18,0,1,2,3,4,5,6,7,8,9,10,11,12,13,14,15,16,17,18],884735)] (by kernel_rfl) a0.ext (fun hsk67=>?_)
  have i0:=a0.step (Ext.draw _)
  refine DM.run (fuel:=12) ttok hsk67 [0,1,2,4,8,9,10,12] 5911 (by kernel_rfl) (by kernel_rfl) rfl ?_
  refine DM.weak [(12,.pointer (some s2)),(14,.pointer (some ⟨g6,0,none⟩)),(20,.pointer (some s2)),(22,.pointer (some ⟨g6,1,none⟩))] ⟨rfl,rfl,rfl,rfl,trivial⟩ ?_
  refine DM.load1 ttok hsk67 3 5919 (by kernel_rfl) (by kernel_rfl) (by kernel_rfl) (by kernel_rfl) rfl (by kernel_rfl) rfl rfl rfl rfl rfl (At.ext (hE.trans a0.ext) X3) 0 rfl rfl rfl rfl ?_
  refine DM.load1 ttok hsk67 5 5951 (by kernel_rfl) (by kernel_rfl) (by kernel_rfl) (by kernel_rfl) rfl (by kernel_rfl) rfl rfl rfl rfl rfl ((a0.bring 0 rfl).box) 0 rfl rfl rfl rfl ?_
  obtain⟨d,j2,hm⟩:=bind_some hm
  refine DM.idx ttok (hE.trans a0.ext) hsk67 6 6015 (by kernel_rfl) (by kernel_rfl) (by kernel_rfl) (by kernel_rfl) rfl (by kernel_rfl) rfl rfl rfl rfl rfl rfl (by decide) rfl rfl h3 (z6 j2).1 (z6 j2).2 rfl rfl (fun x5 r4 r3 s3=>?_)
  obtain⟨p0,y0,q0,A0,q4,r0,t0⟩:=za s3;subst q4
  refine DM.loadN ttok hsk67 7 6143 (by kernel_rfl) (by kernel_rfl) (by kernel_rfl) (by kernel_rfl) rfl (by kernel_rfl) rfl rfl rfl rfl rfl (At.ext (hE.trans a0.ext) r3) rfl rfl rfl ?_
  refine DM.quietV hsk67 11 8191 (by kernel_rfl) (by kernel_rfl) rfl (by kernel_rfl) rfl (Quiet.load1 ttok rfl rfl rfl rfl (At.ext hE X3) 0 rfl rfl) rfl rfl ?_
  obtain⟨o,y,hm⟩:=bind_some hm
  refine DM.all hsk67 [13,16,17] (by kernel_rfl) (by simp) ?_
  intro v4 hi110
  simp only [List.mem_cons,List.not_mem_nil,or_false] at hi110
  rcases hi110 with rfl | rfl | rfl
  ·skip
   refine LM.quietL hsk67 16383 (by kernel_rfl) (by kernel_rfl) rfl rfl (Quiet.load1 ttok rfl rfl rfl rfl ((i0.bring 0 rfl).box) 1 rfl rfl) rfl rfl ?_
   refine DM.idxV ttok hE hsk67 14 32767 (by kernel_rfl) (by kernel_rfl) rfl (by kernel_rfl) rfl rfl rfl rfl rfl rfl (by decide) rfl rfl h3 (z6 y).1 (z6 y).2 rfl rfl (fun E4 Q3 S1 a2=>?_)
   obtain⟨D0,m2,E0,n2,P2,R0,S0⟩:=za a2;subst P2
   refine DM.quietV hsk67 15 65535 (by kernel_rfl) (by kernel_rfl) rfl (by kernel_rfl) rfl (Quiet.loadN ttok rfl rfl rfl rfl (At.ext hE S1) rfl) rfl rfl ?_
   refine DM.all hsk67 [16,17] (by kernel_rfl) (by simp) ?_
   intro y4 hi123
   simp only [List.mem_cons,List.not_mem_nil,or_false] at hi123
   rcases hi123 with rfl | rfl
   ·skip
    refine LM.new ttok hsk67 i0 131071 (by kernel_rfl) (by kernel_rfl) rfl rfl rfl rfl rfl (fun K0 M4 d4 T0=>?_)
    refine DM.one hsk67 17 (by kernel_rfl) (LM.new ttok hsk67 T0 262143 (by kernel_rfl) (by kernel_rfl) rfl rfl rfl rfl rfl (fun M0 N4 f4 U0=>?_))
    have V0:=U0.bring 1 rfl
    refine DM.one hsk67 18 (by kernel_rfl) (LM.store ttok (A:=[]) V0 hsk67 524287 (by kernel_rfl) (by kernel_rfl) rfl rfl rfl rfl rfl rfl 0 rfl rfl rfl rfl rfl (fun O4 X0=>?_))
    have Y0:=X0.bring 1 rfl
    refine DM.one hsk67 19 (by kernel_rfl) (LM.store ttok (A:=[]) Y0 hsk67 1048575 (by kernel_rfl) (by kernel_rfl) rfl rfl rfl rfl rfl rfl 0 rfl rfl rfl rfl rfl (fun P4 a1=>?_))
    refine DM.done hsk67 (by kernel_rfl) ?_
    exact⟨((d.Kind,d.Level,d.Value,d.Data,d.Ports),(o.Kind,o.Level,o.Value,o.Data,o.Ports)),[(6,.pointer (some ⟨K0,0,none⟩)),(7,.pointer (some ⟨M0,0,none⟩))],⟨rfl,rfl,trivial⟩,K0,p0,y0,q0,A0,M0,D0,m2,E0,n2,hm,r0,t0,R0,S0,(((a1.bring 0 rfl).bring 1 rfl).taken 2),rfl⟩
   ·skip
    refine LM.new ttok hsk67 i0 196607 (by kernel_rfl) (by kernel_rfl) rfl rfl rfl rfl rfl (fun N0 Q4 g4 b1=>?_)
    refine DM.one hsk67 16 (by kernel_rfl) (LM.new ttok hsk67 b1 262143 (by kernel_rfl) (by kernel_rfl) rfl rfl rfl rfl rfl (fun O0 R4 i4 d1=>?_))
    have e1:=d1.bring 0 rfl
    refine DM.one hsk67 18 (by kernel_rfl) (LM.store ttok (A:=[]) e1 hsk67 524287 (by kernel_rfl) (by kernel_rfl) rfl rfl rfl rfl rfl rfl 0 rfl rfl rfl rfl rfl (fun S4 f1=>?_))
    have g1:=f1.bring 1 rfl
    refine DM.one hsk67 19 (by kernel_rfl) (LM.store ttok (A:=[]) g1 hsk67 1048575 (by kernel_rfl) (by kernel_rfl) rfl rfl rfl rfl rfl rfl 0 rfl rfl rfl rfl rfl (fun T4 i1=>?_))
    refine DM.done hsk67 (by kernel_rfl) ?_
    exact⟨((d.Kind,d.Level,d.Value,d.Data,d.Ports),(o.Kind,o.Level,o.Value,o.Data,o.Ports)),[(6,.pointer (some ⟨O0,0,none⟩)),(7,.pointer (some ⟨N0,0,none⟩))],⟨rfl,rfl,trivial⟩,O0,p0,y0,q0,A0,N0,D0,m2,E0,n2,hm,r0,t0,R0,S0,(((i1.bring 0 rfl).bring 1 rfl).taken 2),rfl⟩
  ·skip
   refine LM.new ttok hsk67 i0 73727 (by kernel_rfl) (by kernel_rfl) rfl rfl rfl rfl rfl (fun O U4 j4 d0=>?_)
   refine DM.all hsk67 [13,17] (by kernel_rfl) (by simp) ?_
   intro A4 hi157
   simp only [List.mem_cons,List.not_mem_nil,or_false] at hi157
   rcases hi157 with rfl | rfl
   ·skip
    refine LM.quietL hsk67 81919 (by kernel_rfl) (by kernel_rfl) rfl rfl (Quiet.load1 ttok rfl rfl rfl rfl ((d0.bring 1 rfl).box) 1 rfl rfl) rfl rfl ?_
    refine DM.idxV ttok hE hsk67 14 98303 (by kernel_rfl) (by kernel_rfl) rfl (by kernel_rfl) rfl rfl rfl rfl rfl rfl (by decide) rfl rfl h3 (z6 y).1 (z6 y).2 rfl rfl (fun F4 R3 T1 b2=>?_)
    obtain⟨v2,u3,y2,v3,Q2,W2,X2⟩:=za b2;subst Q2
    refine DM.quietV hsk67 15 131071 (by kernel_rfl) (by kernel_rfl) rfl (by kernel_rfl) rfl (Quiet.loadN ttok rfl rfl rfl rfl (At.ext hE T1) rfl) rfl rfl ?_
    refine DM.one hsk67 17 (by kernel_rfl) (LM.new ttok hsk67 d0 262143 (by kernel_rfl) (by kernel_rfl) rfl rfl rfl rfl rfl (fun P0 V4 k4 j1=>?_))
    have k1:=j1.bring 1 rfl
    refine DM.one hsk67 18 (by kernel_rfl) (LM.store ttok (A:=[]) k1 hsk67 524287 (by kernel_rfl) (by kernel_rfl) rfl rfl rfl rfl rfl rfl 0 rfl rfl rfl rfl rfl (fun W4 m1=>?_))
    have n1:=m1.bring 1 rfl
    refine DM.one hsk67 19 (by kernel_rfl) (LM.store ttok (A:=[]) n1 hsk67 1048575 (by kernel_rfl) (by kernel_rfl) rfl rfl rfl rfl rfl rfl 0 rfl rfl rfl rfl rfl (fun X4 p1=>?_))
    refine DM.done hsk67 (by kernel_rfl) ?_
    exact⟨((d.Kind,d.Level,d.Value,d.Data,d.Ports),(o.Kind,o.Level,o.Value,o.Data,o.Ports)),[(6,.pointer (some ⟨O,0,none⟩)),(7,.pointer (some ⟨P0,0,none⟩))],⟨rfl,rfl,trivial⟩,O,p0,y0,q0,A0,P0,v2,u3,y2,v3,hm,r0,t0,W2,X2,(((p1.bring 0 rfl).bring 1 rfl).taken 2),rfl⟩
   ·skip
    refine LM.new ttok hsk67 d0 204799 (by kernel_rfl) (by kernel_rfl) rfl rfl rfl rfl rfl (fun j0 Y4 m4 e0=>?_)
    refine DM.all hsk67 [13,18] (by kernel_rfl) (by simp) ?_
    intro B4 hi184
    simp only [List.mem_cons,List.not_mem_nil,or_false] at hi184
    rcases hi184 with rfl | rfl
    ·skip
     refine LM.quietL hsk67 212991 (by kernel_rfl) (by kernel_rfl) rfl rfl (Quiet.load1 ttok rfl rfl rfl rfl ((e0.bring 2 rfl).box) 1 rfl rfl) rfl rfl ?_
     refine DM.idxV ttok hE hsk67 14 229375 (by kernel_rfl) (by kernel_rfl) rfl (by kernel_rfl) rfl rfl rfl rfl rfl rfl (by decide) rfl rfl h3 (z6 y).1 (z6 y).2 rfl rfl (fun G4 S3 U1 d2=>?_)
     obtain⟨A2,y3,B2,A3,R2,Y2,a3⟩:=za d2;subst R2
     refine DM.quietV hsk67 15 262143 (by kernel_rfl) (by kernel_rfl) rfl (by kernel_rfl) rfl (Quiet.loadN ttok rfl rfl rfl rfl (At.ext hE U1) rfl) rfl rfl ?_
     have t1:=e0.bring 1 rfl
     refine DM.one hsk67 18 (by kernel_rfl) (LM.store ttok (A:=[]) t1 hsk67 524287 (by kernel_rfl) (by kernel_rfl) rfl rfl rfl rfl rfl rfl 0 rfl rfl rfl rfl rfl (fun a5 u1=>?_))
     have v1:=u1.bring 1 rfl
     refine DM.one hsk67 19 (by kernel_rfl) (LM.store ttok (A:=[]) v1 hsk67 1048575 (by kernel_rfl) (by kernel_rfl) rfl rfl rfl rfl rfl rfl 0 rfl rfl rfl rfl rfl (fun b5 y1=>?_))
     refine DM.done hsk67 (by kernel_rfl) ?_
     exact⟨((d.Kind,d.Level,d.Value,d.Data,d.Ports),(o.Kind,o.Level,o.Value,o.Data,o.Ports)),[(6,.pointer (some ⟨O,0,none⟩)),(7,.pointer (some ⟨j0,0,none⟩))],⟨rfl,rfl,trivial⟩,O,p0,y0,q0,A0,j0,A2,y3,B2,A3,hm,r0,t0,Y2,a3,(((y1.bring 0 rfl).bring 1 rfl).taken 2),rfl⟩
    ·skip
     have B1:=e0.bring 1 rfl
     refine LM.store ttok (A:=[]) B1 hsk67 466943 (by kernel_rfl) (by kernel_rfl) rfl rfl rfl rfl rfl rfl 0 rfl rfl rfl rfl rfl (fun c5 u0=>?_)
     refine DM.one hsk67 13 (by kernel_rfl) (LM.quietL hsk67 475135 (by kernel_rfl) (by kernel_rfl) rfl rfl (Quiet.load1 ttok rfl rfl rfl rfl ((u0.bring 2 rfl).box) 1 rfl rfl) rfl rfl ?_)
     refine DM.idxV ttok hE hsk67 14 491519 (by kernel_rfl) (by kernel_rfl) rfl (by kernel_rfl) rfl rfl rfl rfl rfl rfl (by decide) rfl rfl h3 (z6 y).1 (z6 y).2 rfl rfl (fun H4 T3 V1 e2=>?_)
     obtain⟨C2,B3,D2,C3,S2,b3,c3⟩:=za e2;subst S2
     refine DM.quietV hsk67 15 524287 (by kernel_rfl) (by kernel_rfl) rfl (by kernel_rfl) rfl (Quiet.loadN ttok rfl rfl rfl rfl (At.ext hE V1) rfl) rfl rfl ?_
     have C1:=u0.bring 1 rfl
     refine DM.one hsk67 19 (by kernel_rfl) (LM.store ttok (A:=[]) C1 hsk67 1048575 (by kernel_rfl) (by kernel_rfl) rfl rfl rfl rfl rfl rfl 0 rfl rfl rfl rfl rfl (fun d5 D1=>?_))
     refine DM.done hsk67 (by kernel_rfl) ?_
     exact⟨((d.Kind,d.Level,d.Value,d.Data,d.Ports),(o.Kind,o.Level,o.Value,o.Data,o.Ports)),[(6,.pointer (some ⟨O,0,none⟩)),(7,.pointer (some ⟨j0,0,none⟩))],⟨rfl,rfl,trivial⟩,O,p0,y0,q0,A0,j0,C2,B3,D2,C3,hm,r0,t0,b3,c3,(((D1.bring 0 rfl).bring 1 rfl).taken 2),rfl⟩
  ·skip
   refine LM.new ttok hsk67 i0 139263 (by kernel_rfl) (by kernel_rfl) rfl rfl rfl rfl rfl (fun Y f5 n4 f0=>?_)
   refine DM.all hsk67 [13,16] (by kernel_rfl) (by simp) ?_
   intro C4 hi224
   simp only [List.mem_cons,List.not_mem_nil,or_false] at hi224
   rcases hi224 with rfl | rfl
   ·skip
    refine LM.quietL hsk67 147455 (by kernel_rfl) (by kernel_rfl) rfl rfl (Quiet.load1 ttok rfl rfl rfl rfl ((f0.bring 1 rfl).box) 1 rfl rfl) rfl rfl ?_
    refine DM.idxV ttok hE hsk67 14 163839 (by kernel_rfl) (by kernel_rfl) rfl (by kernel_rfl) rfl rfl rfl rfl rfl rfl (by decide) rfl rfl h3 (z6 y).1 (z6 y).2 rfl rfl (fun J4 U3 W1 f2=>?_)
    obtain⟨E2,D3,F2,E3,T2,d3,e3⟩:=za f2;subst T2
    refine DM.quietV hsk67 15 196607 (by kernel_rfl) (by kernel_rfl) rfl (by kernel_rfl) rfl (Quiet.loadN ttok rfl rfl rfl rfl (At.ext hE W1) rfl) rfl rfl ?_
    refine DM.one hsk67 16 (by kernel_rfl) (LM.new ttok hsk67 f0 262143 (by kernel_rfl) (by kernel_rfl) rfl rfl rfl rfl rfl (fun Q0 g5 o4 E1=>?_))
    have F1:=E1.bring 0 rfl
    refine DM.one hsk67 18 (by kernel_rfl) (LM.store ttok (A:=[]) F1 hsk67 524287 (by kernel_rfl) (by kernel_rfl) rfl rfl rfl rfl rfl rfl 0 rfl rfl rfl rfl rfl (fun i5 G1=>?_))
    have H1:=G1.bring 1 rfl
    refine DM.one hsk67 19 (by kernel_rfl) (LM.store ttok (A:=[]) H1 hsk67 1048575 (by kernel_rfl) (by kernel_rfl) rfl rfl rfl rfl rfl rfl 0 rfl rfl rfl rfl rfl (fun j5 J1=>?_))
    refine DM.done hsk67 (by kernel_rfl) ?_
    exact⟨((d.Kind,d.Level,d.Value,d.Data,d.Ports),(o.Kind,o.Level,o.Value,o.Data,o.Ports)),[(6,.pointer (some ⟨Q0,0,none⟩)),(7,.pointer (some ⟨Y,0,none⟩))],⟨rfl,rfl,trivial⟩,Q0,p0,y0,q0,A0,Y,E2,D3,F2,E3,hm,r0,t0,d3,e3,(((J1.bring 0 rfl).bring 1 rfl).taken 2),rfl⟩
   ·skip
    refine LM.new ttok hsk67 f0 204799 (by kernel_rfl) (by kernel_rfl) rfl rfl rfl rfl rfl (fun k0 k5 p4 g0=>?_)
    refine DM.all hsk67 [13,18] (by kernel_rfl) (by simp) ?_
    intro D4 hi251
    simp only [List.mem_cons,List.not_mem_nil,or_false] at hi251
    rcases hi251 with rfl | rfl
    ·skip
     refine LM.quietL hsk67 212991 (by kernel_rfl) (by kernel_rfl) rfl rfl (Quiet.load1 ttok rfl rfl rfl rfl ((g0.bring 2 rfl).box) 1 rfl rfl) rfl rfl ?_
     refine DM.idxV ttok hE hsk67 14 229375 (by kernel_rfl) (by kernel_rfl) rfl (by kernel_rfl) rfl rfl rfl rfl rfl rfl (by decide) rfl rfl h3 (z6 y).1 (z6 y).2 rfl rfl (fun K4 V3 X1 g2=>?_)
     obtain⟨G2,F3,H2,G3,U2,f3,g3⟩:=za g2;subst U2
     refine DM.quietV hsk67 15 262143 (by kernel_rfl) (by kernel_rfl) rfl (by kernel_rfl) rfl (Quiet.loadN ttok rfl rfl rfl rfl (At.ext hE X1) rfl) rfl rfl ?_
     have K1:=g0.bring 0 rfl
     refine DM.one hsk67 18 (by kernel_rfl) (LM.store ttok (A:=[]) K1 hsk67 524287 (by kernel_rfl) (by kernel_rfl) rfl rfl rfl rfl rfl rfl 0 rfl rfl rfl rfl rfl (fun m5 L1=>?_))
     have M1:=L1.bring 1 rfl
     refine DM.one hsk67 19 (by kernel_rfl) (LM.store ttok (A:=[]) M1 hsk67 1048575 (by kernel_rfl) (by kernel_rfl) rfl rfl rfl rfl rfl rfl 0 rfl rfl rfl rfl rfl (fun n5 N1=>?_))
     refine DM.done hsk67 (by kernel_rfl) ?_
     exact⟨((d.Kind,d.Level,d.Value,d.Data,d.Ports),(o.Kind,o.Level,o.Value,o.Data,o.Ports)),[(6,.pointer (some ⟨k0,0,none⟩)),(7,.pointer (some ⟨Y,0,none⟩))],⟨rfl,rfl,trivial⟩,k0,p0,y0,q0,A0,Y,G2,F3,H2,G3,hm,r0,t0,f3,g3,(((N1.bring 0 rfl).bring 1 rfl).taken 2),rfl⟩
    ·skip
     have O1:=g0.bring 0 rfl
     refine LM.store ttok (A:=[]) O1 hsk67 466943 (by kernel_rfl) (by kernel_rfl) rfl rfl rfl rfl rfl rfl 0 rfl rfl rfl rfl rfl (fun o5 v0=>?_)
     refine DM.one hsk67 13 (by kernel_rfl) (LM.quietL hsk67 475135 (by kernel_rfl) (by kernel_rfl) rfl rfl (Quiet.load1 ttok rfl rfl rfl rfl ((v0.bring 2 rfl).box) 1 rfl rfl) rfl rfl ?_)
     refine DM.idxV ttok hE hsk67 14 491519 (by kernel_rfl) (by kernel_rfl) rfl (by kernel_rfl) rfl rfl rfl rfl rfl rfl (by decide) rfl rfl h3 (z6 y).1 (z6 y).2 rfl rfl (fun L4 W3 Y1 i2=>?_)
     obtain⟨J2,H3,K2,J3,V2,i3,j3⟩:=za i2;subst V2
     refine DM.quietV hsk67 15 524287 (by kernel_rfl) (by kernel_rfl) rfl (by kernel_rfl) rfl (Quiet.loadN ttok rfl rfl rfl rfl (At.ext hE Y1) rfl) rfl rfl ?_
     have P1:=v0.bring 1 rfl
     refine DM.one hsk67 19 (by kernel_rfl) (LM.store ttok (A:=[]) P1 hsk67 1048575 (by kernel_rfl) (by kernel_rfl) rfl rfl rfl rfl rfl rfl 0 rfl rfl rfl rfl rfl (fun p5 Q1=>?_))
     refine DM.done hsk67 (by kernel_rfl) ?_
     exact⟨((d.Kind,d.Level,d.Value,d.Data,d.Ports),(o.Kind,o.Level,o.Value,o.Data,o.Ports)),[(6,.pointer (some ⟨k0,0,none⟩)),(7,.pointer (some ⟨Y,0,none⟩))],⟨rfl,rfl,trivial⟩,k0,p0,y0,q0,A0,Y,J2,H3,K2,J3,hm,r0,t0,i3,j3,(((Q1.bring 0 rfl).bring 1 rfl).taken 2),rfl⟩

theorem zbg:Enters Tryz.prog 56:=⟨_,_,Tryz.func56,rfl,by kernel_rfl⟩
def z1j (fuel:Nat) (x0:D.Net) (d:Int × Bool) (b:Int) (o:Bool):Option Int:=(if o=true then some b else(if(d.1 == 5)=true then((idx x0.Agents b).bind fun y=>(if(y.Kind == 8)=true then some b else some (-1))) else some (-1)))
def z1i (fuel:Nat) (x0:D.Net) (b:Int × Bool) (d:Int) (o:Bool):Option Int:=z1j fuel x0 b d o
def zX (fuel:Nat) (x0:D.Net) (b:Int × Bool) (d:Int):Option Int:=(if(b.1 == 1)=true then z1j fuel x0 b d (b.1 == 1) else(if(b.1 == 6)=true then z1i fuel x0 b d (b.1 == 6) else z1i fuel x0 b d (b.1 == 7)))
def z1k (fuel:Nat) (x0:D.Net) (x1:D.Pair):Option (Int):=((z34 fuel x0 x1).bind fun b=>(if b.2=true then zX fuel x0 b x1.A else zX fuel x0 b x1.B))

set_option maxRecDepth 100000 in
theorem z5q {W:Base}{w:World}(hE:Ext W w){o:Addr}{o0:List Value}{x0:D.Net}{p0:List Value}{x1:D.Pair}(r0:ty31.ro W o0 x0) (q0:At W o o0) (t0:ty71.ro W p0 x1){fuel:Nat}{r:Int}(hm:z1k fuel x0 x1=some r):
  Calls Tryz.prog 56 ⟨[.pointer (some o),.agg ⟨p0⟩]⟩ w (Ret fun v w8=>v=.int .i64 r∧St w w8 []):=by
 obtain⟨A1,k2,e4,h3⟩:=zK r0;subst e4
 have e5:=z6g t0;subst e5
 refine Calls.into Tryz.func56 rfl 40 rfl rfl _ rfl ?_
 unfold z1k at hm
 have hS:=St.start w
 refine WP.seq ?_
 refine WP.region ?_
 refine RW.new ttok hS rfl rfl rfl rfl (fun g6 w7 G0 H=>?_)
 refine RW.run ttok 1 rfl ?_
 refine RW.nil ?_
 refine WP.seq ?_
 refine WP.region ?_
 refine RW.run ttok 1 rfl ?_
 refine RW.loadN ttok rfl rfl rfl rfl rfl ((H.bring 0 rfl).box) rfl rfl rfl ?_
 obtain⟨b,k0,hm⟩:=bind_some hm
 refine RW.call rfl rfl rfl zdw (z7c (hE.trans H.ext) r0 q0 t0 k0) (fun O0 u0 e0=>?_)
 obtain⟨rfl,f0⟩:=e0
 have G:=H.join f0
 refine RW.run ttok 5 rfl ?_
 refine RW.nil ?_
 refine WP.seq ?_
 refine WP.drawnM 0 mixed 6 (by kernel_rfl) (by kernel_rfl) [([],63),([0],62),([],63),([2],59),([1,0,1],61),([3,4,0,1,2,3,4],55)] (by kernel_rfl) G.ext (fun hsk19=>?_)
 have Y:=G.step (Ext.draw _)
 refine DM.run (fuel:=4) ttok hsk19 [0,2] 5 (by kernel_rfl) (by kernel_rfl) rfl ?_
 refine DM.weak [(0,.pointer (some o)),(5,.int .i64 b.1),(6,.bool b.2),(15,.pointer (some ⟨g6,0,none⟩)),(17,.pointer (some ⟨g6,1,none⟩))] ⟨rfl,rfl,rfl,rfl,rfl,trivial⟩ ?_
 refine DM.load1 ttok hsk19 1 7 (by kernel_rfl) (by kernel_rfl) (by kernel_rfl) (by kernel_rfl) rfl (by kernel_rfl) rfl rfl rfl rfl rfl ((G.bring 0 rfl).box) 0 rfl rfl rfl rfl ?_
 refine DM.run (fuel:=2) ttok hsk19 [4] 23 (by kernel_rfl) (by kernel_rfl) rfl ?_
 refine DM.load1 ttok hsk19 3 31 (by kernel_rfl) (by kernel_rfl) (by kernel_rfl) (by kernel_rfl) rfl (by kernel_rfl) rfl rfl rfl rfl rfl ((G.bring 0 rfl).box) 1 rfl rfl rfl rfl ?_
 refine DM.run (fuel:=0) ttok hsk19 [5] 63 (by kernel_rfl) (by kernel_rfl) rfl ?_
 refine DM.done hsk19 (by kernel_rfl) ?_
 refine WP.seq ?_
 refine WP.seq ?_
 refine WP.region ?_
 refine RW.run ttok 1 rfl ?_
 refine RW.nil ?_
 refine WP.cut (fun(y:Int) F w9=>zX fuel x0 b y=some r∧Ext (({ u0 with drawn:=u0.drawn+1 }:World)) w9∧St w w9 []∧F=[(0,.pointer (some o)),(5,.int .i64 b.1),(8,.int .i64 y)]) ?_ ?_
 ·skip
  rintro y F v0 ⟨hm,B0,O,rfl⟩
  unfold zX at hm
  refine WP.seq ?_
  refine WP.seq ?_
  refine WP.region ?_
  refine RW.run ttok 1 rfl ?_
  refine RW.nil ?_
  refine WP.block ?_
  refine WP.seq ?_
  refine WP.seq ?_
  refine WP.region ?_
  refine RW.run ttok 2 rfl ?_
  refine RW.nil ?_
  refine WP.cut (fun(c0:Bool) F w9=>z1j fuel x0 b y c0=some r∧Ext v0 w9∧St w w9 []∧F=[(0,.pointer (some o)),(8,.int .i64 y),(22,.int .i64 b.1),(23,.bool c0)]) ?_ ?_
  ·skip
   rintro c0 F P0 ⟨hm,C0,d,rfl⟩
   unfold z1j at hm
   refine WP.cond c0 rfl (fun hc=>?_) (fun hc=>?_)
   ·skip
    rw [if_pos hc] at hm
    refine WP.seq ?_
    refine WP.region ?_
    refine RW.run ttok 2 rfl ?_
    refine RW.nil ?_
    refine WP.ret ?_
    cases hm
    exact⟨_,.cons (.tmp rfl) .nil,rfl,d⟩
   ·skip
    rw [if_neg (z8 hc)] at hm
    refine WP.seq ?_
    refine WP.region ?_
    refine RW.run ttok 2 rfl ?_
    refine RW.nil ?_
    refine WP.cond (b.1 == 5) rfl (fun hc=>?_) (fun hc=>?_)
    ·skip
     rw [if_pos hc] at hm
     refine WP.seq ?_
     refine WP.region ?_
     refine RW.run ttok 3 rfl ?_
     refine RW.load1 ttok rfl rfl rfl rfl rfl (At.ext (hE.trans d.ext) q0) 0 rfl rfl rfl rfl ?_
     refine RW.run ttok 1 rfl ?_
     obtain⟨D0,a0,hm⟩:=bind_some hm
     refine RW.idx ttok (hE.trans d.ext) rfl rfl rfl rfl rfl rfl (by decide) rfl rfl h3 (z6 a0).1 (z6 a0).2 rfl rfl (fun N0 A0 i0 j0=>?_)
     obtain⟨E0,K0,F0,M0,y0,H0,J0⟩:=za j0;subst y0
     refine RW.run ttok 1 rfl ?_
     refine RW.load1 ttok rfl rfl rfl rfl rfl (At.ext (hE.trans d.ext) i0) 0 rfl rfl rfl rfl ?_
     refine RW.run ttok 1 rfl ?_
     refine RW.nil ?_
     refine WP.cond (D0.Kind == 8) rfl (fun hc=>?_) (fun hc=>?_)
     ·skip
      rw [if_pos hc] at hm
      refine WP.seq ?_
      refine WP.region ?_
      refine RW.run ttok 2 rfl ?_
      refine RW.nil ?_
      refine WP.ret ?_
      cases hm
      exact⟨_,.cons (.tmp rfl) .nil,rfl,d⟩
     ·skip
      rw [if_neg (z8 hc)] at hm
      refine WP.skip ?_
      refine WP.seq ?_
      refine WP.region ?_
      refine RW.run ttok 1 rfl ?_
      refine RW.nil ?_
      refine WP.ret ?_
      cases hm
      exact⟨_,.cons (.tmp rfl) .nil,rfl,d⟩
    ·skip
     rw [if_neg (z8 hc)] at hm
     refine WP.skip ?_
     refine WP.seq ?_
     refine WP.region ?_
     refine RW.run ttok 1 rfl ?_
     refine RW.nil ?_
     refine WP.ret ?_
     cases hm
     exact⟨_,.cons (.tmp rfl) .nil,rfl,d⟩
  ·skip
   refine WP.cond (b.1 == 1) rfl (fun hc=>?_) (fun hc=>?_)
   ·skip
    rw [if_pos hc] at hm
    refine WP.skip ?_
    exact⟨(b.1 == 1),[(0,.pointer (some o)),(8,.int .i64 y),(22,.int .i64 b.1),(23,.bool (b.1 == 1))],⟨rfl,rfl,rfl,rfl,trivial⟩,hm,(Ext.refl _),O,rfl⟩
   ·skip
    rw [if_neg (z8 hc)] at hm
    refine WP.seq ?_
    refine WP.region ?_
    refine RW.run ttok 2 rfl ?_
    refine RW.nil ?_
    refine WP.cut (fun(b0:Bool) F w9=>z1i fuel x0 b y b0=some r∧Ext v0 w9∧St w w9 []∧F=[(0,.pointer (some o)),(8,.int .i64 y),(22,.int .i64 b.1),(23,.bool b0)]) ?_ ?_
    ·skip
     rintro b0 F Q0 ⟨hm,d0,g0,rfl⟩
     unfold z1i at hm
     exact⟨b0,[(0,.pointer (some o)),(8,.int .i64 y),(22,.int .i64 b.1),(23,.bool b0)],⟨rfl,rfl,rfl,rfl,trivial⟩,hm,d0,g0,rfl⟩
    ·skip
     refine WP.cond (b.1 == 6) rfl (fun hc=>?_) (fun hc=>?_)
     ·skip
      rw [if_pos hc] at hm
      refine WP.skip ?_
      exact⟨(b.1 == 6),[(0,.pointer (some o)),(8,.int .i64 y),(22,.int .i64 b.1),(23,.bool (b.1 == 6))],⟨rfl,rfl,rfl,rfl,trivial⟩,hm,(Ext.refl _),O,rfl⟩
     ·skip
      rw [if_neg (z8 hc)] at hm
      refine WP.region ?_
      refine RW.run ttok 2 rfl ?_
      refine RW.nil ?_
      exact⟨(b.1 == 7),[(0,.pointer (some o)),(8,.int .i64 y),(22,.int .i64 b.1),(23,.bool (b.1 == 7))],⟨rfl,rfl,rfl,rfl,trivial⟩,hm,(Ext.refl _),O,rfl⟩
 ·skip
  refine WP.cond b.2 rfl (fun hc=>?_) (fun hc=>?_)
  ·skip
   rw [if_pos hc] at hm
   refine WP.region ?_
   refine RW.run ttok 4 rfl ?_
   refine RW.nil ?_
   exact⟨x1.A,[(0,.pointer (some o)),(5,.int .i64 b.1),(8,.int .i64 x1.A)],⟨rfl,rfl,rfl,trivial⟩,hm,(Ext.refl _),(Y.taken 0),rfl⟩
  ·skip
   rw [if_neg (z8 hc)] at hm
   refine WP.skip ?_
   exact⟨x1.B,[(0,.pointer (some o)),(5,.int .i64 b.1),(8,.int .i64 x1.B)],⟨rfl,rfl,rfl,trivial⟩,hm,(Ext.refl _),(Y.taken 0),rfl⟩

end Go.E


