/- Models of functions and proofs that the code runs as they say (written by program). Conditions: the model gives a value. -/
import Derived.Test.YtngggnjnenfgbaaGreatDoorField
namespace Go.E
open Go.RowKit Go.Proofs
set_option linter.unusedVariables false
set_option linter.unusedSimpArgs false
set_option maxHeartbeats 2000000

theorem zc8:Enters Tryz.prog 88:=⟨_,_,Tryz.func88,rfl,by kernel_rfl⟩
def z1J (fuel:Nat) (x0:D.Agent):Option (Int):=(if(x0.Kind == 9)=true then some (w64 ((x0.Ports.length:Int) - 1)) else some 0)

set_option maxRecDepth 100000 in
theorem z6x {W:Base}{w:World}(hE:Ext W w){o:Addr}{b:List Value}{x0:D.Agent}(y:ty67.ro W b x0) (d:At W o b){fuel:Nat}{r:Int}(hm:z1J fuel x0=some r):
  Calls Tryz.prog 88 ⟨[.pointer (some o)]⟩ w (Ret fun v w8=>v=.int .i64 r∧St w w8 []):=by
 obtain⟨A1,k2,A4,k5,e7,h3,h6⟩:=zB y;subst e7
 refine Calls.into Tryz.func88 rfl 14 rfl rfl _ rfl ?_
 unfold z1J at hm
 have hS:=St.start w
 refine WP.seq ?_
 refine WP.region ?_
 refine RW.run ttok 1 rfl ?_
 refine RW.nil ?_
 refine WP.seq ?_
 refine WP.seq ?_
 refine WP.region ?_
 refine RW.run ttok 3 rfl ?_
 refine RW.load1 ttok rfl rfl rfl rfl rfl (At.ext (hE.trans hS.ext) d) 0 rfl rfl rfl rfl ?_
 refine RW.run ttok 1 rfl ?_
 refine RW.nil ?_
 refine WP.cond (x0.Kind == 9) rfl (fun hc=>?_) (fun hc=>?_)
 ·skip
  rw [if_pos hc] at hm
  refine WP.seq ?_
  refine WP.region ?_
  refine RW.run ttok 3 rfl ?_
  refine RW.load1 ttok rfl rfl rfl rfl rfl (At.ext (hE.trans hS.ext) d) 4 rfl rfl rfl rfl ?_
  refine RW.run ttok 3 rfl ?_
  refine RW.nil ?_
  refine WP.ret ?_
  cases hm
  exact⟨_,.cons (.tmp rfl) .nil,rfl,hS⟩
 ·skip
  rw [if_neg (zC hc)] at hm
  refine WP.skip ?_
  refine WP.seq ?_
  refine WP.region ?_
  refine RW.run ttok 1 rfl ?_
  refine RW.nil ?_
  refine WP.ret ?_
  cases hm
  exact⟨_,.cons (.tmp rfl) .nil,rfl,hS⟩

theorem z3w:Enters Tryz.prog 52:=⟨_,_,Tryz.func52,rfl,by kernel_rfl⟩
def zG (fuel:Nat) (x0:Int) (x1:Int) (x2:Int):Option (Bool):=(if(decide (x0≥x1))=true then some (decide (x0≤x2)) else some false)

set_option maxRecDepth 100000 in
theorem zU {W:Base}{w:World}(hE:Ext W w){x0:Int}{x1:Int}{x2:Int}  {fuel:Nat}{r:Bool}(hm:zG fuel x0 x1 x2=some r):
  Calls Tryz.prog 52 ⟨[.int .i64 x0,.int .i64 x1,.int .i64 x2]⟩ w (Ret fun v w8=>v=.bool r∧St w w8 []):=by
 refine Calls.into Tryz.func52 rfl 15 rfl rfl _ rfl ?_
 unfold zG at hm
 have hS:=St.start w
 refine WP.seq ?_
 refine WP.region ?_
 refine RW.run ttok 1 rfl ?_
 refine RW.nil ?_
 refine WP.seq ?_
 refine WP.region ?_
 refine RW.run ttok 4 rfl ?_
 by_cases hg1:(decide (x0≥x1))=true
 ·skip
  rw [if_pos hg1] at hm
  refine RW.know 10 rfl (congrArg Value.bool hg1) ?_
  refine RW.run ttok 5 rfl ?_
  refine RW.nil ?_
  refine WP.ret ?_
  cases hm
  exact⟨_,.cons (.tmp rfl) .nil,rfl,hS⟩
 ·skip
  rw [if_neg hg1] at hm
  refine RW.know 10 rfl (congrArg Value.bool (Bool.eq_false_iff.2 hg1)) ?_
  refine RW.run ttok 5 rfl ?_
  refine RW.nil ?_
  refine WP.ret ?_
  cases hm
  exact⟨_,.cons (.tmp rfl) .nil,rfl,hS⟩

theorem zc9:Enters Tryz.prog 87:=⟨_,_,Tryz.func87,rfl,by kernel_rfl⟩
def z2W (fuel:Nat) (b:Bool):Option Int:=(if b=true then some 3 else some 0)
def z2V (fuel:Nat) (b:Bool):Option Int:=z2W fuel b
def z2U (fuel:Nat) (b:Bool):Option Int:=z2V fuel b
def z2X (fuel:Nat) (x0:Int) (b:Bool):Option Int:=(if b=true then some 2 else(if(x0 == 2)=true then z2W fuel (x0 == 2) else(if(x0 == 3)=true then z2V fuel (x0 == 3) else(if(x0 == 4)=true then z2U fuel (x0 == 4) else z2U fuel (x0 == 7)))))
def z2T (fuel:Nat) (x0:Int) (b:Bool):Option Int:=z2X fuel x0 b
def z2Y (fuel:Nat) (x0:Int) (b:Bool):Option Int:=(if b=true then some 1 else(if(x0 == 8)=true then z2X fuel x0 (x0 == 8) else(if(x0 == 10)=true then z2T fuel x0 (x0 == 10) else z2T fuel x0 (x0 == 11))))
def z2S (fuel:Nat) (x0:Int) (b:Bool):Option Int:=z2Y fuel x0 b
def z2R (fuel:Nat) (x0:Int) (b:Bool):Option Int:=z2S fuel x0 b
def z2y (fuel:Nat) (x0:Int) (x1:Int):Option (Int):=(if(x0 == 9)=true then((zG fuel x1 0 3).bind fun r1=>(if r1=true then some (w64 (1+x1)) else some 0)) else(if(x1 != 0)=true then some 0 else(if(x0 == 1)=true then z2Y fuel x0 (x0 == 1) else(if(x0 == 5)=true then z2S fuel x0 (x0 == 5) else(if(x0 == 6)=true then z2R fuel x0 (x0 == 6) else z2R fuel x0 (x0 == 12))))))

set_option maxRecDepth 100000 in
theorem z7i {W:Base}{w:World}(hE:Ext W w){x0:Int}{x1:Int}  {fuel:Nat}{r:Int}(hm:z2y fuel x0 x1=some r):
  Calls Tryz.prog 87 ⟨[.int .i64 x0,.int .i64 x1]⟩ w (Ret fun v w8=>v=.int .i64 r∧St w w8 []):=by
 refine Calls.into Tryz.func87 rfl 28 rfl rfl _ rfl ?_
 unfold z2y at hm
 have hS:=St.start w
 refine WP.seq ?_
 refine WP.region ?_
 refine RW.run ttok 1 rfl ?_
 refine RW.nil ?_
 refine WP.seq ?_
 refine WP.seq ?_
 refine WP.region ?_
 refine RW.run ttok 2 rfl ?_
 refine RW.nil ?_
 refine WP.cond (x0 == 9) rfl (fun hc=>?_) (fun hc=>?_)
 ·skip
  rw [if_pos hc] at hm
  refine WP.seq ?_
  refine WP.seq ?_
  refine WP.region ?_
  refine RW.run ttok 1 rfl ?_
  obtain⟨r1,D0,hm⟩:=bind_some hm
  refine RW.call rfl rfl rfl z3w (zU (hE.trans hS.ext)  D0) (fun v3 w4 B0=>?_)
  obtain⟨rfl,C0⟩:=B0
  have t0:=hS.join C0
  refine RW.nil ?_
  refine WP.cond r1 rfl (fun hc=>?_) (fun hc=>?_)
  ·skip
   rw [if_pos hc] at hm
   refine WP.seq ?_
   refine WP.region ?_
   refine RW.run ttok 3 rfl ?_
   refine RW.nil ?_
   refine WP.ret ?_
   cases hm
   exact⟨_,.cons (.tmp rfl) .nil,rfl,t0⟩
  ·skip
   rw [if_neg (zC hc)] at hm
   refine WP.skip ?_
   refine WP.seq ?_
   refine WP.region ?_
   refine RW.run ttok 1 rfl ?_
   refine RW.nil ?_
   refine WP.ret ?_
   cases hm
   exact⟨_,.cons (.tmp rfl) .nil,rfl,t0⟩
 ·skip
  rw [if_neg (zC hc)] at hm
  refine WP.skip ?_
  refine WP.seq ?_
  refine WP.seq ?_
  refine WP.region ?_
  refine RW.run ttok 2 rfl ?_
  refine RW.nil ?_
  refine WP.cond (x1 != 0) rfl (fun hc=>?_) (fun hc=>?_)
  ·skip
   rw [if_pos hc] at hm
   refine WP.seq ?_
   refine WP.region ?_
   refine RW.run ttok 1 rfl ?_
   refine RW.nil ?_
   refine WP.ret ?_
   cases hm
   exact⟨_,.cons (.tmp rfl) .nil,rfl,hS⟩
  ·skip
   rw [if_neg (zC hc)] at hm
   refine WP.skip ?_
   refine WP.seq ?_
   refine WP.seq ?_
   refine WP.region ?_
   refine RW.run ttok 1 rfl ?_
   refine RW.nil ?_
   refine WP.block ?_
   refine WP.seq ?_
   refine WP.seq ?_
   refine WP.region ?_
   refine RW.run ttok 2 rfl ?_
   refine RW.nil ?_
   refine WP.cut (fun(a0:Bool) F w9=>z2Y fuel x0 a0=some r∧Ext w w9∧St w w9 []∧F=[(13,.int .i64 x0),(14,.bool a0)]) ?_ ?_
   ·skip
    rintro a0 F u0 ⟨hm,v0,d,rfl⟩
    unfold z2Y at hm
    refine WP.cond a0 rfl (fun hc=>?_) (fun hc=>?_)
    ·skip
     rw [if_pos hc] at hm
     refine WP.seq ?_
     refine WP.region ?_
     refine RW.run ttok 1 rfl ?_
     refine RW.nil ?_
     refine WP.ret ?_
     cases hm
     exact⟨_,.cons (.tmp rfl) .nil,rfl,d⟩
    ·skip
     rw [if_neg (zC hc)] at hm
     refine WP.seq ?_
     refine WP.seq ?_
     refine WP.region ?_
     refine RW.run ttok 2 rfl ?_
     refine RW.nil ?_
     refine WP.cut (fun(b0:Bool) F w9=>z2X fuel x0 b0=some r∧Ext u0 w9∧St w w9 []∧F=[(13,.int .i64 x0),(19,.bool b0)]) ?_ ?_
     ·skip
      rintro b0 F r0 ⟨hm,y0,b,rfl⟩
      unfold z2X at hm
      refine WP.cond b0 rfl (fun hc=>?_) (fun hc=>?_)
      ·skip
       rw [if_pos hc] at hm
       refine WP.seq ?_
       refine WP.region ?_
       refine RW.run ttok 1 rfl ?_
       refine RW.nil ?_
       refine WP.ret ?_
       cases hm
       exact⟨_,.cons (.tmp rfl) .nil,rfl,b⟩
      ·skip
       rw [if_neg (zC hc)] at hm
       refine WP.seq ?_
       refine WP.seq ?_
       refine WP.region ?_
       refine RW.run ttok 2 rfl ?_
       refine RW.nil ?_
       refine WP.cut (fun(c0:Bool) F w9=>z2W fuel c0=some r∧Ext r0 w9∧St w w9 []∧F=[(23,.bool c0)]) ?_ ?_
       ·skip
        rintro c0 F E0 ⟨hm,A0,o,rfl⟩
        unfold z2W at hm
        refine WP.cond c0 rfl (fun hc=>?_) (fun hc=>?_)
        ·skip
         rw [if_pos hc] at hm
         refine WP.seq ?_
         refine WP.region ?_
         refine RW.run ttok 1 rfl ?_
         refine RW.nil ?_
         refine WP.ret ?_
         cases hm
         exact⟨_,.cons (.tmp rfl) .nil,rfl,o⟩
        ·skip
         rw [if_neg (zC hc)] at hm
         refine WP.skip ?_
         refine WP.seq ?_
         refine WP.region ?_
         refine RW.run ttok 1 rfl ?_
         refine RW.nil ?_
         refine WP.ret ?_
         cases hm
         exact⟨_,.cons (.tmp rfl) .nil,rfl,o⟩
       ·skip
        refine WP.cond (x0 == 2) rfl (fun hc=>?_) (fun hc=>?_)
        ·skip
         rw [if_pos hc] at hm
         refine WP.skip ?_
         exact⟨(x0 == 2),[(23,.bool (x0 == 2))],⟨rfl,trivial⟩,hm,(Ext.refl _),b,rfl⟩
        ·skip
         rw [if_neg (zC hc)] at hm
         refine WP.seq ?_
         refine WP.region ?_
         refine RW.run ttok 2 rfl ?_
         refine RW.nil ?_
         refine WP.cut (fun(y:Bool) F w9=>z2V fuel y=some r∧Ext r0 w9∧St w w9 []∧F=[(23,.bool y)]) ?_ ?_
         ·skip
          rintro y F F0 ⟨hm,d0,j0,rfl⟩
          unfold z2V at hm
          exact⟨y,[(23,.bool y)],⟨rfl,trivial⟩,hm,d0,j0,rfl⟩
         ·skip
          refine WP.cond (x0 == 3) rfl (fun hc=>?_) (fun hc=>?_)
          ·skip
           rw [if_pos hc] at hm
           refine WP.skip ?_
           exact⟨(x0 == 3),[(23,.bool (x0 == 3))],⟨rfl,trivial⟩,hm,(Ext.refl _),b,rfl⟩
          ·skip
           rw [if_neg (zC hc)] at hm
           refine WP.seq ?_
           refine WP.region ?_
           refine RW.run ttok 2 rfl ?_
           refine RW.nil ?_
           refine WP.cut (fun(G:Bool) F w9=>z2U fuel G=some r∧Ext r0 w9∧St w w9 []∧F=[(23,.bool G)]) ?_ ?_
           ·skip
            rintro G F G0 ⟨hm,e0,k0,rfl⟩
            unfold z2U at hm
            exact⟨G,[(23,.bool G)],⟨rfl,trivial⟩,hm,e0,k0,rfl⟩
           ·skip
            refine WP.cond (x0 == 4) rfl (fun hc=>?_) (fun hc=>?_)
            ·skip
             rw [if_pos hc] at hm
             refine WP.skip ?_
             exact⟨(x0 == 4),[(23,.bool (x0 == 4))],⟨rfl,trivial⟩,hm,(Ext.refl _),b,rfl⟩
            ·skip
             rw [if_neg (zC hc)] at hm
             refine WP.region ?_
             refine RW.run ttok 2 rfl ?_
             refine RW.nil ?_
             exact⟨(x0 == 7),[(23,.bool (x0 == 7))],⟨rfl,trivial⟩,hm,(Ext.refl _),b,rfl⟩
     ·skip
      refine WP.cond (x0 == 8) rfl (fun hc=>?_) (fun hc=>?_)
      ·skip
       rw [if_pos hc] at hm
       refine WP.skip ?_
       exact⟨(x0 == 8),[(13,.int .i64 x0),(19,.bool (x0 == 8))],⟨rfl,rfl,trivial⟩,hm,(Ext.refl _),d,rfl⟩
      ·skip
       rw [if_neg (zC hc)] at hm
       refine WP.seq ?_
       refine WP.region ?_
       refine RW.run ttok 2 rfl ?_
       refine RW.nil ?_
       refine WP.cut (fun(H:Bool) F w9=>z2T fuel x0 H=some r∧Ext u0 w9∧St w w9 []∧F=[(13,.int .i64 x0),(19,.bool H)]) ?_ ?_
       ·skip
        rintro H F H0 ⟨hm,f0,o0,rfl⟩
        unfold z2T at hm
        exact⟨H,[(13,.int .i64 x0),(19,.bool H)],⟨rfl,rfl,trivial⟩,hm,f0,o0,rfl⟩
       ·skip
        refine WP.cond (x0 == 10) rfl (fun hc=>?_) (fun hc=>?_)
        ·skip
         rw [if_pos hc] at hm
         refine WP.skip ?_
         exact⟨(x0 == 10),[(13,.int .i64 x0),(19,.bool (x0 == 10))],⟨rfl,rfl,trivial⟩,hm,(Ext.refl _),d,rfl⟩
        ·skip
         rw [if_neg (zC hc)] at hm
         refine WP.region ?_
         refine RW.run ttok 2 rfl ?_
         refine RW.nil ?_
         exact⟨(x0 == 11),[(13,.int .i64 x0),(19,.bool (x0 == 11))],⟨rfl,rfl,trivial⟩,hm,(Ext.refl _),d,rfl⟩
   ·skip
    refine WP.cond (x0 == 1) rfl (fun hc=>?_) (fun hc=>?_)
    ·skip
     rw [if_pos hc] at hm
     refine WP.skip ?_
     exact⟨(x0 == 1),[(13,.int .i64 x0),(14,.bool (x0 == 1))],⟨rfl,rfl,trivial⟩,hm,(Ext.refl _),hS,rfl⟩
    ·skip
     rw [if_neg (zC hc)] at hm
     refine WP.seq ?_
     refine WP.region ?_
     refine RW.run ttok 2 rfl ?_
     refine RW.nil ?_
     refine WP.cut (fun(O:Bool) F w9=>z2S fuel x0 O=some r∧Ext w w9∧St w w9 []∧F=[(13,.int .i64 x0),(14,.bool O)]) ?_ ?_
     ·skip
      rintro O F J0 ⟨hm,g0,p0,rfl⟩
      unfold z2S at hm
      exact⟨O,[(13,.int .i64 x0),(14,.bool O)],⟨rfl,rfl,trivial⟩,hm,g0,p0,rfl⟩
     ·skip
      refine WP.cond (x0 == 5) rfl (fun hc=>?_) (fun hc=>?_)
      ·skip
       rw [if_pos hc] at hm
       refine WP.skip ?_
       exact⟨(x0 == 5),[(13,.int .i64 x0),(14,.bool (x0 == 5))],⟨rfl,rfl,trivial⟩,hm,(Ext.refl _),hS,rfl⟩
      ·skip
       rw [if_neg (zC hc)] at hm
       refine WP.seq ?_
       refine WP.region ?_
       refine RW.run ttok 2 rfl ?_
       refine RW.nil ?_
       refine WP.cut (fun(Y:Bool) F w9=>z2R fuel x0 Y=some r∧Ext w w9∧St w w9 []∧F=[(13,.int .i64 x0),(14,.bool Y)]) ?_ ?_
       ·skip
        rintro Y F K0 ⟨hm,i0,q0,rfl⟩
        unfold z2R at hm
        exact⟨Y,[(13,.int .i64 x0),(14,.bool Y)],⟨rfl,rfl,trivial⟩,hm,i0,q0,rfl⟩
       ·skip
        refine WP.cond (x0 == 6) rfl (fun hc=>?_) (fun hc=>?_)
        ·skip
         rw [if_pos hc] at hm
         refine WP.skip ?_
         exact⟨(x0 == 6),[(13,.int .i64 x0),(14,.bool (x0 == 6))],⟨rfl,rfl,trivial⟩,hm,(Ext.refl _),hS,rfl⟩
        ·skip
         rw [if_neg (zC hc)] at hm
         refine WP.region ?_
         refine RW.run ttok 2 rfl ?_
         refine RW.nil ?_
         exact⟨(x0 == 12),[(13,.int .i64 x0),(14,.bool (x0 == 12))],⟨rfl,rfl,trivial⟩,hm,(Ext.refl _),hS,rfl⟩

theorem zbt:Enters Tryz.prog 104:=⟨_,_,Tryz.func104,rfl,by kernel_rfl⟩
def z2t (fuel:Nat) (t1:Bool):Option Bool:=(if t1=true then some true else some false)
def z2s (fuel:Nat) (t6:Bool):Option Bool:=z2t fuel t6
def z2r (fuel:Nat) (b:Bool):Option Bool:=z2s fuel b
def z2q (fuel:Nat) (b:Bool):Option Bool:=z2r fuel b
def z2p (fuel:Nat) (b:Bool):Option Bool:=z2q fuel b
def z2o (fuel:Nat) (b:Bool):Option Bool:=z2p fuel b
def z2n (fuel:Nat) (b:Bool):Option Bool:=z2o fuel b
def z2m (fuel:Nat) (b:Bool):Option Bool:=z2n fuel b
def z3D (fuel:Nat) (x0:Int):Option (Bool):=(if(x0 == 2)=true then z2t fuel (x0 == 2) else(if(x0 == 3)=true then z2s fuel (x0 == 3) else(if(x0 == 4)=true then z2r fuel (x0 == 4) else(if(x0 == 7)=true then z2q fuel (x0 == 7) else(if(x0 == 8)=true then z2p fuel (x0 == 8) else(if(x0 == 9)=true then z2o fuel (x0 == 9) else(if(x0 == 10)=true then z2n fuel (x0 == 10) else(if(x0 == 11)=true then z2m fuel (x0 == 11) else z2m fuel (x0 == 12)))))))))

set_option maxRecDepth 100000 in
theorem z6T {W:Base}{w:World}(hE:Ext W w){x0:Int}  {fuel:Nat}{r:Bool}(hm:z3D fuel x0=some r):
  Calls Tryz.prog 104 ⟨[.int .i64 x0]⟩ w (Ret fun v w8=>v=.bool r∧St w w8 []):=by
 refine Calls.into Tryz.func104 rfl 14 rfl rfl _ rfl ?_
 unfold z3D at hm
 have hS:=St.start w
 refine WP.seq ?_
 refine WP.region ?_
 refine RW.run ttok 1 rfl ?_
 refine RW.nil ?_
 refine WP.seq ?_
 refine WP.seq ?_
 refine WP.region ?_
 refine RW.run ttok 1 rfl ?_
 refine RW.nil ?_
 refine WP.block ?_
 refine WP.seq ?_
 refine WP.seq ?_
 refine WP.region ?_
 refine RW.run ttok 2 rfl ?_
 refine RW.nil ?_
 refine WP.cut (fun(t1:Bool) F w9=>z2t fuel t1=some r∧Ext w w9∧St w w9 []∧F=[(4,.bool t1)]) ?_ ?_
 ·skip
  rintro t1 F w4 ⟨hm,r0,p0,rfl⟩
  unfold z2t at hm
  refine WP.cond t1 rfl (fun hc=>?_) (fun hc=>?_)
  ·skip
   rw [if_pos hc] at hm
   refine WP.seq ?_
   refine WP.region ?_
   refine RW.run ttok 1 rfl ?_
   refine RW.nil ?_
   refine WP.ret ?_
   cases hm
   exact⟨_,.cons (.tmp rfl) .nil,rfl,p0⟩
  ·skip
   rw [if_neg (zC hc)] at hm
   refine WP.skip ?_
   refine WP.seq ?_
   refine WP.region ?_
   refine RW.run ttok 1 rfl ?_
   refine RW.nil ?_
   refine WP.ret ?_
   cases hm
   exact⟨_,.cons (.tmp rfl) .nil,rfl,p0⟩
 ·skip
  refine WP.cond (x0 == 2) rfl (fun hc=>?_) (fun hc=>?_)
  ·skip
   rw [if_pos hc] at hm
   refine WP.skip ?_
   exact⟨(x0 == 2),[(4,.bool (x0 == 2))],⟨rfl,trivial⟩,hm,(Ext.refl _),hS,rfl⟩
  ·skip
   rw [if_neg (zC hc)] at hm
   refine WP.seq ?_
   refine WP.region ?_
   refine RW.run ttok 2 rfl ?_
   refine RW.nil ?_
   refine WP.cut (fun(t6:Bool) F w9=>z2s fuel t6=some r∧Ext w w9∧St w w9 []∧F=[(4,.bool t6)]) ?_ ?_
   ·skip
    rintro t6 F t0 ⟨hm,q0,e0,rfl⟩
    unfold z2s at hm
    exact⟨t6,[(4,.bool t6)],⟨rfl,trivial⟩,hm,q0,e0,rfl⟩
   ·skip
    refine WP.cond (x0 == 3) rfl (fun hc=>?_) (fun hc=>?_)
    ·skip
     rw [if_pos hc] at hm
     refine WP.skip ?_
     exact⟨(x0 == 3),[(4,.bool (x0 == 3))],⟨rfl,trivial⟩,hm,(Ext.refl _),hS,rfl⟩
    ·skip
     rw [if_neg (zC hc)] at hm
     refine WP.seq ?_
     refine WP.region ?_
     refine RW.run ttok 2 rfl ?_
     refine RW.nil ?_
     refine WP.cut (fun(b:Bool) F w9=>z2r fuel b=some r∧Ext w w9∧St w w9 []∧F=[(4,.bool b)]) ?_ ?_
     ·skip
      rintro b F u0 ⟨hm,O,f0,rfl⟩
      unfold z2r at hm
      exact⟨b,[(4,.bool b)],⟨rfl,trivial⟩,hm,O,f0,rfl⟩
     ·skip
      refine WP.cond (x0 == 4) rfl (fun hc=>?_) (fun hc=>?_)
      ·skip
       rw [if_pos hc] at hm
       refine WP.skip ?_
       exact⟨(x0 == 4),[(4,.bool (x0 == 4))],⟨rfl,trivial⟩,hm,(Ext.refl _),hS,rfl⟩
      ·skip
       rw [if_neg (zC hc)] at hm
       refine WP.seq ?_
       refine WP.region ?_
       refine RW.run ttok 2 rfl ?_
       refine RW.nil ?_
       refine WP.cut (fun(d:Bool) F w9=>z2q fuel d=some r∧Ext w w9∧St w w9 []∧F=[(4,.bool d)]) ?_ ?_
       ·skip
        rintro d F v0 ⟨hm,Y,g0,rfl⟩
        unfold z2q at hm
        exact⟨d,[(4,.bool d)],⟨rfl,trivial⟩,hm,Y,g0,rfl⟩
       ·skip
        refine WP.cond (x0 == 7) rfl (fun hc=>?_) (fun hc=>?_)
        ·skip
         rw [if_pos hc] at hm
         refine WP.skip ?_
         exact⟨(x0 == 7),[(4,.bool (x0 == 7))],⟨rfl,trivial⟩,hm,(Ext.refl _),hS,rfl⟩
        ·skip
         rw [if_neg (zC hc)] at hm
         refine WP.seq ?_
         refine WP.region ?_
         refine RW.run ttok 2 rfl ?_
         refine RW.nil ?_
         refine WP.cut (fun(o:Bool) F w9=>z2p fuel o=some r∧Ext w w9∧St w w9 []∧F=[(4,.bool o)]) ?_ ?_
         ·skip
          rintro o F y0 ⟨hm,a0,i0,rfl⟩
          unfold z2p at hm
          exact⟨o,[(4,.bool o)],⟨rfl,trivial⟩,hm,a0,i0,rfl⟩
         ·skip
          refine WP.cond (x0 == 8) rfl (fun hc=>?_) (fun hc=>?_)
          ·skip
           rw [if_pos hc] at hm
           refine WP.skip ?_
           exact⟨(x0 == 8),[(4,.bool (x0 == 8))],⟨rfl,trivial⟩,hm,(Ext.refl _),hS,rfl⟩
          ·skip
           rw [if_neg (zC hc)] at hm
           refine WP.seq ?_
           refine WP.region ?_
           refine RW.run ttok 2 rfl ?_
           refine RW.nil ?_
           refine WP.cut (fun(y:Bool) F w9=>z2o fuel y=some r∧Ext w w9∧St w w9 []∧F=[(4,.bool y)]) ?_ ?_
           ·skip
            rintro y F A0 ⟨hm,b0,j0,rfl⟩
            unfold z2o at hm
            exact⟨y,[(4,.bool y)],⟨rfl,trivial⟩,hm,b0,j0,rfl⟩
           ·skip
            refine WP.cond (x0 == 9) rfl (fun hc=>?_) (fun hc=>?_)
            ·skip
             rw [if_pos hc] at hm
             refine WP.skip ?_
             exact⟨(x0 == 9),[(4,.bool (x0 == 9))],⟨rfl,trivial⟩,hm,(Ext.refl _),hS,rfl⟩
            ·skip
             rw [if_neg (zC hc)] at hm
             refine WP.seq ?_
             refine WP.region ?_
             refine RW.run ttok 2 rfl ?_
             refine RW.nil ?_
             refine WP.cut (fun(G:Bool) F w9=>z2n fuel G=some r∧Ext w w9∧St w w9 []∧F=[(4,.bool G)]) ?_ ?_
             ·skip
              rintro G F B0 ⟨hm,c0,k0,rfl⟩
              unfold z2n at hm
              exact⟨G,[(4,.bool G)],⟨rfl,trivial⟩,hm,c0,k0,rfl⟩
             ·skip
              refine WP.cond (x0 == 10) rfl (fun hc=>?_) (fun hc=>?_)
              ·skip
               rw [if_pos hc] at hm
               refine WP.skip ?_
               exact⟨(x0 == 10),[(4,.bool (x0 == 10))],⟨rfl,trivial⟩,hm,(Ext.refl _),hS,rfl⟩
              ·skip
               rw [if_neg (zC hc)] at hm
               refine WP.seq ?_
               refine WP.region ?_
               refine RW.run ttok 2 rfl ?_
               refine RW.nil ?_
               refine WP.cut (fun(H:Bool) F w9=>z2m fuel H=some r∧Ext w w9∧St w w9 []∧F=[(4,.bool H)]) ?_ ?_
               ·skip
                rintro H F C0 ⟨hm,d0,o0,rfl⟩
                unfold z2m at hm
                exact⟨H,[(4,.bool H)],⟨rfl,trivial⟩,hm,d0,o0,rfl⟩
               ·skip
                refine WP.cond (x0 == 11) rfl (fun hc=>?_) (fun hc=>?_)
                ·skip
                 rw [if_pos hc] at hm
                 refine WP.skip ?_
                 exact⟨(x0 == 11),[(4,.bool (x0 == 11))],⟨rfl,trivial⟩,hm,(Ext.refl _),hS,rfl⟩
                ·skip
                 rw [if_neg (zC hc)] at hm
                 refine WP.region ?_
                 refine RW.run ttok 2 rfl ?_
                 refine RW.nil ?_
                 exact⟨(x0 == 12),[(4,.bool (x0 == 12))],⟨rfl,trivial⟩,hm,(Ext.refl _),hS,rfl⟩

theorem zbs:Enters Tryz.prog 105:=⟨_,_,Tryz.func105,rfl,by kernel_rfl⟩
def z4H (fuel:Nat) (x0:Int):Option (Bool):=((zG fuel x0 1 12).bind fun r1=>some r1)

set_option maxRecDepth 100000 in
theorem z7g {W:Base}{w:World}(hE:Ext W w){x0:Int}  {fuel:Nat}{r:Bool}(hm:z4H fuel x0=some r):
  Calls Tryz.prog 105 ⟨[.int .i64 x0]⟩ w (Ret fun v w8=>v=.bool r∧St w w8 []):=by
 refine Calls.into Tryz.func105 rfl 5 rfl rfl _ rfl ?_
 unfold z4H at hm
 have hS:=St.start w
 refine WP.seq ?_
 refine WP.region ?_
 refine RW.run ttok 1 rfl ?_
 refine RW.nil ?_
 refine WP.seq ?_
 refine WP.region ?_
 refine RW.run ttok 1 rfl ?_
 obtain⟨r1,y,hm⟩:=bind_some hm
 refine RW.call rfl rfl rfl z3w (zU (hE.trans hS.ext)  y) (fun v3 w4 b=>?_)
 obtain⟨rfl,d⟩:=b
 have o:=hS.join d
 refine RW.run ttok 1 rfl ?_
 refine RW.nil ?_
 refine WP.ret ?_
 cases hm
 exact⟨_,.cons (.tmp rfl) .nil,rfl,o⟩

theorem zc7:Enters Tryz.prog 89:=⟨_,_,Tryz.func89,rfl,by kernel_rfl⟩
def z3B (fuel:Nat) (x0:Int) (x1:Int):Option (Bool):=((z3D fuel x0).bind fun r1=>(if r1=true then((zG fuel x1 0 8).bind fun b=>some b) else((z4H fuel x0).bind fun d=>(if d=true then some (x1 == 0) else some false))))

set_option maxRecDepth 100000 in
theorem z6R {W:Base}{w:World}(hE:Ext W w){x0:Int}{x1:Int}  {fuel:Nat}{r:Bool}(hm:z3B fuel x0 x1=some r):
  Calls Tryz.prog 89 ⟨[.int .i64 x0,.int .i64 x1]⟩ w (Ret fun v w8=>v=.bool r∧St w w8 []):=by
 refine Calls.into Tryz.func89 rfl 15 rfl rfl _ rfl ?_
 unfold z3B at hm
 have hS:=St.start w
 refine WP.seq ?_
 refine WP.region ?_
 refine RW.run ttok 1 rfl ?_
 refine RW.nil ?_
 refine WP.seq ?_
 refine WP.seq ?_
 refine WP.region ?_
 refine RW.run ttok 1 rfl ?_
 obtain⟨r1,d0,hm⟩:=bind_some hm
 refine RW.call rfl rfl rfl zbt (z6T (hE.trans hS.ext)  d0) (fun v3 w4 b0=>?_)
 obtain⟨rfl,c0⟩:=b0
 have d:=hS.join c0
 refine RW.nil ?_
 refine WP.cond r1 rfl (fun hc=>?_) (fun hc=>?_)
 ·skip
  rw [if_pos hc] at hm
  refine WP.seq ?_
  refine WP.region ?_
  refine RW.run ttok 1 rfl ?_
  obtain⟨f0,Y,hm⟩:=bind_some hm
  refine RW.call rfl rfl rfl z3w (zU (hE.trans d.ext)  Y) (fun g0 j0 o=>?_)
  obtain⟨rfl,y⟩:=o
  have O:=d.join y
  refine RW.run ttok 1 rfl ?_
  refine RW.nil ?_
  refine WP.ret ?_
  cases hm
  exact⟨_,.cons (.tmp rfl) .nil,rfl,O⟩
 ·skip
  rw [if_neg (zC hc)] at hm
  refine WP.skip ?_
  refine WP.seq ?_
  refine WP.region ?_
  refine RW.run ttok 1 rfl ?_
  obtain⟨e0,a0,hm⟩:=bind_some hm
  refine RW.call rfl rfl rfl zbs (z7g (hE.trans d.ext)  a0) (fun i0 k0 G=>?_)
  obtain⟨rfl,H⟩:=G
  have b:=d.join H
  refine RW.run ttok 1 rfl ?_
  by_cases hg24:e0=true
  ·skip
   rw [if_pos hg24] at hm
   refine RW.know 11 rfl (congrArg Value.bool hg24) ?_
   refine RW.run ttok 4 rfl ?_
   refine RW.nil ?_
   refine WP.ret ?_
   cases hm
   exact⟨_,.cons (.tmp rfl) .nil,rfl,b⟩
  ·skip
   rw [if_neg hg24] at hm
   refine RW.know 11 rfl (congrArg Value.bool (Bool.eq_false_iff.2 hg24)) ?_
   refine RW.run ttok 4 rfl ?_
   refine RW.nil ?_
   refine WP.ret ?_
   cases hm
   exact⟨_,.cons (.tmp rfl) .nil,rfl,b⟩

theorem z9d:Enters Tryz.prog 106:=⟨_,_,Tryz.func106,rfl,by kernel_rfl⟩
def z3Q (fuel:Nat) (x0:Int):Option (Bool):=((zG fuel x0 0 23).bind fun r1=>some r1)

set_option maxRecDepth 100000 in
theorem z6e {W:Base}{w:World}(hE:Ext W w){x0:Int}  {fuel:Nat}{r:Bool}(hm:z3Q fuel x0=some r):
  Calls Tryz.prog 106 ⟨[.int .i64 x0]⟩ w (Ret fun v w8=>v=.bool r∧St w w8 []):=by
 refine Calls.into Tryz.func106 rfl 5 rfl rfl _ rfl ?_
 unfold z3Q at hm
 have hS:=St.start w
 refine WP.seq ?_
 refine WP.region ?_
 refine RW.run ttok 1 rfl ?_
 refine RW.nil ?_
 refine WP.seq ?_
 refine WP.region ?_
 refine RW.run ttok 1 rfl ?_
 obtain⟨r1,y,hm⟩:=bind_some hm
 refine RW.call rfl rfl rfl z3w (zU (hE.trans hS.ext)  y) (fun v3 w4 b=>?_)
 obtain⟨rfl,d⟩:=b
 have o:=hS.join d
 refine RW.run ttok 1 rfl ?_
 refine RW.nil ?_
 refine WP.ret ?_
 cases hm
 exact⟨_,.cons (.tmp rfl) .nil,rfl,o⟩

theorem zc6:Enters Tryz.prog 90:=⟨_,_,Tryz.func90,rfl,by kernel_rfl⟩
def z3Y (fuel:Nat) (b:Unit):Option Bool:=some true
def z1M (fuel:Nat) (x0:D.Agent) (b:Int):Option (Rd (Int) (Unit) (Bool)):=(if(decide (b<(x0.Data.length:Int)))=true then((idx x0.Data b).bind fun o=>((z3Q fuel o).bind fun d=>(if(!d)=true then some (.ret false) else some (.next (w64 (b+1)))))) else some (.brk ()))
def zp (fuel:Nat) (x0:D.Agent) (b:Bool):Option Bool:=(if b=true then some false else((iter (z1M fuel x0) fuel 0).bind fun o=>aft o (z3Y fuel)))
def z15 (fuel:Nat) (x0:D.Agent) (o:Bool):Option Bool:=(if o=true then(if(x0.Value != 0)=true then zp fuel x0 true else(if(x0.Kind == 11)=true then(if((x0.Data.length:Int) != 2)=true then zp fuel x0 true else(if(x0.Kind == 10)=true then((zG fuel (x0.Data.length:Int) 1 4).bind fun b=>zp fuel x0 (!b)) else zp fuel x0 false)) else(if(x0.Kind == 10)=true then((zG fuel (x0.Data.length:Int) 1 4).bind fun d=>zp fuel x0 (!d)) else zp fuel x0 false))) else(if(x0.Value == 0)=true then some ((x0.Data.length:Int) == 0) else some false))
def zt (fuel:Nat) (x0:D.Agent):Option (Bool):=(if(x0.Kind == 6)=true then(if((x0.Data.length:Int) == 0)=true then((zG fuel x0.Value (-2147483648) 2147483647).bind fun b=>some b) else some false) else(if(x0.Kind == 7)=true then(if((x0.Data.length:Int) == 0)=true then((zG fuel x0.Value 1 6).bind fun d=>some d) else some false) else(if(x0.Kind == 8)=true then(if((x0.Data.length:Int) == 1)=true then((zG fuel x0.Value 1 6).bind fun o=>(if o=true then((idx x0.Data 0).bind fun O=>((zG fuel O (-2147483648) 2147483647).bind fun y=>some y)) else some false)) else some false) else(if(x0.Kind == 9)=true then(if((x0.Data.length:Int) == 0)=true then((zG fuel x0.Value 0 3).bind fun G=>some G) else some false) else(if(x0.Kind == 12)=true then(if((x0.Data.length:Int) == 0)=true then((z3Q fuel x0.Value).bind fun H=>some H) else some false) else(if(x0.Kind == 10)=true then z15 fuel x0 (x0.Kind == 10) else z15 fuel x0 (x0.Kind == 11)))))))

set_option maxRecDepth 100000 in
theorem z6j {W:Base}{w:World}(hE:Ext W w){G:Addr}{n1:List Value}{x0:D.Agent}(y1:ty67.ro W n1 x0) (o:At W G n1){fuel:Nat}{r:Bool}(hm:zt fuel x0=some r):
  Calls Tryz.prog 90 ⟨[.pointer (some G)]⟩ w (Ret fun v w8=>v=.bool r∧St w w8 []):=by
 obtain⟨A1,k2,A4,k5,e7,h3,h6⟩:=zB y1;subst e7
 refine Calls.into Tryz.func90 rfl 162 rfl rfl _ rfl ?_
 unfold zt at hm
 have hS:=St.start w
 refine WP.seq ?_
 refine WP.region ?_
 refine RW.run ttok 1 rfl ?_
 refine RW.nil ?_
 refine WP.seq ?_
 refine WP.seq ?_
 refine WP.region ?_
 refine RW.run ttok 3 rfl ?_
 refine RW.load1 ttok rfl rfl rfl rfl rfl (At.ext (hE.trans hS.ext) o) 0 rfl rfl rfl rfl ?_
 refine RW.nil ?_
 refine WP.block ?_
 refine WP.seq ?_
 refine WP.region ?_
 refine RW.run ttok 2 rfl ?_
 refine RW.nil ?_
 refine WP.cond (x0.Kind == 6) rfl (fun hc=>?_) (fun hc=>?_)
 ·skip
  rw [if_pos hc] at hm
  refine WP.seq ?_
  refine WP.region ?_
  refine RW.run ttok 3 rfl ?_
  refine RW.load1 ttok rfl rfl rfl rfl rfl (At.ext (hE.trans hS.ext) o) 3 rfl rfl rfl rfl ?_
  refine RW.run ttok 3 rfl ?_
  by_cases hg10:((x0.Data.length:Int) == 0)=true
  ·skip
   rw [if_pos hg10] at hm
   refine RW.know 16 rfl (congrArg Value.bool hg10) ?_
   refine RW.run ttok 3 rfl ?_
   refine RW.load1 ttok rfl rfl rfl rfl rfl (At.ext (hE.trans hS.ext) o) 2 rfl rfl rfl rfl ?_
   obtain⟨R1,e1,hm⟩:=bind_some hm
   refine RW.call rfl rfl rfl z3w (zU (hE.trans hS.ext)  e1) (fun W1 f2 B0=>?_)
   obtain⟨rfl,C0⟩:=B0
   have P0:=hS.join C0
   refine RW.run ttok 2 rfl ?_
   refine RW.nil ?_
   refine WP.ret ?_
   cases hm
   exact⟨_,.cons (.tmp rfl) .nil,rfl,P0⟩
  ·skip
   rw [if_neg hg10] at hm
   refine RW.know 16 rfl (congrArg Value.bool (Bool.eq_false_iff.2 hg10)) ?_
   refine RW.run ttok 7 rfl ?_
   refine RW.nil ?_
   refine WP.ret ?_
   cases hm
   exact⟨_,.cons (.tmp rfl) .nil,rfl,hS⟩
 ·skip
  rw [if_neg (zC hc)] at hm
  refine WP.seq ?_
  refine WP.region ?_
  refine RW.run ttok 2 rfl ?_
  refine RW.nil ?_
  refine WP.cond (x0.Kind == 7) rfl (fun hc=>?_) (fun hc=>?_)
  ·skip
   rw [if_pos hc] at hm
   refine WP.seq ?_
   refine WP.region ?_
   refine RW.run ttok 3 rfl ?_
   refine RW.load1 ttok rfl rfl rfl rfl rfl (At.ext (hE.trans hS.ext) o) 3 rfl rfl rfl rfl ?_
   refine RW.run ttok 3 rfl ?_
   by_cases hg18:((x0.Data.length:Int) == 0)=true
   ·skip
    rw [if_pos hg18] at hm
    refine RW.know 31 rfl (congrArg Value.bool hg18) ?_
    refine RW.run ttok 3 rfl ?_
    refine RW.load1 ttok rfl rfl rfl rfl rfl (At.ext (hE.trans hS.ext) o) 2 rfl rfl rfl rfl ?_
    obtain⟨S1,f1,hm⟩:=bind_some hm
    refine RW.call rfl rfl rfl z3w (zU (hE.trans hS.ext)  f1) (fun X1 g2 D0=>?_)
    obtain⟨rfl,E0⟩:=D0
    have Q0:=hS.join E0
    refine RW.run ttok 2 rfl ?_
    refine RW.nil ?_
    refine WP.ret ?_
    cases hm
    exact⟨_,.cons (.tmp rfl) .nil,rfl,Q0⟩
   ·skip
    rw [if_neg hg18] at hm
    refine RW.know 31 rfl (congrArg Value.bool (Bool.eq_false_iff.2 hg18)) ?_
    refine RW.run ttok 7 rfl ?_
    refine RW.nil ?_
    refine WP.ret ?_
    cases hm
    exact⟨_,.cons (.tmp rfl) .nil,rfl,hS⟩
  ·skip
   rw [if_neg (zC hc)] at hm
   refine WP.seq ?_
   refine WP.region ?_
   refine RW.run ttok 2 rfl ?_
   refine RW.nil ?_
   refine WP.cond (x0.Kind == 8) rfl (fun hc=>?_) (fun hc=>?_)
   ·skip
    rw [if_pos hc] at hm
    refine WP.seq ?_
    refine WP.region ?_
    refine RW.run ttok 3 rfl ?_
    refine RW.load1 ttok rfl rfl rfl rfl rfl (At.ext (hE.trans hS.ext) o) 3 rfl rfl rfl rfl ?_
    refine RW.run ttok 3 rfl ?_
    by_cases hg26:((x0.Data.length:Int) == 1)=true
    ·skip
     rw [if_pos hg26] at hm
     refine RW.know 46 rfl (congrArg Value.bool hg26) ?_
     refine RW.run ttok 3 rfl ?_
     refine RW.load1 ttok rfl rfl rfl rfl rfl (At.ext (hE.trans hS.ext) o) 2 rfl rfl rfl rfl ?_
     obtain⟨F1,g1,hm⟩:=bind_some hm
     refine RW.call rfl rfl rfl z3w (zU (hE.trans hS.ext)  g1) (fun Y1 i2 F0=>?_)
     obtain⟨rfl,G0⟩:=F0
     have H:=hS.join G0
     refine RW.run ttok 2 rfl ?_
     by_cases hg34:F1=true
     ·skip
      rw [if_pos hg34] at hm
      refine RW.know 53 rfl (congrArg Value.bool hg34) ?_
      refine RW.run ttok 3 rfl ?_
      refine RW.load1 ttok rfl rfl rfl rfl rfl (At.ext (hE.trans H.ext) o) 3 rfl rfl rfl rfl ?_
      obtain⟨q2,q0,hm⟩:=bind_some hm
      refine RW.idx ttok (hE.trans H.ext) rfl rfl rfl rfl rfl rfl (by decide) rfl rfl h3 (z6 q0).1 (z6 q0).2 rfl rfl (fun P1 u1 V0 b1=>?_)
      cases b1
      refine RW.load1 ttok rfl rfl rfl rfl rfl (At.ext (hE.trans H.ext) V0) 0 rfl rfl rfl rfl ?_
      obtain⟨T1,i1,hm⟩:=bind_some hm
      refine RW.call rfl rfl rfl z3w (zU (hE.trans H.ext)  i1) (fun a2 j2 H0=>?_)
      obtain⟨rfl,J0⟩:=H0
      have R0:=H.join J0
      refine RW.run ttok 2 rfl ?_
      refine RW.nil ?_
      refine WP.ret ?_
      cases hm
      exact⟨_,.cons (.tmp rfl) .nil,rfl,R0⟩
     ·skip
      rw [if_neg hg34] at hm
      refine RW.know 53 rfl (congrArg Value.bool (Bool.eq_false_iff.2 hg34)) ?_
      refine RW.run ttok 9 rfl ?_
      refine RW.nil ?_
      refine WP.ret ?_
      cases hm
      exact⟨_,.cons (.tmp rfl) .nil,rfl,H⟩
    ·skip
     rw [if_neg hg26] at hm
     refine RW.know 46 rfl (congrArg Value.bool (Bool.eq_false_iff.2 hg26)) ?_
     refine RW.run ttok 16 rfl ?_
     refine RW.nil ?_
     refine WP.ret ?_
     cases hm
     exact⟨_,.cons (.tmp rfl) .nil,rfl,hS⟩
   ·skip
    rw [if_neg (zC hc)] at hm
    refine WP.seq ?_
    refine WP.region ?_
    refine RW.run ttok 2 rfl ?_
    refine RW.nil ?_
    refine WP.cond (x0.Kind == 9) rfl (fun hc=>?_) (fun hc=>?_)
    ·skip
     rw [if_pos hc] at hm
     refine WP.seq ?_
     refine WP.region ?_
     refine RW.run ttok 3 rfl ?_
     refine RW.load1 ttok rfl rfl rfl rfl rfl (At.ext (hE.trans hS.ext) o) 3 rfl rfl rfl rfl ?_
     refine RW.run ttok 3 rfl ?_
     by_cases hg48:((x0.Data.length:Int) == 0)=true
     ·skip
      rw [if_pos hg48] at hm
      refine RW.know 70 rfl (congrArg Value.bool hg48) ?_
      refine RW.run ttok 3 rfl ?_
      refine RW.load1 ttok rfl rfl rfl rfl rfl (At.ext (hE.trans hS.ext) o) 2 rfl rfl rfl rfl ?_
      obtain⟨U1,j1,hm⟩:=bind_some hm
      refine RW.call rfl rfl rfl z3w (zU (hE.trans hS.ext)  j1) (fun b2 m2 K0=>?_)
      obtain⟨rfl,M0⟩:=K0
      have S0:=hS.join M0
      refine RW.run ttok 2 rfl ?_
      refine RW.nil ?_
      refine WP.ret ?_
      cases hm
      exact⟨_,.cons (.tmp rfl) .nil,rfl,S0⟩
     ·skip
      rw [if_neg hg48] at hm
      refine RW.know 70 rfl (congrArg Value.bool (Bool.eq_false_iff.2 hg48)) ?_
      refine RW.run ttok 7 rfl ?_
      refine RW.nil ?_
      refine WP.ret ?_
      cases hm
      exact⟨_,.cons (.tmp rfl) .nil,rfl,hS⟩
    ·skip
     rw [if_neg (zC hc)] at hm
     refine WP.seq ?_
     refine WP.region ?_
     refine RW.run ttok 2 rfl ?_
     refine RW.nil ?_
     refine WP.cond (x0.Kind == 12) rfl (fun hc=>?_) (fun hc=>?_)
     ·skip
      rw [if_pos hc] at hm
      refine WP.seq ?_
      refine WP.region ?_
      refine RW.run ttok 3 rfl ?_
      refine RW.load1 ttok rfl rfl rfl rfl rfl (At.ext (hE.trans hS.ext) o) 3 rfl rfl rfl rfl ?_
      refine RW.run ttok 3 rfl ?_
      by_cases hg56:((x0.Data.length:Int) == 0)=true
      ·skip
       rw [if_pos hg56] at hm
       refine RW.know 85 rfl (congrArg Value.bool hg56) ?_
       refine RW.run ttok 3 rfl ?_
       refine RW.load1 ttok rfl rfl rfl rfl rfl (At.ext (hE.trans hS.ext) o) 2 rfl rfl rfl rfl ?_
       obtain⟨V1,k1,hm⟩:=bind_some hm
       refine RW.call rfl rfl rfl z9d (z6e (hE.trans hS.ext)  k1) (fun d2 n2 N0=>?_)
       obtain⟨rfl,O0⟩:=N0
       have T0:=hS.join O0
       refine RW.run ttok 2 rfl ?_
       refine RW.nil ?_
       refine WP.ret ?_
       cases hm
       exact⟨_,.cons (.tmp rfl) .nil,rfl,T0⟩
      ·skip
       rw [if_neg hg56] at hm
       refine RW.know 85 rfl (congrArg Value.bool (Bool.eq_false_iff.2 hg56)) ?_
       refine RW.run ttok 7 rfl ?_
       refine RW.nil ?_
       refine WP.ret ?_
       cases hm
       exact⟨_,.cons (.tmp rfl) .nil,rfl,hS⟩
     ·skip
      rw [if_neg (zC hc)] at hm
      refine WP.seq ?_
      refine WP.seq ?_
      refine WP.region ?_
      refine RW.run ttok 2 rfl ?_
      refine RW.nil ?_
      refine WP.cut (fun(y0:Bool) F w9=>z15 fuel x0 y0=some r∧Ext w w9∧St w w9 []∧F=[(0,.pointer (some G)),(92,.bool y0)]) ?_ ?_
      ·skip
       rintro y0 F N1 ⟨hm,B1,b,rfl⟩
       unfold z15 at hm
       refine WP.cond y0 rfl (fun hc=>?_) (fun hc=>?_)
       ·skip
        rw [if_pos hc] at hm
        refine WP.seq ?_
        refine WP.seq ?_
        refine WP.cut (fun(A0:Bool) F w9=>zp fuel x0 A0=some r∧Ext N1 w9∧St w w9 []∧F=[(0,.pointer (some G)),(130,.bool A0)]) ?_ ?_
        ·skip
         rintro A0 F t1 ⟨hm,C1,j0,rfl⟩
         unfold zp at hm
         refine WP.cond A0 rfl (fun hc=>?_) (fun hc=>?_)
         ·skip
          rw [if_pos hc] at hm
          refine WP.seq ?_
          refine WP.region ?_
          refine RW.run ttok 1 rfl ?_
          refine RW.nil ?_
          refine WP.ret ?_
          cases hm
          exact⟨_,.cons (.tmp rfl) .nil,rfl,j0⟩
         ·skip
          rw [if_neg (zC hc)] at hm
          refine WP.skip ?_
          refine WP.seq ?_
          refine WP.seq ?_
          refine WP.region ?_
          refine RW.run ttok 1 rfl ?_
          refine RW.nil ?_
          obtain⟨E1,Y0,hm⟩:=bind_some hm
          refine WP.cut (fun(p1:Unit) F w9=>E1=.inl p1∧Ext t1 w9∧St w w9 []∧F=[]) ?_ ?_
          ·skip
           rintro p1 F o2 ⟨a1,D1,U0,rfl⟩
           subst a1
           rw [zx] at hm
           unfold z3Y at hm
           refine WP.seq ?_
           refine WP.region ?_
           refine RW.run ttok 1 rfl ?_
           refine RW.nil ?_
           refine WP.ret ?_
           cases hm
           exact⟨_,.cons (.tmp rfl) .nil,rfl,U0⟩
          ·skip
           refine WP.block ?_
           refine WP.weak [(0,.pointer (some G)),(3,.int .i64 0)] ⟨rfl,rfl,trivial⟩ ?_
           refine WP.iter (fun(v0:Int) F w9=>Ext t1 w9∧St w w9 []∧F=[(0,.pointer (some G)),(3,.int .i64 v0)]) _ Y0 ⟨(Ext.refl _),j0,rfl⟩ ?_
           rintro v0 F p2 _ O1 ⟨c0,y,rfl⟩ d k0
           unfold z1M at d
           refine WP.seq ?_
           refine WP.seq ?_
           refine WP.region ?_
           refine RW.run ttok 4 rfl ?_
           refine RW.load1 ttok rfl rfl rfl rfl rfl (At.ext (hE.trans y.ext) o) 3 rfl rfl rfl rfl ?_
           refine RW.run ttok 2 rfl ?_
           refine RW.nil ?_
           refine WP.cond (decide (v0<(x0.Data.length:Int))) rfl (fun hc=>?_) (fun hc=>?_)
           ·skip
            rw [if_pos hc] at d
            refine WP.skip ?_
            refine WP.seq ?_
            refine WP.block ?_
            refine WP.seq ?_
            refine WP.region ?_
            refine RW.run ttok 3 rfl ?_
            refine RW.load1 ttok rfl rfl rfl rfl rfl (At.ext (hE.trans y.ext) o) 3 rfl rfl rfl rfl ?_
            refine RW.run ttok 1 rfl ?_
            obtain⟨r2,r0,d⟩:=bind_some d
            refine RW.idx ttok (hE.trans y.ext) rfl rfl rfl rfl rfl rfl (by decide) rfl rfl h3 (z6 r0).1 (z6 r0).2 rfl rfl (fun Q1 v1 X0 d1=>?_)
            cases d1
            refine RW.load1 ttok rfl rfl rfl rfl rfl (At.ext (hE.trans y.ext) X0) 0 rfl rfl rfl rfl ?_
            obtain⟨G1,m1,d⟩:=bind_some d
            refine RW.call rfl rfl rfl z9d (z6e (hE.trans y.ext)  m1) (fun e2 K1 d0=>?_)
            obtain⟨rfl,O⟩:=d0
            have b0:=y.join O
            refine RW.run ttok 1 rfl ?_
            refine RW.nil ?_
            refine WP.cond (!G1) rfl (fun hc=>?_) (fun hc=>?_)
            ·skip
             rw [if_pos hc] at d
             refine WP.seq ?_
             refine WP.region ?_
             refine RW.run ttok 1 rfl ?_
             refine RW.nil ?_
             refine WP.ret ?_
             cases d
             cases k0
             have hm:some _=some _:=hm
             cases hm
             exact⟨_,.cons (.tmp rfl) .nil,rfl,b0⟩
            ·skip
             rw [if_neg (zC hc)] at d
             refine WP.skip ?_
             refine WP.region ?_
             refine RW.run ttok 3 rfl ?_
             refine RW.nil ?_
             cases d
             exact⟨_,[(0,.pointer (some G)),(3,.int .i64 (w64 (v0+1)))],⟨rfl,rfl,trivial⟩,rfl,(c0.trans O.ext),b0,rfl⟩
           ·skip
            rw [if_neg (zC hc)] at d
            refine WP.exit ?_
            cases d
            exact⟨_,[],trivial,k0,c0,y,rfl⟩
        ·skip
         refine WP.region ?_
         refine RW.run ttok 3 rfl ?_
         refine RW.load1 ttok rfl rfl rfl rfl rfl (At.ext (hE.trans b.ext) o) 2 rfl rfl rfl rfl ?_
         refine RW.run ttok 2 rfl ?_
         by_cases hg104:(x0.Value != 0)=true
         ·skip
          rw [if_pos hg104] at hm
          refine RW.know 100 rfl (congrArg Value.bool hg104) ?_
          refine RW.run ttok 30 rfl ?_
          refine RW.nil ?_
          exact⟨true,[(0,.pointer (some G)),(130,.bool true)],⟨rfl,rfl,trivial⟩,hm,(Ext.refl _),b,rfl⟩
         ·skip
          rw [if_neg hg104] at hm
          refine RW.know 100 rfl (congrArg Value.bool (Bool.eq_false_iff.2 hg104)) ?_
          refine RW.run ttok 3 rfl ?_
          refine RW.load1 ttok rfl rfl rfl rfl rfl (At.ext (hE.trans b.ext) o) 0 rfl rfl rfl rfl ?_
          refine RW.run ttok 2 rfl ?_
          by_cases hg105:(x0.Kind == 11)=true
          ·skip
           rw [if_pos hg105] at hm
           refine RW.know 106 rfl (congrArg Value.bool hg105) ?_
           refine RW.run ttok 3 rfl ?_
           refine RW.load1 ttok rfl rfl rfl rfl rfl (At.ext (hE.trans b.ext) o) 3 rfl rfl rfl rfl ?_
           refine RW.run ttok 5 rfl ?_
           by_cases hg106:((x0.Data.length:Int) != 2)=true
           ·skip
            rw [if_pos hg106] at hm
            refine RW.know 115 rfl (congrArg Value.bool hg106) ?_
            refine RW.run ttok 15 rfl ?_
            refine RW.nil ?_
            exact⟨true,[(0,.pointer (some G)),(130,.bool true)],⟨rfl,rfl,trivial⟩,hm,(Ext.refl _),b,rfl⟩
           ·skip
            rw [if_neg hg106] at hm
            refine RW.know 115 rfl (congrArg Value.bool (Bool.eq_false_iff.2 hg106)) ?_
            refine RW.run ttok 3 rfl ?_
            refine RW.load1 ttok rfl rfl rfl rfl rfl (At.ext (hE.trans b.ext) o) 0 rfl rfl rfl rfl ?_
            refine RW.run ttok 2 rfl ?_
            by_cases hg107:(x0.Kind == 10)=true
            ·skip
             rw [if_pos hg107] at hm
             refine RW.know 121 rfl (congrArg Value.bool hg107) ?_
             refine RW.run ttok 3 rfl ?_
             refine RW.load1 ttok rfl rfl rfl rfl rfl (At.ext (hE.trans b.ext) o) 3 rfl rfl rfl rfl ?_
             refine RW.run ttok 1 rfl ?_
             obtain⟨t0,o0,hm⟩:=bind_some hm
             refine RW.call rfl rfl rfl z3w (zU (hE.trans b.ext)  o0) (fun H1 L1 e0=>?_)
             obtain⟨rfl,Y⟩:=e0
             have g0:=b.join Y
             refine RW.run ttok 3 rfl ?_
             refine RW.nil ?_
             exact⟨!t0,[(0,.pointer (some G)),(130,.bool (!t0))],⟨rfl,rfl,trivial⟩,hm,Y.ext,g0,rfl⟩
            ·skip
             rw [if_neg hg107] at hm
             refine RW.know 121 rfl (congrArg Value.bool (Bool.eq_false_iff.2 hg107)) ?_
             refine RW.run ttok 9 rfl ?_
             refine RW.nil ?_
             exact⟨false,[(0,.pointer (some G)),(130,.bool false)],⟨rfl,rfl,trivial⟩,hm,(Ext.refl _),b,rfl⟩
          ·skip
           rw [if_neg hg105] at hm
           refine RW.know 106 rfl (congrArg Value.bool (Bool.eq_false_iff.2 hg105)) ?_
           refine RW.run ttok 12 rfl ?_
           refine RW.load1 ttok rfl rfl rfl rfl rfl (At.ext (hE.trans b.ext) o) 0 rfl rfl rfl rfl ?_
           refine RW.run ttok 2 rfl ?_
           by_cases hg115:(x0.Kind == 10)=true
           ·skip
            rw [if_pos hg115] at hm
            refine RW.know 121 rfl (congrArg Value.bool hg115) ?_
            refine RW.run ttok 3 rfl ?_
            refine RW.load1 ttok rfl rfl rfl rfl rfl (At.ext (hE.trans b.ext) o) 3 rfl rfl rfl rfl ?_
            refine RW.run ttok 1 rfl ?_
            obtain⟨u0,p0,hm⟩:=bind_some hm
            refine RW.call rfl rfl rfl z3w (zU (hE.trans b.ext)  p0) (fun J1 M1 f0=>?_)
            obtain⟨rfl,a0⟩:=f0
            have i0:=b.join a0
            refine RW.run ttok 3 rfl ?_
            refine RW.nil ?_
            exact⟨!u0,[(0,.pointer (some G)),(130,.bool (!u0))],⟨rfl,rfl,trivial⟩,hm,a0.ext,i0,rfl⟩
           ·skip
            rw [if_neg hg115] at hm
            refine RW.know 121 rfl (congrArg Value.bool (Bool.eq_false_iff.2 hg115)) ?_
            refine RW.run ttok 9 rfl ?_
            refine RW.nil ?_
            exact⟨false,[(0,.pointer (some G)),(130,.bool false)],⟨rfl,rfl,trivial⟩,hm,(Ext.refl _),b,rfl⟩
       ·skip
        rw [if_neg (zC hc)] at hm
        refine WP.skip ?_
        refine WP.seq ?_
        refine WP.region ?_
        refine RW.run ttok 3 rfl ?_
        refine RW.load1 ttok rfl rfl rfl rfl rfl (At.ext (hE.trans b.ext) o) 2 rfl rfl rfl rfl ?_
        refine RW.run ttok 2 rfl ?_
        by_cases hg123:(x0.Value == 0)=true
        ·skip
         rw [if_pos hg123] at hm
         refine RW.know 154 rfl (congrArg Value.bool hg123) ?_
         refine RW.run ttok 3 rfl ?_
         refine RW.load1 ttok rfl rfl rfl rfl rfl (At.ext (hE.trans b.ext) o) 3 rfl rfl rfl rfl ?_
         refine RW.run ttok 4 rfl ?_
         refine RW.nil ?_
         refine WP.ret ?_
         cases hm
         exact⟨_,.cons (.tmp rfl) .nil,rfl,b⟩
        ·skip
         rw [if_neg hg123] at hm
         refine RW.know 154 rfl (congrArg Value.bool (Bool.eq_false_iff.2 hg123)) ?_
         refine RW.run ttok 8 rfl ?_
         refine RW.nil ?_
         refine WP.ret ?_
         cases hm
         exact⟨_,.cons (.tmp rfl) .nil,rfl,b⟩
      ·skip
       refine WP.cond (x0.Kind == 10) rfl (fun hc=>?_) (fun hc=>?_)
       ·skip
        rw [if_pos hc] at hm
        refine WP.skip ?_
        exact⟨(x0.Kind == 10),[(0,.pointer (some G)),(92,.bool (x0.Kind == 10))],⟨rfl,rfl,trivial⟩,hm,(Ext.refl _),hS,rfl⟩
       ·skip
        rw [if_neg (zC hc)] at hm
        refine WP.region ?_
        refine RW.run ttok 2 rfl ?_
        refine RW.nil ?_
        exact⟨(x0.Kind == 11),[(0,.pointer (some G)),(92,.bool (x0.Kind == 11))],⟨rfl,rfl,trivial⟩,hm,(Ext.refl _),hS,rfl⟩

theorem zcr:Enters Tryz.prog 59:=⟨_,_,Tryz.func59,rfl,by kernel_rfl⟩
def z29 (fuel:Nat) (x0:D.Agent):Option (Bool):=((z1J fuel x0).bind fun d=>((z2y fuel x0.Kind d).bind fun b=>(if(decide (b>0))=true then(if((x0.Ports.length:Int) == b)=true then((z3B fuel x0.Kind x0.Level).bind fun o=>(if o=true then((zt fuel x0).bind fun y=>some y) else some false)) else some false) else some false)))

set_option maxRecDepth 100000 in
theorem z6Q {W:Base}{w:World}(hE:Ext W w){c0:Addr}{t0:List Value}{x0:D.Agent}(e0:ty67.ro W t0 x0) (y:At W c0 t0){fuel:Nat}{r:Bool}(hm:z29 fuel x0=some r):
  Calls Tryz.prog 59 ⟨[.pointer (some c0)]⟩ w (Ret fun v w8=>v=.bool r∧St w w8 []):=by
 obtain⟨A1,k2,A4,k5,e7,h3,h6⟩:=zB e0;subst e7
 refine Calls.into Tryz.func59 rfl 37 rfl rfl _ rfl ?_
 unfold z29 at hm
 have hS:=St.start w
 refine WP.seq ?_
 refine WP.region ?_
 refine RW.run ttok 1 rfl ?_
 refine RW.nil ?_
 refine WP.seq ?_
 refine WP.drawnM 0 mixed 8 (by kernel_rfl) (by kernel_rfl) [([],255),([0],254),([1],253),([2],251),([],255),([4],239),([3,5,5],215),([6,6,0,1,2,3,4,5,6],191)] (by kernel_rfl) hS.ext (fun hsk10=>?_)
 have a0:=hS.step (Ext.draw _)
 refine DM.run (fuel:=4) ttok hsk10 [0,1,2,4] 23 (by kernel_rfl) (by kernel_rfl) rfl ?_
 refine DM.load1 ttok hsk10 3 31 (by kernel_rfl) (by kernel_rfl) (by kernel_rfl) (by kernel_rfl) rfl (by kernel_rfl) rfl rfl rfl rfl rfl (At.ext (hE.trans hS.ext) y) 0 rfl rfl rfl rfl ?_
 obtain⟨v0,o0,hm⟩:=bind_some hm
 refine DM.one hsk10 5 (by kernel_rfl) (LM.call hsk10 63 (by kernel_rfl) (by kernel_rfl) rfl rfl rfl rfl zc8 (z6x (hE.trans a0.ext) e0 y o0) (fun A0 E0 f0=>?_))
 obtain⟨rfl,G⟩:=f0
 refine⟨G.ext,?_⟩
 have b0:=a0.join G
 obtain⟨d0,p0,hm⟩:=bind_some hm
 refine DM.one hsk10 6 (by kernel_rfl) (LM.call hsk10 127 (by kernel_rfl) (by kernel_rfl) rfl rfl rfl rfl zc9 (z7i (hE.trans b0.ext)  p0) (fun B0 F0 g0=>?_))
 obtain⟨rfl,H⟩:=g0
 refine⟨H.ext,?_⟩
 have b:=b0.join H
 refine DM.run (fuel:=0) ttok hsk10 [7] 255 (by kernel_rfl) (by kernel_rfl) rfl ?_
 refine DM.weak [(0,.pointer (some c0)),(3,.int .i64 d0)] ⟨rfl,rfl,trivial⟩ ?_
 refine DM.done hsk10 (by kernel_rfl) ?_
 refine WP.seq ?_
 refine WP.drawnM 0 mixed 27 (by kernel_rfl) (by kernel_rfl) [([],134217727),([0],134217726),([1],134217725),([2],134217723),([3,2],134217715),([4,2],134217707),([5,2],134217691),([6,2],134217659),([2],134217723),([7,8,2],134217339),([2,9],134217211),([10,2],134216703),([11],134215679),([12,11],134211583),([13,11],134207487),([14,11],134199295),([11],134215679),([16,11],134150143),([17,11],134084607),([18,11],133953535),([15,19,11,11],133658623),([11,20],133167103),([21,20],132120575),([22],130023423),([23,22,22],121634815),([22,24],113246207),([25,24,0,1,2,3,4,5,6,7,8,9,10,11,12,13,14,15,16,17,18,19,20,21,22,23,24,25],100663295)] (by kernel_rfl) b.ext (fun hsk26=>?_)
 have d:=b.step (Ext.draw _)
 refine DM.run (fuel:=24) ttok hsk26 [0,1,2] 7 (by kernel_rfl) (by kernel_rfl) rfl ?_
 by_cases hg28:(decide (d0>0))=true
 ·skip
  rw [if_pos hg28] at hm
  refine DM.know 13 rfl (congrArg Value.bool hg28) ?_
  refine DM.run (fuel:=20) ttok hsk26 [3,4,5,8] 319 (by kernel_rfl) (by kernel_rfl) rfl ?_
  refine DM.load1 ttok hsk26 6 383 (by kernel_rfl) (by kernel_rfl) (by kernel_rfl) (by kernel_rfl) rfl (by kernel_rfl) rfl rfl rfl rfl rfl (At.ext (hE.trans b.ext) y) 4 rfl rfl rfl rfl ?_
  refine DM.run (fuel:=15) ttok hsk26 [7,9,10,11] 4095 (by kernel_rfl) (by kernel_rfl) rfl ?_
  refine DM.weak [(0,.pointer (some c0)),(22,.bool ((x0.Ports.length:Int) == d0))] ⟨rfl,rfl,trivial⟩ ?_
  by_cases hg29:((x0.Ports.length:Int) == d0)=true
  ·skip
   rw [if_pos hg29] at hm
   refine DM.know 22 rfl (congrArg Value.bool hg29) ?_
   refine DM.run (fuel:=9) ttok hsk26 [12,13,14,16,17,18] 491519 (by kernel_rfl) (by kernel_rfl) rfl ?_
   refine DM.load1 ttok hsk26 15 524287 (by kernel_rfl) (by kernel_rfl) (by kernel_rfl) (by kernel_rfl) rfl (by kernel_rfl) rfl rfl rfl rfl rfl (At.ext (hE.trans b.ext) y) 0 rfl rfl rfl rfl ?_
   refine DM.load1 ttok hsk26 19 1048575 (by kernel_rfl) (by kernel_rfl) (by kernel_rfl) (by kernel_rfl) rfl (by kernel_rfl) rfl rfl rfl rfl rfl (At.ext (hE.trans b.ext) y) 1 rfl rfl rfl rfl ?_
   obtain⟨u0,q0,hm⟩:=bind_some hm
   refine DM.one hsk26 20 (by kernel_rfl) (LM.call hsk26 2097151 (by kernel_rfl) (by kernel_rfl) rfl rfl rfl rfl zc7 (z6R (hE.trans d.ext)  q0) (fun C0 G0 i0=>?_))
   obtain⟨rfl,O⟩:=i0
   refine⟨O.ext,?_⟩
   have o:=d.join O
   refine DM.run (fuel:=4) ttok hsk26 [21,22] 8388607 (by kernel_rfl) (by kernel_rfl) rfl ?_
   refine DM.weak [(0,.pointer (some c0)),(33,.bool u0)] ⟨rfl,rfl,trivial⟩ ?_
   by_cases hg37:u0=true
   ·skip
    rw [if_pos hg37] at hm
    refine DM.know 33 rfl (congrArg Value.bool hg37) ?_
    refine DM.run (fuel:=3) ttok hsk26 [23] 16777215 (by kernel_rfl) (by kernel_rfl) rfl ?_
    obtain⟨y0,r0,hm⟩:=bind_some hm
    refine DM.one hsk26 24 (by kernel_rfl) (LM.call hsk26 33554431 (by kernel_rfl) (by kernel_rfl) rfl rfl rfl rfl zc6 (z6j (hE.trans o.ext) e0 y r0) (fun D0 H0 j0=>?_))
    obtain⟨rfl,Y⟩:=j0
    refine⟨Y.ext,?_⟩
    have k0:=o.join Y
    refine DM.run (fuel:=0) ttok hsk26 [25,26] 134217727 (by kernel_rfl) (by kernel_rfl) rfl ?_
    refine DM.done hsk26 (by kernel_rfl) ?_
    refine WP.ret ?_
    cases hm
    exact⟨_,.cons (.tmp rfl) .nil,rfl,k0⟩
   ·skip
    rw [if_neg hg37] at hm
    refine DM.know 33 rfl (congrArg Value.bool (Bool.eq_false_iff.2 hg37)) ?_
    refine DM.run (fuel:=0) ttok hsk26 [23,24,25,26] 134217727 (by kernel_rfl) (by kernel_rfl) rfl ?_
    refine DM.done hsk26 (by kernel_rfl) ?_
    refine WP.ret ?_
    cases hm
    exact⟨_,.cons (.tmp rfl) .nil,rfl,o⟩
  ·skip
   rw [if_neg hg29] at hm
   refine DM.know 22 rfl (congrArg Value.bool (Bool.eq_false_iff.2 hg29)) ?_
   refine DM.run (fuel:=0) ttok hsk26 [12,13,14,15,16,17,18,19,20,21,22,23,24,25,26] 134217727 (by kernel_rfl) (by kernel_rfl) rfl ?_
   refine DM.weak [(2,.bool false)] ⟨rfl,trivial⟩ ?_
   refine DM.done hsk26 (by kernel_rfl) ?_
   refine WP.ret ?_
   cases hm
   exact⟨_,.cons (.tmp rfl) .nil,rfl,d⟩
 ·skip
  rw [if_neg hg28] at hm
  refine DM.know 13 rfl (congrArg Value.bool (Bool.eq_false_iff.2 hg28)) ?_
  refine DM.run (fuel:=0) ttok hsk26 [3,4,5,6,7,8,9,10,11,12,13,14,15,16,17,18,19,20,21,22,23,24,25,26] 134217727 (by kernel_rfl) (by kernel_rfl) rfl ?_
  refine DM.weak [(2,.bool false)] ⟨rfl,trivial⟩ ?_
  refine DM.done hsk26 (by kernel_rfl) ?_
  refine WP.ret ?_
  cases hm
  exact⟨_,.cons (.tmp rfl) .nil,rfl,d⟩

theorem zbp:Enters Tryz.prog 109:=⟨_,_,Tryz.func109,rfl,by kernel_rfl⟩
def z3L (fuel:Nat) (x0:Int) (x1:Int):Option (Int):=(if(x0 == 9)=true then some (w64 (x1 - 1)) else some 0)

set_option maxRecDepth 100000 in
theorem z6U {W:Base}{w:World}(hE:Ext W w){x0:Int}{x1:Int}  {fuel:Nat}{r:Int}(hm:z3L fuel x0 x1=some r):
  Calls Tryz.prog 109 ⟨[.int .i64 x0,.int .i64 x1]⟩ w (Ret fun v w8=>v=.int .i64 r∧St w w8 []):=by
 refine Calls.into Tryz.func109 rfl 9 rfl rfl _ rfl ?_
 unfold z3L at hm
 have hS:=St.start w
 refine WP.seq ?_
 refine WP.region ?_
 refine RW.run ttok 1 rfl ?_
 refine RW.nil ?_
 refine WP.seq ?_
 refine WP.seq ?_
 refine WP.region ?_
 refine RW.run ttok 2 rfl ?_
 refine RW.nil ?_
 refine WP.cond (x0 == 9) rfl (fun hc=>?_) (fun hc=>?_)
 ·skip
  rw [if_pos hc] at hm
  refine WP.seq ?_
  refine WP.region ?_
  refine RW.run ttok 3 rfl ?_
  refine RW.nil ?_
  refine WP.ret ?_
  cases hm
  exact⟨_,.cons (.tmp rfl) .nil,rfl,hS⟩
 ·skip
  rw [if_neg (zC hc)] at hm
  refine WP.skip ?_
  refine WP.seq ?_
  refine WP.region ?_
  refine RW.run ttok 1 rfl ?_
  refine RW.nil ?_
  refine WP.ret ?_
  cases hm
  exact⟨_,.cons (.tmp rfl) .nil,rfl,hS⟩

theorem z7G:Enters Tryz.prog 121:=⟨_,_,Tryz.func121,rfl,by kernel_rfl⟩
def z3a (fuel:Nat) (x0:Int):Option (Bool):=(if(decide (x0≥1))=true then some (decide (x0≤12)) else some false)

set_option maxRecDepth 100000 in
theorem z5t {W:Base}{w:World}(hE:Ext W w){x0:Int}  {fuel:Nat}{r:Bool}(hm:z3a fuel x0=some r):
  Calls Tryz.prog 121 ⟨[.int .i64 x0]⟩ w (Ret fun v w8=>v=.bool r∧St w w8 []):=by
 refine Calls.into Tryz.func121 rfl 9 rfl rfl _ rfl ?_
 unfold z3a at hm
 have hS:=St.start w
 refine WP.seq ?_
 refine WP.region ?_
 refine RW.run ttok 1 rfl ?_
 refine RW.nil ?_
 refine WP.seq ?_
 refine WP.region ?_
 refine RW.run ttok 3 rfl ?_
 by_cases hg1:(decide (x0≥1))=true
 ·skip
  rw [if_pos hg1] at hm
  refine RW.know 5 rfl (congrArg Value.bool hg1) ?_
  refine RW.run ttok 4 rfl ?_
  refine RW.nil ?_
  refine WP.ret ?_
  cases hm
  exact⟨_,.cons (.tmp rfl) .nil,rfl,hS⟩
 ·skip
  rw [if_neg hg1] at hm
  refine RW.know 5 rfl (congrArg Value.bool (Bool.eq_false_iff.2 hg1)) ?_
  refine RW.run ttok 4 rfl ?_
  refine RW.nil ?_
  refine WP.ret ?_
  cases hm
  exact⟨_,.cons (.tmp rfl) .nil,rfl,hS⟩

theorem zbq:Enters Tryz.prog 108:=⟨_,_,Tryz.func108,rfl,by kernel_rfl⟩
def z14 (fuel:Nat) (x0:Int) (t6:Bool):Option Int:=(if t6=true then some 0 else((idx ([0,1,3,3,3,1,1,3,2,0,2,2,1]:List Int) x0).bind fun b=>some b))
def z1z (fuel:Nat) (x0:Int) (x1:Int) (t1:Bool):Option Int:=(if t1=true then some (w64 (x1+1)) else((z3a fuel x0).bind fun b=>(if(!b)=true then z14 fuel x0 true else(if(x0 == 9)=true then z14 fuel x0 true else z14 fuel x0 (x1 != 0)))))
def z3n (fuel:Nat) (x0:Int) (x1:Int):Option (Int):=(if(x0 == 9)=true then(if(decide (x1≥0))=true then z1z fuel x0 x1 (decide (x1≤3)) else z1z fuel x0 x1 false) else z1z fuel x0 x1 false)

set_option maxRecDepth 100000 in
theorem z7F {W:Base}{w:World}(hE:Ext W w){x0:Int}{x1:Int}  {fuel:Nat}{r:Int}(hm:z3n fuel x0 x1=some r):
  Calls Tryz.prog 108 ⟨[.int .i64 x0,.int .i64 x1]⟩ w (Ret fun v w8=>v=.int .i64 r∧St w w8 []):=by
 refine Calls.into Tryz.func108 rfl 33 rfl rfl _ rfl ?_
 unfold z3n at hm
 have hS:=St.start w
 refine WP.seq ?_
 refine WP.region ?_
 refine RW.run ttok 1 rfl ?_
 refine RW.nil ?_
 refine WP.seq ?_
 refine WP.block ?_
 refine WP.seq ?_
 refine WP.cut (fun(t1:Bool) F w9=>z1z fuel x0 x1 t1=some r∧Ext w w9∧St w w9 []∧F=[(0,.int .i64 x0),(1,.int .i64 x1),(5,.bool t1)]) ?_ ?_
 ·skip
  rintro t1 F w4 ⟨hm,a0,H,rfl⟩
  unfold z1z at hm
  refine WP.cond t1 rfl (fun hc=>?_) (fun hc=>?_)
  ·skip
   rw [if_pos hc] at hm
   refine WP.seq ?_
   refine WP.region ?_
   refine RW.run ttok 3 rfl ?_
   refine RW.nil ?_
   refine WP.ret ?_
   cases hm
   exact⟨_,.cons (.tmp rfl) .nil,rfl,H⟩
  ·skip
   rw [if_neg (zC hc)] at hm
   refine WP.seq ?_
   refine WP.cut (fun(t6:Bool) F w9=>z14 fuel x0 t6=some r∧Ext w4 w9∧St w w9 []∧F=[(0,.int .i64 x0),(18,.bool t6)]) ?_ ?_
   ·skip
    rintro t6 F d0 ⟨hm,b0,o,rfl⟩
    unfold z14 at hm
    refine WP.cond t6 rfl (fun hc=>?_) (fun hc=>?_)
    ·skip
     rw [if_pos hc] at hm
     refine WP.seq ?_
     refine WP.region ?_
     refine RW.run ttok 1 rfl ?_
     refine RW.nil ?_
     refine WP.ret ?_
     cases hm
     exact⟨_,.cons (.tmp rfl) .nil,rfl,o⟩
    ·skip
     rw [if_neg (zC hc)] at hm
     refine WP.skip ?_
     refine WP.seq ?_
     refine WP.region ?_
     refine RW.quiet rfl (Quiet.buildK (cs:=[.int .i64 0,.int .i64 1,.int .i64 3,.int .i64 3,.int .i64 3,.int .i64 1,.int .i64 1,.int .i64 3,.int .i64 2,.int .i64 0,.int .i64 2,.int .i64 2,.int .i64 1]) rfl rfl (by kernel_rfl)) rfl rfl ?_
     refine RW.run ttok 1 rfl ?_
     obtain⟨f0,y,hm⟩:=bind_some hm
     refine RW.quiet rfl (Quiet.arrIdx ttok (xs:=([0,1,3,3,3,1,1,3,2,0,2,2,1]:List Int)) (e:=2) rfl (by kernel_rfl) rfl rfl rfl rfl rfl rfl (z6 y).1 (z6 y).2) rfl rfl ?_
     refine RW.run ttok 1 rfl ?_
     refine RW.nil ?_
     refine WP.ret ?_
     cases hm
     exact⟨_,.cons (.tmp rfl) .nil,rfl,o⟩
   ·skip
    refine WP.region ?_
    refine RW.run ttok 1 rfl ?_
    obtain⟨Y,O,hm⟩:=bind_some hm
    refine RW.call rfl rfl rfl z7G (z5t (hE.trans H.ext)  O) (fun c0 e0 G=>?_)
    obtain⟨rfl,b⟩:=G
    have d:=H.join b
    refine RW.run ttok 2 rfl ?_
    by_cases hg22:(!Y)=true
    ·skip
     rw [if_pos hg22] at hm
     refine RW.know 22 rfl (congrArg Value.bool hg22) ?_
     refine RW.run ttok 8 rfl ?_
     refine RW.nil ?_
     exact⟨true,[(0,.int .i64 x0),(18,.bool true)],⟨rfl,rfl,trivial⟩,hm,b.ext,d,rfl⟩
    ·skip
     rw [if_neg hg22] at hm
     refine RW.know 22 rfl (congrArg Value.bool (Bool.eq_false_iff.2 hg22)) ?_
     refine RW.run ttok 4 rfl ?_
     by_cases hg23:(x0 == 9)=true
     ·skip
      rw [if_pos hg23] at hm
      refine RW.know 26 rfl (congrArg Value.bool hg23) ?_
      refine RW.run ttok 4 rfl ?_
      refine RW.nil ?_
      exact⟨true,[(0,.int .i64 x0),(18,.bool true)],⟨rfl,rfl,trivial⟩,hm,b.ext,d,rfl⟩
     ·skip
      rw [if_neg hg23] at hm
      refine RW.know 26 rfl (congrArg Value.bool (Bool.eq_false_iff.2 hg23)) ?_
      refine RW.run ttok 4 rfl ?_
      refine RW.nil ?_
      exact⟨(x1 != 0),[(0,.int .i64 x0),(18,.bool (x1 != 0))],⟨rfl,rfl,trivial⟩,hm,b.ext,d,rfl⟩
 ·skip
  refine WP.region ?_
  refine RW.run ttok 3 rfl ?_
  by_cases hg24:(x0 == 9)=true
  ·skip
   rw [if_pos hg24] at hm
   refine RW.know 8 rfl (congrArg Value.bool hg24) ?_
   refine RW.run ttok 4 rfl ?_
   by_cases hg25:(decide (x1≥0))=true
   ·skip
    rw [if_pos hg25] at hm
    refine RW.know 12 rfl (congrArg Value.bool hg25) ?_
    refine RW.run ttok 4 rfl ?_
    refine RW.nil ?_
    exact⟨decide (x1≤3),[(0,.int .i64 x0),(1,.int .i64 x1),(5,.bool (decide (x1≤3)))],⟨rfl,rfl,rfl,trivial⟩,hm,(Ext.refl _),hS,rfl⟩
   ·skip
    rw [if_neg hg25] at hm
    refine RW.know 12 rfl (congrArg Value.bool (Bool.eq_false_iff.2 hg25)) ?_
    refine RW.run ttok 4 rfl ?_
    refine RW.nil ?_
    exact⟨false,[(0,.int .i64 x0),(1,.int .i64 x1),(5,.bool false)],⟨rfl,rfl,rfl,trivial⟩,hm,(Ext.refl _),hS,rfl⟩
  ·skip
   rw [if_neg hg24] at hm
   refine RW.know 8 rfl (congrArg Value.bool (Bool.eq_false_iff.2 hg24)) ?_
   refine RW.run ttok 8 rfl ?_
   refine RW.nil ?_
   exact⟨false,[(0,.int .i64 x0),(1,.int .i64 x1),(5,.bool false)],⟨rfl,rfl,rfl,trivial⟩,hm,(Ext.refl _),hS,rfl⟩

theorem zbj:Enters Tryz.prog 122:=⟨_,_,Tryz.func122,rfl,by kernel_rfl⟩
def z3N (fuel:Nat) (x0:Int):Option (Bool):=((z3a fuel x0).bind fun r1=>(if r1=true then(if(x0 != 1)=true then(if(x0 != 5)=true then some (x0 != 6) else some false) else some false) else some false))

set_option maxRecDepth 100000 in
theorem z6W {W:Base}{w:World}(hE:Ext W w){x0:Int}  {fuel:Nat}{r:Bool}(hm:z3N fuel x0=some r):
  Calls Tryz.prog 122 ⟨[.int .i64 x0]⟩ w (Ret fun v w8=>v=.bool r∧St w w8 []):=by
 refine Calls.into Tryz.func122 rfl 17 rfl rfl _ rfl ?_
 unfold z3N at hm
 have hS:=St.start w
 refine WP.seq ?_
 refine WP.region ?_
 refine RW.run ttok 1 rfl ?_
 refine RW.nil ?_
 refine WP.seq ?_
 refine WP.region ?_
 refine RW.run ttok 1 rfl ?_
 obtain⟨r1,y,hm⟩:=bind_some hm
 refine RW.call rfl rfl rfl z7G (z5t (hE.trans hS.ext)  y) (fun v3 w4 d=>?_)
 obtain⟨rfl,o⟩:=d
 have b:=hS.join o
 refine RW.run ttok 1 rfl ?_
 by_cases hg10:r1=true
 ·skip
  rw [if_pos hg10] at hm
  refine RW.know 5 rfl (congrArg Value.bool hg10) ?_
  refine RW.run ttok 4 rfl ?_
  by_cases hg11:(x0 != 1)=true
  ·skip
   rw [if_pos hg11] at hm
   refine RW.know 9 rfl (congrArg Value.bool hg11) ?_
   refine RW.run ttok 4 rfl ?_
   by_cases hg12:(x0 != 5)=true
   ·skip
    rw [if_pos hg12] at hm
    refine RW.know 13 rfl (congrArg Value.bool hg12) ?_
    refine RW.run ttok 4 rfl ?_
    refine RW.nil ?_
    refine WP.ret ?_
    cases hm
    exact⟨_,.cons (.tmp rfl) .nil,rfl,b⟩
   ·skip
    rw [if_neg hg12] at hm
    refine RW.know 13 rfl (congrArg Value.bool (Bool.eq_false_iff.2 hg12)) ?_
    refine RW.run ttok 4 rfl ?_
    refine RW.nil ?_
    refine WP.ret ?_
    cases hm
    exact⟨_,.cons (.tmp rfl) .nil,rfl,b⟩
  ·skip
   rw [if_neg hg11] at hm
   refine RW.know 9 rfl (congrArg Value.bool (Bool.eq_false_iff.2 hg11)) ?_
   refine RW.run ttok 8 rfl ?_
   refine RW.nil ?_
   refine WP.ret ?_
   cases hm
   exact⟨_,.cons (.tmp rfl) .nil,rfl,b⟩
 ·skip
  rw [if_neg hg10] at hm
  refine RW.know 5 rfl (congrArg Value.bool (Bool.eq_false_iff.2 hg10)) ?_
  refine RW.run ttok 12 rfl ?_
  refine RW.nil ?_
  refine WP.ret ?_
  cases hm
  exact⟨_,.cons (.tmp rfl) .nil,rfl,b⟩

theorem zbi:Enters Tryz.prog 123:=⟨_,_,Tryz.func123,rfl,by kernel_rfl⟩
def z4b (fuel:Nat) (x0:Int):Option (Bool):=(if(decide (x0≥0))=true then some (decide (x0≤8)) else some false)

set_option maxRecDepth 100000 in
theorem z7B {W:Base}{w:World}(hE:Ext W w){x0:Int}  {fuel:Nat}{r:Bool}(hm:z4b fuel x0=some r):
  Calls Tryz.prog 123 ⟨[.int .i64 x0]⟩ w (Ret fun v w8=>v=.bool r∧St w w8 []):=by
 refine Calls.into Tryz.func123 rfl 9 rfl rfl _ rfl ?_
 unfold z4b at hm
 have hS:=St.start w
 refine WP.seq ?_
 refine WP.region ?_
 refine RW.run ttok 1 rfl ?_
 refine RW.nil ?_
 refine WP.seq ?_
 refine WP.region ?_
 refine RW.run ttok 3 rfl ?_
 by_cases hg1:(decide (x0≥0))=true
 ·skip
  rw [if_pos hg1] at hm
  refine RW.know 5 rfl (congrArg Value.bool hg1) ?_
  refine RW.run ttok 4 rfl ?_
  refine RW.nil ?_
  refine WP.ret ?_
  cases hm
  exact⟨_,.cons (.tmp rfl) .nil,rfl,hS⟩
 ·skip
  rw [if_neg hg1] at hm
  refine RW.know 5 rfl (congrArg Value.bool (Bool.eq_false_iff.2 hg1)) ?_
  refine RW.run ttok 4 rfl ?_
  refine RW.nil ?_
  refine WP.ret ?_
  cases hm
  exact⟨_,.cons (.tmp rfl) .nil,rfl,hS⟩

theorem zbo:Enters Tryz.prog 110:=⟨_,_,Tryz.func110,rfl,by kernel_rfl⟩
def z3g (fuel:Nat) (x0:Int) (x1:Int):Option (Bool):=((z3a fuel x0).bind fun r1=>(if r1=true then(if(x1 == 0)=true then some true else((z3N fuel x0).bind fun b=>(if b=true then((z4b fuel x1).bind fun d=>some d) else some false))) else some false))

set_option maxRecDepth 100000 in
theorem z6F {W:Base}{w:World}(hE:Ext W w){x0:Int}{x1:Int}  {fuel:Nat}{r:Bool}(hm:z3g fuel x0 x1=some r):
  Calls Tryz.prog 110 ⟨[.int .i64 x0,.int .i64 x1]⟩ w (Ret fun v w8=>v=.bool r∧St w w8 []):=by
 refine Calls.into Tryz.func110 rfl 19 rfl rfl _ rfl ?_
 unfold z3g at hm
 have hS:=St.start w
 refine WP.seq ?_
 refine WP.region ?_
 refine RW.run ttok 1 rfl ?_
 refine RW.nil ?_
 refine WP.seq ?_
 refine WP.region ?_
 refine RW.run ttok 1 rfl ?_
 obtain⟨r1,d0,hm⟩:=bind_some hm
 refine RW.call rfl rfl rfl z7G (z5t (hE.trans hS.ext)  d0) (fun v3 w4 b0=>?_)
 obtain⟨rfl,c0⟩:=b0
 have d:=hS.join c0
 refine RW.run ttok 1 rfl ?_
 by_cases hg10:r1=true
 ·skip
  rw [if_pos hg10] at hm
  refine RW.know 7 rfl (congrArg Value.bool hg10) ?_
  refine RW.run ttok 3 rfl ?_
  by_cases hg11:(x1 == 0)=true
  ·skip
   rw [if_pos hg11] at hm
   refine RW.know 10 rfl (congrArg Value.bool hg11) ?_
   refine RW.run ttok 9 rfl ?_
   refine RW.nil ?_
   refine WP.ret ?_
   cases hm
   exact⟨_,.cons (.tmp rfl) .nil,rfl,d⟩
  ·skip
   rw [if_neg hg11] at hm
   refine RW.know 10 rfl (congrArg Value.bool (Bool.eq_false_iff.2 hg11)) ?_
   refine RW.run ttok 1 rfl ?_
   obtain⟨e0,Y,hm⟩:=bind_some hm
   refine RW.call rfl rfl rfl zbj (z6W (hE.trans d.ext)  Y) (fun g0 j0 o=>?_)
   obtain⟨rfl,y⟩:=o
   have b:=d.join y
   refine RW.run ttok 1 rfl ?_
   by_cases hg19:e0=true
   ·skip
    rw [if_pos hg19] at hm
    refine RW.know 13 rfl (congrArg Value.bool hg19) ?_
    refine RW.run ttok 1 rfl ?_
    obtain⟨f0,a0,hm⟩:=bind_some hm
    refine RW.call rfl rfl rfl zbi (z7B (hE.trans b.ext)  a0) (fun i0 k0 G=>?_)
    obtain⟨rfl,H⟩:=G
    have O:=b.join H
    refine RW.run ttok 4 rfl ?_
    refine RW.nil ?_
    refine WP.ret ?_
    cases hm
    exact⟨_,.cons (.tmp rfl) .nil,rfl,O⟩
   ·skip
    rw [if_neg hg19] at hm
    refine RW.know 13 rfl (congrArg Value.bool (Bool.eq_false_iff.2 hg19)) ?_
    refine RW.run ttok 6 rfl ?_
    refine RW.nil ?_
    refine WP.ret ?_
    cases hm
    exact⟨_,.cons (.tmp rfl) .nil,rfl,b⟩
 ·skip
  rw [if_neg hg10] at hm
  refine RW.know 7 rfl (congrArg Value.bool (Bool.eq_false_iff.2 hg10)) ?_
  refine RW.run ttok 12 rfl ?_
  refine RW.nil ?_
  refine WP.ret ?_
  cases hm
  exact⟨_,.cons (.tmp rfl) .nil,rfl,d⟩

theorem zbh:Enters Tryz.prog 124:=⟨_,_,Tryz.func124,rfl,by kernel_rfl⟩
def z1g (fuel:Nat) (t2:Unit):Option Int:=some (-1)
def zu (fuel:Nat) (x0:(List Int)) (x1:Int→Option Bool) (s1:Int):Option (Rd (Int) (Unit) (Int)):=(if(decide (s1<(x0.length:Int)))=true then((idx x0 s1).bind fun d=>((x1 d).bind fun b=>(if b=true then some (.ret s1) else some (.next (w64 (s1+1)))))) else some (.brk ()))
def z18 (fuel:Nat) (x0:(List Int)) (x1:Int→Option Bool):Option (Int):=((iter (zu fuel x0 x1) fuel 0).bind fun o=>aft o (z1g fuel))

set_option maxRecDepth 100000 in
theorem z4A {W:Base}{w:World}(hE:Ext W w){o:Option Addr}{Y:Nat}{x0:(List Int)}{f1_:Nat}{u1_:List Value}{x1:Int→Option Bool}(o0:ty26.ro W [.slice o x0.length Y] x0) (i0:Enters Tryz.prog f1_∧∀ {w9:World},Ext W w9→∀ {z0:Int}{y9:Bool},x1 z0=some y9→Calls Tryz.prog f1_ ⟨[.int .i64 z0]++u1_⟩ w9 (Ret fun v w8=>v=.bool y9∧St w9 w8 [])){fuel:Nat}{r:Int}(hm:z18 fuel x0 x1=some r):
  Calls Tryz.prog 124 ⟨[.slice o x0.length Y,.func (.func f1_) #[] ⟨u1_⟩]⟩ w (Ret fun v w8=>v=.int .i64 r∧St w w8 []):=by
 refine Calls.into Tryz.func124 rfl 19 rfl rfl _ rfl ?_
 unfold z18 at hm
 have hS:=St.start w
 refine WP.seq ?_
 refine WP.region ?_
 refine RW.run ttok 1 rfl ?_
 refine RW.nil ?_
 refine WP.seq ?_
 refine WP.seq ?_
 refine WP.region ?_
 refine RW.run ttok 3 rfl ?_
 refine RW.nil ?_
 obtain⟨p0,d0,hm⟩:=bind_some hm
 refine WP.cut (fun(t2:Unit) F w9=>p0=.inl t2∧Ext w w9∧St w w9 []∧F=[]) ?_ ?_
 ·skip
  rintro t2 F w7 ⟨e0,r0,b0,rfl⟩
  subst e0
  rw [zx] at hm
  unfold z1g at hm
  refine WP.seq ?_
  refine WP.region ?_
  refine RW.run ttok 1 rfl ?_
  refine RW.nil ?_
  refine WP.ret ?_
  cases hm
  exact⟨_,.cons (.tmp rfl) .nil,rfl,b0⟩
 ·skip
  refine WP.block ?_
  refine WP.weak [(0,.slice o x0.length Y),(1,.func (.func f1_) #[] ⟨u1_⟩),(7,.int .i64 (x0.length:Int)),(8,.int .i64 0)] ⟨rfl,rfl,rfl,rfl,trivial⟩ ?_
  refine WP.iter (fun(s1:Int) F w9=>Ext w w9∧St w w9 []∧F=[(0,.slice o x0.length Y),(1,.func (.func f1_) #[] ⟨u1_⟩),(7,.int .i64 (x0.length:Int)),(8,.int .i64 s1)]) _ d0 ⟨(Ext.refl _),hS,rfl⟩ ?_
  rintro s1 F y0 _ t0 ⟨j0,d,rfl⟩ b H
  unfold zu at b
  refine WP.seq ?_
  refine WP.region ?_
  refine RW.run ttok 1 rfl ?_
  refine RW.nil ?_
  refine WP.seq ?_
  refine WP.cond (decide (s1<(x0.length:Int))) rfl (fun hc=>?_) (fun hc=>?_)
  ·skip
   rw [if_pos hc] at b
   refine WP.skip ?_
   refine WP.seq ?_
   refine WP.block ?_
   refine WP.seq ?_
   refine WP.region ?_
   refine RW.run ttok 2 rfl ?_
   refine RW.nil ?_
   refine WP.seq ?_
   refine WP.region ?_
   refine RW.run ttok 3 rfl ?_
   obtain⟨B0,O,b⟩:=bind_some b
   refine RW.idx ttok (hE.trans d.ext) rfl rfl rfl rfl rfl rfl (by decide) rfl rfl o0 (z6 O).1 (z6 O).2 rfl rfl (fun u0 k0 c0 f0=>?_)
   cases f0
   refine RW.load1 ttok rfl rfl rfl rfl rfl (At.ext (hE.trans d.ext) c0) 0 rfl rfl rfl rfl ?_
   obtain⟨q0,g0,b⟩:=bind_some b
   refine RW.call rfl rfl rfl i0.1 (i0.2 (hE.trans d.ext)  g0) (fun v0 A0 a0=>?_)
   obtain⟨rfl,y⟩:=a0
   have G:=d.join y
   refine RW.nil ?_
   refine WP.cond q0 rfl (fun hc=>?_) (fun hc=>?_)
   ·skip
    rw [if_pos hc] at b
    refine WP.seq ?_
    refine WP.region ?_
    refine RW.run ttok 2 rfl ?_
    refine RW.nil ?_
    refine WP.ret ?_
    cases b
    cases H
    have hm:some _=some _:=hm
    cases hm
    exact⟨_,.cons (.tmp rfl) .nil,rfl,G⟩
   ·skip
    rw [if_neg (zC hc)] at b
    refine WP.skip ?_
    refine WP.region ?_
    refine RW.run ttok 2 rfl ?_
    refine RW.nil ?_
    cases b
    exact⟨_,[(0,.slice o x0.length Y),(1,.func (.func f1_) #[] ⟨u1_⟩),(7,.int .i64 (x0.length:Int)),(8,.int .i64 (w64 (s1+1)))],⟨rfl,rfl,rfl,rfl,trivial⟩,rfl,(j0.trans y.ext),G,rfl⟩
  ·skip
   rw [if_neg (zC hc)] at b
   refine WP.exit ?_
   cases b
   exact⟨_,[],trivial,H,j0,d,rfl⟩

theorem zbn:Enters Tryz.prog 111:=⟨_,_,Tryz.func111,rfl,by kernel_rfl⟩
def zv (fuel:Nat) (x0:(List Int)) (x1:Int→Option Bool):Option (Bool):=((z18 fuel x0 x1).bind fun r1=>some (decide (r1≥0)))

set_option maxRecDepth 100000 in
theorem z4n {W:Base}{w:World}(hE:Ext W w){b:Option Addr}{d:Nat}{x0:(List Int)}{f1_:Nat}{u1_:List Value}{x1:Int→Option Bool}(o:ty26.ro W [.slice b x0.length d] x0) (y:Enters Tryz.prog f1_∧∀ {w9:World},Ext W w9→∀ {z0:Int}{y9:Bool},x1 z0=some y9→Calls Tryz.prog f1_ ⟨[.int .i64 z0]++u1_⟩ w9 (Ret fun v w8=>v=.bool y9∧St w9 w8 [])){fuel:Nat}{r:Bool}(hm:zv fuel x0 x1=some r):
  Calls Tryz.prog 111 ⟨[.slice b x0.length d,.func (.func f1_) #[] ⟨u1_⟩]⟩ w (Ret fun v w8=>v=.bool r∧St w w8 []):=by
 refine Calls.into Tryz.func111 rfl 9 rfl rfl _ rfl ?_
 unfold zv at hm
 have hS:=St.start w
 refine WP.seq ?_
 refine WP.region ?_
 refine RW.run ttok 1 rfl ?_
 refine RW.nil ?_
 refine WP.seq ?_
 refine WP.region ?_
 refine RW.run ttok 2 rfl ?_
 obtain⟨r1,Y,hm⟩:=bind_some hm
 refine RW.call rfl rfl rfl zbh (z4A (hE.trans hS.ext) o y Y) (fun v3 w4 G=>?_)
 obtain⟨rfl,H⟩:=G
 have O:=hS.join H
 refine RW.run ttok 2 rfl ?_
 refine RW.nil ?_
 refine WP.ret ?_
 cases hm
 exact⟨_,.cons (.tmp rfl) .nil,rfl,O⟩

theorem z9c:Enters Tryz.prog 113:=⟨_,_,Tryz.func113,rfl,by kernel_rfl⟩
def z27 (fuel:Nat) (x0:Int):Option (Bool):=(if(decide (x0≥0))=true then some (decide (x0<24)) else some false)

set_option maxRecDepth 100000 in
theorem z5o {W:Base}{w:World}(hE:Ext W w){x0:Int}  {fuel:Nat}{r:Bool}(hm:z27 fuel x0=some r):
  Calls Tryz.prog 113 ⟨[.int .i64 x0]⟩ w (Ret fun v w8=>v=.bool r∧St w w8 []):=by
 refine Calls.into Tryz.func113 rfl 9 rfl rfl _ rfl ?_
 unfold z27 at hm
 have hS:=St.start w
 refine WP.seq ?_
 refine WP.region ?_
 refine RW.run ttok 1 rfl ?_
 refine RW.nil ?_
 refine WP.seq ?_
 refine WP.region ?_
 refine RW.run ttok 3 rfl ?_
 by_cases hg1:(decide (x0≥0))=true
 ·skip
  rw [if_pos hg1] at hm
  refine RW.know 5 rfl (congrArg Value.bool hg1) ?_
  refine RW.run ttok 4 rfl ?_
  refine RW.nil ?_
  refine WP.ret ?_
  cases hm
  exact⟨_,.cons (.tmp rfl) .nil,rfl,hS⟩
 ·skip
  rw [if_neg hg1] at hm
  refine RW.know 5 rfl (congrArg Value.bool (Bool.eq_false_iff.2 hg1)) ?_
  refine RW.run ttok 4 rfl ?_
  refine RW.nil ?_
  refine WP.ret ?_
  cases hm
  exact⟨_,.cons (.tmp rfl) .nil,rfl,hS⟩

theorem zbm:Enters Tryz.prog 112:=⟨_,_,Tryz.func112,rfl,by kernel_rfl⟩
def z2E (fuel:Nat) (x0:Int):Option (Bool):=((z27 fuel x0).bind fun r1=>some (!r1))

set_option maxRecDepth 100000 in
theorem z60 {W:Base}{w:World}(hE:Ext W w){x0:Int}  {fuel:Nat}{r:Bool}(hm:z2E fuel x0=some r):
  Calls Tryz.prog 112 ⟨[.int .i64 x0]⟩ w (Ret fun v w8=>v=.bool r∧St w w8 []):=by
 refine Calls.into Tryz.func112 rfl 6 rfl rfl _ rfl ?_
 unfold z2E at hm
 have hS:=St.start w
 refine WP.seq ?_
 refine WP.region ?_
 refine RW.run ttok 1 rfl ?_
 refine RW.nil ?_
 refine WP.seq ?_
 refine WP.region ?_
 refine RW.run ttok 1 rfl ?_
 obtain⟨r1,y,hm⟩:=bind_some hm
 refine RW.call rfl rfl rfl z9c (z5o (hE.trans hS.ext)  y) (fun v3 w4 b=>?_)
 obtain⟨rfl,d⟩:=b
 have o:=hS.join d
 refine RW.run ttok 2 rfl ?_
 refine RW.nil ?_
 refine WP.ret ?_
 cases hm
 exact⟨_,.cons (.tmp rfl) .nil,rfl,o⟩

theorem z9b:Enters Tryz.prog 114:=⟨_,_,Tryz.func114,rfl,by kernel_rfl⟩
def z4m (fuel:Nat) (x0:Int):Option (Bool):=(if(decide (x0≥(-2147483648)))=true then some (decide (x0≤2147483647)) else some false)

set_option maxRecDepth 100000 in
theorem z6r {W:Base}{w:World}(hE:Ext W w){x0:Int}  {fuel:Nat}{r:Bool}(hm:z4m fuel x0=some r):
  Calls Tryz.prog 114 ⟨[.int .i64 x0]⟩ w (Ret fun v w8=>v=.bool r∧St w w8 []):=by
 refine Calls.into Tryz.func114 rfl 9 rfl rfl _ rfl ?_
 unfold z4m at hm
 have hS:=St.start w
 refine WP.seq ?_
 refine WP.region ?_
 refine RW.run ttok 1 rfl ?_
 refine RW.nil ?_
 refine WP.seq ?_
 refine WP.region ?_
 refine RW.run ttok 3 rfl ?_
 by_cases hg1:(decide (x0≥(-2147483648)))=true
 ·skip
  rw [if_pos hg1] at hm
  refine RW.know 5 rfl (congrArg Value.bool hg1) ?_
  refine RW.run ttok 4 rfl ?_
  refine RW.nil ?_
  refine WP.ret ?_
  cases hm
  exact⟨_,.cons (.tmp rfl) .nil,rfl,hS⟩
 ·skip
  rw [if_neg hg1] at hm
  refine RW.know 5 rfl (congrArg Value.bool (Bool.eq_false_iff.2 hg1)) ?_
  refine RW.run ttok 4 rfl ?_
  refine RW.nil ?_
  refine WP.ret ?_
  cases hm
  exact⟨_,.cons (.tmp rfl) .nil,rfl,hS⟩

theorem z9a:Enters Tryz.prog 115:=⟨_,_,Tryz.func115,rfl,by kernel_rfl⟩
def z26 (fuel:Nat) (x0:Int):Option (Bool):=(if(decide (x0≥1))=true then some (decide (x0≤6)) else some false)

set_option maxRecDepth 100000 in
theorem z5n {W:Base}{w:World}(hE:Ext W w){x0:Int}  {fuel:Nat}{r:Bool}(hm:z26 fuel x0=some r):
  Calls Tryz.prog 115 ⟨[.int .i64 x0]⟩ w (Ret fun v w8=>v=.bool r∧St w w8 []):=by
 refine Calls.into Tryz.func115 rfl 9 rfl rfl _ rfl ?_
 unfold z26 at hm
 have hS:=St.start w
 refine WP.seq ?_
 refine WP.region ?_
 refine RW.run ttok 1 rfl ?_
 refine RW.nil ?_
 refine WP.seq ?_
 refine WP.region ?_
 refine RW.run ttok 3 rfl ?_
 by_cases hg1:(decide (x0≥1))=true
 ·skip
  rw [if_pos hg1] at hm
  refine RW.know 5 rfl (congrArg Value.bool hg1) ?_
  refine RW.run ttok 4 rfl ?_
  refine RW.nil ?_
  refine WP.ret ?_
  cases hm
  exact⟨_,.cons (.tmp rfl) .nil,rfl,hS⟩
 ·skip
  rw [if_neg hg1] at hm
  refine RW.know 5 rfl (congrArg Value.bool (Bool.eq_false_iff.2 hg1)) ?_
  refine RW.run ttok 4 rfl ?_
  refine RW.nil ?_
  refine WP.ret ?_
  cases hm
  exact⟨_,.cons (.tmp rfl) .nil,rfl,hS⟩

theorem zc3:Enters Tryz.prog 93:=⟨_,_,Tryz.func93,rfl,by kernel_rfl⟩
def z1U (fuel:Nat) (b:Bool × Bool):Option Bool:=(if b.1=true then some b.2 else some false)
def z1T (fuel:Nat) (b:Bool × Bool):Option Bool:=z1U fuel (b.1,b.2)
def z1S (fuel:Nat) (b:Bool × Bool):Option Bool:=z1T fuel (b.1,b.2)
def z1R (fuel:Nat) (x0:D.Agent) (b:Bool):Option Bool:=z1S fuel (b,((x0.Data.length:Int) == 0))
def z1Q (fuel:Nat) (b:Bool × Bool):Option Bool:=z1S fuel (b.1,b.2)
def z1n (fuel:Nat) (x0:D.Agent) (b:Bool):Option Bool:=z1Q fuel ((x0.Value == 0),b)
def z1P (fuel:Nat) (b:Bool × Bool):Option Bool:=z1Q fuel (b.1,b.2)
def z1O (fuel:Nat) (x0:D.Agent) (b:Bool):Option Bool:=z1P fuel ((x0.Value == 0),b)
def z1F (fuel:Nat) (x0:D.Agent) (b:Bool):Option Bool:=z1P fuel (b,((x0.Data.length:Int) == 0))
def z17 (fuel:Nat) (x0:D.Agent) (O:Bool):Option Bool:=(if O=true then some false else((zv fuel x0.Data (fun y0=>z2E fuel y0)).bind fun d=>(if(x0.Kind == 6)=true then((z4m fuel x0.Value).bind fun o=>z1U fuel (o,((x0.Data.length:Int) == 0))) else(if(x0.Kind == 7)=true then((z26 fuel x0.Value).bind fun y=>z1T fuel (y,((x0.Data.length:Int) == 0))) else(if(x0.Kind == 8)=true then((z26 fuel x0.Value).bind fun G=>(if G=true then(if((x0.Data.length:Int) == 1)=true then((idx x0.Data 0).bind fun Y=>((z4m fuel Y).bind fun H=>some H)) else some false) else some false)) else(if(x0.Kind == 9)=true then(if(decide (x0.Value≥0))=true then z1R fuel x0 (decide (x0.Value<4)) else z1R fuel x0 false) else(if(x0.Kind == 10)=true then(if(decide ((x0.Data.length:Int)≥1))=true then(if(decide ((x0.Data.length:Int)≤4))=true then z1n fuel x0 (!d) else z1n fuel x0 false) else z1n fuel x0 false) else(if(x0.Kind == 11)=true then(if((x0.Data.length:Int) == 2)=true then z1O fuel x0 (!d) else z1O fuel x0 false) else(if(x0.Kind == 12)=true then((z27 fuel x0.Value).bind fun b=>z1F fuel x0 b) else z1F fuel x0 (x0.Value == 0))))))))))
def z1w (fuel:Nat) (x0:D.Agent):Option (Bool):=(if((x0.Ports.length:Int) == 0)=true then z17 fuel x0 true else((z3L fuel x0.Kind (x0.Ports.length:Int)).bind fun b=>((z3n fuel x0.Kind b).bind fun d=>(if(d != (x0.Ports.length:Int))=true then z17 fuel x0 true else((z3g fuel x0.Kind x0.Level).bind fun o=>z17 fuel x0 (!o))))))

set_option maxRecDepth 100000 in
theorem z6q {W:Base}{w:World}(hE:Ext W w){O1:List Value}{x0:D.Agent}(S1:ty67.ro W O1 x0){fuel:Nat}{r:Bool}(hm:z1w fuel x0=some r):
  Calls Tryz.prog 93 ⟨[.agg ⟨O1⟩]⟩ w (Ret fun v w8=>v=.bool r∧St w w8 []):=by
 obtain⟨A1,k2,A4,k5,e7,h3,h6⟩:=zB S1;subst e7
 refine Calls.into Tryz.func93 rfl 117 rfl rfl _ rfl ?_
 unfold z1w at hm
 have hS:=St.start w
 refine WP.seq ?_
 refine WP.region ?_
 refine RW.new ttok hS rfl rfl rfl rfl (fun H g2 p2 d=>?_)
 refine RW.run ttok 1 rfl ?_
 refine RW.nil ?_
 refine WP.seq ?_
 refine WP.seq ?_
 refine WP.cut (fun(Y0:Bool) F w9=>z17 fuel x0 Y0=some r∧Ext g2 w9∧St w w9 [Box H [.int .i64 x0.Kind,.int .i64 x0.Level,.int .i64 x0.Value,.slice A1 x0.Data.length k2,.slice A4 x0.Ports.length k5] 67]∧F=[(1,.pointer (some ⟨H,0,none⟩)),(32,.bool Y0)]) ?_ ?_
 ·skip
  rintro Y0 F B2 ⟨hm,T1,b0,rfl⟩
  unfold z17 at hm
  refine WP.cond Y0 rfl (fun hc=>?_) (fun hc=>?_)
  ·skip
   rw [if_pos hc] at hm
   refine WP.seq ?_
   refine WP.region ?_
   refine RW.run ttok 1 rfl ?_
   refine RW.nil ?_
   refine WP.ret ?_
   cases hm
   exact⟨_,.cons (.tmp rfl) .nil,rfl,(b0.taken 0)⟩
  ·skip
   rw [if_neg (zC hc)] at hm
   refine WP.skip ?_
   refine WP.seq ?_
   refine WP.drawnM 0 mixed 9 (by kernel_rfl) (by kernel_rfl) [([],511),([0],510),([1],509),([],511),([3],503),([4],495),([5],479),([2,0,1,2],507),([6,7,0,1,2,3,4,5,6,7],447)] (by kernel_rfl) b0.ext (fun hsk19=>?_)
   have p0:=b0.step (Ext.draw _)
   refine DM.run (fuel:=7) ttok hsk19 [0,3] 9 (by kernel_rfl) (by kernel_rfl) rfl ?_
   refine DM.load1 ttok hsk19 1 11 (by kernel_rfl) (by kernel_rfl) (by kernel_rfl) (by kernel_rfl) rfl (by kernel_rfl) rfl rfl rfl rfl rfl ((b0.bring 0 rfl).box) 2 rfl rfl rfl rfl ?_
   refine DM.run (fuel:=4) ttok hsk19 [2,7] 143 (by kernel_rfl) (by kernel_rfl) rfl ?_
   refine DM.load1 ttok hsk19 4 159 (by kernel_rfl) (by kernel_rfl) (by kernel_rfl) (by kernel_rfl) rfl (by kernel_rfl) rfl rfl rfl rfl rfl ((b0.bring 0 rfl).box) 3 rfl rfl rfl rfl ?_
   refine DM.run (fuel:=0) ttok hsk19 [5,6,8] 511 (by kernel_rfl) (by kernel_rfl) rfl ?_
   refine DM.weak [(1,.pointer (some ⟨H,0,none⟩)),(3,.bool (x0.Value == 0)),(4,.bool ((x0.Data.length:Int) == 0))] ⟨rfl,rfl,rfl,trivial⟩ ?_
   refine DM.done hsk19 (by kernel_rfl) ?_
   refine WP.seq ?_
   refine WP.region ?_
   refine RW.run ttok 1 rfl ?_
   refine RW.load1 ttok rfl rfl rfl rfl rfl ((p0.bring 0 rfl).box) 3 rfl rfl rfl rfl ?_
   obtain⟨X0,J1,hm⟩:=bind_some hm
   refine RW.call rfl rfl rfl zbn (z4n (hE.trans p0.ext) h3 ⟨zbm,fun e9=>(fun  V1=>z60 (Ext.refl _)  V1)⟩ J1) (fun s2 e0 g1=>?_)
   obtain⟨rfl,i1⟩:=g1
   have b:=p0.join i1
   refine RW.run ttok 2 rfl ?_
   refine RW.nil ?_
   refine WP.seq ?_
   refine WP.seq ?_
   refine WP.region ?_
   refine RW.run ttok 1 rfl ?_
   refine RW.load1 ttok rfl rfl rfl rfl rfl ((b.bring 0 rfl).box) 0 rfl rfl rfl rfl ?_
   refine RW.nil ?_
   refine WP.block ?_
   refine WP.seq ?_
   refine WP.region ?_
   refine RW.run ttok 2 rfl ?_
   refine RW.nil ?_
   refine WP.cut (fun(T0:Bool × Bool) F w9=>z1U fuel T0=some r∧Ext e0 w9∧St w w9 []∧F=[(3,.bool T0.1),(4,.bool T0.2)]) ?_ ?_
   ·skip
    rintro T0 F C2 ⟨hm,U1,K0,rfl⟩
    unfold z1U at hm
    refine WP.seq ?_
    refine WP.region ?_
    refine RW.run ttok 2 rfl ?_
    by_cases hg33:T0.1=true
    ·skip
     rw [if_pos hg33] at hm
     refine RW.know 114 rfl (congrArg Value.bool hg33) ?_
     refine RW.run ttok 3 rfl ?_
     refine RW.nil ?_
     refine WP.ret ?_
     cases hm
     exact⟨_,.cons (.tmp rfl) .nil,rfl,K0⟩
    ·skip
     rw [if_neg hg33] at hm
     refine RW.know 114 rfl (congrArg Value.bool (Bool.eq_false_iff.2 hg33)) ?_
     refine RW.run ttok 3 rfl ?_
     refine RW.nil ?_
     refine WP.ret ?_
     cases hm
     exact⟨_,.cons (.tmp rfl) .nil,rfl,K0⟩
   ·skip
    refine WP.cond (x0.Kind == 6) rfl (fun hc=>?_) (fun hc=>?_)
    ·skip
     rw [if_pos hc] at hm
     refine WP.region ?_
     refine RW.run ttok 1 rfl ?_
     refine RW.load1 ttok rfl rfl rfl rfl rfl ((b.bring 0 rfl).box) 2 rfl rfl rfl rfl ?_
     obtain⟨P1,K1,hm⟩:=bind_some hm
     refine RW.call rfl rfl rfl z9b (z6r (hE.trans b.ext)  K1) (fun u2 D2 j1=>?_)
     obtain⟨rfl,C0⟩:=j1
     have u1:=b.join C0
     refine RW.run ttok 1 rfl ?_
     refine RW.nil ?_
     exact⟨(P1,((x0.Data.length:Int) == 0)),[(3,.bool P1),(4,.bool ((x0.Data.length:Int) == 0))],⟨rfl,rfl,trivial⟩,hm,C0.ext,(u1.taken 0),rfl⟩
    ·skip
     rw [if_neg (zC hc)] at hm
     refine WP.seq ?_
     refine WP.region ?_
     refine RW.run ttok 2 rfl ?_
     refine RW.nil ?_
     refine WP.cut (fun(i0:Bool × Bool) F w9=>z1T fuel i0=some r∧Ext e0 w9∧St w w9 []∧F=[(3,.bool i0.1),(4,.bool i0.2)]) ?_ ?_
     ·skip
      rintro i0 F E2 ⟨hm,a1,v1,rfl⟩
      unfold z1T at hm
      exact⟨(i0.1,i0.2),[(3,.bool i0.1),(4,.bool i0.2)],⟨rfl,rfl,trivial⟩,hm,a1,v1,rfl⟩
     ·skip
      refine WP.cond (x0.Kind == 7) rfl (fun hc=>?_) (fun hc=>?_)
      ·skip
       rw [if_pos hc] at hm
       refine WP.region ?_
       refine RW.run ttok 1 rfl ?_
       refine RW.load1 ttok rfl rfl rfl rfl rfl ((b.bring 0 rfl).box) 2 rfl rfl rfl rfl ?_
       obtain⟨Q1,L1,hm⟩:=bind_some hm
       refine RW.call rfl rfl rfl z9a (z5n (hE.trans b.ext)  L1) (fun v2 F2 k1=>?_)
       obtain⟨rfl,D0⟩:=k1
       have y1:=b.join D0
       refine RW.run ttok 1 rfl ?_
       refine RW.nil ?_
       exact⟨(Q1,((x0.Data.length:Int) == 0)),[(3,.bool Q1),(4,.bool ((x0.Data.length:Int) == 0))],⟨rfl,rfl,trivial⟩,hm,D0.ext,(y1.taken 0),rfl⟩
      ·skip
       rw [if_neg (zC hc)] at hm
       refine WP.seq ?_
       refine WP.region ?_
       refine RW.run ttok 2 rfl ?_
       refine RW.nil ?_
       refine WP.cond (x0.Kind == 8) rfl (fun hc=>?_) (fun hc=>?_)
       ·skip
        rw [if_pos hc] at hm
        refine WP.seq ?_
        refine WP.region ?_
        refine RW.run ttok 1 rfl ?_
        refine RW.load1 ttok rfl rfl rfl rfl rfl ((b.bring 0 rfl).box) 2 rfl rfl rfl rfl ?_
        obtain⟨X1,M1,hm⟩:=bind_some hm
        refine RW.call rfl rfl rfl z9a (z5n (hE.trans b.ext)  M1) (fun y2 G2 m1=>?_)
        obtain⟨rfl,n1⟩:=m1
        have o:=b.join n1
        refine RW.run ttok 1 rfl ?_
        by_cases hg60:X1=true
        ·skip
         rw [if_pos hg60] at hm
         refine RW.know 61 rfl (congrArg Value.bool hg60) ?_
         refine RW.run ttok 1 rfl ?_
         refine RW.load1 ttok rfl rfl rfl rfl rfl ((o.bring 0 rfl).box) 3 rfl rfl rfl rfl ?_
         refine RW.run ttok 4 rfl ?_
         by_cases hg61:((x0.Data.length:Int) == 1)=true
         ·skip
          rw [if_pos hg61] at hm
          refine RW.know 67 rfl (congrArg Value.bool hg61) ?_
          refine RW.run ttok 1 rfl ?_
          refine RW.load1 ttok rfl rfl rfl rfl rfl ((o.bring 0 rfl).box) 3 rfl rfl rfl rfl ?_
          obtain⟨N2,Q0,hm⟩:=bind_some hm
          refine RW.idx ttok (hE.trans o.ext) rfl rfl rfl rfl rfl rfl (by decide) rfl rfl h3 (z6 Q0).1 (z6 Q0).2 rfl rfl (fun q2 R1 G1 H1=>?_)
          cases H1
          refine RW.load1 ttok rfl rfl rfl rfl rfl (At.ext (hE.trans o.ext) G1) 0 rfl rfl rfl rfl ?_
          obtain⟨r2,N1,hm⟩:=bind_some hm
          refine RW.call rfl rfl rfl z9b (z6r (hE.trans o.ext)  N1) (fun A2 H2 p1=>?_)
          obtain⟨rfl,t1⟩:=p1
          have B1:=o.join t1
          refine RW.run ttok 2 rfl ?_
          refine RW.nil ?_
          refine WP.ret ?_
          cases hm
          exact⟨_,.cons (.tmp rfl) .nil,rfl,(B1.taken 0)⟩
         ·skip
          rw [if_neg hg61] at hm
          refine RW.know 67 rfl (congrArg Value.bool (Bool.eq_false_iff.2 hg61)) ?_
          refine RW.run ttok 7 rfl ?_
          refine RW.nil ?_
          refine WP.ret ?_
          cases hm
          exact⟨_,.cons (.tmp rfl) .nil,rfl,(o.taken 0)⟩
        ·skip
         rw [if_neg hg60] at hm
         refine RW.know 61 rfl (congrArg Value.bool (Bool.eq_false_iff.2 hg60)) ?_
         refine RW.run ttok 13 rfl ?_
         refine RW.nil ?_
         refine WP.ret ?_
         cases hm
         exact⟨_,.cons (.tmp rfl) .nil,rfl,(o.taken 0)⟩
       ·skip
        rw [if_neg (zC hc)] at hm
        refine WP.seq ?_
        refine WP.region ?_
        refine RW.run ttok 2 rfl ?_
        refine RW.nil ?_
        refine WP.cut (fun(j0:Bool × Bool) F w9=>z1S fuel j0=some r∧Ext e0 w9∧St w w9 []∧F=[(3,.bool j0.1),(4,.bool j0.2)]) ?_ ?_
        ·skip
         rintro j0 F J2 ⟨hm,b1,C1,rfl⟩
         unfold z1S at hm
         exact⟨(j0.1,j0.2),[(3,.bool j0.1),(4,.bool j0.2)],⟨rfl,rfl,trivial⟩,hm,b1,C1,rfl⟩
        ·skip
         refine WP.cond (x0.Kind == 9) rfl (fun hc=>?_) (fun hc=>?_)
         ·skip
          rw [if_pos hc] at hm
          refine WP.cut (fun(U0:Bool) F w9=>z1R fuel x0 U0=some r∧Ext e0 w9∧St w w9 []∧F=[(3,.bool U0),(4,.bool ((x0.Data.length:Int) == 0))]) ?_ ?_
          ·skip
           rintro U0 F K2 ⟨hm,d1,D1,rfl⟩
           unfold z1R at hm
           exact⟨(U0,((x0.Data.length:Int) == 0)),[(3,.bool U0),(4,.bool ((x0.Data.length:Int) == 0))],⟨rfl,rfl,trivial⟩,hm,d1,D1,rfl⟩
          ·skip
           refine WP.region ?_
           refine RW.run ttok 1 rfl ?_
           refine RW.load1 ttok rfl rfl rfl rfl rfl ((b.bring 0 rfl).box) 2 rfl rfl rfl rfl ?_
           refine RW.run ttok 2 rfl ?_
           by_cases hg86:(decide (x0.Value≥0))=true
           ·skip
            rw [if_pos hg86] at hm
            refine RW.know 79 rfl (congrArg Value.bool hg86) ?_
            refine RW.run ttok 1 rfl ?_
            refine RW.load1 ttok rfl rfl rfl rfl rfl ((b.bring 0 rfl).box) 2 rfl rfl rfl rfl ?_
            refine RW.run ttok 3 rfl ?_
            refine RW.nil ?_
            exact⟨decide (x0.Value<4),[(3,.bool (decide (x0.Value<4))),(4,.bool ((x0.Data.length:Int) == 0))],⟨rfl,rfl,trivial⟩,hm,(Ext.refl _),(b.taken 0),rfl⟩
           ·skip
            rw [if_neg hg86] at hm
            refine RW.know 79 rfl (congrArg Value.bool (Bool.eq_false_iff.2 hg86)) ?_
            refine RW.run ttok 5 rfl ?_
            refine RW.nil ?_
            exact⟨false,[(3,.bool false),(4,.bool ((x0.Data.length:Int) == 0))],⟨rfl,rfl,trivial⟩,hm,(Ext.refl _),(b.taken 0),rfl⟩
         ·skip
          rw [if_neg (zC hc)] at hm
          refine WP.seq ?_
          refine WP.region ?_
          refine RW.run ttok 2 rfl ?_
          refine RW.nil ?_
          refine WP.cut (fun(k0:Bool × Bool) F w9=>z1Q fuel k0=some r∧Ext e0 w9∧St w w9 []∧F=[(3,.bool k0.1),(4,.bool k0.2)]) ?_ ?_
          ·skip
           rintro k0 F L2 ⟨hm,e1,E1,rfl⟩
           unfold z1Q at hm
           exact⟨(k0.1,k0.2),[(3,.bool k0.1),(4,.bool k0.2)],⟨rfl,rfl,trivial⟩,hm,e1,E1,rfl⟩
          ·skip
           refine WP.cond (x0.Kind == 10) rfl (fun hc=>?_) (fun hc=>?_)
           ·skip
            rw [if_pos hc] at hm
            refine WP.cut (fun(V0:Bool) F w9=>z1n fuel x0 V0=some r∧Ext e0 w9∧St w w9 []∧F=[(3,.bool (x0.Value == 0)),(4,.bool V0)]) ?_ ?_
            ·skip
             rintro V0 F M2 ⟨hm,f1,F1,rfl⟩
             unfold z1n at hm
             exact⟨((x0.Value == 0),V0),[(3,.bool (x0.Value == 0)),(4,.bool V0)],⟨rfl,rfl,trivial⟩,hm,f1,F1,rfl⟩
            ·skip
             refine WP.region ?_
             refine RW.run ttok 1 rfl ?_
             refine RW.load1 ttok rfl rfl rfl rfl rfl ((b.bring 0 rfl).box) 3 rfl rfl rfl rfl ?_
             refine RW.run ttok 3 rfl ?_
             by_cases hg97:(decide ((x0.Data.length:Int)≥1))=true
             ·skip
              rw [if_pos hg97] at hm
              refine RW.know 90 rfl (congrArg Value.bool hg97) ?_
              refine RW.run ttok 1 rfl ?_
              refine RW.load1 ttok rfl rfl rfl rfl rfl ((b.bring 0 rfl).box) 3 rfl rfl rfl rfl ?_
              refine RW.run ttok 4 rfl ?_
              by_cases hg98:(decide ((x0.Data.length:Int)≤4))=true
              ·skip
               rw [if_pos hg98] at hm
               refine RW.know 96 rfl (congrArg Value.bool hg98) ?_
               refine RW.run ttok 3 rfl ?_
               refine RW.nil ?_
               exact⟨!X0,[(3,.bool (x0.Value == 0)),(4,.bool (!X0))],⟨rfl,rfl,trivial⟩,hm,(Ext.refl _),(b.taken 0),rfl⟩
              ·skip
               rw [if_neg hg98] at hm
               refine RW.know 96 rfl (congrArg Value.bool (Bool.eq_false_iff.2 hg98)) ?_
               refine RW.run ttok 3 rfl ?_
               refine RW.nil ?_
               exact⟨false,[(3,.bool (x0.Value == 0)),(4,.bool false)],⟨rfl,rfl,trivial⟩,hm,(Ext.refl _),(b.taken 0),rfl⟩
             ·skip
              rw [if_neg hg97] at hm
              refine RW.know 90 rfl (congrArg Value.bool (Bool.eq_false_iff.2 hg97)) ?_
              refine RW.run ttok 9 rfl ?_
              refine RW.nil ?_
              exact⟨false,[(3,.bool (x0.Value == 0)),(4,.bool false)],⟨rfl,rfl,trivial⟩,hm,(Ext.refl _),(b.taken 0),rfl⟩
           ·skip
            rw [if_neg (zC hc)] at hm
            refine WP.seq ?_
            refine WP.region ?_
            refine RW.run ttok 2 rfl ?_
            refine RW.nil ?_
            refine WP.cut (fun(o0:Bool × Bool) F w9=>z1P fuel o0=some r∧Ext e0 w9∧St w w9 []∧F=[(3,.bool o0.1),(4,.bool o0.2)]) ?_ ?_
            ·skip
             rintro o0 F e2 ⟨hm,r0,E0,rfl⟩
             unfold z1P at hm
             exact⟨(o0.1,o0.2),[(3,.bool o0.1),(4,.bool o0.2)],⟨rfl,rfl,trivial⟩,hm,r0,E0,rfl⟩
            ·skip
             refine WP.cond (x0.Kind == 11) rfl (fun hc=>?_) (fun hc=>?_)
             ·skip
              rw [if_pos hc] at hm
              refine WP.cut (fun(c0:Bool) F w9=>z1O fuel x0 c0=some r∧Ext e0 w9∧St w w9 []∧F=[(3,.bool (x0.Value == 0)),(4,.bool c0)]) ?_ ?_
              ·skip
               rintro c0 F f2 ⟨hm,t0,F0,rfl⟩
               unfold z1O at hm
               exact⟨((x0.Value == 0),c0),[(3,.bool (x0.Value == 0)),(4,.bool c0)],⟨rfl,rfl,trivial⟩,hm,t0,F0,rfl⟩
              ·skip
               refine WP.region ?_
               refine RW.run ttok 1 rfl ?_
               refine RW.load1 ttok rfl rfl rfl rfl rfl ((b.bring 0 rfl).box) 3 rfl rfl rfl rfl ?_
               refine RW.run ttok 3 rfl ?_
               by_cases hg109:((x0.Data.length:Int) == 2)=true
               ·skip
                rw [if_pos hg109] at hm
                refine RW.know 105 rfl (congrArg Value.bool hg109) ?_
                refine RW.run ttok 3 rfl ?_
                refine RW.nil ?_
                exact⟨!X0,[(3,.bool (x0.Value == 0)),(4,.bool (!X0))],⟨rfl,rfl,trivial⟩,hm,(Ext.refl _),(b.taken 0),rfl⟩
               ·skip
                rw [if_neg hg109] at hm
                refine RW.know 105 rfl (congrArg Value.bool (Bool.eq_false_iff.2 hg109)) ?_
                refine RW.run ttok 3 rfl ?_
                refine RW.nil ?_
                exact⟨false,[(3,.bool (x0.Value == 0)),(4,.bool false)],⟨rfl,rfl,trivial⟩,hm,(Ext.refl _),(b.taken 0),rfl⟩
             ·skip
              rw [if_neg (zC hc)] at hm
              refine WP.seq ?_
              refine WP.region ?_
              refine RW.run ttok 2 rfl ?_
              refine RW.nil ?_
              refine WP.cut (fun(d0:Bool) F w9=>z1F fuel x0 d0=some r∧Ext e0 w9∧St w w9 []∧F=[(3,.bool d0),(4,.bool ((x0.Data.length:Int) == 0))]) ?_ ?_
              ·skip
               rintro d0 F i2 ⟨hm,u0,G0,rfl⟩
               unfold z1F at hm
               exact⟨(d0,((x0.Data.length:Int) == 0)),[(3,.bool d0),(4,.bool ((x0.Data.length:Int) == 0))],⟨rfl,rfl,trivial⟩,hm,u0,G0,rfl⟩
              ·skip
               refine WP.cond (x0.Kind == 12) rfl (fun hc=>?_) (fun hc=>?_)
               ·skip
                rw [if_pos hc] at hm
                refine WP.region ?_
                refine RW.run ttok 1 rfl ?_
                refine RW.load1 ttok rfl rfl rfl rfl rfl ((b.bring 0 rfl).box) 2 rfl rfl rfl rfl ?_
                obtain⟨R0,M0,hm⟩:=bind_some hm
                refine RW.call rfl rfl rfl z9c (z5o (hE.trans b.ext)  M0) (fun Y1 j2 v0=>?_)
                obtain⟨rfl,f0⟩:=v0
                have H0:=b.join f0
                refine RW.run ttok 1 rfl ?_
                refine RW.nil ?_
                exact⟨R0,[(3,.bool R0),(4,.bool ((x0.Data.length:Int) == 0))],⟨rfl,rfl,trivial⟩,hm,f0.ext,(H0.taken 0),rfl⟩
               ·skip
                rw [if_neg (zC hc)] at hm
                refine WP.skip ?_
                exact⟨(x0.Value == 0),[(3,.bool (x0.Value == 0)),(4,.bool ((x0.Data.length:Int) == 0))],⟨rfl,rfl,trivial⟩,hm,(Ext.refl _),(b.taken 0),rfl⟩
 ·skip
  refine WP.drawnM 0 mixed 27 (by kernel_rfl) (by kernel_rfl) [([],134217727),([0],134217726),([1],134217725),([2],134217723),([3],134217719),([4],134217711),([5,4],134217679),([4],134217711),([7,4],134217583),([4],134217711),([9,4],134217199),([10,4],134216687),([8,11,4,4],134215407),([6,12,12,4],134213551),([4],134217711),([14,4],134201327),([15,4],134184943),([13,16,4],134143983),([4,17],134086639),([18,13],133955583),([19],133693439),([20,19],132644863),([19],133693439),([22,19],129499135),([21,23,19,19],123207679),([24,19],116916223),([19,25],100139007)] (by kernel_rfl) d.ext (fun hsk122=>?_)
  have Y:=d.step (Ext.draw _)
  refine DM.run (fuel:=26) ttok hsk122 [0] 1 (by kernel_rfl) (by kernel_rfl) rfl ?_
  refine DM.load1 ttok hsk122 1 3 (by kernel_rfl) (by kernel_rfl) (by kernel_rfl) (by kernel_rfl) rfl (by kernel_rfl) rfl rfl rfl rfl rfl ((d.bring 0 rfl).box) 4 rfl rfl rfl rfl ?_
  refine DM.run (fuel:=22) ttok hsk122 [2,3,4] 31 (by kernel_rfl) (by kernel_rfl) rfl ?_
  refine DM.weak [(1,.pointer (some ⟨H,0,none⟩)),(10,.bool ((x0.Ports.length:Int) == 0))] ⟨rfl,rfl,trivial⟩ ?_
  by_cases hg124:((x0.Ports.length:Int) == 0)=true
  ·skip
   rw [if_pos hg124] at hm
   refine DM.know 10 rfl (congrArg Value.bool hg124) ?_
   refine DM.run (fuel:=0) ttok hsk122 [5,6,7,8,9,10,11,12,13,14,15,16,17,18,19,20,21,22,23,24,25,26] 134217727 (by kernel_rfl) (by kernel_rfl) rfl ?_
   refine DM.weak [(1,.pointer (some ⟨H,0,none⟩)),(32,.bool true)] ⟨rfl,rfl,trivial⟩ ?_
   refine DM.done hsk122 (by kernel_rfl) ?_
   exact⟨true,[(1,.pointer (some ⟨H,0,none⟩)),(32,.bool true)],⟨rfl,rfl,trivial⟩,hm,(Ext.draw _),Y,rfl⟩
  ·skip
   rw [if_neg hg124] at hm
   refine DM.know 10 rfl (congrArg Value.bool (Bool.eq_false_iff.2 hg124)) ?_
   refine DM.run (fuel:=18) ttok hsk122 [5,7,9,14] 17087 (by kernel_rfl) (by kernel_rfl) rfl ?_
   refine DM.load1 ttok hsk122 6 17151 (by kernel_rfl) (by kernel_rfl) (by kernel_rfl) (by kernel_rfl) rfl (by kernel_rfl) rfl rfl rfl rfl rfl ((d.bring 0 rfl).box) 0 rfl rfl rfl rfl ?_
   refine DM.load1 ttok hsk122 8 17407 (by kernel_rfl) (by kernel_rfl) (by kernel_rfl) (by kernel_rfl) rfl (by kernel_rfl) rfl rfl rfl rfl rfl ((d.bring 0 rfl).box) 0 rfl rfl rfl rfl ?_
   refine DM.load1 ttok hsk122 10 18431 (by kernel_rfl) (by kernel_rfl) (by kernel_rfl) (by kernel_rfl) rfl (by kernel_rfl) rfl rfl rfl rfl rfl ((d.bring 0 rfl).box) 4 rfl rfl rfl rfl ?_
   refine DM.run (fuel:=14) ttok hsk122 [11] 20479 (by kernel_rfl) (by kernel_rfl) rfl ?_
   refine DM.load1 ttok hsk122 15 53247 (by kernel_rfl) (by kernel_rfl) (by kernel_rfl) (by kernel_rfl) rfl (by kernel_rfl) rfl rfl rfl rfl rfl ((d.bring 0 rfl).box) 4 rfl rfl rfl rfl ?_
   refine DM.run (fuel:=12) ttok hsk122 [16] 118783 (by kernel_rfl) (by kernel_rfl) rfl ?_
   refine DM.weak [(1,.pointer (some ⟨H,0,none⟩)),(10,.bool false),(12,.int .i64 x0.Kind),(14,.int .i64 x0.Kind),(17,.int .i64 (x0.Ports.length:Int)),(22,.int .i64 (x0.Ports.length:Int))] ⟨rfl,rfl,rfl,rfl,rfl,rfl,trivial⟩ ?_
   obtain⟨W1,N0,hm⟩:=bind_some hm
   refine DM.one hsk122 12 (by kernel_rfl) (LM.call hsk122 122879 (by kernel_rfl) (by kernel_rfl) rfl rfl rfl rfl zbp (z6U (hE.trans Y.ext)  N0) (fun a2 m2 y0=>?_))
   obtain⟨rfl,y⟩:=y0
   refine⟨y.ext,?_⟩
   have g0:=Y.join y
   obtain⟨S0,O0,hm⟩:=bind_some hm
   refine DM.one hsk122 13 (by kernel_rfl) (LM.call hsk122 131071 (by kernel_rfl) (by kernel_rfl) rfl rfl rfl rfl zbq (z7F (hE.trans g0.ext)  O0) (fun b2 n2 A0=>?_))
   obtain⟨rfl,G⟩:=A0
   refine⟨G.ext,?_⟩
   have a0:=g0.join G
   refine DM.run (fuel:=7) ttok hsk122 [17,18,19] 1048575 (by kernel_rfl) (by kernel_rfl) rfl ?_
   refine DM.weak [(1,.pointer (some ⟨H,0,none⟩)),(25,.bool (S0 != (x0.Ports.length:Int)))] ⟨rfl,rfl,trivial⟩ ?_
   by_cases hg139:(S0 != (x0.Ports.length:Int))=true
   ·skip
    rw [if_pos hg139] at hm
    refine DM.know 25 rfl (congrArg Value.bool hg139) ?_
    refine DM.run (fuel:=0) ttok hsk122 [20,21,22,23,24,25,26] 134217727 (by kernel_rfl) (by kernel_rfl) rfl ?_
    refine DM.weak [(1,.pointer (some ⟨H,0,none⟩)),(32,.bool true)] ⟨rfl,rfl,trivial⟩ ?_
    refine DM.done hsk122 (by kernel_rfl) ?_
    exact⟨true,[(1,.pointer (some ⟨H,0,none⟩)),(32,.bool true)],⟨rfl,rfl,trivial⟩,hm,(((Ext.draw _).trans y.ext).trans G.ext),a0,rfl⟩
   ·skip
    rw [if_neg hg139] at hm
    refine DM.know 25 rfl (congrArg Value.bool (Bool.eq_false_iff.2 hg139)) ?_
    refine DM.run (fuel:=5) ttok hsk122 [20,22] 6291455 (by kernel_rfl) (by kernel_rfl) rfl ?_
    refine DM.load1 ttok hsk122 21 8388607 (by kernel_rfl) (by kernel_rfl) (by kernel_rfl) (by kernel_rfl) rfl (by kernel_rfl) rfl rfl rfl rfl rfl ((d.bring 0 rfl).box) 0 rfl rfl rfl rfl ?_
    refine DM.load1 ttok hsk122 23 16777215 (by kernel_rfl) (by kernel_rfl) (by kernel_rfl) (by kernel_rfl) rfl (by kernel_rfl) rfl rfl rfl rfl rfl ((d.bring 0 rfl).box) 1 rfl rfl rfl rfl ?_
    obtain⟨q0,P0,hm⟩:=bind_some hm
    refine DM.one hsk122 24 (by kernel_rfl) (LM.call hsk122 33554431 (by kernel_rfl) (by kernel_rfl) rfl rfl rfl rfl zbo (z6F (hE.trans a0.ext)  P0) (fun d2 o2 B0=>?_))
    obtain⟨rfl,O⟩:=B0
    refine⟨O.ext,?_⟩
    have J0:=a0.join O
    refine DM.run (fuel:=0) ttok hsk122 [25,26] 134217727 (by kernel_rfl) (by kernel_rfl) rfl ?_
    refine DM.weak [(1,.pointer (some ⟨H,0,none⟩)),(32,.bool (!q0))] ⟨rfl,rfl,trivial⟩ ?_
    refine DM.done hsk122 (by kernel_rfl) ?_
    exact⟨!q0,[(1,.pointer (some ⟨H,0,none⟩)),(32,.bool (!q0))],⟨rfl,rfl,trivial⟩,hm,((((Ext.draw _).trans y.ext).trans G.ext).trans O.ext),J0,rfl⟩

end Go.E


