/- Models of functions and proofs that the code runs as they say (written by program). Conditions: the model gives a value. -/
import Derived.Test.YtngggnjnenfgbaaGreatDoorFA
namespace Go.E
open Go.RowKit Go.Proofs
set_option linter.unusedVariables false
set_option linter.unusedSimpArgs false
set_option maxHeartbeats 2000000

theorem zcz:Enters Tryz.prog 42:=⟨_,_,Tryz.func42,rfl,by kernel_rfl⟩
def z56 (fuel:Nat) (b:Unit):Option Bool:=some true
def z28 (fuel:Nat) (b:Int) (d:Bool):Option (Rd (Int) (Unit) (Bool)):=(if d=true then some (.ret false) else some (.next (w64 (b+1))))
def z38 (fuel:Nat) (x0:(List D.Agent)) (b:Int):Option (Rd (Int) (Unit) (Bool)):=(if(decide (b<(x0.length:Int)))=true then((idx x0 b).bind fun o=>((z29 fuel o).bind fun d=>(if(!d)=true then z28 fuel b true else((idx x0 b).bind fun y=>z28 fuel b (!((y.Kind == 1) == (b == 0))))))) else some (.brk ()))
def z3e (fuel:Nat) (x0:(List D.Agent)):Option (Bool):=((zG fuel (x0.length:Int) 1 600).bind fun r1=>(if(!r1)=true then some false else((iter (z38 fuel x0) fuel 0).bind fun o=>aft o (z56 fuel))))

set_option maxRecDepth 100000 in
theorem z6y {W:Base}{w:World}(hE:Ext W w){G:Option Addr}{H:Nat}{x0:(List D.Agent)}(u0:ty29.ro W [.slice G x0.length H] x0){fuel:Nat}{r:Bool}(hm:z3e fuel x0=some r):
  Calls Tryz.prog 42 ⟨[.slice G x0.length H]⟩ w (Ret fun v w8=>v=.bool r∧St w w8 []):=by
 refine Calls.into Tryz.func42 rfl 30 rfl rfl _ rfl ?_
 unfold z3e at hm
 have hS:=St.start w
 refine WP.seq ?_
 refine WP.region ?_
 refine RW.run ttok 1 rfl ?_
 refine RW.nil ?_
 refine WP.seq ?_
 refine WP.seq ?_
 refine WP.region ?_
 refine RW.run ttok 2 rfl ?_
 obtain⟨r1,J0,hm⟩:=bind_some hm
 refine RW.call rfl rfl rfl z3w (zU (hE.trans hS.ext)  J0) (fun v3 w4 G0=>?_)
 obtain⟨rfl,H0⟩:=G0
 have v0:=hS.join H0
 refine RW.run ttok 1 rfl ?_
 refine RW.nil ?_
 refine WP.cond (!r1) rfl (fun hc=>?_) (fun hc=>?_)
 ·skip
  rw [if_pos hc] at hm
  refine WP.seq ?_
  refine WP.region ?_
  refine RW.run ttok 1 rfl ?_
  refine RW.nil ?_
  refine WP.ret ?_
  cases hm
  exact⟨_,.cons (.tmp rfl) .nil,rfl,v0⟩
 ·skip
  rw [if_neg (zC hc)] at hm
  refine WP.skip ?_
  refine WP.seq ?_
  refine WP.seq ?_
  refine WP.region ?_
  refine RW.run ttok 1 rfl ?_
  refine RW.nil ?_
  obtain⟨K0,p0,hm⟩:=bind_some hm
  refine WP.cut (fun(y0:Unit) F w9=>K0=.inl y0∧Ext w4 w9∧St w w9 []∧F=[]) ?_ ?_
  ·skip
   rintro y0 F i1 ⟨q0,F0,j0,rfl⟩
   subst q0
   rw [zx] at hm
   unfold z56 at hm
   refine WP.seq ?_
   refine WP.region ?_
   refine RW.run ttok 1 rfl ?_
   refine RW.nil ?_
   refine WP.ret ?_
   cases hm
   exact⟨_,.cons (.tmp rfl) .nil,rfl,j0⟩
  ·skip
   refine WP.block ?_
   refine WP.weak [(0,.slice G x0.length H),(3,.int .i64 0)] ⟨rfl,rfl,trivial⟩ ?_
   refine WP.iter (fun(d:Int) F w9=>Ext w4 w9∧St w w9 []∧F=[(0,.slice G x0.length H),(3,.int .i64 d)]) _ p0 ⟨(Ext.refl _),v0,rfl⟩ ?_
   rintro d F O0 _ M0 ⟨Y,o,rfl⟩ b b0
   unfold z38 at b
   refine WP.seq ?_
   refine WP.seq ?_
   refine WP.region ?_
   refine RW.run ttok 4 rfl ?_
   refine RW.nil ?_
   refine WP.cond (decide (d<(x0.length:Int))) rfl (fun hc=>?_) (fun hc=>?_)
   ·skip
    rw [if_pos hc] at b
    refine WP.skip ?_
    refine WP.seq ?_
    refine WP.block ?_
    refine WP.seq ?_
    refine WP.cut (fun(f0:Bool) F w9=>z28 fuel d f0=some M0∧Ext O0 w9∧St w w9 []∧F=[(0,.slice G x0.length H),(3,.int .i64 d),(29,.bool f0)]) ?_ ?_
    ·skip
     rintro f0 F j1 ⟨b,g0,a0,rfl⟩
     unfold z28 at b
     refine WP.cond f0 rfl (fun hc=>?_) (fun hc=>?_)
     ·skip
      rw [if_pos hc] at b
      refine WP.seq ?_
      refine WP.region ?_
      refine RW.run ttok 1 rfl ?_
      refine RW.nil ?_
      refine WP.ret ?_
      cases b
      cases b0
      have hm:some _=some _:=hm
      cases hm
      exact⟨_,.cons (.tmp rfl) .nil,rfl,a0⟩
     ·skip
      rw [if_neg (zC hc)] at b
      refine WP.skip ?_
      refine WP.region ?_
      refine RW.run ttok 3 rfl ?_
      refine RW.nil ?_
      cases b
      exact⟨_,[(0,.slice G x0.length H),(3,.int .i64 (w64 (d+1)))],⟨rfl,rfl,trivial⟩,rfl,(Y.trans g0),a0,rfl⟩
    ·skip
     refine WP.region ?_
     refine RW.run ttok 2 rfl ?_
     obtain⟨m1,d0,b⟩:=bind_some b
     refine RW.idx ttok (hE.trans o.ext) rfl rfl rfl rfl rfl rfl (by decide) rfl rfl u0 (z6 d0).1 (z6 d0).2 rfl rfl (fun e1 D0 k0 c0=>?_)
     obtain⟨P0,Y0,Q0,a1,B0,T0,U0⟩:=zB c0;subst B0
     obtain⟨N0,t0,b⟩:=bind_some b
     refine RW.call rfl rfl rfl zcr (z6Q (hE.trans o.ext) c0 k0 t0) (fun g1 k1 i0=>?_)
     obtain⟨rfl,O⟩:=i0
     have y:=o.join O
     refine RW.run ttok 2 rfl ?_
     by_cases hg51:(!N0)=true
     ·skip
      rw [if_pos hg51] at b
      refine RW.know 19 rfl (congrArg Value.bool hg51) ?_
      refine RW.run ttok 10 rfl ?_
      refine RW.nil ?_
      exact⟨true,[(0,.slice G x0.length H),(3,.int .i64 d),(29,.bool true)],⟨rfl,rfl,rfl,trivial⟩,b,O.ext,y,rfl⟩
     ·skip
      rw [if_neg hg51] at b
      refine RW.know 19 rfl (congrArg Value.bool (Bool.eq_false_iff.2 hg51)) ?_
      refine RW.run ttok 2 rfl ?_
      obtain⟨A0,e0,b⟩:=bind_some b
      refine RW.idx ttok (hE.trans y.ext) rfl rfl rfl rfl rfl rfl (by decide) rfl rfl u0 (z6 e0).1 (z6 e0).2 rfl rfl (fun f1 E0 o0 r0=>?_)
      obtain⟨R0,b1,S0,d1,C0,V0,X0⟩:=zB r0;subst C0
      refine RW.run ttok 1 rfl ?_
      refine RW.load1 ttok rfl rfl rfl rfl rfl (At.ext (hE.trans y.ext) o0) 0 rfl rfl rfl rfl ?_
      refine RW.run ttok 5 rfl ?_
      refine RW.nil ?_
      exact⟨!((A0.Kind == 1) == (d == 0)),[(0,.slice G x0.length H),(3,.int .i64 d),(29,.bool (!((A0.Kind == 1) == (d == 0))))],⟨rfl,rfl,rfl,trivial⟩,b,O.ext,y,rfl⟩
   ·skip
    rw [if_neg (zC hc)] at b
    refine WP.exit ?_
    cases b
    exact⟨_,[],trivial,b0,Y,o,rfl⟩

theorem zcy:Enters Tryz.prog 43:=⟨_,_,Tryz.func43,rfl,by kernel_rfl⟩
def z41 (fuel:Nat) (x0:(List D.Agent)) (x1:D.Port):Option (Bool):=((zG fuel x1.Agent 0 (w64 ((x0.length:Int) - 1))).bind fun b=>(if b=true then((idx x0 x1.Agent).bind fun o=>((zG fuel x1.Slot 0 (w64 ((o.Ports.length:Int) - 1))).bind fun d=>some d)) else some false))

set_option maxRecDepth 100000 in
theorem z7f {W:Base}{w:World}(hE:Ext W w){H:Option Addr}{f0:Nat}{x0:(List D.Agent)}{g0:List Value}{x1:D.Port}(p0:ty29.ro W [.slice H x0.length f0] x0) (q0:ty87.ro W g0 x1){fuel:Nat}{r:Bool}(hm:z41 fuel x0 x1=some r):
  Calls Tryz.prog 43 ⟨[.slice H x0.length f0,.agg ⟨g0⟩]⟩ w (Ret fun v w8=>v=.bool r∧St w w8 []):=by
 have e1:=zV q0;subst e1
 refine Calls.into Tryz.func43 rfl 24 rfl rfl _ rfl ?_
 unfold z41 at hm
 have hS:=St.start w
 refine WP.seq ?_
 refine WP.region ?_
 refine RW.new ttok hS rfl rfl rfl rfl (fun g2 w3 e4 d=>?_)
 refine RW.run ttok 1 rfl ?_
 refine RW.nil ?_
 refine WP.seq ?_
 refine WP.drawnM 0 mixed 20 (by kernel_rfl) (by kernel_rfl) [([],1048575),([0],1048574),([],1048575),([2],1048571),([3],1048567),([1,4],1048557),([5,5],1048543),([6],1048511),([7,6],1048383),([6],1048511),([6],1048511),([10,6],1047487),([9,11,6],1045951),([12,6],1044415),([13,6],1040319),([14,6],1032127),([15,6],1015743),([8,16,6,6],982719),([6,17],917439),([18,17,0,1,2,3,4,5,6,7,8,9,10,11,12,13,14,15,16,17,18],786431)] (by kernel_rfl) d.ext (fun hsk6=>?_)
 have i0:=d.step (Ext.draw _)
 refine DM.run (fuel:=16) ttok hsk6 [0,2,3,4] 29 (by kernel_rfl) (by kernel_rfl) rfl ?_
 refine DM.load1 ttok hsk6 1 31 (by kernel_rfl) (by kernel_rfl) (by kernel_rfl) (by kernel_rfl) rfl (by kernel_rfl) rfl rfl rfl rfl rfl ((d.bring 0 rfl).box) 0 rfl rfl rfl rfl ?_
 obtain⟨j0,d0,hm⟩:=bind_some hm
 refine DM.one hsk6 5 (by kernel_rfl) (LM.call hsk6 63 (by kernel_rfl) (by kernel_rfl) rfl rfl rfl rfl z3w (zU (hE.trans i0.ext)  d0) (fun D0 F0 O=>?_))
 obtain⟨rfl,o⟩:=O
 refine⟨o.ext,?_⟩
 have b:=i0.join o
 refine DM.run (fuel:=13) ttok hsk6 [6] 127 (by kernel_rfl) (by kernel_rfl) rfl ?_
 refine DM.weak [(0,.slice H x0.length f0),(3,.pointer (some ⟨g2,0,none⟩)),(4,.bool false),(11,.bool j0)] ⟨rfl,rfl,rfl,rfl,trivial⟩ ?_
 by_cases hg17:j0=true
 ·skip
  rw [if_pos hg17] at hm
  refine DM.know 11 rfl (congrArg Value.bool hg17) ?_
  refine DM.run (fuel:=10) ttok hsk6 [7,9,10] 1791 (by kernel_rfl) (by kernel_rfl) rfl ?_
  refine DM.load1 ttok hsk6 8 2047 (by kernel_rfl) (by kernel_rfl) (by kernel_rfl) (by kernel_rfl) rfl (by kernel_rfl) rfl rfl rfl rfl rfl ((d.bring 0 rfl).box) 1 rfl rfl rfl rfl ?_
  refine DM.load1 ttok hsk6 11 4095 (by kernel_rfl) (by kernel_rfl) (by kernel_rfl) (by kernel_rfl) rfl (by kernel_rfl) rfl rfl rfl rfl rfl ((d.bring 0 rfl).box) 0 rfl rfl rfl rfl ?_
  obtain⟨H0,G,hm⟩:=bind_some hm
  refine DM.idx ttok (hE.trans d.ext) hsk6 12 8191 (by kernel_rfl) (by kernel_rfl) (by kernel_rfl) (by kernel_rfl) rfl (by kernel_rfl) rfl rfl rfl rfl rfl rfl (by decide) rfl rfl p0 (z6 G).1 (z6 G).2 rfl rfl (fun r0 o0 b0 c0=>?_)
  obtain⟨u0,B0,v0,C0,k0,y0,A0⟩:=zB c0;subst k0
  refine DM.run (fuel:=6) ttok hsk6 [13] 16383 (by kernel_rfl) (by kernel_rfl) rfl ?_
  refine DM.weak [(4,.bool false),(11,.bool true),(13,.int .i64 x1.Slot),(18,.pointer (some (r0.add 4)))] ⟨rfl,rfl,rfl,rfl,trivial⟩ ?_
  refine DM.load1 ttok hsk6 14 32767 (by kernel_rfl) (by kernel_rfl) (by kernel_rfl) (by kernel_rfl) rfl (by kernel_rfl) rfl rfl rfl rfl rfl (At.ext (hE.trans d.ext) b0) 4 rfl rfl rfl rfl ?_
  refine DM.run (fuel:=3) ttok hsk6 [15,16] 131071 (by kernel_rfl) (by kernel_rfl) rfl ?_
  obtain⟨t0,e0,hm⟩:=bind_some hm
  refine DM.one hsk6 17 (by kernel_rfl) (LM.call hsk6 262143 (by kernel_rfl) (by kernel_rfl) rfl rfl rfl rfl z3w (zU (hE.trans b.ext)  e0) (fun E0 G0 Y=>?_))
  obtain⟨rfl,y⟩:=Y
  refine⟨y.ext,?_⟩
  have a0:=b.join y
  refine DM.run (fuel:=0) ttok hsk6 [18,19] 1048575 (by kernel_rfl) (by kernel_rfl) rfl ?_
  refine DM.weak [(4,.bool t0)] ⟨rfl,trivial⟩ ?_
  refine DM.done hsk6 (by kernel_rfl) ?_
  refine WP.ret ?_
  cases hm
  exact⟨_,.cons (.tmp rfl) .nil,rfl,(a0.taken 0)⟩
 ·skip
  rw [if_neg hg17] at hm
  refine DM.know 11 rfl (congrArg Value.bool (Bool.eq_false_iff.2 hg17)) ?_
  refine DM.run (fuel:=0) ttok hsk6 [7,8,9,10,11,12,13,14,15,16,17,18,19] 1048575 (by kernel_rfl) (by kernel_rfl) rfl ?_
  refine DM.weak [(4,.bool false)] ⟨rfl,trivial⟩ ?_
  refine DM.done hsk6 (by kernel_rfl) ?_
  refine WP.ret ?_
  cases hm
  exact⟨_,.cons (.tmp rfl) .nil,rfl,(b.taken 0)⟩

theorem zcH:Enters Tryz.prog 26:=⟨_,_,Tryz.func26,rfl,by kernel_rfl⟩
def z5Z (fuel:Nat) (b:Unit):Option Bool:=some true
def z5Y (fuel:Nat) (b:Int) (d:Unit):Option (Rd (Int) (Unit) (Bool)):=some (.next (w64 (b+1)))
def z2Q (fuel:Nat) (b:Int) (d:Bool):Option (Rd (Int) (Unit) (Rd (Int) (Unit) (Bool))):=(if d=true then some (.ret (.ret false)) else some (.next (w64 (b+1))))
def z4q (fuel:Nat) (x0:D.Net) (y:Int) (G:D.Agent) (b:Int):Option (Rd (Int) (Unit) (Rd (Int) (Unit) (Bool))):=(if(decide (b<(G.Ports.length:Int)))=true then((idx G.Ports b).bind fun o=>(if(((o.Agent:Int) == y) && (((o.Slot:Int) == b) && true))=true then z2Q fuel b true else((z41 fuel x0.Agents o).bind fun H=>(if(!H)=true then z2Q fuel b true else((idx x0.Agents o.Agent).bind fun O=>((idx O.Ports o.Slot).bind fun d=>z2Q fuel b (!(((d.Agent:Int) == y) && (((d.Slot:Int) == b) && true))))))))) else some (.brk ()))
def z4r (fuel:Nat) (x0:D.Net) (b:Int):Option (Rd (Int) (Unit) (Bool)):=(if(decide (b<(x0.Agents.length:Int)))=true then((idx x0.Agents b).bind fun d=>((iter (z4q fuel x0 b d) fuel 0).bind fun o=>aft o (z5Y fuel b))) else some (.brk ()))
def z4L (fuel:Nat) (x0:D.Net):Option (Bool):=((z3e fuel x0.Agents).bind fun r5=>(if(!r5)=true then some false else((iter (z4r fuel x0) fuel 0).bind fun o=>aft o (z5Z fuel))))

set_option maxRecDepth 100000 in
theorem z8h {W:Base}{w:World}(hE:Ext W w){G:Addr}{f1:List Value}{x0:D.Net}(y1:ty31.ro W f1 x0) (g0:At W G f1){fuel:Nat}{r:Bool}(hm:z4L fuel x0=some r):
  Calls Tryz.prog 26 ⟨[.pointer (some G)]⟩ w (Ret fun v w8=>v=.bool r∧St w w8 []):=by
 obtain⟨A1,k2,e4,h3⟩:=z1C y1;subst e4
 refine Calls.into Tryz.func26 rfl 77 rfl rfl _ rfl ?_
 unfold z4L at hm
 have hS:=St.start w
 refine WP.seq ?_
 refine WP.region ?_
 refine RW.run ttok 1 rfl ?_
 refine RW.nil ?_
 refine WP.seq ?_
 refine WP.seq ?_
 refine WP.region ?_
 refine RW.run ttok 3 rfl ?_
 refine RW.load1 ttok rfl rfl rfl rfl rfl (At.ext (hE.trans hS.ext) g0) 0 rfl rfl rfl rfl ?_
 obtain⟨r5,D1,hm⟩:=bind_some hm
 refine RW.call rfl rfl rfl zcz (z6y (hE.trans hS.ext) h3 D1) (fun v7 b2 H0=>?_)
 obtain⟨rfl,J0⟩:=H0
 have i0:=hS.join J0
 refine RW.run ttok 1 rfl ?_
 refine RW.nil ?_
 refine WP.cond (!r5) rfl (fun hc=>?_) (fun hc=>?_)
 ·skip
  rw [if_pos hc] at hm
  refine WP.seq ?_
  refine WP.region ?_
  refine RW.run ttok 1 rfl ?_
  refine RW.nil ?_
  refine WP.ret ?_
  cases hm
  exact⟨_,.cons (.tmp rfl) .nil,rfl,i0⟩
 ·skip
  rw [if_neg (zC hc)] at hm
  refine WP.skip ?_
  refine WP.seq ?_
  refine WP.seq ?_
  refine WP.region ?_
  refine RW.run ttok 1 rfl ?_
  refine RW.nil ?_
  obtain⟨F1,U0,hm⟩:=bind_some hm
  refine WP.cut (fun(j1:Unit) F w9=>F1=.inl j1∧St w w9 []∧F=[]) ?_ ?_
  ·skip
   rintro j1 F d2 ⟨X0,M0,rfl⟩
   subst X0
   rw [zx] at hm
   unfold z5Z at hm
   refine WP.seq ?_
   refine WP.region ?_
   refine RW.run ttok 1 rfl ?_
   refine RW.nil ?_
   refine WP.ret ?_
   cases hm
   exact⟨_,.cons (.tmp rfl) .nil,rfl,M0⟩
  ·skip
   refine WP.block ?_
   refine WP.weak [(0,.pointer (some G)),(3,.int .i64 0)] ⟨rfl,rfl,trivial⟩ ?_
   refine WP.iter (fun(y:Int) F w9=>St w w9 []∧F=[(0,.pointer (some G)),(3,.int .i64 y)]) _ U0 ⟨i0,rfl⟩ ?_
   rintro y F e2 _ X1 ⟨a0,rfl⟩ o q0
   unfold z4r at o
   refine WP.seq ?_
   refine WP.seq ?_
   refine WP.region ?_
   refine RW.run ttok 4 rfl ?_
   refine RW.load1 ttok rfl rfl rfl rfl rfl (At.ext (hE.trans a0.ext) g0) 0 rfl rfl rfl rfl ?_
   refine RW.run ttok 2 rfl ?_
   refine RW.nil ?_
   refine WP.cond (decide (y<(x0.Agents.length:Int))) rfl (fun hc=>?_) (fun hc=>?_)
   ·skip
    rw [if_pos hc] at o
    refine WP.skip ?_
    refine WP.seq ?_
    refine WP.block ?_
    refine WP.seq ?_
    refine WP.region ?_
    refine RW.run ttok 3 rfl ?_
    refine RW.load1 ttok rfl rfl rfl rfl rfl (At.ext (hE.trans a0.ext) g0) 0 rfl rfl rfl rfl ?_
    refine RW.run ttok 1 rfl ?_
    obtain⟨M1,u0,o⟩:=bind_some o
    refine RW.idx ttok (hE.trans a0.ext) rfl rfl rfl rfl rfl rfl (by decide) rfl rfl h3 (z6 u0).1 (z6 u0).2 rfl rfl (fun O t1 p0 a1=>?_)
    obtain⟨N1,U1,O1,V1,n1,S1,B1⟩:=zB a1;subst n1
    refine RW.run ttok 1 rfl ?_
    refine RW.nil ?_
    refine WP.seq ?_
    refine WP.region ?_
    refine RW.run ttok 1 rfl ?_
    refine RW.nil ?_
    obtain⟨G1,V0,o⟩:=bind_some o
    refine WP.cut (fun(k1:Unit) F w9=>G1=.inl k1∧St w w9 []∧F=[(0,.pointer (some G)),(3,.int .i64 y)]) ?_ ?_
    ·skip
     rintro k1 F f2 ⟨Y0,N0,rfl⟩
     subst Y0
     rw [zx] at o
     unfold z5Y at o
     refine WP.region ?_
     refine RW.run ttok 3 rfl ?_
     refine RW.nil ?_
     cases o
     exact⟨_,[(0,.pointer (some G)),(3,.int .i64 (w64 (y+1)))],⟨rfl,rfl,trivial⟩,rfl,N0,rfl⟩
    ·skip
     refine WP.block ?_
     refine WP.weak [(0,.pointer (some G)),(3,.int .i64 y),(4,.pointer (some O)),(5,.int .i64 0)] ⟨rfl,rfl,rfl,rfl,trivial⟩ ?_
     refine WP.iter (fun(H:Int) F w9=>St w w9 []∧F=[(0,.pointer (some G)),(3,.int .i64 y),(4,.pointer (some O)),(5,.int .i64 H)]) _ V0 ⟨a0,rfl⟩ ?_
     rintro H F g2 _ H1 ⟨e0,rfl⟩ b r0
     unfold z4q at b
     refine WP.seq ?_
     refine WP.seq ?_
     refine WP.region ?_
     refine RW.run ttok 4 rfl ?_
     refine RW.load1 ttok rfl rfl rfl rfl rfl (At.ext (hE.trans e0.ext) p0) 4 rfl rfl rfl rfl ?_
     refine RW.run ttok 2 rfl ?_
     refine RW.nil ?_
     refine WP.cond (decide (H<(M1.Ports.length:Int))) rfl (fun hc=>?_) (fun hc=>?_)
     ·skip
      rw [if_pos hc] at b
      refine WP.skip ?_
      refine WP.seq ?_
      refine WP.block ?_
      refine WP.seq ?_
      refine WP.region ?_
      refine RW.run ttok 2 rfl ?_
      refine RW.quiet rfl (Quiet.build ttok rfl rfl rfl rfl rfl) rfl rfl ?_
      refine RW.new ttok e0 rfl rfl rfl rfl (fun E0 i2 Q1 O0=>?_)
      have P0:=O0.bring 0 rfl
      refine RW.store ttok (A:=[]) P0 rfl rfl rfl rfl rfl 0 rfl rfl rfl rfl rfl (fun j2 c0=>?_)
      refine RW.nil ?_
      refine WP.seq ?_
      refine WP.region ?_
      refine RW.run ttok 3 rfl ?_
      refine RW.load1 ttok rfl rfl rfl rfl rfl (At.ext (hE.trans c0.ext) p0) 4 rfl rfl rfl rfl ?_
      refine RW.run ttok 1 rfl ?_
      obtain⟨A0,v0,b⟩:=bind_some b
      refine RW.idx ttok (hE.trans c0.ext) rfl rfl rfl rfl rfl rfl (by decide) rfl rfl B1 (z6 v0).1 (z6 v0).2 rfl rfl (fun Y1 u1 S0 b1=>?_)
      have p1:=zV b1;subst p1
      refine RW.loadN ttok rfl rfl rfl rfl rfl (At.ext (hE.trans c0.ext) S0) rfl rfl rfl ?_
      refine RW.new ttok c0 rfl rfl rfl rfl (fun F0 m2 R1 Q0=>?_)
      have R0:=Q0.bring 0 rfl
      refine RW.store ttok (A:=[]) R0 rfl rfl rfl rfl rfl 0 rfl rfl rfl rfl rfl (fun L1 d=>?_)
      refine RW.nil ?_
      refine WP.seq ?_
      refine WP.cut (fun(B0:Bool) F w9=>z2Q fuel H B0=some H1∧Ext L1 w9∧St w w9 []∧F=[(0,.pointer (some G)),(3,.int .i64 y),(4,.pointer (some O)),(5,.int .i64 H),(76,.bool B0)]) ?_ ?_
      ·skip
       rintro B0 F n2 ⟨b,C1,j0,rfl⟩
       unfold z2Q at b
       refine WP.cond B0 rfl (fun hc=>?_) (fun hc=>?_)
       ·skip
        rw [if_pos hc] at b
        refine WP.seq ?_
        refine WP.region ?_
        refine RW.run ttok 1 rfl ?_
        refine RW.nil ?_
        refine WP.ret ?_
        cases b
        cases r0
        have o:some _=some _:=o
        cases o
        cases q0
        have hm:some _=some _:=hm
        cases hm
        exact⟨_,.cons (.tmp rfl) .nil,rfl,j0⟩
       ·skip
        rw [if_neg (zC hc)] at b
        refine WP.skip ?_
        refine WP.region ?_
        refine RW.run ttok 3 rfl ?_
        refine RW.nil ?_
        cases b
        exact⟨_,[(0,.pointer (some G)),(3,.int .i64 y),(4,.pointer (some O)),(5,.int .i64 (w64 (H+1)))],⟨rfl,rfl,rfl,rfl,trivial⟩,rfl,j0,rfl⟩
      ·skip
       refine WP.drawnM 0 mixed 29 (by kernel_rfl) (by kernel_rfl) [([],536870911),([],536870911),([0,1],536870908),([2],536870907),([3],536870903),([4,3],536870887),([5,3],536870871),([6,3],536870839),([3],536870903),([7,8,3,3],536870519),([9,3],536870391),([3,10],536869879),([11,9],536868863),([12],536866815),([13,12],536858623),([14,12],536850431),([15,12],536834047),([12],536866815),([17,12],536735743),([16,18,12],536539135),([19,12],536342527),([20,12],535818239),([12],536866815),([22,12],532672511),([21,23,12],526381055),([24,12],520089599),([12],536866815),([25,26,12],436203519),([12,27],402649087)] (by kernel_rfl) d.ext (fun hsk80=>?_)
       have f0:=d.step (Ext.draw _)
       refine DM.loadN ttok hsk80 0 1 (by kernel_rfl) (by kernel_rfl) (by kernel_rfl) (by kernel_rfl) rfl (by kernel_rfl) rfl rfl rfl rfl rfl ((d.bring 0 rfl).box) rfl rfl rfl ?_
       refine DM.loadN ttok hsk80 1 3 (by kernel_rfl) (by kernel_rfl) (by kernel_rfl) (by kernel_rfl) rfl (by kernel_rfl) rfl rfl rfl rfl rfl ((d.bring 1 rfl).box) rfl rfl rfl ?_
       refine DM.run (fuel:=25) ttok hsk80 [2,3] 15 (by kernel_rfl) (by kernel_rfl) rfl ?_
       refine DM.weak [(0,.pointer (some G)),(3,.int .i64 y),(4,.pointer (some O)),(5,.int .i64 H),(6,.pointer (some ⟨E0,0,none⟩)),(7,.pointer (some ⟨F0,0,none⟩)),(51,.bool (((A0.Agent:Int) == y) && (((A0.Slot:Int) == H) && true)))] ⟨rfl,rfl,rfl,rfl,rfl,rfl,rfl,trivial⟩ ?_
       by_cases hg82:(((A0.Agent:Int) == y) && (((A0.Slot:Int) == H) && true))=true
       ·skip
        rw [if_pos hg82] at b
        refine DM.know 51 rfl (congrArg Value.bool hg82) ?_
        refine DM.run (fuel:=0) ttok hsk80 [4,5,6,7,8,9,10,11,12,13,14,15,16,17,18,19,20,21,22,23,24,25,26,27,28] 536870911 (by kernel_rfl) (by kernel_rfl) rfl ?_
        refine DM.weak [(0,.pointer (some G)),(3,.int .i64 y),(4,.pointer (some O)),(5,.int .i64 H),(76,.bool true)] ⟨rfl,rfl,rfl,rfl,rfl,trivial⟩ ?_
        refine DM.done hsk80 (by kernel_rfl) ?_
        exact⟨true,[(0,.pointer (some G)),(3,.int .i64 y),(4,.pointer (some O)),(5,.int .i64 H),(76,.bool true)],⟨rfl,rfl,rfl,rfl,rfl,trivial⟩,b,(Ext.draw _),(f0.taken 0),rfl⟩
       ·skip
        rw [if_neg hg82] at b
        refine DM.know 51 rfl (congrArg Value.bool (Bool.eq_false_iff.2 hg82)) ?_
        refine DM.run (fuel:=22) ttok hsk80 [4,5,6] 127 (by kernel_rfl) (by kernel_rfl) rfl ?_
        refine DM.load1 ttok hsk80 7 255 (by kernel_rfl) (by kernel_rfl) (by kernel_rfl) (by kernel_rfl) rfl (by kernel_rfl) rfl rfl rfl rfl rfl (At.ext (hE.trans d.ext) g0) 0 rfl rfl rfl rfl ?_
        refine DM.loadN ttok hsk80 8 511 (by kernel_rfl) (by kernel_rfl) (by kernel_rfl) (by kernel_rfl) rfl (by kernel_rfl) rfl rfl rfl rfl rfl ((d.bring 0 rfl).box) rfl rfl rfl ?_
        obtain⟨i1,e1,b⟩:=bind_some b
        refine DM.one hsk80 9 (by kernel_rfl) (LM.call hsk80 1023 (by kernel_rfl) (by kernel_rfl) rfl rfl rfl rfl zcy (z7f (hE.trans f0.ext) h3 (z1B A0) e1) (fun a2 o2 K0=>?_))
        obtain⟨rfl,b0⟩:=K0
        refine⟨b0.ext,?_⟩
        have k0:=f0.join b0
        refine DM.run (fuel:=16) ttok hsk80 [10,11,12] 8191 (by kernel_rfl) (by kernel_rfl) rfl ?_
        refine DM.weak [(0,.pointer (some G)),(3,.int .i64 y),(4,.pointer (some O)),(5,.int .i64 H),(6,.pointer (some ⟨E0,0,none⟩)),(7,.pointer (some ⟨F0,0,none⟩)),(60,.bool (!i1))] ⟨rfl,rfl,rfl,rfl,rfl,rfl,rfl,trivial⟩ ?_
        by_cases hg90:(!i1)=true
        ·skip
         rw [if_pos hg90] at b
         refine DM.know 60 rfl (congrArg Value.bool hg90) ?_
         refine DM.run (fuel:=0) ttok hsk80 [13,14,15,16,17,18,19,20,21,22,23,24,25,26,27,28] 536870911 (by kernel_rfl) (by kernel_rfl) rfl ?_
         refine DM.weak [(0,.pointer (some G)),(3,.int .i64 y),(4,.pointer (some O)),(5,.int .i64 H),(76,.bool true)] ⟨rfl,rfl,rfl,rfl,rfl,trivial⟩ ?_
         refine DM.done hsk80 (by kernel_rfl) ?_
         exact⟨true,[(0,.pointer (some G)),(3,.int .i64 y),(4,.pointer (some O)),(5,.int .i64 H),(76,.bool true)],⟨rfl,rfl,rfl,rfl,rfl,trivial⟩,b,((Ext.draw _).trans b0.ext),(k0.taken 0),rfl⟩
        ·skip
         rw [if_neg hg90] at b
         refine DM.know 60 rfl (congrArg Value.bool (Bool.eq_false_iff.2 hg90)) ?_
         refine DM.run (fuel:=11) ttok hsk80 [13,14,15,17,22] 4390911 (by kernel_rfl) (by kernel_rfl) rfl ?_
         refine DM.load1 ttok hsk80 16 4456447 (by kernel_rfl) (by kernel_rfl) (by kernel_rfl) (by kernel_rfl) rfl (by kernel_rfl) rfl rfl rfl rfl rfl (At.ext (hE.trans d.ext) g0) 0 rfl rfl rfl rfl ?_
         refine DM.load1 ttok hsk80 18 4718591 (by kernel_rfl) (by kernel_rfl) (by kernel_rfl) (by kernel_rfl) rfl (by kernel_rfl) rfl rfl rfl rfl rfl ((d.bring 0 rfl).box) 0 rfl rfl rfl rfl ?_
         obtain⟨p2,y0,b⟩:=bind_some b
         refine DM.idx ttok (hE.trans d.ext) hsk80 19 5242879 (by kernel_rfl) (by kernel_rfl) (by kernel_rfl) (by kernel_rfl) rfl (by kernel_rfl) rfl rfl rfl rfl rfl rfl (by decide) rfl rfl h3 (z6 y0).1 (z6 y0).2 rfl rfl (fun K1 v1 T0 d1=>?_)
         obtain⟨P1,W1,m1,E1,C0,T1,G0⟩:=zB d1;subst C0
         refine DM.run (fuel:=7) ttok hsk80 [20] 6291455 (by kernel_rfl) (by kernel_rfl) rfl ?_
         refine DM.weak [(0,.pointer (some G)),(3,.int .i64 y),(4,.pointer (some O)),(5,.int .i64 H),(6,.pointer (some ⟨E0,0,none⟩)),(60,.bool false),(68,.pointer (some (K1.add 4))),(70,.pointer (some ⟨F0,1,none⟩))] ⟨rfl,rfl,rfl,rfl,rfl,rfl,rfl,rfl,trivial⟩ ?_
         refine DM.load1 ttok hsk80 21 8388607 (by kernel_rfl) (by kernel_rfl) (by kernel_rfl) (by kernel_rfl) rfl (by kernel_rfl) rfl rfl rfl rfl rfl (At.ext (hE.trans d.ext) T0) 4 rfl rfl rfl rfl ?_
         refine DM.load1 ttok hsk80 23 16777215 (by kernel_rfl) (by kernel_rfl) (by kernel_rfl) (by kernel_rfl) rfl (by kernel_rfl) rfl rfl rfl rfl rfl ((d.bring 0 rfl).box) 1 rfl rfl rfl rfl ?_
         obtain⟨Y,d0,b⟩:=bind_some b
         refine DM.idx ttok (hE.trans d.ext) hsk80 24 33554431 (by kernel_rfl) (by kernel_rfl) (by kernel_rfl) (by kernel_rfl) rfl (by kernel_rfl) rfl rfl rfl rfl rfl rfl (by decide) rfl rfl G0 (z6 d0).1 (z6 d0).2 rfl rfl (fun J1 g1 o0 t0=>?_)
         have D0:=zV t0;subst D0
         refine DM.loadN ttok hsk80 25 67108863 (by kernel_rfl) (by kernel_rfl) (by kernel_rfl) (by kernel_rfl) rfl (by kernel_rfl) rfl rfl rfl rfl rfl (At.ext (hE.trans d.ext) o0) rfl rfl rfl ?_
         refine DM.loadN ttok hsk80 26 134217727 (by kernel_rfl) (by kernel_rfl) (by kernel_rfl) (by kernel_rfl) rfl (by kernel_rfl) rfl rfl rfl rfl rfl ((d.bring 1 rfl).box) rfl rfl rfl ?_
         refine DM.run (fuel:=0) ttok hsk80 [27,28] 536870911 (by kernel_rfl) (by kernel_rfl) rfl ?_
         refine DM.weak [(0,.pointer (some G)),(3,.int .i64 y),(4,.pointer (some O)),(5,.int .i64 H),(76,.bool (!(((Y.Agent:Int) == y) && (((Y.Slot:Int) == H) && true))))] ⟨rfl,rfl,rfl,rfl,rfl,trivial⟩ ?_
         refine DM.done hsk80 (by kernel_rfl) ?_
         exact⟨!(((Y.Agent:Int) == y) && (((Y.Slot:Int) == H) && true)),[(0,.pointer (some G)),(3,.int .i64 y),(4,.pointer (some O)),(5,.int .i64 H),(76,.bool (!(((Y.Agent:Int) == y) && (((Y.Slot:Int) == H) && true))))],⟨rfl,rfl,rfl,rfl,rfl,trivial⟩,b,((Ext.draw _).trans b0.ext),(k0.taken 0),rfl⟩
     ·skip
      rw [if_neg (zC hc)] at b
      refine WP.exit ?_
      cases b
      exact⟨_,[(0,.pointer (some G)),(3,.int .i64 y)],⟨rfl,rfl,trivial⟩,r0,e0,rfl⟩
   ·skip
    rw [if_neg (zC hc)] at o
    refine WP.exit ?_
    cases o
    exact⟨_,[],trivial,q0,a0,rfl⟩

theorem zcj:Enters Tryz.prog 71:=⟨_,_,Tryz.func71,rfl,by kernel_rfl⟩
def z5a (fuel:Nat) (t7:Unit):Option Bool:=some true
def z2d (fuel:Nat) (s6:Int) (b:Bool):Option (Rd (Int) (Unit) (Bool)):=(if b=true then some (.ret false) else some (.next (w64 (s6+1))))
def z3b (fuel:Nat) (x0:(List D.Agent)) (s6:Int):Option (Rd (Int) (Unit) (Bool)):=(if(decide (s6<(x0.length:Int)))=true then((idx x0 s6).bind fun b=>((z1w fuel b).bind fun d=>(if(!d)=true then z2d fuel s6 true else z2d fuel s6 (!((b.Kind == 1) == (s6 == 0)))))) else some (.brk ()))
def z1y (fuel:Nat) (x0:(List D.Agent)) (t1:Bool):Option Bool:=(if t1=true then some false else((iter (z3b fuel x0) fuel 0).bind fun o=>aft o (z5a fuel)))
def z3i (fuel:Nat) (x0:(List D.Agent)):Option (Bool):=(if(decide ((x0.length:Int)<1))=true then z1y fuel x0 true else z1y fuel x0 (decide ((x0.length:Int)>600)))

set_option maxRecDepth 100000 in
theorem z6H {W:Base}{w:World}(hE:Ext W w){d:Option Addr}{o:Nat}{x0:(List D.Agent)}(v0:ty29.ro W [.slice d x0.length o] x0){fuel:Nat}{r:Bool}(hm:z3i fuel x0=some r):
  Calls Tryz.prog 71 ⟨[.slice d x0.length o]⟩ w (Ret fun v w8=>v=.bool r∧St w w8 []):=by
 refine Calls.into Tryz.func71 rfl 32 rfl rfl _ rfl ?_
 unfold z3i at hm
 have hS:=St.start w
 refine WP.seq ?_
 refine WP.region ?_
 refine RW.run ttok 1 rfl ?_
 refine RW.nil ?_
 refine WP.seq ?_
 refine WP.seq ?_
 refine WP.cut (fun(t1:Bool) F w9=>z1y fuel x0 t1=some r∧Ext w w9∧St w w9 []∧F=[(0,.slice d x0.length o),(12,.bool t1)]) ?_ ?_
 ·skip
  rintro t1 F w4 ⟨hm,M0,r0,rfl⟩
  unfold z1y at hm
  refine WP.cond t1 rfl (fun hc=>?_) (fun hc=>?_)
  ·skip
   rw [if_pos hc] at hm
   refine WP.seq ?_
   refine WP.region ?_
   refine RW.run ttok 1 rfl ?_
   refine RW.nil ?_
   refine WP.ret ?_
   cases hm
   exact⟨_,.cons (.tmp rfl) .nil,rfl,r0⟩
  ·skip
   rw [if_neg (zC hc)] at hm
   refine WP.skip ?_
   refine WP.seq ?_
   refine WP.seq ?_
   refine WP.region ?_
   refine RW.run ttok 3 rfl ?_
   refine RW.nil ?_
   obtain⟨C0,j0,hm⟩:=bind_some hm
   refine WP.cut (fun(t7:Unit) F w9=>C0=.inl t7∧St w w9 []∧F=[]) ?_ ?_
   ·skip
    rintro t7 F R0 ⟨k0,e0,rfl⟩
    subst k0
    rw [zx] at hm
    unfold z5a at hm
    refine WP.seq ?_
    refine WP.region ?_
    refine RW.run ttok 1 rfl ?_
    refine RW.nil ?_
    refine WP.ret ?_
    cases hm
    exact⟨_,.cons (.tmp rfl) .nil,rfl,e0⟩
   ·skip
    refine WP.block ?_
    refine WP.weak [(13,.slice d x0.length o),(14,.int .i64 (x0.length:Int)),(15,.int .i64 0)] ⟨rfl,rfl,rfl,trivial⟩ ?_
    refine WP.iter (fun(s6:Int) F w9=>St w w9 []∧F=[(13,.slice d x0.length o),(14,.int .i64 (x0.length:Int)),(15,.int .i64 s6)]) _ j0 ⟨r0,rfl⟩ ?_
    rintro s6 F S0 _ D0 ⟨y,rfl⟩ b a0
    unfold z3b at b
    refine WP.seq ?_
    refine WP.region ?_
    refine RW.run ttok 1 rfl ?_
    refine RW.nil ?_
    refine WP.seq ?_
    refine WP.cond (decide (s6<(x0.length:Int))) rfl (fun hc=>?_) (fun hc=>?_)
    ·skip
     rw [if_pos hc] at b
     refine WP.skip ?_
     refine WP.seq ?_
     refine WP.block ?_
     refine WP.seq ?_
     refine WP.region ?_
     refine RW.run ttok 1 rfl ?_
     obtain⟨q0,b0,b⟩:=bind_some b
     refine RW.idx ttok (hE.trans y.ext) rfl rfl rfl rfl rfl rfl (by decide) rfl rfl v0 (z6 b0).1 (z6 b0).2 rfl rfl (fun P0 u0 i0 o0=>?_)
     obtain⟨G0,N0,H0,O0,t0,y0,A0⟩:=zB o0;subst t0
     refine RW.loadN ttok rfl rfl rfl rfl rfl (At.ext (hE.trans y.ext) i0) rfl rfl rfl ?_
     refine RW.new ttok y rfl rfl rfl rfl (fun K0 T0 J0 f0=>?_)
     refine RW.run ttok 1 rfl ?_
     have g0:=f0.bring 0 rfl
     refine RW.store ttok (A:=[]) g0 rfl rfl rfl rfl rfl 0 rfl rfl rfl rfl rfl (fun F0 H=>?_)
     refine RW.nil ?_
     refine WP.seq ?_
     refine WP.cut (fun(c0:Bool) F w9=>z2d fuel s6 c0=some D0∧Ext F0 w9∧St w w9 []∧F=[(13,.slice d x0.length o),(14,.int .i64 (x0.length:Int)),(15,.int .i64 s6),(30,.bool c0)]) ?_ ?_
     ·skip
      rintro c0 F U0 ⟨b,B0,Y,rfl⟩
      unfold z2d at b
      refine WP.cond c0 rfl (fun hc=>?_) (fun hc=>?_)
      ·skip
       rw [if_pos hc] at b
       refine WP.seq ?_
       refine WP.region ?_
       refine RW.run ttok 1 rfl ?_
       refine RW.nil ?_
       refine WP.ret ?_
       cases b
       cases a0
       have hm:some _=some _:=hm
       cases hm
       exact⟨_,.cons (.tmp rfl) .nil,rfl,Y⟩
      ·skip
       rw [if_neg (zC hc)] at b
       refine WP.skip ?_
       refine WP.region ?_
       refine RW.run ttok 2 rfl ?_
       refine RW.nil ?_
       cases b
       exact⟨_,[(13,.slice d x0.length o),(14,.int .i64 (x0.length:Int)),(15,.int .i64 (w64 (s6+1)))],⟨rfl,rfl,rfl,trivial⟩,rfl,Y,rfl⟩
     ·skip
      refine WP.region ?_
      refine RW.loadN ttok rfl rfl rfl rfl rfl ((H.bring 0 rfl).box) rfl rfl rfl ?_
      obtain⟨E0,p0,b⟩:=bind_some b
      refine RW.call rfl rfl rfl zc3 (z6q (hE.trans H.ext) (zaK q0 y0 A0) p0) (fun Q0 V0 d0=>?_)
      obtain⟨rfl,G⟩:=d0
      have O:=H.join G
      refine RW.run ttok 2 rfl ?_
      by_cases hg53:(!E0)=true
      ·skip
       rw [if_pos hg53] at b
       refine RW.know 23 rfl (congrArg Value.bool hg53) ?_
       refine RW.run ttok 7 rfl ?_
       refine RW.nil ?_
       exact⟨true,[(13,.slice d x0.length o),(14,.int .i64 (x0.length:Int)),(15,.int .i64 s6),(30,.bool true)],⟨rfl,rfl,rfl,rfl,trivial⟩,b,G.ext,(O.taken 0),rfl⟩
      ·skip
       rw [if_neg hg53] at b
       refine RW.know 23 rfl (congrArg Value.bool (Bool.eq_false_iff.2 hg53)) ?_
       refine RW.run ttok 1 rfl ?_
       refine RW.load1 ttok rfl rfl rfl rfl rfl ((O.bring 0 rfl).box) 0 rfl rfl rfl rfl ?_
       refine RW.run ttok 5 rfl ?_
       refine RW.nil ?_
       exact⟨!((q0.Kind == 1) == (s6 == 0)),[(13,.slice d x0.length o),(14,.int .i64 (x0.length:Int)),(15,.int .i64 s6),(30,.bool (!((q0.Kind == 1) == (s6 == 0))))],⟨rfl,rfl,rfl,rfl,trivial⟩,b,G.ext,(O.taken 0),rfl⟩
    ·skip
     rw [if_neg (zC hc)] at b
     refine WP.exit ?_
     cases b
     exact⟨_,[],trivial,a0,y,rfl⟩
 ·skip
  refine WP.region ?_
  refine RW.run ttok 4 rfl ?_
  by_cases hg54:(decide ((x0.length:Int)<1))=true
  ·skip
   rw [if_pos hg54] at hm
   refine RW.know 8 rfl (congrArg Value.bool hg54) ?_
   refine RW.run ttok 4 rfl ?_
   refine RW.nil ?_
   exact⟨true,[(0,.slice d x0.length o),(12,.bool true)],⟨rfl,rfl,trivial⟩,hm,(Ext.refl _),hS,rfl⟩
  ·skip
   rw [if_neg hg54] at hm
   refine RW.know 8 rfl (congrArg Value.bool (Bool.eq_false_iff.2 hg54)) ?_
   refine RW.run ttok 4 rfl ?_
   refine RW.nil ?_
   exact⟨decide ((x0.length:Int)>600),[(0,.slice d x0.length o),(12,.bool (decide ((x0.length:Int)>600)))],⟨rfl,rfl,trivial⟩,hm,(Ext.refl _),hS,rfl⟩

theorem zch:Enters Tryz.prog 73:=⟨_,_,Tryz.func73,rfl,by kernel_rfl⟩
def z4i (fuel:Nat) (t6:(List D.Port)):Option (List D.Port):=some t6
def z5b (fuel:Nat) (s5:(List D.Port) × Int) (b:(List D.Port)):Option (Rd ((List D.Port) × Int) ((List D.Port)) ((List D.Port))):=some (.next (b,w64 (s5.2+1)))
def z2e (fuel:Nat) (s5:(List D.Port) × Int) (d:D.Agent) (b:Int × (List D.Port)):Option (Rd (Int × (List D.Port)) ((List D.Port)) (Rd ((List D.Port) × Int) ((List D.Port)) ((List D.Port)))):=(if(decide (b.1<(d.Ports.length:Int)))=true then(if decide ((b.2.length:Int)+(([(⟨s5.2,b.1⟩:D.Port)]:(List D.Port)).length:Int)≤4294967296)=true then some (.next (w64 (b.1+1),(b.2++([(⟨s5.2,b.1⟩:D.Port)]:(List D.Port))))) else none) else some (.brk b.2))
def z2f (fuel:Nat) (x0:D.Net) (s5:(List D.Port) × Int):Option (Rd ((List D.Port) × Int) ((List D.Port)) ((List D.Port))):=(if(decide (s5.2<(x0.Agents.length:Int)))=true then((idx x0.Agents s5.2).bind fun b=>((iter (z2e fuel s5 b) fuel (0,s5.1)).bind fun o=>aft o (z5b fuel s5))) else some (.brk s5.1))
def z3j (fuel:Nat) (x0:D.Net):Option ((List D.Port)):=((iter (z2f fuel x0) fuel ([],0)).bind fun o=>aft o (z4i fuel))

set_option maxRecDepth 100000 in
theorem z6J {W:Base}{w:World}(hE:Ext W w){P0:Addr}{N0:List Value}{x0:D.Net}(T0:ty31.ro W N0 x0) (S0:At W P0 N0){fuel:Nat}{r:(List D.Port)}(hm:z3j fuel x0=some r):
  Calls Tryz.prog 73 ⟨[.pointer (some P0)]⟩ w (Ret fun v w8=>∃ A0 k0,v=.slice A0 r.length k0∧St w w8 [Own ty65 [.slice A0 r.length k0] r]):=by
 obtain⟨A1,k2,e4,h3⟩:=z1C T0;subst e4
 refine Calls.into Tryz.func73 rfl 32 rfl rfl _ rfl ?_
 unfold z3j at hm
 have hS:=St.start w
 refine WP.seq ?_
 refine WP.region ?_
 refine RW.run ttok 1 rfl ?_
 refine RW.nil ?_
 refine WP.seq ?_
 refine WP.region ?_
 refine RW.run ttok 1 rfl ?_
 refine RW.nil ?_
 refine WP.seq ?_
 refine WP.seq ?_
 refine WP.region ?_
 refine RW.run ttok 3 rfl ?_
 refine RW.load1 ttok rfl rfl rfl rfl rfl (At.ext (hE.trans hS.ext) S0) 0 rfl rfl rfl rfl ?_
 refine RW.run ttok 2 rfl ?_
 refine RW.nil ?_
 obtain⟨U0,D0,hm⟩:=bind_some hm
 refine WP.cut (fun(t6:(List D.Port)) F w9=>∃ j0 o0,U0=.inl t6∧St w w9 [Own ty65 [.slice j0 t6.length o0] t6]∧F=[(3,.slice j0 t6.length o0)]) ?_ ?_
 ·skip
  rintro t6 F t1 ⟨j0,o0,F0,q0,rfl⟩
  subst F0
  rw [zx] at hm
  unfold z4i at hm
  refine WP.seq ?_
  refine WP.region ?_
  refine RW.run ttok 2 rfl ?_
  refine RW.nil ?_
  refine WP.ret ?_
  cases hm
  exact⟨_,.cons (.tmp rfl) .nil,j0,o0,rfl,q0⟩
 ·skip
  refine WP.block ?_
  have r0:=hS.nilSl ty87 87
  refine WP.weak [(3,.slice none 0 0),(10,.slice A1 x0.Agents.length k2),(11,.int .i64 (x0.Agents.length:Int)),(12,.int .i64 0)] ⟨rfl,rfl,rfl,rfl,trivial⟩ ?_
  refine WP.iter (fun(s5:(List D.Port) × Int) F w9=>∃ G O,St w w9 [Own ty65 [.slice G s5.1.length O] s5.1]∧F=[(3,.slice G s5.1.length O),(10,.slice A1 x0.Agents.length k2),(11,.int .i64 (x0.Agents.length:Int)),(12,.int .i64 s5.2)]) _ D0 ⟨none,0,r0,rfl⟩ ?_
  rintro s5 F u1 _ m1 ⟨G,O,y,rfl⟩ b G0
  unfold z2f at b
  refine WP.seq ?_
  refine WP.region ?_
  refine RW.run ttok 1 rfl ?_
  refine RW.nil ?_
  refine WP.seq ?_
  refine WP.cond (decide (s5.2<(x0.Agents.length:Int))) rfl (fun hc=>?_) (fun hc=>?_)
  ·skip
   rw [if_pos hc] at b
   refine WP.skip ?_
   refine WP.seq ?_
   refine WP.block ?_
   refine WP.seq ?_
   refine WP.region ?_
   refine RW.run ttok 1 rfl ?_
   obtain⟨p0,f0,b⟩:=bind_some b
   refine RW.idx ttok (hE.trans y.ext) rfl rfl rfl rfl rfl rfl (by decide) rfl rfl h3 (z6 f0).1 (z6 f0).2 rfl rfl (fun p1 R0 C0 K0=>?_)
   obtain⟨X0,i1,Y0,j1,Q0,f1,g1⟩:=zB K0;subst Q0
   refine RW.loadN ttok rfl rfl rfl rfl rfl (At.ext (hE.trans y.ext) C0) rfl rfl rfl ?_
   refine RW.new ttok y rfl rfl rfl rfl (fun e1 v1 b1 t0=>?_)
   refine RW.run ttok 1 rfl ?_
   have u0:=t0.bring 0 rfl
   refine RW.store ttok (A:=[]) u0 rfl rfl rfl rfl rfl 0 rfl rfl rfl rfl rfl (fun y1 c0=>?_)
   refine RW.nil ?_
   refine WP.seq ?_
   refine WP.region ?_
   refine RW.run ttok 1 rfl ?_
   refine RW.load1 ttok rfl rfl rfl rfl rfl ((c0.bring 0 rfl).box) 4 rfl rfl rfl rfl ?_
   refine RW.run ttok 2 rfl ?_
   refine RW.nil ?_
   obtain⟨V0,E0,b⟩:=bind_some b
   refine WP.cut (fun(Y:(List D.Port)) F w9=>∃ b0 i0,V0=.inl Y∧St w w9 [Own ty65 [.slice b0 Y.length i0] Y]∧F=[(3,.slice b0 Y.length i0),(10,.slice A1 x0.Agents.length k2),(11,.int .i64 (x0.Agents.length:Int)),(12,.int .i64 s5.2)]) ?_ ?_
   ·skip
    rintro Y F B1 ⟨b0,i0,H0,v0,rfl⟩
    subst H0
    rw [zx] at b
    unfold z5b at b
    refine WP.region ?_
    refine RW.run ttok 2 rfl ?_
    refine RW.nil ?_
    cases b
    exact⟨_,[(3,.slice b0 Y.length i0),(10,.slice A1 x0.Agents.length k2),(11,.int .i64 (x0.Agents.length:Int)),(12,.int .i64 (w64 (s5.2+1)))],⟨rfl,rfl,rfl,rfl,trivial⟩,rfl,b0,i0,v0,rfl⟩
   ·skip
    refine WP.block ?_
    refine WP.weak [(3,.slice G s5.1.length O),(4,.int .i64 s5.2),(10,.slice A1 x0.Agents.length k2),(11,.int .i64 (x0.Agents.length:Int)),(12,.int .i64 s5.2),(19,.int .i64 (p0.Ports.length:Int)),(20,.int .i64 0)] ⟨rfl,rfl,rfl,rfl,rfl,rfl,rfl,trivial⟩ ?_
    refine WP.iter (fun(d:Int × (List D.Port)) F w9=>∃ a0 g0,St w w9 [Own ty65 [.slice a0 d.2.length g0] d.2]∧F=[(3,.slice a0 d.2.length g0),(4,.int .i64 s5.2),(10,.slice A1 x0.Agents.length k2),(11,.int .i64 (x0.Agents.length:Int)),(12,.int .i64 s5.2),(19,.int .i64 (p0.Ports.length:Int)),(20,.int .i64 d.1)]) _ E0 ⟨G,O,((c0.bring 1 rfl).taken 1),rfl⟩ ?_
    rintro d F C1 _ n1 ⟨a0,g0,d0,rfl⟩ o J0
    unfold z2e at o
    refine WP.seq ?_
    refine WP.region ?_
    refine RW.run ttok 1 rfl ?_
    refine RW.nil ?_
    refine WP.seq ?_
    refine WP.cond (decide (d.1<(p0.Ports.length:Int))) rfl (fun hc=>?_) (fun hc=>?_)
    ·skip
     rw [if_pos hc] at o
     refine WP.skip ?_
     refine WP.seq ?_
     refine WP.block ?_
     refine WP.seq ?_
     refine WP.region ?_
     refine RW.run ttok 2 rfl ?_
     refine RW.nil ?_
     refine WP.region ?_
     refine RW.run ttok 3 rfl ?_
     refine RW.quiet rfl (Quiet.build ttok rfl rfl rfl rfl rfl) rfl rfl ?_
     refine RW.newSlice (U:=ty87) (els:=[.int .i64 s5.2,.int .i64 d.1]) (ys:=[(⟨s5.2,d.1⟩:D.Port)]) ttok (d0.flatEls (U:=ty87) (els:=[.int .i64 s5.2,.int .i64 d.1]) (ys:=[(⟨s5.2,d.1⟩:D.Port)]) ⟨[.int .i64 s5.2,.int .i64 d.1],_,[],[],rfl,rfl,(z79 (c:=(⟨s5.2,d.1⟩:D.Port)) rfl),⟨rfl,rfl⟩⟩) rfl rfl rfl rfl rfl rfl rfl rfl rfl rfl rfl rfl (fun a1 k1 D1 d1 y0=>?_)
     have e0:=y0.bring 1 rfl
     by_cases H:decide ((d.2.length:Int)+(([(⟨s5.2,d.1⟩:D.Port)]:(List D.Port)).length:Int)≤4294967296)=true
     case neg=>rw [if_neg H] at o;cases o
     rw [if_pos H] at o
     refine RW.appendRo ttok (Flat.map (Flat.pair Flat.int (Flat.pair Flat.int Flat.unit))) e0 rfl rfl rfl rfl rfl rfl (by decide) rfl rfl ((e0.bring 1 rfl).own) (of_decide_eq_true H) (by decide) rfl rfl (fun M0 O0 E1 B0=>?_)
     refine RW.run ttok 1 rfl ?_
     refine RW.nil ?_
     refine WP.region ?_
     refine RW.run ttok 2 rfl ?_
     refine RW.nil ?_
     cases o
     exact⟨_,[(3,.slice M0 (d.2++([(⟨s5.2,d.1⟩:D.Port)]:(List D.Port))).length O0),(4,.int .i64 s5.2),(10,.slice A1 x0.Agents.length k2),(11,.int .i64 (x0.Agents.length:Int)),(12,.int .i64 s5.2),(19,.int .i64 (p0.Ports.length:Int)),(20,.int .i64 (w64 (d.1+1)))],⟨rfl,rfl,rfl,rfl,rfl,rfl,rfl,trivial⟩,rfl,M0,O0,(B0.taken 1),rfl⟩
    ·skip
     rw [if_neg (zC hc)] at o
     refine WP.exit ?_
     cases o
     exact⟨_,[(3,.slice a0 d.2.length g0),(10,.slice A1 x0.Agents.length k2),(11,.int .i64 (x0.Agents.length:Int)),(12,.int .i64 s5.2)],⟨rfl,rfl,rfl,rfl,trivial⟩,a0,g0,J0,d0,rfl⟩
  ·skip
   rw [if_neg (zC hc)] at b
   refine WP.exit ?_
   cases b
   exact⟨_,[(3,.slice G s5.1.length O)],⟨rfl,trivial⟩,G,O,G0,y,rfl⟩

theorem zc2:Enters Tryz.prog 94:=⟨_,_,Tryz.func94,rfl,by kernel_rfl⟩
def zS (fuel:Nat) (t2:Unit):Option Int:=some (-1)
def zh (fuel:Nat) (x0:(List D.Port)) (x1:D.Port→Option Bool) (s1:Int):Option (Rd (Int) (Unit) (Int)):=(if(decide (s1<(x0.length:Int)))=true then((idx x0 s1).bind fun d=>((x1 d).bind fun b=>(if b=true then some (.ret s1) else some (.next (w64 (s1+1)))))) else some (.brk ()))
def zA (fuel:Nat) (x0:(List D.Port)) (x1:D.Port→Option Bool):Option (Int):=((iter (zh fuel x0 x1) fuel 0).bind fun o=>aft o (zS fuel))

set_option maxRecDepth 100000 in
theorem z3y {W:Base}{w:World}(hE:Ext W w){o:Option Addr}{a0:Nat}{x0:(List D.Port)}{f1_:Nat}{u1_:List Value}{x1:D.Port→Option Bool}(p0:ty65.ro W [.slice o x0.length a0] x0) (i0:Enters Tryz.prog f1_∧∀ {w9:World},Ext W w9→∀ {cz0:List Value}{z0:D.Port}{y9:Bool},ty87.ro w9 cz0 z0→x1 z0=some y9→Calls Tryz.prog f1_ ⟨[.agg ⟨cz0⟩]++u1_⟩ w9 (Ret fun v w8=>v=.bool y9∧St w9 w8 [])){fuel:Nat}{r:Int}(hm:zA fuel x0 x1=some r):
  Calls Tryz.prog 94 ⟨[.slice o x0.length a0,.func (.func f1_) #[] ⟨u1_⟩]⟩ w (Ret fun v w8=>v=.int .i64 r∧St w w8 []):=by
 refine Calls.into Tryz.func94 rfl 19 rfl rfl _ rfl ?_
 unfold zA at hm
 have hS:=St.start w
 refine WP.seq ?_
 refine WP.region ?_
 refine RW.run ttok 1 rfl ?_
 refine RW.nil ?_
 refine WP.seq ?_
 refine WP.seq ?_
 refine WP.region ?_
 refine RW.run ttok 3 rfl ?_
 refine RW.nil ?_
 obtain⟨q0,e0,hm⟩:=bind_some hm
 refine WP.cut (fun(t2:Unit) F w9=>q0=.inl t2∧Ext w w9∧St w w9 []∧F=[]) ?_ ?_
 ·skip
  rintro t2 F w7 ⟨f0,t0,c0,rfl⟩
  subst f0
  rw [zx] at hm
  unfold zS at hm
  refine WP.seq ?_
  refine WP.region ?_
  refine RW.run ttok 1 rfl ?_
  refine RW.nil ?_
  refine WP.ret ?_
  cases hm
  exact⟨_,.cons (.tmp rfl) .nil,rfl,c0⟩
 ·skip
  refine WP.block ?_
  refine WP.weak [(0,.slice o x0.length a0),(1,.func (.func f1_) #[] ⟨u1_⟩),(7,.int .i64 (x0.length:Int)),(8,.int .i64 0)] ⟨rfl,rfl,rfl,rfl,trivial⟩ ?_
  refine WP.iter (fun(s1:Int) F w9=>Ext w w9∧St w w9 []∧F=[(0,.slice o x0.length a0),(1,.func (.func f1_) #[] ⟨u1_⟩),(7,.int .i64 (x0.length:Int)),(8,.int .i64 s1)]) _ e0 ⟨(Ext.refl _),hS,rfl⟩ ?_
  rintro s1 F A0 _ u0 ⟨j0,d,rfl⟩ b H
  unfold zh at b
  refine WP.seq ?_
  refine WP.region ?_
  refine RW.run ttok 1 rfl ?_
  refine RW.nil ?_
  refine WP.seq ?_
  refine WP.cond (decide (s1<(x0.length:Int))) rfl (fun hc=>?_) (fun hc=>?_)
  ·skip
   rw [if_pos hc] at b
   refine WP.skip ?_
   refine WP.seq ?_
   refine WP.block ?_
   refine WP.seq ?_
   refine WP.region ?_
   refine RW.run ttok 2 rfl ?_
   refine RW.nil ?_
   refine WP.seq ?_
   refine WP.region ?_
   refine RW.run ttok 3 rfl ?_
   obtain⟨C0,Y,b⟩:=bind_some b
   refine RW.idx ttok (hE.trans d.ext) rfl rfl rfl rfl rfl rfl (by decide) rfl rfl p0 (z6 Y).1 (z6 Y).2 rfl rfl (fun v0 o0 d0 O=>?_)
   have k0:=zV O;subst k0
   refine RW.loadN ttok rfl rfl rfl rfl rfl (At.ext (hE.trans d.ext) d0) rfl rfl rfl ?_
   obtain⟨r0,g0,b⟩:=bind_some b
   refine RW.call rfl rfl rfl i0.1 (i0.2 (hE.trans d.ext) (ty87.ext (hE.trans d.ext) O) g0) (fun y0 B0 b0=>?_)
   obtain⟨rfl,y⟩:=b0
   have G:=d.join y
   refine RW.nil ?_
   refine WP.cond r0 rfl (fun hc=>?_) (fun hc=>?_)
   ·skip
    rw [if_pos hc] at b
    refine WP.seq ?_
    refine WP.region ?_
    refine RW.run ttok 2 rfl ?_
    refine RW.nil ?_
    refine WP.ret ?_
    cases b
    cases H
    have hm:some _=some _:=hm
    cases hm
    exact⟨_,.cons (.tmp rfl) .nil,rfl,G⟩
   ·skip
    rw [if_neg (zC hc)] at b
    refine WP.skip ?_
    refine WP.region ?_
    refine RW.run ttok 2 rfl ?_
    refine RW.nil ?_
    cases b
    exact⟨_,[(0,.slice o x0.length a0),(1,.func (.func f1_) #[] ⟨u1_⟩),(7,.int .i64 (x0.length:Int)),(8,.int .i64 (w64 (s1+1)))],⟨rfl,rfl,rfl,rfl,trivial⟩,rfl,(j0.trans y.ext),G,rfl⟩
  ·skip
   rw [if_neg (zC hc)] at b
   refine WP.exit ?_
   cases b
   exact⟨_,[],trivial,H,j0,d,rfl⟩

theorem zci:Enters Tryz.prog 72:=⟨_,_,Tryz.func72,rfl,by kernel_rfl⟩
def zi (fuel:Nat) (x0:(List D.Port)) (x1:D.Port→Option Bool):Option (Bool):=((zA fuel x0 x1).bind fun r1=>some (decide (r1≥0)))

set_option maxRecDepth 100000 in
theorem z3d {W:Base}{w:World}(hE:Ext W w){b:Option Addr}{d:Nat}{x0:(List D.Port)}{f1_:Nat}{u1_:List Value}{x1:D.Port→Option Bool}(o:ty65.ro W [.slice b x0.length d] x0) (y:Enters Tryz.prog f1_∧∀ {w9:World},Ext W w9→∀ {cz0:List Value}{z0:D.Port}{y9:Bool},ty87.ro w9 cz0 z0→x1 z0=some y9→Calls Tryz.prog f1_ ⟨[.agg ⟨cz0⟩]++u1_⟩ w9 (Ret fun v w8=>v=.bool y9∧St w9 w8 [])){fuel:Nat}{r:Bool}(hm:zi fuel x0 x1=some r):
  Calls Tryz.prog 72 ⟨[.slice b x0.length d,.func (.func f1_) #[] ⟨u1_⟩]⟩ w (Ret fun v w8=>v=.bool r∧St w w8 []):=by
 refine Calls.into Tryz.func72 rfl 9 rfl rfl _ rfl ?_
 unfold zi at hm
 have hS:=St.start w
 refine WP.seq ?_
 refine WP.region ?_
 refine RW.run ttok 1 rfl ?_
 refine RW.nil ?_
 refine WP.seq ?_
 refine WP.region ?_
 refine RW.run ttok 2 rfl ?_
 obtain⟨r1,Y,hm⟩:=bind_some hm
 refine RW.call rfl rfl rfl zc2 (z3y (hE.trans hS.ext) o y Y) (fun v3 w4 G=>?_)
 obtain⟨rfl,H⟩:=G
 have O:=hS.join H
 refine RW.run ttok 2 rfl ?_
 refine RW.nil ?_
 refine WP.ret ?_
 cases hm
 exact⟨_,.cons (.tmp rfl) .nil,rfl,O⟩

theorem z5P:Enters Tryz.prog 48:=⟨_,_,Tryz.func48,rfl,by kernel_rfl⟩
def zQ (fuel:Nat) (x0:D.Net) (x1:D.Port):Option (D.Port):=((idx x0.Agents x1.Agent).bind fun d=>((idx d.Ports x1.Slot).bind fun b=>some (⟨b.Agent,b.Slot⟩:D.Port)))

set_option maxRecDepth 100000 in
theorem z1K {W:Base}{w:World}(hE:Ext W w){f0:Addr}{d0:List Value}{x0:D.Net}{e0:List Value}{x1:D.Port}(q0:ty31.ro W d0 x0) (o0:At W f0 d0) (r0:ty87.ro W e0 x1){fuel:Nat}{r:D.Port}(hm:zQ fuel x0 x1=some r):
  Calls Tryz.prog 48 ⟨[.pointer (some f0),.agg ⟨e0⟩]⟩ w (Ret fun v w8=>v=.agg ⟨[.int .i64 r.Agent,.int .i64 r.Slot]⟩∧St w w8 []):=by
 obtain⟨A1,k2,e4,h3⟩:=z1C q0;subst e4
 have e5:=zV r0;subst e5
 refine Calls.into Tryz.func48 rfl 18 rfl rfl _ rfl ?_
 unfold zQ at hm
 have hS:=St.start w
 refine WP.seq ?_
 refine WP.region ?_
 refine RW.new ttok hS rfl rfl rfl rfl (fun g6 w7 A0 G=>?_)
 refine RW.new ttok G rfl rfl rfl rfl (fun p0 G0 B0 b=>?_)
 refine RW.nil ?_
 refine WP.seq ?_
 refine WP.drawnM 8192 mixed 14 (by kernel_rfl) (by kernel_rfl) [([],16383),([0],16382),([1],16381),([2],16379),([],16383),([4],16367),([3,5],16343),([6],16319),([7],16255),([],16383),([9],15871),([8,10],15103),([11],14335),([12,0,1,2,3,4,5,6,7,8,9,10,11,12],12287)] (by kernel_rfl) b.ext (fun hsk16=>?_)
 have H:=b.step (Ext.draw _)
 refine DM.run (fuel:=9) ttok hsk16 [0,1,2,4,9] 535 (by kernel_rfl) (by kernel_rfl) rfl ?_
 refine DM.load1 ttok hsk16 3 543 (by kernel_rfl) (by kernel_rfl) (by kernel_rfl) (by kernel_rfl) rfl (by kernel_rfl) rfl rfl rfl rfl rfl (At.ext (hE.trans b.ext) o0) 0 rfl rfl rfl rfl ?_
 refine DM.load1 ttok hsk16 5 575 (by kernel_rfl) (by kernel_rfl) (by kernel_rfl) (by kernel_rfl) rfl (by kernel_rfl) rfl rfl rfl rfl rfl ((b.bring 1 rfl).box) 0 rfl rfl rfl rfl ?_
 obtain⟨J0,o,hm⟩:=bind_some hm
 refine DM.idx ttok (hE.trans b.ext) hsk16 6 639 (by kernel_rfl) (by kernel_rfl) (by kernel_rfl) (by kernel_rfl) rfl (by kernel_rfl) rfl rfl rfl rfl rfl rfl (by decide) rfl rfl h3 (z6 o).1 (z6 o).2 rfl rfl (fun u0 j0 Y b0=>?_)
 obtain⟨v0,D0,y0,E0,g0,C0,t0⟩:=zB b0;subst g0
 refine DM.run (fuel:=5) ttok hsk16 [7] 767 (by kernel_rfl) (by kernel_rfl) rfl ?_
 refine DM.weak [(4,.pointer (some ⟨p0,0,none⟩)),(12,.pointer (some (u0.add 4))),(14,.pointer (some ⟨g6,1,none⟩))] ⟨rfl,rfl,rfl,trivial⟩ ?_
 refine DM.load1 ttok hsk16 8 1023 (by kernel_rfl) (by kernel_rfl) (by kernel_rfl) (by kernel_rfl) rfl (by kernel_rfl) rfl rfl rfl rfl rfl (At.ext (hE.trans b.ext) Y) 4 rfl rfl rfl rfl ?_
 refine DM.load1 ttok hsk16 10 2047 (by kernel_rfl) (by kernel_rfl) (by kernel_rfl) (by kernel_rfl) rfl (by kernel_rfl) rfl rfl rfl rfl rfl ((b.bring 1 rfl).box) 1 rfl rfl rfl rfl ?_
 obtain⟨K0,y,hm⟩:=bind_some hm
 refine DM.idx ttok (hE.trans b.ext) hsk16 11 4095 (by kernel_rfl) (by kernel_rfl) (by kernel_rfl) (by kernel_rfl) rfl (by kernel_rfl) rfl rfl rfl rfl rfl rfl (by decide) rfl rfl t0 (z6 y).1 (z6 y).2 rfl rfl (fun F0 k0 a0 c0=>?_)
 have i0:=zV c0;subst i0
 refine DM.loadN ttok hsk16 12 8191 (by kernel_rfl) (by kernel_rfl) (by kernel_rfl) (by kernel_rfl) rfl (by kernel_rfl) rfl rfl rfl rfl rfl (At.ext (hE.trans b.ext) a0) rfl rfl rfl ?_
 have O:=H.bring 0 rfl
 refine DM.one hsk16 13 (by kernel_rfl) (LM.store ttok (A:=[]) O hsk16 16383 (by kernel_rfl) (by kernel_rfl) rfl rfl rfl rfl rfl rfl 0 rfl rfl rfl rfl rfl (fun H0 d=>?_))
 refine DM.done hsk16 (by kernel_rfl) ?_
 refine WP.ret ?_
 cases hm
 exact⟨_,.cons (ResIs.agg ttok rfl rfl rfl ((d.bring 0 rfl).box) rfl) .nil,rfl,(d.taken 0)⟩

theorem zcf:Enters Tryz.prog 75:=⟨_,_,Tryz.func75,rfl,by kernel_rfl⟩
def z4c (fuel:Nat) (x0:(List D.Agent)) (x1:D.Port):Option (Bool):=(if(decide (x1.Agent≥0))=true then(if(decide (x1.Agent<(x0.length:Int)))=true then(if(decide (x1.Slot≥0))=true then((idx x0 x1.Agent).bind fun b=>some (decide (x1.Slot<(b.Ports.length:Int)))) else some false) else some false) else some false)

set_option maxRecDepth 100000 in
theorem z7C {W:Base}{w:World}(hE:Ext W w){o:Option Addr}{G:Nat}{x0:(List D.Agent)}{Y:List Value}{x1:D.Port}(c0:ty29.ro W [.slice o x0.length G] x0) (d0:ty87.ro W Y x1){fuel:Nat}{r:Bool}(hm:z4c fuel x0 x1=some r):
  Calls Tryz.prog 75 ⟨[.slice o x0.length G,.agg ⟨Y⟩]⟩ w (Ret fun v w8=>v=.bool r∧St w w8 []):=by
 have e1:=zV d0;subst e1
 refine Calls.into Tryz.func75 rfl 32 rfl rfl _ rfl ?_
 unfold z4c at hm
 have hS:=St.start w
 refine WP.seq ?_
 refine WP.region ?_
 refine RW.new ttok hS rfl rfl rfl rfl (fun g2 w3 e4 b=>?_)
 refine RW.run ttok 1 rfl ?_
 refine RW.nil ?_
 refine WP.seq ?_
 refine WP.drawnM 0 mixed 28 (by kernel_rfl) (by kernel_rfl) [([],268435455),([0],268435454),([1],268435453),([2],268435451),([3],268435447),([4,3],268435431),([3],268435447),([6,3],268435383),([5,7,3],268435287),([3,8],268435191),([9,3],268434943),([10],268434431),([11,10],268432383),([12,10],268430335),([10,13],268426239),([14,10],268419071),([15],268402687),([16,15],268337151),([15],268402687),([15],268402687),([19,15],267878399),([18,20,15],267091967),([21,15],266305535),([22,15],264208383),([23,15],260014079),([17,24,15],251494399),([15,25],234848255),([26,15,0,1,2,3,4,5,6,7,8,9,10,11,12,13,14,15,16,17,18,19,20,21,22,23,24,25,26],201326591)] (by kernel_rfl) b.ext (fun hsk6=>?_)
 have y:=b.step (Ext.draw _)
 refine DM.run (fuel:=27) ttok hsk6 [0] 1 (by kernel_rfl) (by kernel_rfl) rfl ?_
 refine DM.load1 ttok hsk6 1 3 (by kernel_rfl) (by kernel_rfl) (by kernel_rfl) (by kernel_rfl) rfl (by kernel_rfl) rfl rfl rfl rfl rfl ((b.bring 0 rfl).box) 0 rfl rfl rfl rfl ?_
 refine DM.run (fuel:=24) ttok hsk6 [2,3] 15 (by kernel_rfl) (by kernel_rfl) rfl ?_
 by_cases hg10:(decide (x1.Agent≥0))=true
 ·skip
  rw [if_pos hg10] at hm
  refine DM.know 8 rfl (congrArg Value.bool hg10) ?_
  refine DM.run (fuel:=21) ttok hsk6 [4,6,7] 223 (by kernel_rfl) (by kernel_rfl) rfl ?_
  refine DM.load1 ttok hsk6 5 255 (by kernel_rfl) (by kernel_rfl) (by kernel_rfl) (by kernel_rfl) rfl (by kernel_rfl) rfl rfl rfl rfl rfl ((b.bring 0 rfl).box) 0 rfl rfl rfl rfl ?_
  refine DM.run (fuel:=17) ttok hsk6 [8,9,10] 2047 (by kernel_rfl) (by kernel_rfl) rfl ?_
  refine DM.weak [(0,.slice o x0.length G),(3,.pointer (some ⟨g2,0,none⟩)),(4,.bool false),(15,.bool (decide (x1.Agent<(x0.length:Int))))] ⟨rfl,rfl,rfl,rfl,trivial⟩ ?_
  by_cases hg11:(decide (x1.Agent<(x0.length:Int)))=true
  ·skip
   rw [if_pos hg11] at hm
   refine DM.know 15 rfl (congrArg Value.bool hg11) ?_
   refine DM.run (fuel:=16) ttok hsk6 [11] 4095 (by kernel_rfl) (by kernel_rfl) rfl ?_
   refine DM.load1 ttok hsk6 12 8191 (by kernel_rfl) (by kernel_rfl) (by kernel_rfl) (by kernel_rfl) rfl (by kernel_rfl) rfl rfl rfl rfl rfl ((b.bring 0 rfl).box) 1 rfl rfl rfl rfl ?_
   refine DM.run (fuel:=12) ttok hsk6 [13,14,15] 65535 (by kernel_rfl) (by kernel_rfl) rfl ?_
   by_cases hg12:(decide (x1.Slot≥0))=true
   ·skip
    rw [if_pos hg12] at hm
    refine DM.know 20 rfl (congrArg Value.bool hg12) ?_
    refine DM.run (fuel:=9) ttok hsk6 [16,18,19] 917503 (by kernel_rfl) (by kernel_rfl) rfl ?_
    refine DM.weak [(4,.bool false),(20,.bool true),(21,.pointer (some ⟨g2,1,none⟩)),(23,.slice o x0.length G),(24,.pointer (some ⟨g2,0,none⟩))] ⟨rfl,rfl,rfl,rfl,rfl,trivial⟩ ?_
    refine DM.load1 ttok hsk6 17 1048575 (by kernel_rfl) (by kernel_rfl) (by kernel_rfl) (by kernel_rfl) rfl (by kernel_rfl) rfl rfl rfl rfl rfl ((b.bring 0 rfl).box) 1 rfl rfl rfl rfl ?_
    refine DM.load1 ttok hsk6 20 2097151 (by kernel_rfl) (by kernel_rfl) (by kernel_rfl) (by kernel_rfl) rfl (by kernel_rfl) rfl rfl rfl rfl rfl ((b.bring 0 rfl).box) 0 rfl rfl rfl rfl ?_
    obtain⟨e0,d,hm⟩:=bind_some hm
    refine DM.idx ttok (hE.trans b.ext) hsk6 21 4194303 (by kernel_rfl) (by kernel_rfl) (by kernel_rfl) (by kernel_rfl) rfl (by kernel_rfl) rfl rfl rfl rfl rfl rfl (by decide) rfl rfl c0 (z6 d).1 (z6 d).2 rfl rfl (fun p0 b0 H O=>?_)
    obtain⟨f0,k0,g0,o0,a0,i0,j0⟩:=zB O;subst a0
    refine DM.run (fuel:=5) ttok hsk6 [22] 8388607 (by kernel_rfl) (by kernel_rfl) rfl ?_
    refine DM.load1 ttok hsk6 23 16777215 (by kernel_rfl) (by kernel_rfl) (by kernel_rfl) (by kernel_rfl) rfl (by kernel_rfl) rfl rfl rfl rfl rfl (At.ext (hE.trans b.ext) H) 4 rfl rfl rfl rfl ?_
    refine DM.run (fuel:=0) ttok hsk6 [24,25,26,27] 268435455 (by kernel_rfl) (by kernel_rfl) rfl ?_
    refine DM.weak [(4,.bool (decide (x1.Slot<(e0.Ports.length:Int))))] ⟨rfl,trivial⟩ ?_
    refine DM.done hsk6 (by kernel_rfl) ?_
    refine WP.ret ?_
    cases hm
    exact⟨_,.cons (.tmp rfl) .nil,rfl,(y.taken 0)⟩
   ·skip
    rw [if_neg hg12] at hm
    refine DM.know 20 rfl (congrArg Value.bool (Bool.eq_false_iff.2 hg12)) ?_
    refine DM.run (fuel:=0) ttok hsk6 [16,17,18,19,20,21,22,23,24,25,26,27] 268435455 (by kernel_rfl) (by kernel_rfl) rfl ?_
    refine DM.weak [(4,.bool false)] ⟨rfl,trivial⟩ ?_
    refine DM.done hsk6 (by kernel_rfl) ?_
    refine WP.ret ?_
    cases hm
    exact⟨_,.cons (.tmp rfl) .nil,rfl,(y.taken 0)⟩
  ·skip
   rw [if_neg hg11] at hm
   refine DM.know 15 rfl (congrArg Value.bool (Bool.eq_false_iff.2 hg11)) ?_
   refine DM.run (fuel:=0) ttok hsk6 [11,12,13,14,15,16,17,18,19,20,21,22,23,24,25,26,27] 268435455 (by kernel_rfl) (by kernel_rfl) rfl ?_
   refine DM.weak [(4,.bool false)] ⟨rfl,trivial⟩ ?_
   refine DM.done hsk6 (by kernel_rfl) ?_
   refine WP.ret ?_
   cases hm
   exact⟨_,.cons (.tmp rfl) .nil,rfl,(y.taken 0)⟩
 ·skip
  rw [if_neg hg10] at hm
  refine DM.know 8 rfl (congrArg Value.bool (Bool.eq_false_iff.2 hg10)) ?_
  refine DM.run (fuel:=0) ttok hsk6 [4,5,6,7,8,9,10,11,12,13,14,15,16,17,18,19,20,21,22,23,24,25,26,27] 268435455 (by kernel_rfl) (by kernel_rfl) rfl ?_
  refine DM.weak [(4,.bool false)] ⟨rfl,trivial⟩ ?_
  refine DM.done hsk6 (by kernel_rfl) ?_
  refine WP.ret ?_
  cases hm
  exact⟨_,.cons (.tmp rfl) .nil,rfl,(y.taken 0)⟩

theorem zcg:Enters Tryz.prog 74:=⟨_,_,Tryz.func74,rfl,by kernel_rfl⟩
def z3v (fuel:Nat) (x0:D.Port) (x1:D.Net):Option (Bool):=((zQ fuel x1 x0).bind fun b=>(if(((b.Agent:Int) == x0.Agent) && (((b.Slot:Int) == x0.Slot) && true))=true then some true else((z4c fuel x1.Agents b).bind fun o=>(if(!o)=true then some true else((zQ fuel x1 b).bind fun d=>some (!(((d.Agent:Int) == x0.Agent) && (((d.Slot:Int) == x0.Slot) && true))))))))

set_option maxRecDepth 100000 in
theorem z6g {W:Base}{w:World}(hE:Ext W w){r0:List Value}{x0:D.Port}{Y:Addr}{t0:List Value}{x1:D.Net}(v0:ty87.ro W r0 x0) (b0:ty31.ro W t0 x1) (a0:At W Y t0){fuel:Nat}{r:Bool}(hm:z3v fuel x0 x1=some r):
  Calls Tryz.prog 74 ⟨[.agg ⟨r0⟩,.pointer (some Y)]⟩ w (Ret fun v w8=>v=.bool r∧St w w8 []):=by
 have e1:=zV v0;subst e1
 obtain⟨A2,k3,e5,h4⟩:=z1C b0;subst e5
 refine Calls.into Tryz.func74 rfl 23 rfl rfl _ rfl ?_
 unfold z3v at hm
 have hS:=St.start w
 refine WP.seq ?_
 refine WP.region ?_
 refine RW.new ttok hS rfl rfl rfl rfl (fun g6 w7 B0 d=>?_)
 refine RW.run ttok 1 rfl ?_
 refine RW.nil ?_
 refine WP.seq ?_
 refine WP.region ?_
 refine RW.loadN ttok rfl rfl rfl rfl rfl ((d.bring 0 rfl).box) rfl rfl rfl ?_
 obtain⟨G,o0,hm⟩:=bind_some hm
 refine RW.call rfl rfl rfl z5P (z1K (hE.trans d.ext) b0 a0 v0 o0) (fun D0 G0 c0=>?_)
 obtain⟨rfl,d0⟩:=c0
 have g0:=d.join d0
 refine RW.new ttok g0 rfl rfl rfl rfl (fun u0 H0 C0 i0=>?_)
 have j0:=i0.bring 0 rfl
 refine RW.store ttok (A:=[]) j0 rfl rfl rfl rfl rfl 0 rfl rfl rfl rfl rfl (fun J0 b=>?_)
 refine RW.nil ?_
 refine WP.seq ?_
 refine WP.drawnM 0 mixed 17 (by kernel_rfl) (by kernel_rfl) [([],131071),([],131071),([0,1],131068),([2],131067),([3],131063),([4,3],131047),([3],131063),([5,6,3,3],130967),([7,3],130935),([3,8],130807),([9,7],130559),([10],130047),([11,10,10],127999),([10],130047),([12,13,10],117759),([10,14],113663),([15,12,0,1,2,3,4,5,6,7,8,9,10,11,12,13,14,15],98303)] (by kernel_rfl) b.ext (fun hsk26=>?_)
 have o:=b.step (Ext.draw _)
 refine DM.loadN ttok hsk26 0 1 (by kernel_rfl) (by kernel_rfl) (by kernel_rfl) (by kernel_rfl) rfl (by kernel_rfl) rfl rfl rfl rfl rfl ((b.bring 0 rfl).box) rfl rfl rfl ?_
 refine DM.loadN ttok hsk26 1 3 (by kernel_rfl) (by kernel_rfl) (by kernel_rfl) (by kernel_rfl) rfl (by kernel_rfl) rfl rfl rfl rfl rfl ((b.bring 1 rfl).box) rfl rfl rfl ?_
 refine DM.run (fuel:=13) ttok hsk26 [2,3] 15 (by kernel_rfl) (by kernel_rfl) rfl ?_
 refine DM.weak [(1,.pointer (some Y)),(2,.pointer (some ⟨g6,0,none⟩)),(3,.bool false),(4,.pointer (some ⟨u0,0,none⟩)),(10,.bool (((G.Agent:Int) == x0.Agent) && (((G.Slot:Int) == x0.Slot) && true)))] ⟨rfl,rfl,rfl,rfl,rfl,trivial⟩ ?_
 by_cases hg28:(((G.Agent:Int) == x0.Agent) && (((G.Slot:Int) == x0.Slot) && true))=true
 ·skip
  rw [if_pos hg28] at hm
  refine DM.know 10 rfl (congrArg Value.bool hg28) ?_
  refine DM.run (fuel:=0) ttok hsk26 [4,5,6,7,8,9,10,11,12,13,14,15,16] 131071 (by kernel_rfl) (by kernel_rfl) rfl ?_
  refine DM.weak [(3,.bool true)] ⟨rfl,trivial⟩ ?_
  refine DM.done hsk26 (by kernel_rfl) ?_
  refine WP.ret ?_
  cases hm
  exact⟨_,.cons (.tmp rfl) .nil,rfl,(o.taken 0)⟩
 ·skip
  rw [if_neg hg28] at hm
  refine DM.know 10 rfl (congrArg Value.bool (Bool.eq_false_iff.2 hg28)) ?_
  refine DM.run (fuel:=12) ttok hsk26 [4] 31 (by kernel_rfl) (by kernel_rfl) rfl ?_
  refine DM.load1 ttok hsk26 5 63 (by kernel_rfl) (by kernel_rfl) (by kernel_rfl) (by kernel_rfl) rfl (by kernel_rfl) rfl rfl rfl rfl rfl (At.ext (hE.trans b.ext) a0) 0 rfl rfl rfl rfl ?_
  refine DM.loadN ttok hsk26 6 127 (by kernel_rfl) (by kernel_rfl) (by kernel_rfl) (by kernel_rfl) rfl (by kernel_rfl) rfl rfl rfl rfl rfl ((b.bring 0 rfl).box) rfl rfl rfl ?_
  obtain⟨y0,p0,hm⟩:=bind_some hm
  refine DM.one hsk26 7 (by kernel_rfl) (LM.call hsk26 255 (by kernel_rfl) (by kernel_rfl) rfl rfl rfl rfl zcf (z7C (hE.trans o.ext) h4 (z1B G) p0) (fun E0 K0 e0=>?_))
  obtain⟨rfl,H⟩:=e0
  refine⟨H.ext,?_⟩
  have y:=o.join H
  refine DM.run (fuel:=6) ttok hsk26 [8,9,10] 2047 (by kernel_rfl) (by kernel_rfl) rfl ?_
  refine DM.weak [(1,.pointer (some Y)),(2,.pointer (some ⟨g6,0,none⟩)),(3,.bool false),(4,.pointer (some ⟨u0,0,none⟩)),(17,.bool (!y0))] ⟨rfl,rfl,rfl,rfl,rfl,trivial⟩ ?_
  by_cases hg36:(!y0)=true
  ·skip
   rw [if_pos hg36] at hm
   refine DM.know 17 rfl (congrArg Value.bool hg36) ?_
   refine DM.run (fuel:=0) ttok hsk26 [11,12,13,14,15,16] 131071 (by kernel_rfl) (by kernel_rfl) rfl ?_
   refine DM.weak [(3,.bool true)] ⟨rfl,trivial⟩ ?_
   refine DM.done hsk26 (by kernel_rfl) ?_
   refine WP.ret ?_
   cases hm
   exact⟨_,.cons (.tmp rfl) .nil,rfl,(y.taken 0)⟩
  ·skip
   rw [if_neg hg36] at hm
   refine DM.know 17 rfl (congrArg Value.bool (Bool.eq_false_iff.2 hg36)) ?_
   refine DM.loadN ttok hsk26 11 4095 (by kernel_rfl) (by kernel_rfl) (by kernel_rfl) (by kernel_rfl) rfl (by kernel_rfl) rfl rfl rfl rfl rfl ((b.bring 0 rfl).box) rfl rfl rfl ?_
   refine DM.loadN ttok hsk26 13 12287 (by kernel_rfl) (by kernel_rfl) (by kernel_rfl) (by kernel_rfl) rfl (by kernel_rfl) rfl rfl rfl rfl rfl ((b.bring 1 rfl).box) rfl rfl rfl ?_
   obtain⟨A0,q0,hm⟩:=bind_some hm
   refine DM.one hsk26 12 (by kernel_rfl) (LM.call hsk26 16383 (by kernel_rfl) (by kernel_rfl) rfl rfl rfl rfl z5P (z1K (hE.trans y.ext) b0 a0 (z1B G) q0) (fun F0 M0 f0=>?_))
   obtain⟨rfl,O⟩:=f0
   refine⟨O.ext,?_⟩
   have k0:=y.join O
   refine DM.run (fuel:=0) ttok hsk26 [14,15,16] 131071 (by kernel_rfl) (by kernel_rfl) rfl ?_
   refine DM.weak [(3,.bool (!(((A0.Agent:Int) == x0.Agent) && (((A0.Slot:Int) == x0.Slot) && true))))] ⟨rfl,trivial⟩ ?_
   refine DM.done hsk26 (by kernel_rfl) ?_
   refine WP.ret ?_
   cases hm
   exact⟨_,.cons (.tmp rfl) .nil,rfl,(k0.taken 0)⟩

theorem zcw:Enters Tryz.prog 46:=⟨_,_,Tryz.func46,rfl,by kernel_rfl⟩
def z3M (fuel:Nat) (x0:D.Net):Option (Bool):=((z3i fuel x0.Agents).bind fun b=>(if(!b)=true then some false else((z3j fuel x0).bind fun d=>((zi fuel d (fun y0=>z3v fuel y0 x0)).bind fun o=>some (!o)))))

set_option maxRecDepth 100000 in
theorem z6V {W:Base}{w:World}(hE:Ext W w){i0:List Value}{x0:D.Net}(G:ty31.ro W i0 x0){fuel:Nat}{r:Bool}(hm:z3M fuel x0=some r):
  Calls Tryz.prog 46 ⟨[.agg ⟨i0⟩]⟩ w (Ret fun v w8=>v=.bool r∧St w w8 []):=by
 obtain⟨A1,k2,e4,h3⟩:=z1C G;subst e4
 refine Calls.into Tryz.func46 rfl 11 rfl rfl _ rfl ?_
 unfold z3M at hm
 have hS:=St.start w
 refine WP.seq ?_
 refine WP.region ?_
 refine RW.new ttok hS rfl rfl rfl rfl (fun g5 w6 e7 o=>?_)
 refine RW.run ttok 1 rfl ?_
 refine RW.nil ?_
 refine WP.seq ?_
 refine WP.seq ?_
 refine WP.region ?_
 refine RW.run ttok 1 rfl ?_
 refine RW.load1 ttok rfl rfl rfl rfl rfl ((o.bring 0 rfl).box) 0 rfl rfl rfl rfl ?_
 obtain⟨k0,e0,hm⟩:=bind_some hm
 refine RW.call rfl rfl rfl zcj (z6H (hE.trans o.ext) h3 e0) (fun t0 y0 H=>?_)
 obtain⟨rfl,O⟩:=H
 have b:=o.join O
 refine RW.run ttok 1 rfl ?_
 refine RW.nil ?_
 refine WP.cond (!k0) rfl (fun hc=>?_) (fun hc=>?_)
 ·skip
  rw [if_pos hc] at hm
  refine WP.seq ?_
  refine WP.region ?_
  refine RW.run ttok 1 rfl ?_
  refine RW.nil ?_
  refine WP.ret ?_
  cases hm
  exact⟨_,.cons (.tmp rfl) .nil,rfl,(b.taken 0)⟩
 ·skip
  rw [if_neg (zC hc)] at hm
  refine WP.skip ?_
  refine WP.seq ?_
  refine WP.region ?_
  obtain⟨q0,f0,hm⟩:=bind_some hm
  refine RW.call rfl rfl rfl zch (z6J (Ext.refl _) (ty31.ext (hE.trans b.ext) G) ((b.bring 0 rfl).box) f0) (fun u0 A0 Y=>?_)
  obtain⟨o0,p0,rfl,a0⟩:=Y
  have d:=b.join a0
  refine RW.run ttok 1 rfl ?_
  obtain⟨r0,g0,hm⟩:=bind_some hm
  refine RW.call rfl rfl rfl zci (z3d (Ext.refl _) ((d.bring 0 rfl).own) ⟨zcg,fun e9=>(fun y j0=>z6g (Ext.refl _) y (ty31.ext e9 (ty31.ext (hE.trans d.ext) G)) (At.ext e9 ((d.bring 1 rfl).box)) j0)⟩ g0) (fun v0 B0 b0=>?_)
  obtain⟨rfl,c0⟩:=b0
  have d0:=d.join c0
  refine RW.run ttok 2 rfl ?_
  refine RW.nil ?_
  refine WP.ret ?_
  cases hm
  exact⟨_,.cons (.tmp rfl) .nil,rfl,(d0.taken 0)⟩

end Go.E


