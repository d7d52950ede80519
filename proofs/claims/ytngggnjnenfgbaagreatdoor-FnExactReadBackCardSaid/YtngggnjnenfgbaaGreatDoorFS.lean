/- Models of functions and proofs that the code runs as they say (written by program). Conditions: the model gives a value. -/
import Derived.Test.YtngggnjnenfgbaaGreatDoorFK
namespace Go.E
open Go.RowKit Go.Proofs
set_option linter.unusedVariables false
set_option linter.unusedSimpArgs false
set_option maxHeartbeats 2000000

theorem zcp:Enters Tryz.prog 63:=⟨_,_,Tryz.func63,rfl,by kernel_rfl⟩
def z4C (fuel:Nat) (b:(List Int)):Option (Int × (List Int)):=some (8,b)
def z23 (fuel:Nat) (x0:D.Agent) (b:Int × (List Int)):Option (Rd (Int × (List Int)) ((List Int)) (Int × (List Int))):=(if(decide (b.1<(x0.Ports.length:Int)))=true then(if decide ((b.2.length:Int)+(([b.1]:(List Int)).length:Int)≤4294967296)=true then some (.next (w64 (b.1+1),(b.2++([b.1]:(List Int))))) else none) else some (.brk b.2))
def z2G (fuel:Nat) (x0:D.Agent) (b:Bool):Option (Int × (List Int)):=(if b=true then some (10,([0]:(List Int))) else(if(x0.Kind == 12)=true then some (11,[]) else some (0,[])))
def z2H (fuel:Nat) (x0:D.Agent) (x1:Int) (b:Bool):Option (Int × (List Int)):=(if b=true then some (9,([0]:(List Int))) else(if(x0.Kind == 11)=true then z2G fuel x0 (x1 == 1) else z2G fuel x0 false))
def z2J (fuel:Nat) (x0:D.Agent) (x1:Int) (b:Bool):Option (Int × (List Int)):=(if b=true then((iter (z23 fuel x0) fuel (1,([]:(List Int)))).bind fun o=>aft o (z4C fuel)) else(if(x0.Kind == 10)=true then z2H fuel x0 x1 (x1 == 1) else z2H fuel x0 x1 false))
def z2K (fuel:Nat) (x0:D.Agent) (x1:Int) (b:Bool):Option (Int × (List Int)):=(if b=true then some (3,([0]:(List Int))) else(if(x0.Kind == 9)=true then z2J fuel x0 x1 (x1 == 0) else z2J fuel x0 x1 false))
def z2L (fuel:Nat) (x0:D.Agent) (x1:Int) (b:Bool):Option (Int × (List Int)):=(if b=true then some (3,([0,1]:(List Int))) else(if(x0.Kind == 8)=true then z2K fuel x0 x1 (x1 == 1) else z2K fuel x0 x1 false))
def z2M (fuel:Nat) (x0:D.Agent) (x1:Int) (b:Bool):Option (Int × (List Int)):=(if b=true then some (5,([0,1]:(List Int))) else(if(x0.Kind == 6)=true then some (2,[]) else(if(x0.Kind == 7)=true then z2L fuel x0 x1 (x1 == 2) else z2L fuel x0 x1 false)))
def z2N (fuel:Nat) (x0:D.Agent) (x1:Int) (b:Bool):Option (Int × (List Int)):=(if b=true then some (1,[]) else(if(x0.Kind == 3)=true then z2M fuel x0 x1 (x1 == 2) else z2M fuel x0 x1 false))
def z2O (fuel:Nat) (x0:D.Agent) (x1:Int) (b:Bool):Option (Int × (List Int)):=(if b=true then some (4,([2]:(List Int))) else(if(x0.Kind == 2)=true then z2N fuel x0 x1 (x1 == 1) else z2N fuel x0 x1 false))
def z40 (fuel:Nat) (x0:D.Agent) (x1:Int):Option (Int × (List Int)):=(if(x0.Kind == 2)=true then z2O fuel x0 x1 (x1 == 0) else z2O fuel x0 x1 false)

set_option maxRecDepth 100000 in
theorem z7e {W:Base}{w:World}(hE:Ext W w){b:Addr}{i1:List Value}{x0:D.Agent}{x1:Int}(B1:ty67.ro W i1 x0) (O:At W b i1){fuel:Nat}{r:Int × (List Int)}(hm:z40 fuel x0 x1=some r):
  Calls Tryz.prog 63 ⟨[.pointer (some b),.int .i64 x1]⟩ w (Ret fun v w8=>∃ A0 k0,v=.tuple ⟨[.int .i64 r.1,.slice A0 r.2.length k0]⟩∧St w w8 [Own ty26 [.slice A0 r.2.length k0] r.2]):=by
 obtain⟨A1,k2,A4,k5,e7,h3,h6⟩:=zB B1;subst e7
 refine Calls.into Tryz.func63 rfl 121 rfl rfl _ rfl ?_
 unfold z40 at hm
 have hS:=St.start w
 refine WP.seq ?_
 refine WP.region ?_
 refine RW.run ttok 2 rfl ?_
 refine RW.nil ?_
 refine WP.seq ?_
 refine WP.block ?_
 refine WP.seq ?_
 refine WP.cut (fun(B0:Bool) F w9=>z2O fuel x0 x1 B0=some r∧Ext w w9∧St w w9 []∧F=[(0,.pointer (some b)),(1,.int .i64 x1),(8,.bool B0)]) ?_ ?_
 ·skip
  rintro B0 F S1 ⟨hm,C1,Y,rfl⟩
  unfold z2O at hm
  refine WP.cond B0 rfl (fun hc=>?_) (fun hc=>?_)
  ·skip
   rw [if_pos hc] at hm
   refine WP.seq ?_
   refine WP.region ?_
   refine RW.newSlice (U:=tInt) (els:=[.int .i64 2]) (ys:=[2]) ttok (Y.flatEls (U:=tInt) (els:=[.int .i64 2]) (ys:=[2]) ⟨[.int .i64 2],_,[],[],rfl,rfl,⟨rfl,rfl⟩,⟨rfl,rfl⟩⟩) rfl rfl rfl rfl rfl rfl rfl rfl rfl rfl rfl rfl (fun n1 K1 m2 a2 M0=>?_)
   refine RW.run ttok 2 rfl ?_
   refine RW.nil ?_
   refine WP.ret ?_
   cases hm
   exact⟨_,.cons (.tmp rfl) (.cons (.tmp rfl) .nil),n1,K1,rfl,M0⟩
  ·skip
   rw [if_neg (zC hc)] at hm
   refine WP.seq ?_
   refine WP.cut (fun(C0:Bool) F w9=>z2N fuel x0 x1 C0=some r∧Ext S1 w9∧St w w9 []∧F=[(0,.pointer (some b)),(1,.int .i64 x1),(19,.bool C0)]) ?_ ?_
   ·skip
    rintro C0 F T1 ⟨hm,D1,a0,rfl⟩
    unfold z2N at hm
    refine WP.cond C0 rfl (fun hc=>?_) (fun hc=>?_)
    ·skip
     rw [if_pos hc] at hm
     refine WP.seq ?_
     refine WP.region ?_
     refine RW.run ttok 2 rfl ?_
     refine RW.nil ?_
     refine WP.ret ?_
     cases hm
     have N0:=a0.nilSl tInt 2
     exact⟨_,.cons (.tmp rfl) (.cons (.tmp rfl) .nil),none,0,rfl,N0⟩
    ·skip
     rw [if_neg (zC hc)] at hm
     refine WP.seq ?_
     refine WP.cut (fun(D0:Bool) F w9=>z2M fuel x0 x1 D0=some r∧Ext T1 w9∧St w w9 []∧F=[(0,.pointer (some b)),(1,.int .i64 x1),(29,.bool D0)]) ?_ ?_
     ·skip
      rintro D0 F U1 ⟨hm,E1,H,rfl⟩
      unfold z2M at hm
      refine WP.cond D0 rfl (fun hc=>?_) (fun hc=>?_)
      ·skip
       rw [if_pos hc] at hm
       refine WP.seq ?_
       refine WP.region ?_
       refine RW.newSlice (U:=tInt) (els:=[.int .i64 0,.int .i64 1]) (ys:=[0,1]) ttok (H.flatEls (U:=tInt) (els:=[.int .i64 0,.int .i64 1]) (ys:=[0,1]) ⟨[.int .i64 0],_,[],[],rfl,rfl,⟨rfl,rfl⟩,⟨[.int .i64 1],_,[],[],rfl,rfl,⟨rfl,rfl⟩,⟨rfl,rfl⟩⟩⟩) rfl rfl rfl rfl rfl rfl rfl rfl rfl rfl rfl rfl (fun p1 L1 n2 b2 O0=>?_)
       refine RW.run ttok 2 rfl ?_
       refine RW.nil ?_
       refine WP.ret ?_
       cases hm
       exact⟨_,.cons (.tmp rfl) (.cons (.tmp rfl) .nil),p1,L1,rfl,O0⟩
      ·skip
       rw [if_neg (zC hc)] at hm
       refine WP.seq ?_
       refine WP.region ?_
       refine RW.run ttok 3 rfl ?_
       refine RW.load1 ttok rfl rfl rfl rfl rfl (At.ext (hE.trans H.ext) O) 0 rfl rfl rfl rfl ?_
       refine RW.run ttok 2 rfl ?_
       refine RW.nil ?_
       refine WP.cond (x0.Kind == 6) rfl (fun hc=>?_) (fun hc=>?_)
       ·skip
        rw [if_pos hc] at hm
        refine WP.seq ?_
        refine WP.region ?_
        refine RW.run ttok 2 rfl ?_
        refine RW.nil ?_
        refine WP.ret ?_
        cases hm
        have P0:=H.nilSl tInt 2
        exact⟨_,.cons (.tmp rfl) (.cons (.tmp rfl) .nil),none,0,rfl,P0⟩
       ·skip
        rw [if_neg (zC hc)] at hm
        refine WP.seq ?_
        refine WP.cut (fun(E0:Bool) F w9=>z2L fuel x0 x1 E0=some r∧Ext U1 w9∧St w w9 []∧F=[(0,.pointer (some b)),(1,.int .i64 x1),(46,.bool E0)]) ?_ ?_
        ·skip
         rintro E0 F V1 ⟨hm,F1,b0,rfl⟩
         unfold z2L at hm
         refine WP.cond E0 rfl (fun hc=>?_) (fun hc=>?_)
         ·skip
          rw [if_pos hc] at hm
          refine WP.seq ?_
          refine WP.region ?_
          refine RW.newSlice (U:=tInt) (els:=[.int .i64 0,.int .i64 1]) (ys:=[0,1]) ttok (b0.flatEls (U:=tInt) (els:=[.int .i64 0,.int .i64 1]) (ys:=[0,1]) ⟨[.int .i64 0],_,[],[],rfl,rfl,⟨rfl,rfl⟩,⟨[.int .i64 1],_,[],[],rfl,rfl,⟨rfl,rfl⟩,⟨rfl,rfl⟩⟩⟩) rfl rfl rfl rfl rfl rfl rfl rfl rfl rfl rfl rfl (fun t1 M1 o2 d2 Q0=>?_)
          refine RW.run ttok 2 rfl ?_
          refine RW.nil ?_
          refine WP.ret ?_
          cases hm
          exact⟨_,.cons (.tmp rfl) (.cons (.tmp rfl) .nil),t1,M1,rfl,Q0⟩
         ·skip
          rw [if_neg (zC hc)] at hm
          refine WP.seq ?_
          refine WP.cut (fun(F0:Bool) F w9=>z2K fuel x0 x1 F0=some r∧Ext V1 w9∧St w w9 []∧F=[(0,.pointer (some b)),(1,.int .i64 x1),(57,.bool F0)]) ?_ ?_
          ·skip
           rintro F0 F W1 ⟨hm,G1,c0,rfl⟩
           unfold z2K at hm
           refine WP.cond F0 rfl (fun hc=>?_) (fun hc=>?_)
           ·skip
            rw [if_pos hc] at hm
            refine WP.seq ?_
            refine WP.region ?_
            refine RW.newSlice (U:=tInt) (els:=[.int .i64 0]) (ys:=[0]) ttok (c0.flatEls (U:=tInt) (els:=[.int .i64 0]) (ys:=[0]) ⟨[.int .i64 0],_,[],[],rfl,rfl,⟨rfl,rfl⟩,⟨rfl,rfl⟩⟩) rfl rfl rfl rfl rfl rfl rfl rfl rfl rfl rfl rfl (fun u1 N1 p2 e2 R0=>?_)
            refine RW.run ttok 2 rfl ?_
            refine RW.nil ?_
            refine WP.ret ?_
            cases hm
            exact⟨_,.cons (.tmp rfl) (.cons (.tmp rfl) .nil),u1,N1,rfl,R0⟩
           ·skip
            rw [if_neg (zC hc)] at hm
            refine WP.seq ?_
            refine WP.cut (fun(G0:Bool) F w9=>z2J fuel x0 x1 G0=some r∧Ext W1 w9∧St w w9 []∧F=[(0,.pointer (some b)),(1,.int .i64 x1),(68,.bool G0)]) ?_ ?_
            ·skip
             rintro G0 F X1 ⟨hm,H1,d0,rfl⟩
             unfold z2J at hm
             refine WP.cond G0 rfl (fun hc=>?_) (fun hc=>?_)
             ·skip
              rw [if_pos hc] at hm
              refine WP.seq ?_
              refine WP.region ?_
              refine RW.newSlice0 (U:=tInt) ttok d0 rfl rfl rfl rfl rfl rfl rfl (fun f1 k1 q2 f2 S0=>?_)
              refine RW.run ttok 1 rfl ?_
              refine RW.nil ?_
              refine WP.seq ?_
              refine WP.seq ?_
              refine WP.region ?_
              refine RW.run ttok 1 rfl ?_
              refine RW.nil ?_
              obtain⟨O1,X0,hm⟩:=bind_some hm
              refine WP.cut (fun(u0:(List Int)) F w9=>∃ v0 y0,O1=.inl u0∧St w w9 [Own ty26 [.slice v0 u0.length y0] u0]∧F=[(6,.slice v0 u0.length y0)]) ?_ ?_
              ·skip
               rintro u0 F r2 ⟨v0,y0,Y0,T0,rfl⟩
               subst Y0
               rw [zx] at hm
               unfold z4C at hm
               refine WP.seq ?_
               refine WP.region ?_
               refine RW.run ttok 3 rfl ?_
               refine RW.nil ?_
               refine WP.ret ?_
               cases hm
               exact⟨_,.cons (.tmp rfl) (.cons (.tmp rfl) .nil),v0,y0,rfl,T0⟩
              ·skip
               refine WP.block ?_
               refine WP.weak [(0,.pointer (some b)),(6,.slice f1 ([]:(List Int)).length k1),(7,.int .i64 1)] ⟨rfl,rfl,rfl,trivial⟩ ?_
               refine WP.iter (fun(o:Int × (List Int)) F w9=>∃ i0 t0,St w w9 [Own ty26 [.slice i0 o.2.length t0] o.2]∧F=[(0,.pointer (some b)),(6,.slice i0 o.2.length t0),(7,.int .i64 o.1)]) _ X0 ⟨f1,k1,S0,rfl⟩ ?_
               rintro o F s2 _ j2 ⟨i0,t0,f0,rfl⟩ d a1
               unfold z23 at d
               refine WP.seq ?_
               refine WP.seq ?_
               refine WP.region ?_
               refine RW.run ttok 4 rfl ?_
               refine RW.load1 ttok rfl rfl rfl rfl rfl (At.ext (hE.trans f0.ext) O) 4 rfl rfl rfl rfl ?_
               refine RW.run ttok 2 rfl ?_
               refine RW.nil ?_
               refine WP.cond (decide (o.1<(x0.Ports.length:Int))) rfl (fun hc=>?_) (fun hc=>?_)
               ·skip
                rw [if_pos hc] at d
                refine WP.skip ?_
                refine WP.seq ?_
                refine WP.block ?_
                refine WP.region ?_
                refine RW.run ttok 2 rfl ?_
                refine RW.newSlice (U:=tInt) (els:=[.int .i64 o.1]) (ys:=[o.1]) ttok (f0.flatEls (U:=tInt) (els:=[.int .i64 o.1]) (ys:=[o.1]) ⟨[.int .i64 o.1],_,[],[],rfl,rfl,⟨rfl,rfl⟩,⟨rfl,rfl⟩⟩) rfl rfl rfl rfl rfl rfl rfl rfl rfl rfl rfl rfl (fun Y1 i2 u2 g2 U0=>?_)
                have r0:=U0.bring 1 rfl
                by_cases g0:decide ((o.2.length:Int)+(([o.1]:(List Int)).length:Int)≤4294967296)=true
                case neg=>rw [if_neg g0] at d;cases d
                rw [if_pos g0] at d
                refine RW.appendRo ttok Flat.int r0 rfl rfl rfl rfl rfl rfl (by decide) rfl rfl ((r0.bring 1 rfl).own) (of_decide_eq_true g0) (by decide) rfl rfl (fun g1 m1 v2 V0=>?_)
                refine RW.run ttok 1 rfl ?_
                refine RW.nil ?_
                refine WP.region ?_
                refine RW.run ttok 3 rfl ?_
                refine RW.nil ?_
                cases d
                exact⟨_,[(0,.pointer (some b)),(6,.slice g1 (o.2++([o.1]:(List Int))).length m1),(7,.int .i64 (w64 (o.1+1)))],⟨rfl,rfl,rfl,trivial⟩,rfl,g1,m1,(V0.taken 1),rfl⟩
               ·skip
                rw [if_neg (zC hc)] at d
                refine WP.exit ?_
                cases d
                exact⟨_,[(6,.slice i0 o.2.length t0)],⟨rfl,trivial⟩,i0,t0,a1,f0,rfl⟩
             ·skip
              rw [if_neg (zC hc)] at hm
              refine WP.seq ?_
              refine WP.cut (fun(H0:Bool) F w9=>z2H fuel x0 x1 H0=some r∧Ext X1 w9∧St w w9 []∧F=[(0,.pointer (some b)),(1,.int .i64 x1),(93,.bool H0)]) ?_ ?_
              ·skip
               rintro H0 F e1 ⟨hm,J1,y,rfl⟩
               unfold z2H at hm
               refine WP.cond H0 rfl (fun hc=>?_) (fun hc=>?_)
               ·skip
                rw [if_pos hc] at hm
                refine WP.seq ?_
                refine WP.region ?_
                refine RW.newSlice (U:=tInt) (els:=[.int .i64 0]) (ys:=[0]) ttok (y.flatEls (U:=tInt) (els:=[.int .i64 0]) (ys:=[0]) ⟨[.int .i64 0],_,[],[],rfl,rfl,⟨rfl,rfl⟩,⟨rfl,rfl⟩⟩) rfl rfl rfl rfl rfl rfl rfl rfl rfl rfl rfl rfl (fun J0 b1 P1 v1 j0=>?_)
                refine RW.run ttok 2 rfl ?_
                refine RW.nil ?_
                refine WP.ret ?_
                cases hm
                exact⟨_,.cons (.tmp rfl) (.cons (.tmp rfl) .nil),J0,b1,rfl,j0⟩
               ·skip
                rw [if_neg (zC hc)] at hm
                refine WP.seq ?_
                refine WP.cut (fun(e0:Bool) F w9=>z2G fuel x0 e0=some r∧Ext e1 w9∧St w w9 []∧F=[(0,.pointer (some b)),(104,.bool e0)]) ?_ ?_
                ·skip
                 rintro e0 F Q1 ⟨hm,j1,G,rfl⟩
                 unfold z2G at hm
                 refine WP.cond e0 rfl (fun hc=>?_) (fun hc=>?_)
                 ·skip
                  rw [if_pos hc] at hm
                  refine WP.seq ?_
                  refine WP.region ?_
                  refine RW.newSlice (U:=tInt) (els:=[.int .i64 0]) (ys:=[0]) ttok (G.flatEls (U:=tInt) (els:=[.int .i64 0]) (ys:=[0]) ⟨[.int .i64 0],_,[],[],rfl,rfl,⟨rfl,rfl⟩,⟨rfl,rfl⟩⟩) rfl rfl rfl rfl rfl rfl rfl rfl rfl rfl rfl rfl (fun K0 d1 R1 y1 o0=>?_)
                  refine RW.run ttok 2 rfl ?_
                  refine RW.nil ?_
                  refine WP.ret ?_
                  cases hm
                  exact⟨_,.cons (.tmp rfl) (.cons (.tmp rfl) .nil),K0,d1,rfl,o0⟩
                 ·skip
                  rw [if_neg (zC hc)] at hm
                  refine WP.seq ?_
                  refine WP.region ?_
                  refine RW.run ttok 3 rfl ?_
                  refine RW.load1 ttok rfl rfl rfl rfl rfl (At.ext (hE.trans G.ext) O) 0 rfl rfl rfl rfl ?_
                  refine RW.run ttok 2 rfl ?_
                  refine RW.nil ?_
                  refine WP.cond (x0.Kind == 12) rfl (fun hc=>?_) (fun hc=>?_)
                  ·skip
                   rw [if_pos hc] at hm
                   refine WP.seq ?_
                   refine WP.region ?_
                   refine RW.run ttok 2 rfl ?_
                   refine RW.nil ?_
                   refine WP.ret ?_
                   cases hm
                   have p0:=G.nilSl tInt 2
                   exact⟨_,.cons (.tmp rfl) (.cons (.tmp rfl) .nil),none,0,rfl,p0⟩
                  ·skip
                   rw [if_neg (zC hc)] at hm
                   refine WP.skip ?_
                   refine WP.seq ?_
                   refine WP.region ?_
                   refine RW.run ttok 2 rfl ?_
                   refine RW.nil ?_
                   refine WP.ret ?_
                   cases hm
                   have q0:=G.nilSl tInt 2
                   exact⟨_,.cons (.tmp rfl) (.cons (.tmp rfl) .nil),none,0,rfl,q0⟩
                ·skip
                 refine WP.region ?_
                 refine RW.run ttok 3 rfl ?_
                 refine RW.load1 ttok rfl rfl rfl rfl rfl (At.ext (hE.trans y.ext) O) 0 rfl rfl rfl rfl ?_
                 refine RW.run ttok 2 rfl ?_
                 by_cases hg120:(x0.Kind == 11)=true
                 ·skip
                  rw [if_pos hg120] at hm
                  refine RW.know 110 rfl (congrArg Value.bool hg120) ?_
                  refine RW.run ttok 4 rfl ?_
                  refine RW.nil ?_
                  exact⟨(x1 == 1),[(0,.pointer (some b)),(104,.bool (x1 == 1))],⟨rfl,rfl,trivial⟩,hm,(Ext.refl _),y,rfl⟩
                 ·skip
                  rw [if_neg hg120] at hm
                  refine RW.know 110 rfl (congrArg Value.bool (Bool.eq_false_iff.2 hg120)) ?_
                  refine RW.run ttok 4 rfl ?_
                  refine RW.nil ?_
                  exact⟨false,[(0,.pointer (some b)),(104,.bool false)],⟨rfl,rfl,trivial⟩,hm,(Ext.refl _),y,rfl⟩
              ·skip
               refine WP.region ?_
               refine RW.run ttok 3 rfl ?_
               refine RW.load1 ttok rfl rfl rfl rfl rfl (At.ext (hE.trans d0.ext) O) 0 rfl rfl rfl rfl ?_
               refine RW.run ttok 2 rfl ?_
               by_cases hg121:(x0.Kind == 10)=true
               ·skip
                rw [if_pos hg121] at hm
                refine RW.know 99 rfl (congrArg Value.bool hg121) ?_
                refine RW.run ttok 4 rfl ?_
                refine RW.nil ?_
                exact⟨(x1 == 1),[(0,.pointer (some b)),(1,.int .i64 x1),(93,.bool (x1 == 1))],⟨rfl,rfl,rfl,trivial⟩,hm,(Ext.refl _),d0,rfl⟩
               ·skip
                rw [if_neg hg121] at hm
                refine RW.know 99 rfl (congrArg Value.bool (Bool.eq_false_iff.2 hg121)) ?_
                refine RW.run ttok 4 rfl ?_
                refine RW.nil ?_
                exact⟨false,[(0,.pointer (some b)),(1,.int .i64 x1),(93,.bool false)],⟨rfl,rfl,rfl,trivial⟩,hm,(Ext.refl _),d0,rfl⟩
            ·skip
             refine WP.region ?_
             refine RW.run ttok 3 rfl ?_
             refine RW.load1 ttok rfl rfl rfl rfl rfl (At.ext (hE.trans c0.ext) O) 0 rfl rfl rfl rfl ?_
             refine RW.run ttok 2 rfl ?_
             by_cases hg122:(x0.Kind == 9)=true
             ·skip
              rw [if_pos hg122] at hm
              refine RW.know 74 rfl (congrArg Value.bool hg122) ?_
              refine RW.run ttok 4 rfl ?_
              refine RW.nil ?_
              exact⟨(x1 == 0),[(0,.pointer (some b)),(1,.int .i64 x1),(68,.bool (x1 == 0))],⟨rfl,rfl,rfl,trivial⟩,hm,(Ext.refl _),c0,rfl⟩
             ·skip
              rw [if_neg hg122] at hm
              refine RW.know 74 rfl (congrArg Value.bool (Bool.eq_false_iff.2 hg122)) ?_
              refine RW.run ttok 4 rfl ?_
              refine RW.nil ?_
              exact⟨false,[(0,.pointer (some b)),(1,.int .i64 x1),(68,.bool false)],⟨rfl,rfl,rfl,trivial⟩,hm,(Ext.refl _),c0,rfl⟩
          ·skip
           refine WP.region ?_
           refine RW.run ttok 3 rfl ?_
           refine RW.load1 ttok rfl rfl rfl rfl rfl (At.ext (hE.trans b0.ext) O) 0 rfl rfl rfl rfl ?_
           refine RW.run ttok 2 rfl ?_
           by_cases hg123:(x0.Kind == 8)=true
           ·skip
            rw [if_pos hg123] at hm
            refine RW.know 63 rfl (congrArg Value.bool hg123) ?_
            refine RW.run ttok 4 rfl ?_
            refine RW.nil ?_
            exact⟨(x1 == 1),[(0,.pointer (some b)),(1,.int .i64 x1),(57,.bool (x1 == 1))],⟨rfl,rfl,rfl,trivial⟩,hm,(Ext.refl _),b0,rfl⟩
           ·skip
            rw [if_neg hg123] at hm
            refine RW.know 63 rfl (congrArg Value.bool (Bool.eq_false_iff.2 hg123)) ?_
            refine RW.run ttok 4 rfl ?_
            refine RW.nil ?_
            exact⟨false,[(0,.pointer (some b)),(1,.int .i64 x1),(57,.bool false)],⟨rfl,rfl,rfl,trivial⟩,hm,(Ext.refl _),b0,rfl⟩
        ·skip
         refine WP.region ?_
         refine RW.run ttok 3 rfl ?_
         refine RW.load1 ttok rfl rfl rfl rfl rfl (At.ext (hE.trans H.ext) O) 0 rfl rfl rfl rfl ?_
         refine RW.run ttok 2 rfl ?_
         by_cases hg124:(x0.Kind == 7)=true
         ·skip
          rw [if_pos hg124] at hm
          refine RW.know 52 rfl (congrArg Value.bool hg124) ?_
          refine RW.run ttok 4 rfl ?_
          refine RW.nil ?_
          exact⟨(x1 == 2),[(0,.pointer (some b)),(1,.int .i64 x1),(46,.bool (x1 == 2))],⟨rfl,rfl,rfl,trivial⟩,hm,(Ext.refl _),H,rfl⟩
         ·skip
          rw [if_neg hg124] at hm
          refine RW.know 52 rfl (congrArg Value.bool (Bool.eq_false_iff.2 hg124)) ?_
          refine RW.run ttok 4 rfl ?_
          refine RW.nil ?_
          exact⟨false,[(0,.pointer (some b)),(1,.int .i64 x1),(46,.bool false)],⟨rfl,rfl,rfl,trivial⟩,hm,(Ext.refl _),H,rfl⟩
     ·skip
      refine WP.region ?_
      refine RW.run ttok 3 rfl ?_
      refine RW.load1 ttok rfl rfl rfl rfl rfl (At.ext (hE.trans a0.ext) O) 0 rfl rfl rfl rfl ?_
      refine RW.run ttok 2 rfl ?_
      by_cases hg125:(x0.Kind == 3)=true
      ·skip
       rw [if_pos hg125] at hm
       refine RW.know 35 rfl (congrArg Value.bool hg125) ?_
       refine RW.run ttok 4 rfl ?_
       refine RW.nil ?_
       exact⟨(x1 == 2),[(0,.pointer (some b)),(1,.int .i64 x1),(29,.bool (x1 == 2))],⟨rfl,rfl,rfl,trivial⟩,hm,(Ext.refl _),a0,rfl⟩
      ·skip
       rw [if_neg hg125] at hm
       refine RW.know 35 rfl (congrArg Value.bool (Bool.eq_false_iff.2 hg125)) ?_
       refine RW.run ttok 4 rfl ?_
       refine RW.nil ?_
       exact⟨false,[(0,.pointer (some b)),(1,.int .i64 x1),(29,.bool false)],⟨rfl,rfl,rfl,trivial⟩,hm,(Ext.refl _),a0,rfl⟩
   ·skip
    refine WP.region ?_
    refine RW.run ttok 3 rfl ?_
    refine RW.load1 ttok rfl rfl rfl rfl rfl (At.ext (hE.trans Y.ext) O) 0 rfl rfl rfl rfl ?_
    refine RW.run ttok 2 rfl ?_
    by_cases hg126:(x0.Kind == 2)=true
    ·skip
     rw [if_pos hg126] at hm
     refine RW.know 25 rfl (congrArg Value.bool hg126) ?_
     refine RW.run ttok 4 rfl ?_
     refine RW.nil ?_
     exact⟨(x1 == 1),[(0,.pointer (some b)),(1,.int .i64 x1),(19,.bool (x1 == 1))],⟨rfl,rfl,rfl,trivial⟩,hm,(Ext.refl _),Y,rfl⟩
    ·skip
     rw [if_neg hg126] at hm
     refine RW.know 25 rfl (congrArg Value.bool (Bool.eq_false_iff.2 hg126)) ?_
     refine RW.run ttok 4 rfl ?_
     refine RW.nil ?_
     exact⟨false,[(0,.pointer (some b)),(1,.int .i64 x1),(19,.bool false)],⟨rfl,rfl,rfl,trivial⟩,hm,(Ext.refl _),Y,rfl⟩
 ·skip
  refine WP.region ?_
  refine RW.run ttok 3 rfl ?_
  refine RW.load1 ttok rfl rfl rfl rfl rfl (At.ext (hE.trans hS.ext) O) 0 rfl rfl rfl rfl ?_
  refine RW.run ttok 2 rfl ?_
  by_cases hg127:(x0.Kind == 2)=true
  ·skip
   rw [if_pos hg127] at hm
   refine RW.know 14 rfl (congrArg Value.bool hg127) ?_
   refine RW.run ttok 4 rfl ?_
   refine RW.nil ?_
   exact⟨(x1 == 0),[(0,.pointer (some b)),(1,.int .i64 x1),(8,.bool (x1 == 0))],⟨rfl,rfl,rfl,trivial⟩,hm,(Ext.refl _),hS,rfl⟩
  ·skip
   rw [if_neg hg127] at hm
   refine RW.know 14 rfl (congrArg Value.bool (Bool.eq_false_iff.2 hg127)) ?_
   refine RW.run ttok 4 rfl ?_
   refine RW.nil ?_
   exact⟨false,[(0,.pointer (some b)),(1,.int .i64 x1),(8,.bool false)],⟨rfl,rfl,rfl,trivial⟩,hm,(Ext.refl _),hS,rfl⟩

theorem zcn:Enters Tryz.prog 68:=⟨_,_,Tryz.func68,rfl,by kernel_rfl⟩
def z5M (fuel:Nat) (x0:Int):Option (D.Core):=some (⟨2,x0,[],[]⟩:D.Core)

set_option maxRecDepth 100000 in
theorem z8P {W:Base}{w:World}(hE:Ext W w){x0:Int}  {fuel:Nat}{r:D.Core}(hm:z5M fuel x0=some r):
  Calls Tryz.prog 68 ⟨[.int .i64 x0]⟩ w (Ret fun v w8=>∃ A0 k0 A1 k1,v=.agg ⟨[.int .i64 r.Kind,.int .i64 r.Value,.slice A0 r.Data.length k0,.slice A1 r.Kids.length k1]⟩∧St w w8 [Own ty26 [.slice A0 r.Data.length k0] r.Data,Own ty38 [.slice A1 r.Kids.length k1] r.Kids]):=by
 refine Calls.into Tryz.func68 rfl 5 rfl rfl _ rfl ?_
 unfold z5M at hm
 have hS:=St.start w
 refine WP.seq ?_
 refine WP.region ?_
 refine RW.new ttok hS rfl rfl rfl rfl (fun g1 w2 e3 y=>?_)
 refine RW.nil ?_
 refine WP.seq ?_
 refine WP.region ?_
 refine RW.run ttok 1 rfl ?_
 refine RW.quiet rfl (Quiet.build ttok rfl rfl rfl rfl rfl) rfl rfl ?_
 have G:=y.bring 0 rfl
 refine RW.store ttok (A:=[]) G rfl rfl rfl rfl rfl 0 rfl rfl rfl rfl rfl (fun w6 o=>?_)
 refine RW.nil ?_
 refine WP.ret ?_
 cases hm
 have b:=o.nilSl tInt 2
 have d:=b.nilSl ty40 40
 exact⟨_,.cons (ResIs.agg ttok rfl rfl rfl ((o.bring 0 rfl).box) rfl) .nil,none,0,none,0,rfl,(((d.bring 0 rfl).bring 1 rfl).taken 2)⟩

theorem z9S:Enters Tryz.prog 82:=⟨_,_,Tryz.func82,rfl,by kernel_rfl⟩
def z4e (fuel:Nat) (x0:Int):Option (D.Core):=some (⟨2,x0,[],[]⟩:D.Core)

set_option maxRecDepth 100000 in
theorem z63 {W:Base}{w:World}(hE:Ext W w){x0:Int}  {fuel:Nat}{r:D.Core}(hm:z4e fuel x0=some r):
  Calls Tryz.prog 82 ⟨[.int .i64 x0]⟩ w (Ret fun v w8=>∃ A0 k0 A1 k1,v=.agg ⟨[.int .i64 r.Kind,.int .i64 r.Value,.slice A0 r.Data.length k0,.slice A1 r.Kids.length k1]⟩∧St w w8 [Own ty26 [.slice A0 r.Data.length k0] r.Data,Own ty38 [.slice A1 r.Kids.length k1] r.Kids]):=by
 refine Calls.into Tryz.func82 rfl 5 rfl rfl _ rfl ?_
 unfold z4e at hm
 have hS:=St.start w
 refine WP.seq ?_
 refine WP.region ?_
 refine RW.new ttok hS rfl rfl rfl rfl (fun g1 w2 e3 y=>?_)
 refine RW.nil ?_
 refine WP.seq ?_
 refine WP.region ?_
 refine RW.run ttok 1 rfl ?_
 refine RW.quiet rfl (Quiet.build ttok rfl rfl rfl rfl rfl) rfl rfl ?_
 have G:=y.bring 0 rfl
 refine RW.store ttok (A:=[]) G rfl rfl rfl rfl rfl 0 rfl rfl rfl rfl rfl (fun w6 o=>?_)
 refine RW.nil ?_
 refine WP.ret ?_
 cases hm
 have b:=o.nilSl tInt 2
 have d:=b.nilSl ty40 40
 exact⟨_,.cons (ResIs.agg ttok rfl rfl rfl ((o.bring 0 rfl).box) rfl) .nil,none,0,none,0,rfl,(((d.bring 0 rfl).bring 1 rfl).taken 2)⟩

theorem zc0:Enters Tryz.prog 96:=⟨_,_,Tryz.func96,rfl,by kernel_rfl⟩
def z4d (fuel:Nat) (x0:Int):Option (D.Core):=some (⟨1,x0,[],[]⟩:D.Core)

set_option maxRecDepth 100000 in
theorem z7D {W:Base}{w:World}(hE:Ext W w){x0:Int}  {fuel:Nat}{r:D.Core}(hm:z4d fuel x0=some r):
  Calls Tryz.prog 96 ⟨[.int .i64 x0]⟩ w (Ret fun v w8=>∃ A0 k0 A1 k1,v=.agg ⟨[.int .i64 r.Kind,.int .i64 r.Value,.slice A0 r.Data.length k0,.slice A1 r.Kids.length k1]⟩∧St w w8 [Own ty26 [.slice A0 r.Data.length k0] r.Data,Own ty38 [.slice A1 r.Kids.length k1] r.Kids]):=by
 refine Calls.into Tryz.func96 rfl 5 rfl rfl _ rfl ?_
 unfold z4d at hm
 have hS:=St.start w
 refine WP.seq ?_
 refine WP.region ?_
 refine RW.new ttok hS rfl rfl rfl rfl (fun g1 w2 e3 y=>?_)
 refine RW.nil ?_
 refine WP.seq ?_
 refine WP.region ?_
 refine RW.run ttok 1 rfl ?_
 refine RW.quiet rfl (Quiet.build ttok rfl rfl rfl rfl rfl) rfl rfl ?_
 have G:=y.bring 0 rfl
 refine RW.store ttok (A:=[]) G rfl rfl rfl rfl rfl 0 rfl rfl rfl rfl rfl (fun w6 o=>?_)
 refine RW.nil ?_
 refine WP.ret ?_
 cases hm
 have b:=o.nilSl tInt 2
 have d:=b.nilSl ty40 40
 exact⟨_,.cons (ResIs.agg ttok rfl rfl rfl ((o.bring 0 rfl).box) rfl) .nil,none,0,none,0,rfl,(((d.bring 0 rfl).bring 1 rfl).taken 2)⟩

theorem zbZ:Enters Tryz.prog 98:=⟨_,_,Tryz.func98,rfl,by kernel_rfl⟩
def z5s (fuel:Nat) (x0:Int):Option (D.Core):=some (⟨11,x0,[],[]⟩:D.Core)

set_option maxRecDepth 100000 in
theorem z7E {W:Base}{w:World}(hE:Ext W w){x0:Int}  {fuel:Nat}{r:D.Core}(hm:z5s fuel x0=some r):
  Calls Tryz.prog 98 ⟨[.int .i64 x0]⟩ w (Ret fun v w8=>∃ A0 k0 A1 k1,v=.agg ⟨[.int .i64 r.Kind,.int .i64 r.Value,.slice A0 r.Data.length k0,.slice A1 r.Kids.length k1]⟩∧St w w8 [Own ty26 [.slice A0 r.Data.length k0] r.Data,Own ty38 [.slice A1 r.Kids.length k1] r.Kids]):=by
 refine Calls.into Tryz.func98 rfl 5 rfl rfl _ rfl ?_
 unfold z5s at hm
 have hS:=St.start w
 refine WP.seq ?_
 refine WP.region ?_
 refine RW.new ttok hS rfl rfl rfl rfl (fun g1 w2 e3 y=>?_)
 refine RW.nil ?_
 refine WP.seq ?_
 refine WP.region ?_
 refine RW.run ttok 1 rfl ?_
 refine RW.quiet rfl (Quiet.build ttok rfl rfl rfl rfl rfl) rfl rfl ?_
 have G:=y.bring 0 rfl
 refine RW.store ttok (A:=[]) G rfl rfl rfl rfl rfl 0 rfl rfl rfl rfl rfl (fun w6 o=>?_)
 refine RW.nil ?_
 refine WP.ret ?_
 cases hm
 have b:=o.nilSl tInt 2
 have d:=b.nilSl ty40 40
 exact⟨_,.cons (ResIs.agg ttok rfl rfl rfl ((o.bring 0 rfl).box) rfl) .nil,none,0,none,0,rfl,(((d.bring 0 rfl).bring 1 rfl).taken 2)⟩

theorem z8t:Enters Tryz.prog 67:=⟨_,_,Tryz.func67,rfl,by kernel_rfl⟩
def z5z (fuel:Nat) (b:(List Int)):Option ByteArray:=some (strOfNums b)
def z25 (fuel:Nat) (o:(List Int)) (b:Int × (List Int)):Option (Rd (Int × (List Int)) ((List Int)) (ByteArray)):=(if(decide (b.1≥0))=true then((idx o b.1).bind fun d=>(if decide ((b.2.length:Int)+(([d]:(List Int)).length:Int)≤4294967296)=true then some (.next (w64 (b.1 - 1),(b.2++([d]:(List Int))))) else none)) else some (.brk b.2))
def z30 (fuel:Nat) (b:(List Int)):Option ByteArray:=((iter (z25 fuel b) fuel (w64 ((b.length:Int) - 1),([]:(List Int)))).bind fun o=>aft o (z5z fuel))
def z24 (fuel:Nat) (x0:Int) (b:(List Int)):Option ByteArray:=(if(decide (x0<0))=true then(if decide ((b.length:Int)+(([45]:(List Int)).length:Int)≤4294967296)=true then z30 fuel (b++([45]:(List Int))) else none) else z30 fuel b)
def z4D (fuel:Nat) (x0:Int) (t7:(List Int)):Option ByteArray:=(if(x0 == 0)=true then(if decide ((t7.length:Int)+(([48]:(List Int)).length:Int)≤4294967296)=true then z24 fuel x0 (t7++([48]:(List Int))) else none) else z24 fuel x0 t7)
def z2Z (fuel:Nat) (s6:Int × (List Int)) (b:Int):Option (Rd (Int × (List Int)) ((List Int)) (ByteArray)):=(if decide ((s6.2.length:Int)+(([IntKind.u8.wrap (w64 (48+b))]:(List Int)).length:Int)≤4294967296)=true then some (.next (w64 (s6.1.tdiv 10),(s6.2++([IntKind.u8.wrap (w64 (48+b))]:(List Int))))) else none)
def z1t (fuel:Nat) (s6:Int × (List Int)):Option (Rd (Int × (List Int)) ((List Int)) (ByteArray)):=(if(s6.1 != 0)=true then(if(decide ((s6.1.tmod 10)<0))=true then z2Z fuel s6 (w64 (0 - (s6.1.tmod 10))) else z2Z fuel s6 (s6.1.tmod 10)) else some (.brk s6.2))
def z2z (fuel:Nat) (x0:Int):Option (ByteArray):=((iter (z1t fuel) fuel (x0,([]:(List Int)))).bind fun o=>aft o (z4D fuel x0))

set_option maxRecDepth 100000 in
theorem z52 {W:Base}{w:World}(hE:Ext W w){x0:Int}  {fuel:Nat}{r:ByteArray}(hm:z2z fuel x0=some r):
  Calls Tryz.prog 67 ⟨[.int .i64 x0]⟩ w (Ret fun v w8=>v=.string r∧St w w8 []):=by
 refine Calls.into Tryz.func67 rfl 53 rfl rfl _ rfl ?_
 unfold z2z at hm
 have hS:=St.start w
 refine WP.seq ?_
 refine WP.region ?_
 refine RW.run ttok 1 rfl ?_
 refine RW.nil ?_
 refine WP.seq ?_
 refine WP.region ?_
 refine RW.newSlice0 (U:=(tIntK .u8)) ttok hS rfl rfl rfl rfl rfl rfl rfl (fun A1 k2 w3 e4 G1=>?_)
 refine RW.run ttok 1 rfl ?_
 refine RW.nil ?_
 refine WP.seq ?_
 refine WP.region ?_
 refine RW.run ttok 2 rfl ?_
 refine RW.nil ?_
 refine WP.seq ?_
 obtain⟨J1,Y0,hm⟩:=bind_some hm
 refine WP.cut (fun(t7:(List Int)) F w9=>∃ p0 H0,J1=.inl t7∧St w w9 [Own z88 [.slice p0 t7.length H0] t7]∧F=[(0,.int .i64 x0),(3,.slice p0 t7.length H0)]) ?_ ?_
 ·skip
  rintro t7 F b2 ⟨p0,H0,b1,y0,rfl⟩
  subst b1
  rw [zx] at hm
  unfold z4D at hm
  refine WP.seq ?_
  refine WP.seq ?_
  refine WP.region ?_
  refine RW.run ttok 2 rfl ?_
  refine RW.nil ?_
  refine WP.cut (fun(Y:(List Int)) F w9=>∃ q0 J0,z24 fuel x0 Y=some r∧St w w9 [Own z88 [.slice q0 Y.length J0] Y]∧F=[(0,.int .i64 x0),(3,.slice q0 Y.length J0)]) ?_ ?_
  ·skip
   rintro Y F d2 ⟨q0,J0,hm,A0,rfl⟩
   unfold z24 at hm
   refine WP.seq ?_
   refine WP.seq ?_
   refine WP.region ?_
   refine RW.run ttok 2 rfl ?_
   refine RW.nil ?_
   refine WP.cut (fun(H:(List Int)) F w9=>∃ d0 j0,z30 fuel H=some r∧St w w9 [Own z88 [.slice d0 H.length j0] H]∧F=[(3,.slice d0 H.length j0)]) ?_ ?_
   ·skip
    rintro H F e2 ⟨d0,j0,hm,O0,rfl⟩
    unfold z30 at hm
    refine WP.seq ?_
    refine WP.region ?_
    refine RW.newSlice0 (U:=(tIntK .u8)) ttok O0 rfl rfl rfl rfl rfl rfl rfl (fun m1 v1 f2 R1 P0=>?_)
    refine RW.run ttok 1 rfl ?_
    refine RW.nil ?_
    refine WP.seq ?_
    refine WP.seq ?_
    refine WP.region ?_
    refine RW.run ttok 4 rfl ?_
    refine RW.nil ?_
    obtain⟨K1,a1,hm⟩:=bind_some hm
    refine WP.cut (fun(M0:(List Int)) F w9=>∃ N0 i1,K1=.inl M0∧St w w9 [Own z88 [.slice N0 M0.length i1] M0]∧F=[(6,.slice N0 M0.length i1)]) ?_ ?_
    ·skip
     rintro M0 F g2 ⟨N0,i1,d1,B0,rfl⟩
     subst d1
     rw [zx] at hm
     unfold z5z at hm
     refine WP.seq ?_
     refine WP.region ?_
     refine RW.run ttok 1 rfl ?_
     refine RW.quiet rfl ((Quiet.bytesStr ttok rfl rfl rfl rfl rfl rfl rfl rfl ((B0.bring 0 rfl).own)).later (Ext.refl _)) rfl rfl ?_
     refine RW.run ttok 1 rfl ?_
     refine RW.nil ?_
     refine WP.ret ?_
     cases hm
     exact⟨_,.cons (.tmp rfl) .nil,rfl,(B0.taken 0)⟩
    ·skip
     refine WP.block ?_
     refine WP.weak [(3,.slice d0 H.length j0),(6,.slice m1 ([]:(List Int)).length v1),(7,.int .i64 (w64 ((H.length:Int) - 1)))] ⟨rfl,rfl,rfl,trivial⟩ ?_
     refine WP.iter (fun(O:Int × (List Int)) F w9=>∃ r0 K0,St w w9 [Own z88 [.slice r0 O.2.length K0] O.2,Own z88 [.slice d0 H.length j0] H]∧F=[(3,.slice d0 H.length j0),(6,.slice r0 O.2.length K0),(7,.int .i64 O.1)]) _ a1 ⟨m1,v1,P0,rfl⟩ ?_
     rintro O F i2 _ Y1 ⟨r0,K0,e0,rfl⟩ d e1
     unfold z25 at d
     refine WP.seq ?_
     refine WP.seq ?_
     refine WP.region ?_
     refine RW.run ttok 2 rfl ?_
     refine RW.nil ?_
     refine WP.cond (decide (O.1≥0)) rfl (fun hc=>?_) (fun hc=>?_)
     ·skip
      rw [if_pos hc] at d
      refine WP.skip ?_
      refine WP.seq ?_
      refine WP.block ?_
      refine WP.region ?_
      refine RW.run ttok 3 rfl ?_
      obtain⟨k0,F0,d⟩:=bind_some d
      refine RW.idx ttok (Ext.refl _) rfl rfl rfl rfl rfl rfl (by decide) rfl rfl ((e0.bring 1 rfl).own) (z6 F0).1 (z6 F0).2 rfl rfl (fun a2 F1 X0 g1=>?_)
      cases g1
      refine RW.load1 ttok rfl rfl rfl rfl rfl X0 0 rfl rfl rfl rfl ?_
      refine RW.newSlice (U:=(tIntK .u8)) (els:=[.int .u8 k0]) (ys:=[k0]) ttok (e0.flatEls (U:=(tIntK .u8)) (els:=[.int .u8 k0]) (ys:=[k0]) ⟨[.int .u8 k0],_,[],[],rfl,rfl,⟨rfl,rfl⟩,⟨rfl,rfl⟩⟩) rfl rfl rfl rfl rfl rfl rfl rfl rfl rfl rfl rfl (fun O1 V1 j2 S1 Q0=>?_)
      have C0:=Q0.bring 1 rfl
      by_cases f0:decide ((O.2.length:Int)+(([k0]:(List Int)).length:Int)≤4294967296)=true
      case neg=>rw [if_neg f0] at d;cases d
      rw [if_pos f0] at d
      refine RW.appendRo ttok Flat.intK C0 rfl rfl rfl rfl rfl rfl (by decide) rfl rfl ((C0.bring 1 rfl).own) (of_decide_eq_true f0) (by decide) rfl rfl (fun n1 y1 m2 R0=>?_)
      refine RW.run ttok 1 rfl ?_
      refine RW.nil ?_
      refine WP.region ?_
      refine RW.run ttok 3 rfl ?_
      refine RW.nil ?_
      cases d
      exact⟨_,[(3,.slice d0 H.length j0),(6,.slice n1 (O.2++([k0]:(List Int))).length y1),(7,.int .i64 (w64 (O.1 - 1)))],⟨rfl,rfl,rfl,trivial⟩,rfl,n1,y1,(R0.bring 1 rfl).drop,rfl⟩
     ·skip
      rw [if_neg (zC hc)] at d
      refine WP.exit ?_
      cases d
      exact⟨_,[(6,.slice r0 O.2.length K0)],⟨rfl,trivial⟩,r0,K0,e1,(e0.taken 1),rfl⟩
   ·skip
    refine WP.cond (decide (x0<0)) rfl (fun hc=>?_) (fun hc=>?_)
    ·skip
     rw [if_pos hc] at hm
     refine WP.region ?_
     refine RW.run ttok 1 rfl ?_
     refine RW.newSlice (U:=(tIntK .u8)) (els:=[.int .u8 45]) (ys:=[45]) ttok (A0.flatEls (U:=(tIntK .u8)) (els:=[.int .u8 45]) (ys:=[45]) ⟨[.int .u8 45],_,[],[],rfl,rfl,⟨rfl,rfl⟩,⟨rfl,rfl⟩⟩) rfl rfl rfl rfl rfl rfl rfl rfl rfl rfl rfl rfl (fun P1 W1 n2 T1 S0=>?_)
     have D0:=S0.bring 1 rfl
     by_cases g0:decide ((Y.length:Int)+(([45]:(List Int)).length:Int)≤4294967296)=true
     case neg=>rw [if_neg g0] at hm;cases hm
     rw [if_pos g0] at hm
     refine RW.appendRo ttok Flat.intK D0 rfl rfl rfl rfl rfl rfl (by decide) rfl rfl ((D0.bring 1 rfl).own) (of_decide_eq_true g0) (by decide) rfl rfl (fun p1 B1 o2 T0=>?_)
     refine RW.run ttok 1 rfl ?_
     refine RW.nil ?_
     exact⟨(Y++([45]:(List Int))),[(3,.slice p1 (Y++([45]:(List Int))).length B1)],⟨rfl,trivial⟩,p1,B1,hm,(T0.taken 1),rfl⟩
    ·skip
     rw [if_neg (zC hc)] at hm
     refine WP.skip ?_
     exact⟨Y,[(3,.slice q0 Y.length J0)],⟨rfl,trivial⟩,q0,J0,hm,A0,rfl⟩
  ·skip
   refine WP.cond (x0 == 0) rfl (fun hc=>?_) (fun hc=>?_)
   ·skip
    rw [if_pos hc] at hm
    refine WP.region ?_
    refine RW.run ttok 1 rfl ?_
    refine RW.newSlice (U:=(tIntK .u8)) (els:=[.int .u8 48]) (ys:=[48]) ttok (y0.flatEls (U:=(tIntK .u8)) (els:=[.int .u8 48]) (ys:=[48]) ⟨[.int .u8 48],_,[],[],rfl,rfl,⟨rfl,rfl⟩,⟨rfl,rfl⟩⟩) rfl rfl rfl rfl rfl rfl rfl rfl rfl rfl rfl rfl (fun Q1 X1 p2 U1 U0=>?_)
    have E0:=U0.bring 1 rfl
    by_cases i0:decide ((t7.length:Int)+(([48]:(List Int)).length:Int)≤4294967296)=true
    case neg=>rw [if_neg i0] at hm;cases hm
    rw [if_pos i0] at hm
    refine RW.appendRo ttok Flat.intK E0 rfl rfl rfl rfl rfl rfl (by decide) rfl rfl ((E0.bring 1 rfl).own) (of_decide_eq_true i0) (by decide) rfl rfl (fun t1 C1 q2 V0=>?_)
    refine RW.run ttok 1 rfl ?_
    refine RW.nil ?_
    exact⟨(t7++([48]:(List Int))),[(0,.int .i64 x0),(3,.slice t1 (t7++([48]:(List Int))).length C1)],⟨rfl,rfl,trivial⟩,t1,C1,hm,(V0.taken 1),rfl⟩
   ·skip
    rw [if_neg (zC hc)] at hm
    refine WP.skip ?_
    exact⟨t7,[(0,.int .i64 x0),(3,.slice p0 t7.length H0)],⟨rfl,rfl,trivial⟩,p0,H0,hm,y0,rfl⟩
 ·skip
  refine WP.block ?_
  refine WP.weak [(0,.int .i64 x0),(3,.slice A1 ([]:(List Int)).length k2),(4,.int .i64 x0)] ⟨rfl,rfl,rfl,trivial⟩ ?_
  refine WP.iter (fun(s6:Int × (List Int)) F w9=>∃ a0 b0,St w w9 [Own z88 [.slice a0 s6.2.length b0] s6.2]∧F=[(0,.int .i64 x0),(3,.slice a0 s6.2.length b0),(4,.int .i64 s6.1)]) _ Y0 ⟨A1,k2,G1,rfl⟩ ?_
  rintro s6 F k1 _ j1 ⟨a0,b0,y,rfl⟩ b f1
  unfold z1t at b
  refine WP.seq ?_
  refine WP.seq ?_
  refine WP.region ?_
  refine RW.run ttok 2 rfl ?_
  refine RW.nil ?_
  refine WP.cond (s6.1 != 0) rfl (fun hc=>?_) (fun hc=>?_)
  ·skip
   rw [if_pos hc] at b
   refine WP.skip ?_
   refine WP.block ?_
   refine WP.seq ?_
   refine WP.region ?_
   refine RW.run ttok 3 rfl ?_
   refine RW.nil ?_
   refine WP.seq ?_
   refine WP.seq ?_
   refine WP.region ?_
   refine RW.run ttok 2 rfl ?_
   refine RW.nil ?_
   refine WP.cut (fun(o:Int) F w9=>z2Z fuel s6 o=some j1∧Ext k1 w9∧St w w9 [Own z88 [.slice a0 s6.2.length b0] s6.2]∧F=[(0,.int .i64 x0),(3,.slice a0 s6.2.length b0),(4,.int .i64 s6.1),(5,.int .i64 o)]) ?_ ?_
   ·skip
    rintro o F L1 ⟨b,u1,t0,rfl⟩
    unfold z2Z at b
    refine WP.seq ?_
    refine WP.region ?_
    refine RW.run ttok 4 rfl ?_
    refine RW.newSlice (U:=(tIntK .u8)) (els:=[.int .u8 (IntKind.u8.wrap (w64 (48+o)))]) (ys:=[IntKind.u8.wrap (w64 (48+o))]) ttok (t0.flatEls (U:=(tIntK .u8)) (els:=[.int .u8 (IntKind.u8.wrap (w64 (48+o)))]) (ys:=[IntKind.u8.wrap (w64 (48+o))]) ⟨[.int .u8 (IntKind.u8.wrap (w64 (48+o)))],_,[],[],rfl,rfl,⟨rfl,rfl⟩,⟨rfl,rfl⟩⟩) rfl rfl rfl rfl rfl rfl rfl rfl rfl rfl rfl rfl (fun D1 H1 M1 E1 u0=>?_)
    have c0:=u0.bring 1 rfl
    by_cases G:decide ((s6.2.length:Int)+(([IntKind.u8.wrap (w64 (48+o))]:(List Int)).length:Int)≤4294967296)=true
    case neg=>rw [if_neg G] at b;cases b
    rw [if_pos G] at b
    refine RW.appendRo ttok Flat.intK c0 rfl rfl rfl rfl rfl rfl (by decide) rfl rfl ((c0.bring 1 rfl).own) (of_decide_eq_true G) (by decide) rfl rfl (fun o0 G0 N1 v0=>?_)
    refine RW.run ttok 1 rfl ?_
    refine RW.nil ?_
    refine WP.region ?_
    refine RW.run ttok 3 rfl ?_
    refine RW.nil ?_
    cases b
    exact⟨_,[(0,.int .i64 x0),(3,.slice o0 (s6.2++([IntKind.u8.wrap (w64 (48+o))]:(List Int))).length G0),(4,.int .i64 (w64 (s6.1.tdiv 10)))],⟨rfl,rfl,rfl,trivial⟩,rfl,o0,G0,(v0.taken 1),rfl⟩
   ·skip
    refine WP.cond (decide ((s6.1.tmod 10)<0)) rfl (fun hc=>?_) (fun hc=>?_)
    ·skip
     rw [if_pos hc] at b
     refine WP.region ?_
     refine RW.run ttok 3 rfl ?_
     refine RW.nil ?_
     exact⟨w64 (0 - (s6.1.tmod 10)),[(0,.int .i64 x0),(3,.slice a0 s6.2.length b0),(4,.int .i64 s6.1),(5,.int .i64 (w64 (0 - (s6.1.tmod 10))))],⟨rfl,rfl,rfl,rfl,trivial⟩,b,(Ext.refl _),y,rfl⟩
    ·skip
     rw [if_neg (zC hc)] at b
     refine WP.skip ?_
     exact⟨s6.1.tmod 10,[(0,.int .i64 x0),(3,.slice a0 s6.2.length b0),(4,.int .i64 s6.1),(5,.int .i64 (s6.1.tmod 10))],⟨rfl,rfl,rfl,rfl,trivial⟩,b,(Ext.refl _),y,rfl⟩
  ·skip
   rw [if_neg (zC hc)] at b
   refine WP.exit ?_
   cases b
   exact⟨_,[(0,.int .i64 x0),(3,.slice a0 s6.2.length b0)],⟨rfl,rfl,trivial⟩,a0,b0,f1,y,rfl⟩

theorem zcq:Enters Tryz.prog 60:=⟨_,_,Tryz.func60,rfl,by kernel_rfl⟩
def z3A (fuel:Nat) (x0:D.Port):Option (ByteArray):=((z2z fuel x0.Agent).bind fun b=>(if decide (b.size+(⟨#[46]⟩:ByteArray).size≤4294967296)=true then((z2z fuel x0.Slot).bind fun d=>(if decide ((b++(⟨#[46]⟩:ByteArray)).size+d.size≤4294967296)=true then(if decide (((b++(⟨#[46]⟩:ByteArray))++d).size+(⟨#[59]⟩:ByteArray).size≤4294967296)=true then some (((b++(⟨#[46]⟩:ByteArray))++d)++(⟨#[59]⟩:ByteArray)) else none) else none)) else none))

set_option maxRecDepth 100000 in
theorem z6P {W:Base}{w:World}(hE:Ext W w){g0:List Value}{x0:D.Port}(j0:ty87.ro W g0 x0){fuel:Nat}{r:ByteArray}(hm:z3A fuel x0=some r):
  Calls Tryz.prog 60 ⟨[.agg ⟨g0⟩]⟩ w (Ret fun v w8=>v=.string r∧St w w8 []):=by
 have e1:=zV j0;subst e1
 refine Calls.into Tryz.func60 rfl 12 rfl rfl _ rfl ?_
 unfold z3A at hm
 have hS:=St.start w
 refine WP.seq ?_
 refine WP.region ?_
 refine RW.new ttok hS rfl rfl rfl rfl (fun g2 w3 e4 O=>?_)
 refine RW.run ttok 1 rfl ?_
 refine RW.nil ?_
 refine WP.seq ?_
 refine WP.drawnM 0 mixed 10 (by kernel_rfl) (by kernel_rfl) [([],1023),([0],1022),([1],1021),([2],1019),([],1023),([4],1007),([5,2],991),([3,6],951),([7],895),([8,6,0,1,2,3,4,5,6,7,8],767)] (by kernel_rfl) O.ext (fun hsk6=>?_)
 have i0:=O.step (Ext.draw _)
 refine DM.run (fuel:=8) ttok hsk6 [0,4] 17 (by kernel_rfl) (by kernel_rfl) rfl ?_
 refine DM.load1 ttok hsk6 1 19 (by kernel_rfl) (by kernel_rfl) (by kernel_rfl) (by kernel_rfl) rfl (by kernel_rfl) rfl rfl rfl rfl rfl ((O.bring 0 rfl).box) 0 rfl rfl rfl rfl ?_
 refine DM.load1 ttok hsk6 5 51 (by kernel_rfl) (by kernel_rfl) (by kernel_rfl) (by kernel_rfl) rfl (by kernel_rfl) rfl rfl rfl rfl rfl ((O.bring 0 rfl).box) 1 rfl rfl rfl rfl ?_
 obtain⟨Y,d0,hm⟩:=bind_some hm
 refine DM.one hsk6 2 (by kernel_rfl) (LM.call hsk6 55 (by kernel_rfl) (by kernel_rfl) rfl rfl rfl rfl z8t (z52 (hE.trans i0.ext)  d0) (fun k0 p0 a0=>?_))
 obtain⟨rfl,y⟩:=a0
 refine⟨y.ext,?_⟩
 have H:=i0.join y
 by_cases b:decide (Y.size+(⟨#[46]⟩:ByteArray).size≤4294967296)=true
 case neg=>rw [if_neg b] at hm;cases hm
 rw [if_pos b] at hm
 refine DM.quietP hsk6 3 63 (by kernel_rfl) (by kernel_rfl) rfl (by kernel_rfl) rfl (fun _=>Quiet.cat rfl rfl rfl (Nat.le_trans (of_decide_eq_true b) (by decide))) rfl rfl ?_
 obtain⟨f0,e0,hm⟩:=bind_some hm
 refine DM.one hsk6 6 (by kernel_rfl) (LM.call hsk6 127 (by kernel_rfl) (by kernel_rfl) rfl rfl rfl rfl z8t (z52 (hE.trans H.ext)  e0) (fun o0 q0 b0=>?_))
 obtain⟨rfl,G⟩:=b0
 refine⟨G.ext,?_⟩
 have c0:=H.join G
 by_cases d:decide ((Y++(⟨#[46]⟩:ByteArray)).size+f0.size≤4294967296)=true
 case neg=>rw [if_neg d] at hm;cases hm
 rw [if_pos d] at hm
 refine DM.quietP hsk6 7 255 (by kernel_rfl) (by kernel_rfl) rfl (by kernel_rfl) rfl (fun _=>Quiet.cat rfl rfl rfl (Nat.le_trans (of_decide_eq_true d) (by decide))) rfl rfl ?_
 by_cases o:decide (((Y++(⟨#[46]⟩:ByteArray))++f0).size+(⟨#[59]⟩:ByteArray).size≤4294967296)=true
 case neg=>rw [if_neg o] at hm;cases hm
 rw [if_pos o] at hm
 refine DM.quietP hsk6 8 511 (by kernel_rfl) (by kernel_rfl) rfl (by kernel_rfl) rfl (fun _=>Quiet.cat rfl rfl rfl (Nat.le_trans (of_decide_eq_true o) (by decide))) rfl rfl ?_
 refine DM.run (fuel:=0) ttok hsk6 [9] 1023 (by kernel_rfl) (by kernel_rfl) rfl ?_
 refine DM.weak [(2,.string (((Y++(⟨#[46]⟩:ByteArray))++f0)++(⟨#[59]⟩:ByteArray)))] ⟨rfl,trivial⟩ ?_
 refine DM.done hsk6 (by kernel_rfl) ?_
 refine WP.ret ?_
 cases hm
 exact⟨_,.cons (.tmp rfl) .nil,rfl,(c0.taken 0)⟩

theorem z6t:Enters Tryz.prog 65:=⟨_,_,Tryz.func65,rfl,by kernel_rfl⟩
def z2P (fuel:Nat) (x0:(List (List Int))) (x1:Int):Option ((List (List Int))):=(if decide (0≤(0:Int)∧0≤x1∧x1≤(x0.length:Int))=true then some ((x0.take x1.toNat).drop 0) else none)

set_option maxRecDepth 100000 in
theorem z3c {W:Base}{w:World}(hE:Ext W w){o:Option Addr}{y:Nat}{x0:(List (List Int))}{x1:Int}(G:ty89.ro W [.slice o x0.length y] x0){fuel:Nat}{r:(List (List Int))}(hm:z2P fuel x0 x1=some r):
  Calls Tryz.prog 65 ⟨[.slice o x0.length y,.int .i64 x1]⟩ w (Ret fun v w8=>∃ A0 k0,v=.slice A0 r.length k0∧St w w8 []∧ty89.ro W [.slice A0 r.length k0] r):=by
 refine Calls.into Tryz.func65 rfl 8 rfl rfl _ rfl ?_
 unfold z2P at hm
 have hS:=St.start w
 refine WP.seq ?_
 refine WP.region ?_
 refine RW.run ttok 1 rfl ?_
 refine RW.nil ?_
 refine WP.seq ?_
 refine WP.region ?_
 refine RW.run ttok 2 rfl ?_
 by_cases d:decide (0≤(0:Int)∧0≤x1∧x1≤(x0.length:Int))=true
 case neg=>rw [if_neg d] at hm;cases hm
 rw [if_pos d] at hm
 have b:=of_decide_eq_true d
 refine RW.cut ttok (hE.trans hS.ext) rfl rfl rfl rfl rfl rfl rfl G (l:=0) (h:=x1.toNat) (.inl ⟨rfl,rfl⟩) (.inr ⟨_,_,rfl,by rw [Int.toNat_of_nonneg (Int.le_trans b.1 b.2.1)];rfl⟩) (by have:=b;omega) (by have:=b;omega) rfl rfl (fun A3 k4 h5=>?_)
 have h6:=zbz (by have:=b;omega:0≤x1.toNat) (by have:=b;omega) h5
 refine RW.know (u:=.slice A3 ((x0.take x1.toNat).drop 0).length k4) 7 rfl (by rw [z6L (by have:=b;omega:x1.toNat≤x0.length)]) ?_
 refine RW.run ttok 1 rfl ?_
 refine RW.nil ?_
 refine WP.ret ?_
 cases hm
 exact⟨_,.cons (.tmp rfl) .nil,A3,k4,rfl,hS,h6⟩

theorem zbr:Enters Tryz.prog 107:=⟨_,_,Tryz.func107,rfl,by kernel_rfl⟩
def z5y (fuel:Nat) (t2:Unit):Option Bool:=some true
def z3R (fuel:Nat) (x0:(List Int)) (x1:(List Int)) (s1:Int):Option (Rd (Int) (Unit) (Bool)):=(if(decide (s1<(x0.length:Int)))=true then((idx x0 s1).bind fun b=>((idx x1 s1).bind fun d=>(if(b != d)=true then some (.ret false) else some (.next (w64 (s1+1)))))) else some (.brk ()))
def z42 (fuel:Nat) (x0:(List Int)) (x1:(List Int)):Option (Bool):=(if((x0.length:Int) != (x1.length:Int))=true then some false else((iter (z3R fuel x0 x1) fuel 0).bind fun o=>aft o (z5y fuel)))

set_option maxRecDepth 100000 in
theorem z7h {W:Base}{w:World}(hE:Ext W w){o:Option Addr}{G:Nat}{x0:(List Int)}{y:Option Addr}{H:Nat}{x1:(List Int)}(t0:ty26.ro W [.slice o x0.length G] x0) (u0:ty26.ro W [.slice y x1.length H] x1){fuel:Nat}{r:Bool}(hm:z42 fuel x0 x1=some r):
  Calls Tryz.prog 107 ⟨[.slice o x0.length G,.slice y x1.length H]⟩ w (Ret fun v w8=>v=.bool r∧St w w8 []):=by
 refine Calls.into Tryz.func107 rfl 26 rfl rfl _ rfl ?_
 unfold z42 at hm
 have hS:=St.start w
 refine WP.seq ?_
 refine WP.region ?_
 refine RW.run ttok 1 rfl ?_
 refine RW.nil ?_
 refine WP.seq ?_
 refine WP.seq ?_
 refine WP.region ?_
 refine RW.run ttok 5 rfl ?_
 refine RW.nil ?_
 refine WP.cond ((x0.length:Int) != (x1.length:Int)) rfl (fun hc=>?_) (fun hc=>?_)
 ·skip
  rw [if_pos hc] at hm
  refine WP.seq ?_
  refine WP.region ?_
  refine RW.run ttok 1 rfl ?_
  refine RW.nil ?_
  refine WP.ret ?_
  cases hm
  exact⟨_,.cons (.tmp rfl) .nil,rfl,hS⟩
 ·skip
  rw [if_neg (zC hc)] at hm
  refine WP.skip ?_
  refine WP.seq ?_
  refine WP.seq ?_
  refine WP.region ?_
  refine RW.run ttok 1 rfl ?_
  refine RW.nil ?_
  obtain⟨v0,f0,hm⟩:=bind_some hm
  refine WP.cut (fun(t2:Unit) F w9=>v0=.inl t2∧Ext w w9∧St w w9 []∧F=[]) ?_ ?_
  ·skip
   rintro t2 F w7 ⟨g0,y0,c0,rfl⟩
   subst g0
   rw [zx] at hm
   unfold z5y at hm
   refine WP.seq ?_
   refine WP.region ?_
   refine RW.run ttok 1 rfl ?_
   refine RW.nil ?_
   refine WP.ret ?_
   cases hm
   exact⟨_,.cons (.tmp rfl) .nil,rfl,c0⟩
  ·skip
   refine WP.block ?_
   refine WP.weak [(0,.slice o x0.length G),(1,.slice y x1.length H),(5,.int .i64 0)] ⟨rfl,rfl,rfl,trivial⟩ ?_
   refine WP.iter (fun(s1:Int) F w9=>Ext w w9∧St w w9 []∧F=[(0,.slice o x0.length G),(1,.slice y x1.length H),(5,.int .i64 s1)]) _ f0 ⟨(Ext.refl _),hS,rfl⟩ ?_
   rintro s1 F D0 _ A0 ⟨k0,d,rfl⟩ b Y
   unfold z3R at b
   refine WP.seq ?_
   refine WP.seq ?_
   refine WP.region ?_
   refine RW.run ttok 4 rfl ?_
   refine RW.nil ?_
   refine WP.cond (decide (s1<(x0.length:Int))) rfl (fun hc=>?_) (fun hc=>?_)
   ·skip
    rw [if_pos hc] at b
    refine WP.skip ?_
    refine WP.seq ?_
    refine WP.block ?_
    refine WP.seq ?_
    refine WP.drawnM 0 mixed 9 (by kernel_rfl) (by kernel_rfl) [([],511),([],511),([0,1],508),([2],507),([],511),([],511),([4,5],463),([6],447),([3,7],375)] (by kernel_rfl) d.ext (fun hsk19=>?_)
    have O:=d.step (Ext.draw _)
    refine DM.run (fuel:=5) ttok hsk19 [0,1,4,5] 51 (by kernel_rfl) (by kernel_rfl) rfl ?_
    obtain⟨o0,a0,b⟩:=bind_some b
    refine DM.idx ttok (hE.trans d.ext) hsk19 2 55 (by kernel_rfl) (by kernel_rfl) (by kernel_rfl) (by kernel_rfl) rfl (by kernel_rfl) rfl rfl rfl rfl rfl rfl (by decide) rfl rfl t0 (z6 a0).1 (z6 a0).2 rfl rfl (fun B0 q0 d0 i0=>?_)
    cases i0
    refine DM.load1 ttok hsk19 3 63 (by kernel_rfl) (by kernel_rfl) (by kernel_rfl) (by kernel_rfl) rfl (by kernel_rfl) rfl rfl rfl rfl rfl (At.ext (hE.trans d.ext) d0) 0 rfl rfl rfl rfl ?_
    obtain⟨p0,b0,b⟩:=bind_some b
    refine DM.idx ttok (hE.trans d.ext) hsk19 6 127 (by kernel_rfl) (by kernel_rfl) (by kernel_rfl) (by kernel_rfl) rfl (by kernel_rfl) rfl rfl rfl rfl rfl rfl (by decide) rfl rfl u0 (z6 b0).1 (z6 b0).2 rfl rfl (fun C0 r0 e0 j0=>?_)
    cases j0
    refine DM.load1 ttok hsk19 7 255 (by kernel_rfl) (by kernel_rfl) (by kernel_rfl) (by kernel_rfl) rfl (by kernel_rfl) rfl rfl rfl rfl rfl (At.ext (hE.trans d.ext) e0) 0 rfl rfl rfl rfl ?_
    refine DM.run (fuel:=0) ttok hsk19 [8] 511 (by kernel_rfl) (by kernel_rfl) rfl ?_
    refine DM.weak [(0,.slice o x0.length G),(1,.slice y x1.length H),(5,.int .i64 s1),(25,.bool (o0 != p0))] ⟨rfl,rfl,rfl,rfl,trivial⟩ ?_
    refine DM.done hsk19 (by kernel_rfl) ?_
    refine WP.cond (o0 != p0) rfl (fun hc=>?_) (fun hc=>?_)
    ·skip
     rw [if_pos hc] at b
     refine WP.seq ?_
     refine WP.region ?_
     refine RW.run ttok 1 rfl ?_
     refine RW.nil ?_
     refine WP.ret ?_
     cases b
     cases Y
     have hm:some _=some _:=hm
     cases hm
     exact⟨_,.cons (.tmp rfl) .nil,rfl,O⟩
    ·skip
     rw [if_neg (zC hc)] at b
     refine WP.skip ?_
     refine WP.region ?_
     refine RW.run ttok 3 rfl ?_
     refine RW.nil ?_
     cases b
     exact⟨_,[(0,.slice o x0.length G),(1,.slice y x1.length H),(5,.int .i64 (w64 (s1+1)))],⟨rfl,rfl,rfl,trivial⟩,rfl,(k0.trans (Ext.draw _)),O,rfl⟩
   ·skip
    rw [if_neg (zC hc)] at b
    refine WP.exit ?_
    cases b
    exact⟨_,[],trivial,Y,k0,d,rfl⟩

theorem zc5:Enters Tryz.prog 91:=⟨_,_,Tryz.func91,rfl,by kernel_rfl⟩
def z4p (fuel:Nat) (t2:Unit):Option Bool:=some true
def z1Y (fuel:Nat) (x0:(List (List Int))) (x1:(List (List Int))) (s1:Int):Option (Rd (Int) (Unit) (Bool)):=(if(decide (s1<(x0.length:Int)))=true then((idx x0 s1).bind fun d=>((idx x1 s1).bind fun o=>((z42 fuel d o).bind fun b=>(if(!b)=true then some (.ret false) else some (.next (w64 (s1+1))))))) else some (.brk ()))
def z1L (fuel:Nat) (x0:(List (List Int))) (x1:(List (List Int))):Option (Bool):=(if((x0.length:Int) != (x1.length:Int))=true then some false else((iter (z1Y fuel x0 x1) fuel 0).bind fun o=>aft o (z4p fuel)))

set_option maxRecDepth 100000 in
theorem z5R {W:Base}{w:World}(hE:Ext W w){y:Option Addr}{H:Nat}{x0:(List (List Int))}{G:Option Addr}{O:Nat}{x1:(List (List Int))}(B0:ty89.ro W [.slice y x0.length H] x0) (C0:ty89.ro W [.slice G x1.length O] x1){fuel:Nat}{r:Bool}(hm:z1L fuel x0 x1=some r):
  Calls Tryz.prog 91 ⟨[.slice y x0.length H,.slice G x1.length O]⟩ w (Ret fun v w8=>v=.bool r∧St w w8 []):=by
 refine Calls.into Tryz.func91 rfl 27 rfl rfl _ rfl ?_
 unfold z1L at hm
 have hS:=St.start w
 refine WP.seq ?_
 refine WP.region ?_
 refine RW.run ttok 1 rfl ?_
 refine RW.nil ?_
 refine WP.seq ?_
 refine WP.seq ?_
 refine WP.region ?_
 refine RW.run ttok 5 rfl ?_
 refine RW.nil ?_
 refine WP.cond ((x0.length:Int) != (x1.length:Int)) rfl (fun hc=>?_) (fun hc=>?_)
 ·skip
  rw [if_pos hc] at hm
  refine WP.seq ?_
  refine WP.region ?_
  refine RW.run ttok 1 rfl ?_
  refine RW.nil ?_
  refine WP.ret ?_
  cases hm
  exact⟨_,.cons (.tmp rfl) .nil,rfl,hS⟩
 ·skip
  rw [if_neg (zC hc)] at hm
  refine WP.skip ?_
  refine WP.seq ?_
  refine WP.seq ?_
  refine WP.region ?_
  refine RW.run ttok 1 rfl ?_
  refine RW.nil ?_
  obtain⟨D0,o0,hm⟩:=bind_some hm
  refine WP.cut (fun(t2:Unit) F w9=>D0=.inl t2∧Ext w w9∧St w w9 []∧F=[]) ?_ ?_
  ·skip
   rintro t2 F w7 ⟨p0,G0,i0,rfl⟩
   subst p0
   rw [zx] at hm
   unfold z4p at hm
   refine WP.seq ?_
   refine WP.region ?_
   refine RW.run ttok 1 rfl ?_
   refine RW.nil ?_
   refine WP.ret ?_
   cases hm
   exact⟨_,.cons (.tmp rfl) .nil,rfl,i0⟩
  ·skip
   refine WP.block ?_
   refine WP.weak [(0,.slice y x0.length H),(1,.slice G x1.length O),(5,.int .i64 0)] ⟨rfl,rfl,rfl,trivial⟩ ?_
   refine WP.iter (fun(s1:Int) F w9=>Ext w w9∧St w w9 []∧F=[(0,.slice y x0.length H),(1,.slice G x1.length O),(5,.int .i64 s1)]) _ o0 ⟨(Ext.refl _),hS,rfl⟩ ?_
   rintro s1 F P0 _ K0 ⟨r0,d,rfl⟩ b b0
   unfold z1Y at b
   refine WP.seq ?_
   refine WP.seq ?_
   refine WP.region ?_
   refine RW.run ttok 4 rfl ?_
   refine RW.nil ?_
   refine WP.cond (decide (s1<(x0.length:Int))) rfl (fun hc=>?_) (fun hc=>?_)
   ·skip
    rw [if_pos hc] at b
    refine WP.skip ?_
    refine WP.seq ?_
    refine WP.block ?_
    refine WP.seq ?_
    refine WP.drawnM 0 mixed 10 (by kernel_rfl) (by kernel_rfl) [([],1023),([],1023),([0,1],1020),([2],1019),([],1023),([],1023),([4,5],975),([6],959),([3,7],887),([8],767)] (by kernel_rfl) d.ext (fun hsk19=>?_)
    have Y:=d.step (Ext.draw _)
    refine DM.run (fuel:=6) ttok hsk19 [0,1,4,5] 51 (by kernel_rfl) (by kernel_rfl) rfl ?_
    obtain⟨R0,e0,b⟩:=bind_some b
    refine DM.idx ttok (hE.trans d.ext) hsk19 2 55 (by kernel_rfl) (by kernel_rfl) (by kernel_rfl) (by kernel_rfl) rfl (by kernel_rfl) rfl rfl rfl rfl rfl rfl (by decide) rfl rfl B0 (z6 e0).1 (z6 e0).2 rfl rfl (fun M0 y0 j0 c0=>?_)
    obtain⟨E0,H0,u0⟩:=z4K c0;subst u0
    refine DM.load1 ttok hsk19 3 63 (by kernel_rfl) (by kernel_rfl) (by kernel_rfl) (by kernel_rfl) rfl (by kernel_rfl) rfl rfl rfl rfl rfl (At.ext (hE.trans d.ext) j0) 0 rfl rfl rfl rfl ?_
    obtain⟨S0,f0,b⟩:=bind_some b
    refine DM.idx ttok (hE.trans d.ext) hsk19 6 127 (by kernel_rfl) (by kernel_rfl) (by kernel_rfl) (by kernel_rfl) rfl (by kernel_rfl) rfl rfl rfl rfl rfl rfl (by decide) rfl rfl C0 (z6 f0).1 (z6 f0).2 rfl rfl (fun N0 A0 k0 d0=>?_)
    obtain⟨F0,J0,v0⟩:=z4K d0;subst v0
    refine DM.load1 ttok hsk19 7 255 (by kernel_rfl) (by kernel_rfl) (by kernel_rfl) (by kernel_rfl) rfl (by kernel_rfl) rfl rfl rfl rfl rfl (At.ext (hE.trans d.ext) k0) 0 rfl rfl rfl rfl ?_
    obtain⟨t0,q0,b⟩:=bind_some b
    refine DM.one hsk19 8 (by kernel_rfl) (LM.call hsk19 511 (by kernel_rfl) (by kernel_rfl) rfl rfl rfl rfl zbr (z7h (hE.trans Y.ext) c0 d0 q0) (fun O0 Q0 g0=>?_))
    obtain⟨rfl,o⟩:=g0
    refine⟨o.ext,?_⟩
    have a0:=Y.join o
    refine DM.run (fuel:=0) ttok hsk19 [9] 1023 (by kernel_rfl) (by kernel_rfl) rfl ?_
    refine DM.weak [(0,.slice y x0.length H),(1,.slice G x1.length O),(5,.int .i64 s1),(26,.bool (!t0))] ⟨rfl,rfl,rfl,rfl,trivial⟩ ?_
    refine DM.done hsk19 (by kernel_rfl) ?_
    refine WP.cond (!t0) rfl (fun hc=>?_) (fun hc=>?_)
    ·skip
     rw [if_pos hc] at b
     refine WP.seq ?_
     refine WP.region ?_
     refine RW.run ttok 1 rfl ?_
     refine RW.nil ?_
     refine WP.ret ?_
     cases b
     cases b0
     have hm:some _=some _:=hm
     cases hm
     exact⟨_,.cons (.tmp rfl) .nil,rfl,a0⟩
    ·skip
     rw [if_neg (zC hc)] at b
     refine WP.skip ?_
     refine WP.region ?_
     refine RW.run ttok 3 rfl ?_
     refine RW.nil ?_
     cases b
     exact⟨_,[(0,.slice y x0.length H),(1,.slice G x1.length O),(5,.int .i64 (w64 (s1+1)))],⟨rfl,rfl,rfl,trivial⟩,rfl,((r0.trans (Ext.draw _)).trans o.ext),a0,rfl⟩
   ·skip
    rw [if_neg (zC hc)] at b
    refine WP.exit ?_
    cases b
    exact⟨_,[],trivial,b0,r0,d,rfl⟩

theorem z74:Enters Tryz.prog 28:=⟨_,_,Tryz.func28,rfl,by kernel_rfl⟩
def z2k (fuel:Nat) (x0:(List Int)):Option ((List Int)):=(if decide ((([]:(List Int)).length:Int)+(x0.length:Int)≤4294967296)=true then some (([]:(List Int))++x0) else none)

set_option maxRecDepth 100000 in
theorem z4F {W:Base}{w:World}(hE:Ext W w){o:Option Addr}{G:Nat}{x0:(List Int)}(O:ty26.ro W [.slice o x0.length G] x0){fuel:Nat}{r:(List Int)}(hm:z2k fuel x0=some r):
  Calls Tryz.prog 28 ⟨[.slice o x0.length G]⟩ w (Ret fun v w8=>∃ A0 k0,v=.slice A0 r.length k0∧St w w8 [Own ty26 [.slice A0 r.length k0] r]):=by
 refine Calls.into Tryz.func28 rfl 6 rfl rfl _ rfl ?_
 unfold z2k at hm
 have hS:=St.start w
 refine WP.seq ?_
 refine WP.region ?_
 refine RW.run ttok 1 rfl ?_
 refine RW.nil ?_
 refine WP.seq ?_
 refine WP.region ?_
 refine RW.newSlice0 (U:=tInt) ttok hS rfl rfl rfl rfl rfl rfl rfl (fun A1 k2 w3 e4 Y=>?_)
 refine RW.run ttok 1 rfl ?_
 have y:=Y.bring 0 rfl
 by_cases d:decide ((([]:(List Int)).length:Int)+(x0.length:Int)≤4294967296)=true
 case neg=>rw [if_neg d] at hm;cases hm
 rw [if_pos d] at hm
 refine RW.appendRo ttok Flat.int y rfl rfl rfl rfl rfl rfl (by decide) rfl rfl (ty26.ext (hE.trans y.ext) O) (of_decide_eq_true d) (by decide) rfl rfl (fun H a0 b0 b=>?_)
 refine RW.run ttok 1 rfl ?_
 refine RW.nil ?_
 refine WP.ret ?_
 cases hm
 exact⟨_,.cons (.tmp rfl) .nil,H,a0,rfl,b⟩

theorem z9R:Enters Tryz.prog 97:=⟨_,_,Tryz.func97,rfl,by kernel_rfl⟩
def zL (fuel:Nat) (x0:(List Int)):Option ((List Int)):=(if decide ((([]:(List Int)).length:Int)+(x0.length:Int)≤4294967296)=true then some (([]:(List Int))++x0) else none)

set_option maxRecDepth 100000 in
theorem z3z {W:Base}{w:World}(hE:Ext W w){b:Option Addr}{y:Nat}{x0:(List Int)}(d:ty26.ro W [.slice b x0.length y] x0){fuel:Nat}{r:(List Int)}(hm:zL fuel x0=some r):
  Calls Tryz.prog 97 ⟨[.slice b x0.length y]⟩ w (Ret fun v w8=>∃ A0 k0,v=.slice A0 r.length k0∧St w w8 [Own ty26 [.slice A0 r.length k0] r]):=by
 refine Calls.into Tryz.func97 rfl 8 rfl rfl _ rfl ?_
 unfold zL at hm
 have hS:=St.start w
 refine WP.seq ?_
 refine WP.region ?_
 refine RW.run ttok 1 rfl ?_
 refine RW.nil ?_
 refine WP.seq ?_
 refine WP.seq ?_
 refine WP.region ?_
 refine RW.run ttok 1 rfl ?_
 refine RW.quiet rfl (Quiet.nilEq ttok rfl rfl rfl rfl rfl) rfl rfl ?_
 refine RW.nil ?_
 cases b with
 | none=>
  have e:=zcZ (by decide) d
  subst e
  refine WP.cond true rfl (fun _=>?_) (fun hc=>by cases hc)
  refine WP.seq ?_
  refine WP.region ?_
  refine RW.run ttok 1 rfl ?_
  refine RW.nil ?_
  refine WP.ret ?_
  have hr:r=[]:=by simpa using hm.symm
  subst hr
  exact⟨_,.cons (.tmp rfl) .nil,none,0,rfl,hS.nilSl tInt 2⟩
 | some p=>
  refine WP.cond false rfl (fun hc=>by cases hc) (fun _=>?_)
  refine WP.skip ?_
  refine WP.seq ?_
  refine WP.region ?_
  refine RW.newSlice0 (U:=tInt) ttok hS rfl rfl rfl rfl rfl rfl rfl (fun A1 k1 w1 e1 o=>?_)
  refine RW.run ttok 1 rfl ?_
  by_cases hk:decide ((([]:(List Int)).length:Int)+(x0.length:Int)≤4294967296)=true
  case neg=>rw [if_neg hk] at hm;cases hm
  rw [if_pos hk] at hm
  cases hm
  refine RW.appendRo ttok Flat.int o rfl rfl rfl rfl rfl rfl (by decide) rfl rfl (ty26.ext (hE.trans o.ext) d) (of_decide_eq_true hk) (by decide) rfl rfl (fun A2 k2 w2 G=>?_)
  refine RW.run ttok 1 rfl ?_
  refine RW.nil ?_
  refine WP.ret ?_
  exact⟨_,.cons (.tmp rfl) .nil,A2,k2,rfl,G⟩

end Go.E


