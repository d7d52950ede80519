/- Models of functions and proofs that the code runs as they say (written by program). Conditions: the model gives a value. -/
import Derived.Test.YtngggnjnenfgbaaDoorFN
namespace Go.E
open Go.RowKit Go.Proofs
set_option linter.unusedVariables false
set_option linter.unusedSimpArgs false
set_option maxHeartbeats 2000000
set_option maxRecDepth 100000

theorem zaN:Enters Tryd.prog 32:=⟨_,_,Tryd.func32,rfl,by kernel_rfl⟩
def z43 (fuel:Nat) (b:(List Int)):Option (Int × (List Int)):=some (8,b)
def z1P (fuel:Nat) (x0:D.Agent) (b:Int × (List Int)):Option (Rd (Int × (List Int)) ((List Int)) (Int × (List Int))):=(if(decide (b.1<(x0.Ports.length:Int)))=true then(if decide ((b.2.length:Int)+(([b.1]:(List Int)).length:Int)≤4294967296)=true then some (.next (w64 (b.1+1),(b.2++([b.1]:(List Int))))) else none) else some (.brk b.2))
def z2m (fuel:Nat) (x0:D.Agent) (b:Bool):Option (Int × (List Int)):=(if b=true then some (10,([0]:(List Int))) else(if(x0.Kind == 12)=true then some (11,[]) else some (0,[])))
def z2n (fuel:Nat) (x0:D.Agent) (x1:Int) (b:Bool):Option (Int × (List Int)):=(if b=true then some (9,([0]:(List Int))) else(if(x0.Kind == 11)=true then z2m fuel x0 (x1 == 1) else z2m fuel x0 false))
def z2o (fuel:Nat) (x0:D.Agent) (x1:Int) (b:Bool):Option (Int × (List Int)):=(if b=true then((iter (z1P fuel x0) fuel (1,([]:(List Int)))).bind fun o=>aft o (z43 fuel)) else(if(x0.Kind == 10)=true then z2n fuel x0 x1 (x1 == 1) else z2n fuel x0 x1 false))
def z2p (fuel:Nat) (x0:D.Agent) (x1:Int) (b:Bool):Option (Int × (List Int)):=(if b=true then some (3,([0]:(List Int))) else(if(x0.Kind == 9)=true then z2o fuel x0 x1 (x1 == 0) else z2o fuel x0 x1 false))
def z2q (fuel:Nat) (x0:D.Agent) (x1:Int) (b:Bool):Option (Int × (List Int)):=(if b=true then some (3,([0,1]:(List Int))) else(if(x0.Kind == 8)=true then z2p fuel x0 x1 (x1 == 1) else z2p fuel x0 x1 false))
def z2r (fuel:Nat) (x0:D.Agent) (x1:Int) (b:Bool):Option (Int × (List Int)):=(if b=true then some (5,([0,1]:(List Int))) else(if(x0.Kind == 6)=true then some (2,[]) else(if(x0.Kind == 7)=true then z2q fuel x0 x1 (x1 == 2) else z2q fuel x0 x1 false)))
def z2s (fuel:Nat) (x0:D.Agent) (x1:Int) (b:Bool):Option (Int × (List Int)):=(if b=true then some (1,[]) else(if(x0.Kind == 3)=true then z2r fuel x0 x1 (x1 == 2) else z2r fuel x0 x1 false))
def z2t (fuel:Nat) (x0:D.Agent) (x1:Int) (b:Bool):Option (Int × (List Int)):=(if b=true then some (4,([2]:(List Int))) else(if(x0.Kind == 2)=true then z2s fuel x0 x1 (x1 == 1) else z2s fuel x0 x1 false))
def z3v (fuel:Nat) (x0:D.Agent) (x1:Int):Option (Int × (List Int)):=(if(x0.Kind == 2)=true then z2t fuel x0 x1 (x1 == 0) else z2t fuel x0 x1 false)

theorem z6k {W:Base}{w:World}(hE:Ext W w){G:Addr}{d1:List Value}{x0:D.Agent}{x1:Int}(t1:ty62.ro W d1 x0) (y:At W G d1){fuel:Nat}{r:Int × (List Int)}(hm:z3v fuel x0 x1=some r):
  Calls Tryd.prog 32 ⟨[.pointer (some G),.int .i64 x1]⟩ w (Ret fun v w8=>∃ A0 k0,v=.tuple ⟨[.int .i64 r.1,sl A0 r.2 k0]⟩∧St w w8 [ow ty37 A0 r.2 k0]):=by
 obtain⟨A1,k2,A4,k5,e7,h3,h6⟩:=zy t1;subst e7;refine into Tryd.func32 121 _ ?_;unfold z3v at hm;have hS:=St.start w;refine sq<|rg<|rr 2 ?_;refine rn<|sq<|bk<|sq<|ct (fun(T0:Bool) F w9=>z2t fuel x0 x1 T0=some r∧Ext w w9∧St w w9 []∧F=[(0,.pointer (some G)),(1,.int .i64 x1),(8,.bool T0)]) ?_ ?_
 ·rintro T0 F Q1 ⟨hm,u1,H,rfl⟩;unfold z2t at hm;refine ci hm (fun hm=>?_) (fun hm=>?_)
  ·refine sq<|rg<|ns (H.flatEls (U:=tInt) (els:=[.int .i64 2]) (ys:=[2]) ⟨[.int .i64 2],_,[],[],rfl,rfl,⟨rfl,rfl⟩,⟨rfl,rfl⟩⟩) (fun f1 F1 g2 X1 B0=>?_);refine rr 2 ?_;refine rn<|rt ?_;cases hm;exact⟨_,.cons (.tmp rfl) (.cons (.tmp rfl) .nil),f1,F1,rfl,B0⟩
  ·refine sq<|ct (fun(U0:Bool) F w9=>z2s fuel x0 x1 U0=some r∧Ext Q1 w9∧St w w9 []∧F=[(0,.pointer (some G)),(1,.int .i64 x1),(19,.bool U0)]) ?_ ?_
   ·rintro U0 F R1 ⟨hm,v1,O,rfl⟩;unfold z2s at hm;refine ci hm (fun hm=>?_) (fun hm=>?_)
    ·refine sq<|rg<|rr 2 ?_;refine rn<|rt ?_;cases hm;have C0:=O.nilSl tInt 2;exact⟨_,.cons (.tmp rfl) (.cons (.tmp rfl) .nil),none,0,rfl,C0⟩
    ·refine sq<|ct (fun(V0:Bool) F w9=>z2r fuel x0 x1 V0=some r∧Ext R1 w9∧St w w9 []∧F=[(0,.pointer (some G)),(1,.int .i64 x1),(29,.bool V0)]) ?_ ?_
     ·rintro V0 F S1 ⟨hm,y1,o,rfl⟩;unfold z2r at hm;refine ci hm (fun hm=>?_) (fun hm=>?_)
      ·refine sq<|rg<|ns (o.flatEls (U:=tInt) (els:=[.int .i64 0,.int .i64 1]) (ys:=[0,1]) ⟨[.int .i64 0],_,[],[],rfl,rfl,⟨rfl,rfl⟩,⟨[.int .i64 1],_,[],[],rfl,rfl,⟨rfl,rfl⟩,⟨rfl,rfl⟩⟩⟩) (fun g1 G1 i2 Y1 D0=>?_);refine rr 2 ?_;refine rn<|rt ?_;cases hm;exact⟨_,.cons (.tmp rfl) (.cons (.tmp rfl) .nil),g1,G1,rfl,D0⟩
      ·refine sq<|rg<|rr 3 ?_;refine l1 (At.ext (hE.trans o.ext) y) 0 ?_;refine rr 2 ?_;refine rn<|ci hm (fun hm=>?_) (fun hm=>?_)
       ·refine sq<|rg<|rr 2 ?_;refine rn<|rt ?_;cases hm;have E0:=o.nilSl tInt 2;exact⟨_,.cons (.tmp rfl) (.cons (.tmp rfl) .nil),none,0,rfl,E0⟩
       ·refine sq<|ct (fun(X0:Bool) F w9=>z2q fuel x0 x1 X0=some r∧Ext S1 w9∧St w w9 []∧F=[(0,.pointer (some G)),(1,.int .i64 x1),(46,.bool X0)]) ?_ ?_
        ·rintro X0 F T1 ⟨hm,B1,Y,rfl⟩;unfold z2q at hm;refine ci hm (fun hm=>?_) (fun hm=>?_)
         ·refine sq<|rg<|ns (Y.flatEls (U:=tInt) (els:=[.int .i64 0,.int .i64 1]) (ys:=[0,1]) ⟨[.int .i64 0],_,[],[],rfl,rfl,⟨rfl,rfl⟩,⟨[.int .i64 1],_,[],[],rfl,rfl,⟨rfl,rfl⟩,⟨rfl,rfl⟩⟩⟩) (fun i1 H1 j2 a2 F0=>?_);refine rr 2 ?_;refine rn<|rt ?_;cases hm;exact⟨_,.cons (.tmp rfl) (.cons (.tmp rfl) .nil),i1,H1,rfl,F0⟩
         ·refine sq<|ct (fun(Y0:Bool) F w9=>z2p fuel x0 x1 Y0=some r∧Ext T1 w9∧St w w9 []∧F=[(0,.pointer (some G)),(1,.int .i64 x1),(57,.bool Y0)]) ?_ ?_
          ·rintro Y0 F U1 ⟨hm,C1,a0,rfl⟩;unfold z2p at hm;refine ci hm (fun hm=>?_) (fun hm=>?_)
           ·refine sq<|rg<|ns (a0.flatEls (U:=tInt) (els:=[.int .i64 0]) (ys:=[0]) ⟨[.int .i64 0],_,[],[],rfl,rfl,⟨rfl,rfl⟩,⟨rfl,rfl⟩⟩) (fun j1 J1 m2 b2 G0=>?_);refine rr 2 ?_;refine rn<|rt ?_;cases hm;exact⟨_,.cons (.tmp rfl) (.cons (.tmp rfl) .nil),j1,J1,rfl,G0⟩
           ·refine sq<|ct (fun(a1:Bool) F w9=>z2o fuel x0 x1 a1=some r∧Ext U1 w9∧St w w9 []∧F=[(0,.pointer (some G)),(1,.int .i64 x1),(68,.bool a1)]) ?_ ?_
            ·rintro a1 F V1 ⟨hm,D1,b0,rfl⟩;unfold z2o at hm;refine ci hm (fun hm=>?_) (fun hm=>?_)
             ·refine sq<|rg<|n0 (U:=tInt) b0 (fun k1 K1 n2 c2 H0=>?_);refine rr 1 ?_;refine rn<|sq<|sq<|rg<|rr 1 ?_;refine rn ?_;obtain⟨M1,O0,hm⟩:=bS hm;refine ct (fun(u0:(List Int)) F w9=>∃ q0 t0,M1=.inl u0∧St w w9 [ow ty37 q0 u0 t0]∧F=[(6,sl q0 u0 t0)]) ?_ ?_
              ·rintro u0 F o2 ⟨q0,t0,P0,J0,rfl⟩;subst P0;rw [zR] at hm;unfold z43 at hm;refine sq<|rg<|rr 3 ?_;refine rn<|rt ?_;cases hm;exact⟨_,.cons (.tmp rfl) (.cons (.tmp rfl) .nil),q0,t0,rfl,J0⟩
              ·refine bk<|wk [0,6,7] ?_;refine it (fun(d0:Int × (List Int)) F w9=>∃ p0 r0,St w w9 [ow ty37 p0 d0.2 r0]∧F=[(0,.pointer (some G)),(6,sl p0 d0.2 r0),(7,.int .i64 d0.1)]) O0 ⟨k1,K1,H0,rfl⟩ ?_;rintro d0 F p2 _ f2 ⟨p0,r0,c0,rfl⟩ b Q0;unfold z1P at b;refine sq<|sq<|rg<|rr 4 ?_;refine l1 (At.ext (hE.trans c0.ext) y) 4 ?_;refine rr 2 ?_;refine rn<|ci b (fun b=>?_) (fun b=>?_)
               ·refine sp<|sq<|bk<|rg<|rr 2 ?_;refine ns (c0.flatEls (U:=tInt) (els:=[.int .i64 d0.1]) (ys:=[d0.1]) ⟨[.int .i64 d0.1],_,[],[],rfl,rfl,⟨rfl,rfl⟩,⟨rfl,rfl⟩⟩) (fun W1 e2 q2 d2 K0=>?_);have o0:=K0.bring 1 rfl;obtain⟨N0,b⟩:=iS b;refine ap Flat.int o0 ((o0.bring 1 rfl).own) N0 (fun m1 L1 r2 M0=>?_);refine rr 1 ?_;refine rn<|rg<|rr 3 ?_;refine rn ?_;cases b;exact⟨_,_,rfl,⟨m1,L1,(M0.taken 1),rfl⟩,rfl⟩
               ·refine xt ?_;cases b;exact⟨_,_,⟨p0,r0,Q0,c0,rfl⟩,rfl⟩
             ·refine sq<|ct (fun(b1:Bool) F w9=>z2n fuel x0 x1 b1=some r∧Ext V1 w9∧St w w9 []∧F=[(0,.pointer (some G)),(1,.int .i64 x1),(93,.bool b1)]) ?_ ?_
              ·rintro b1 F c1 ⟨hm,E1,d,rfl⟩;unfold z2n at hm;refine ci hm (fun hm=>?_) (fun hm=>?_)
               ·refine sq<|rg<|ns (d.flatEls (U:=tInt) (els:=[.int .i64 0]) (ys:=[0]) ⟨[.int .i64 0],_,[],[],rfl,rfl,⟨rfl,rfl⟩,⟨rfl,rfl⟩⟩) (fun v0 R0 N1 n1 f0=>?_);refine rr 2 ?_;refine rn<|rt ?_;cases hm;exact⟨_,.cons (.tmp rfl) (.cons (.tmp rfl) .nil),v0,R0,rfl,f0⟩
               ·refine sq<|ct (fun(e0:Bool) F w9=>z2m fuel x0 e0=some r∧Ext c1 w9∧St w w9 []∧F=[(0,.pointer (some G)),(104,.bool e0)]) ?_ ?_
                ·rintro e0 F O1 ⟨hm,e1,k,rfl⟩;unfold z2m at hm;refine ci hm (fun hm=>?_) (fun hm=>?_)
                 ·refine sq<|rg<|ns (k.flatEls (U:=tInt) (els:=[.int .i64 0]) (ys:=[0]) ⟨[.int .i64 0],_,[],[],rfl,rfl,⟨rfl,rfl⟩,⟨rfl,rfl⟩⟩) (fun y0 S0 P1 p1 g0=>?_);refine rr 2 ?_;refine rn<|rt ?_;cases hm;exact⟨_,.cons (.tmp rfl) (.cons (.tmp rfl) .nil),y0,S0,rfl,g0⟩
                 ·refine sq<|rg<|rr 3 ?_;refine l1 (At.ext (hE.trans k.ext) y) 0 ?_;refine rr 2 ?_;refine rn<|ci hm (fun hm=>?_) (fun hm=>?_)
                  ·refine sq<|rg<|rr 2 ?_;refine rn<|rt ?_;cases hm;have i0:=k.nilSl tInt 2;exact⟨_,.cons (.tmp rfl) (.cons (.tmp rfl) .nil),none,0,rfl,i0⟩
                  ·refine sp<|sq<|rg<|rr 2 ?_;refine rn<|rt ?_;cases hm;have j0:=k.nilSl tInt 2;exact⟨_,.cons (.tmp rfl) (.cons (.tmp rfl) .nil),none,0,rfl,j0⟩
                ·refine rg<|rr 3 ?_;refine l1 (At.ext (hE.trans d.ext) y) 0 ?_;refine rr 2 ?_;refine rb 110 hm (fun hm=>?_) (fun hm=>?_)
                 ·refine rr 4 ?_;refine rn ?_;exact⟨(x1 == 1),_,⟨hm,(Ext.refl _),d,rfl⟩,rfl⟩
                 ·refine rr 4 ?_;refine rn ?_;exact⟨false,_,⟨hm,(Ext.refl _),d,rfl⟩,rfl⟩
              ·refine rg<|rr 3 ?_;refine l1 (At.ext (hE.trans b0.ext) y) 0 ?_;refine rr 2 ?_;refine rb 99 hm (fun hm=>?_) (fun hm=>?_)
               ·refine rr 4 ?_;refine rn ?_;exact⟨(x1 == 1),_,⟨hm,(Ext.refl _),b0,rfl⟩,rfl⟩
               ·refine rr 4 ?_;refine rn ?_;exact⟨false,_,⟨hm,(Ext.refl _),b0,rfl⟩,rfl⟩
            ·refine rg<|rr 3 ?_;refine l1 (At.ext (hE.trans a0.ext) y) 0 ?_;refine rr 2 ?_;refine rb 74 hm (fun hm=>?_) (fun hm=>?_)
             ·refine rr 4 ?_;refine rn ?_;exact⟨(x1 == 0),_,⟨hm,(Ext.refl _),a0,rfl⟩,rfl⟩
             ·refine rr 4 ?_;refine rn ?_;exact⟨false,_,⟨hm,(Ext.refl _),a0,rfl⟩,rfl⟩
          ·refine rg<|rr 3 ?_;refine l1 (At.ext (hE.trans Y.ext) y) 0 ?_;refine rr 2 ?_;refine rb 63 hm (fun hm=>?_) (fun hm=>?_)
           ·refine rr 4 ?_;refine rn ?_;exact⟨(x1 == 1),_,⟨hm,(Ext.refl _),Y,rfl⟩,rfl⟩
           ·refine rr 4 ?_;refine rn ?_;exact⟨false,_,⟨hm,(Ext.refl _),Y,rfl⟩,rfl⟩
        ·refine rg<|rr 3 ?_;refine l1 (At.ext (hE.trans o.ext) y) 0 ?_;refine rr 2 ?_;refine rb 52 hm (fun hm=>?_) (fun hm=>?_)
         ·refine rr 4 ?_;refine rn ?_;exact⟨(x1 == 2),_,⟨hm,(Ext.refl _),o,rfl⟩,rfl⟩
         ·refine rr 4 ?_;refine rn ?_;exact⟨false,_,⟨hm,(Ext.refl _),o,rfl⟩,rfl⟩
     ·refine rg<|rr 3 ?_;refine l1 (At.ext (hE.trans O.ext) y) 0 ?_;refine rr 2 ?_;refine rb 35 hm (fun hm=>?_) (fun hm=>?_)
      ·refine rr 4 ?_;refine rn ?_;exact⟨(x1 == 2),_,⟨hm,(Ext.refl _),O,rfl⟩,rfl⟩
      ·refine rr 4 ?_;refine rn ?_;exact⟨false,_,⟨hm,(Ext.refl _),O,rfl⟩,rfl⟩
   ·refine rg<|rr 3 ?_;refine l1 (At.ext (hE.trans H.ext) y) 0 ?_;refine rr 2 ?_;refine rb 25 hm (fun hm=>?_) (fun hm=>?_)
    ·refine rr 4 ?_;refine rn ?_;exact⟨(x1 == 1),_,⟨hm,(Ext.refl _),H,rfl⟩,rfl⟩
    ·refine rr 4 ?_;refine rn ?_;exact⟨false,_,⟨hm,(Ext.refl _),H,rfl⟩,rfl⟩
 ·refine rg<|rr 3 ?_;refine l1 (At.ext (hE.trans hS.ext) y) 0 ?_;refine rr 2 ?_;refine rb 14 hm (fun hm=>?_) (fun hm=>?_)
  ·refine rr 4 ?_;refine rn ?_;exact⟨(x1 == 0),_,⟨hm,(Ext.refl _),hS,rfl⟩,rfl⟩
  ·refine rr 4 ?_;refine rn ?_;exact⟨false,_,⟨hm,(Ext.refl _),hS,rfl⟩,rfl⟩

theorem zaL:Enters Tryd.prog 37:=⟨_,_,Tryd.func37,rfl,by kernel_rfl⟩
def z4W (fuel:Nat) (x0:Int):Option (D.Core):=some (⟨2,x0,[],[]⟩:D.Core)

theorem z7E {W:Base}{w:World}(hE:Ext W w){x0:Int}  {fuel:Nat}{r:D.Core}(hm:z4W fuel x0=some r):
  Calls Tryd.prog 37 ⟨[.int .i64 x0]⟩ w (Ret fun v w8=>∃ A0 k0 A1 k1,v=.agg ⟨[.int .i64 r.Kind,.int .i64 r.Value,sl A0 r.Data k0,sl A1 r.Kids k1]⟩∧St w w8 [ow ty37 A0 r.Data k0,ow ty38 A1 r.Kids k1]):=by
 refine into Tryd.func37 5 _ ?_;unfold z4W at hm;have hS:=St.start w;refine sq<|rg<|nw hS (fun g1 w2 e3 o=>?_);refine rn<|sq<|rg<|rr 1 ?_;refine qt (qb) ?_;have y:=o.bring 0 rfl;refine so (A:=[]) y 0 (fun w6 k=>?_);refine rn<|rt ?_;cases hm;have b:=k.nilSl tInt 2;have d:=b.nilSl ty40 40;exact⟨_,.cons (ra ((k.bring 0 rfl).box)) .nil,none,0,none,0,rfl,(((d.bring 0 rfl).bring 1 rfl).taken 2)⟩

theorem z8x:Enters Tryd.prog 51:=⟨_,_,Tryd.func51,rfl,by kernel_rfl⟩
def z3H (fuel:Nat) (x0:Int):Option (D.Core):=some (⟨2,x0,[],[]⟩:D.Core)

theorem z5a {W:Base}{w:World}(hE:Ext W w){x0:Int}  {fuel:Nat}{r:D.Core}(hm:z3H fuel x0=some r):
  Calls Tryd.prog 51 ⟨[.int .i64 x0]⟩ w (Ret fun v w8=>∃ A0 k0 A1 k1,v=.agg ⟨[.int .i64 r.Kind,.int .i64 r.Value,sl A0 r.Data k0,sl A1 r.Kids k1]⟩∧St w w8 [ow ty37 A0 r.Data k0,ow ty38 A1 r.Kids k1]):=by
 refine into Tryd.func51 5 _ ?_;unfold z3H at hm;have hS:=St.start w;refine sq<|rg<|nw hS (fun g1 w2 e3 o=>?_);refine rn<|sq<|rg<|rr 1 ?_;refine qt (qb) ?_;have y:=o.bring 0 rfl;refine so (A:=[]) y 0 (fun w6 k=>?_);refine rn<|rt ?_;cases hm;have b:=k.nilSl tInt 2;have d:=b.nilSl ty40 40;exact⟨_,.cons (ra ((k.bring 0 rfl).box)) .nil,none,0,none,0,rfl,(((d.bring 0 rfl).bring 1 rfl).taken 2)⟩

theorem zan:Enters Tryd.prog 63:=⟨_,_,Tryd.func63,rfl,by kernel_rfl⟩
def z3G (fuel:Nat) (x0:Int):Option (D.Core):=some (⟨1,x0,[],[]⟩:D.Core)

theorem z6G {W:Base}{w:World}(hE:Ext W w){x0:Int}  {fuel:Nat}{r:D.Core}(hm:z3G fuel x0=some r):
  Calls Tryd.prog 63 ⟨[.int .i64 x0]⟩ w (Ret fun v w8=>∃ A0 k0 A1 k1,v=.agg ⟨[.int .i64 r.Kind,.int .i64 r.Value,sl A0 r.Data k0,sl A1 r.Kids k1]⟩∧St w w8 [ow ty37 A0 r.Data k0,ow ty38 A1 r.Kids k1]):=by
 refine into Tryd.func63 5 _ ?_;unfold z3G at hm;have hS:=St.start w;refine sq<|rg<|nw hS (fun g1 w2 e3 o=>?_);refine rn<|sq<|rg<|rr 1 ?_;refine qt (qb) ?_;have y:=o.bring 0 rfl;refine so (A:=[]) y 0 (fun w6 k=>?_);refine rn<|rt ?_;cases hm;have b:=k.nilSl tInt 2;have d:=b.nilSl ty40 40;exact⟨_,.cons (ra ((k.bring 0 rfl).box)) .nil,none,0,none,0,rfl,(((d.bring 0 rfl).bring 1 rfl).taken 2)⟩

theorem zam:Enters Tryd.prog 65:=⟨_,_,Tryd.func65,rfl,by kernel_rfl⟩
def z4F (fuel:Nat) (x0:Int):Option (D.Core):=some (⟨11,x0,[],[]⟩:D.Core)

theorem z6H {W:Base}{w:World}(hE:Ext W w){x0:Int}  {fuel:Nat}{r:D.Core}(hm:z4F fuel x0=some r):
  Calls Tryd.prog 65 ⟨[.int .i64 x0]⟩ w (Ret fun v w8=>∃ A0 k0 A1 k1,v=.agg ⟨[.int .i64 r.Kind,.int .i64 r.Value,sl A0 r.Data k0,sl A1 r.Kids k1]⟩∧St w w8 [ow ty37 A0 r.Data k0,ow ty38 A1 r.Kids k1]):=by
 refine into Tryd.func65 5 _ ?_;unfold z4F at hm;have hS:=St.start w;refine sq<|rg<|nw hS (fun g1 w2 e3 o=>?_);refine rn<|sq<|rg<|rr 1 ?_;refine qt (qb) ?_;have y:=o.bring 0 rfl;refine so (A:=[]) y 0 (fun w6 k=>?_);refine rn<|rt ?_;cases hm;have b:=k.nilSl tInt 2;have d:=b.nilSl ty40 40;exact⟨_,.cons (ra ((k.bring 0 rfl).box)) .nil,none,0,none,0,rfl,(((d.bring 0 rfl).bring 1 rfl).taken 2)⟩

theorem z7k:Enters Tryd.prog 36:=⟨_,_,Tryd.func36,rfl,by kernel_rfl⟩
def z4N (fuel:Nat) (b:(List Int)):Option ByteArray:=some (strOfNums b)
def z1R (fuel:Nat) (k:(List Int)) (b:Int × (List Int)):Option (Rd (Int × (List Int)) ((List Int)) (ByteArray)):=(if(decide (b.1≥0))=true then((idx k b.1).bind fun d=>(if decide ((b.2.length:Int)+(([d]:(List Int)).length:Int)≤4294967296)=true then some (.next (w64 (b.1 - 1),(b.2++([d]:(List Int))))) else none)) else some (.brk b.2))
def z2F (fuel:Nat) (b:(List Int)):Option ByteArray:=((iter (z1R fuel b) fuel (w64 ((b.length:Int) - 1),([]:(List Int)))).bind fun o=>aft o (z4N fuel))
def z1Q (fuel:Nat) (x0:Int) (b:(List Int)):Option ByteArray:=(if(decide (x0<0))=true then(if decide ((b.length:Int)+(([45]:(List Int)).length:Int)≤4294967296)=true then z2F fuel (b++([45]:(List Int))) else none) else z2F fuel b)
def z44 (fuel:Nat) (x0:Int) (t7:(List Int)):Option ByteArray:=(if(x0 == 0)=true then(if decide ((t7.length:Int)+(([48]:(List Int)).length:Int)≤4294967296)=true then z1Q fuel x0 (t7++([48]:(List Int))) else none) else z1Q fuel x0 t7)
def z2E (fuel:Nat) (s6:Int × (List Int)) (b:Int):Option (Rd (Int × (List Int)) ((List Int)) (ByteArray)):=(if decide ((s6.2.length:Int)+(([IntKind.u8.wrap (w64 (48+b))]:(List Int)).length:Int)≤4294967296)=true then some (.next (w64 (s6.1.tdiv 10),(s6.2++([IntKind.u8.wrap (w64 (48+b))]:(List Int))))) else none)
def z1m (fuel:Nat) (s6:Int × (List Int)):Option (Rd (Int × (List Int)) ((List Int)) (ByteArray)):=(if(s6.1 != 0)=true then(if(decide ((s6.1.tmod 10)<0))=true then z2E fuel s6 (w64 (0 - (s6.1.tmod 10))) else z2E fuel s6 (s6.1.tmod 10)) else some (.brk s6.2))
def z2g (fuel:Nat) (x0:Int):Option (ByteArray):=((iter (z1m fuel) fuel (x0,([]:(List Int)))).bind fun o=>aft o (z44 fuel x0))

theorem z4k {W:Base}{w:World}(hE:Ext W w){x0:Int}  {fuel:Nat}{r:ByteArray}(hm:z2g fuel x0=some r):
  Calls Tryd.prog 36 ⟨[.int .i64 x0]⟩ w (Ret fun v w8=>v=.string r∧St w w8 []):=by
 refine into Tryd.func36 53 _ ?_;unfold z2g at hm;have hS:=St.start w;refine sq<|rg<|rr 1 ?_;refine rn<|sq<|rg<|n0 (U:=(tIntK .u8)) hS (fun A1 k2 w3 e4 y1=>?_);refine rr 1 ?_;refine rn<|sq<|rg<|rr 2 ?_;refine rn<|sq ?_;obtain⟨G1,T0,hm⟩:=bS hm;refine ct (fun(t7:(List Int)) F w9=>∃ r0 v0,G1=.inl t7∧St w w9 [ow z72 r0 t7 v0]∧F=[(0,.int .i64 x0),(3,sl r0 t7 v0)]) ?_ ?_
 ·rintro t7 F Y1 ⟨r0,v0,V0,f0,rfl⟩;subst V0;rw [zR] at hm;unfold z44 at hm;refine sq<|sq<|rg<|rr 2 ?_;refine rn<|ct (fun(Y:(List Int)) F w9=>∃ t0 y0,z1Q fuel x0 Y=some r∧St w w9 [ow z72 t0 Y y0]∧F=[(0,.int .i64 x0),(3,sl t0 Y y0)]) ?_ ?_
  ·rintro Y F a2 ⟨t0,y0,hm,g0,rfl⟩;unfold z1Q at hm;refine sq<|sq<|rg<|rr 2 ?_;refine rn<|ct (fun(a0:(List Int)) F w9=>∃ b0 q0,z2F fuel a0=some r∧St w w9 [ow z72 b0 a0 q0]∧F=[(3,sl b0 a0 q0)]) ?_ ?_
   ·rintro a0 F b2 ⟨b0,q0,hm,F0,rfl⟩;unfold z2F at hm;refine sq<|rg<|n0 (U:=(tIntK .u8)) F0 (fun m1 C1 c2 P1 G0=>?_);refine rr 1 ?_;refine rn<|sq<|sq<|rg<|rr 4 ?_;refine rn ?_;obtain⟨H1,U0,hm⟩:=bS hm;refine ct (fun(C0:(List Int)) F w9=>∃ E0 e1,H1=.inl C0∧St w w9 [ow z72 E0 C0 e1]∧F=[(6,sl E0 C0 e1)]) ?_ ?_
    ·rintro C0 F d2 ⟨E0,e1,X0,i0,rfl⟩;subst X0;rw [zR] at hm;unfold z4N at hm;refine sq<|rg<|rr 1 ?_;refine qt ((qBytesStr ((i0.bring 0 rfl).own)).later (Ext.refl _)) ?_;refine rr 1 ?_;refine rn<|rt ?_;cases hm;exact⟨_,.cons (.tmp rfl) .nil,rfl,(i0.taken 0)⟩
    ·refine bk<|wk [3,6,7] ?_;refine it (fun(B0:Int × (List Int)) F w9=>∃ u0 A0,St w w9 [ow z72 u0 B0.2 A0,ow z72 b0 a0 q0]∧F=[(3,sl b0 a0 q0),(6,sl u0 B0.2 A0),(7,.int .i64 B0.1)]) U0 ⟨m1,C1,G0,rfl⟩ ?_;rintro B0 F e2 _ W1 ⟨u0,A0,G,rfl⟩ d Y0;unfold z1R at d;refine sq<|sq<|rg<|rr 2 ?_;refine rn<|ci d (fun d=>?_) (fun d=>?_)
     ·refine sp<|sq<|bk<|rg<|rr 3 ?_;obtain⟨i1,c1,d⟩:=bS d;refine ix (Ext.refl _) ((G.bring 1 rfl).own) c1 (fun X1 v1 P0 b1=>?_);cases b1;refine l1 P0 0 ?_;refine ns (G.flatEls (U:=(tIntK .u8)) (els:=[.int .u8 i1]) (ys:=[i1]) ⟨[.int .u8 i1],_,[],[],rfl,rfl,⟨rfl,rfl⟩,⟨rfl,rfl⟩⟩) (fun M1 T1 f2 Q1 H0=>?_);have j0:=H0.bring 1 rfl;obtain⟨Q0,d⟩:=iS d;refine ap Flat.intK j0 ((j0.bring 1 rfl).own) Q0 (fun n1 D1 g2 J0=>?_);refine rr 1 ?_;refine rn<|rg<|rr 3 ?_;refine rn ?_;cases d;exact⟨_,_,rfl,⟨n1,D1,(J0.bring 1 rfl).drop,rfl⟩,rfl⟩
     ·refine xt ?_;cases d;exact⟨_,_,⟨u0,A0,Y0,(G.taken 1),rfl⟩,rfl⟩
   ·refine ci hm (fun hm=>?_) (fun hm=>?_)
    ·refine rg<|rr 1 ?_;refine ns (g0.flatEls (U:=(tIntK .u8)) (els:=[.int .u8 45]) (ys:=[45]) ⟨[.int .u8 45],_,[],[],rfl,rfl,⟨rfl,rfl⟩,⟨rfl,rfl⟩⟩) (fun N1 U1 i2 R1 K0=>?_);have k0:=K0.bring 1 rfl;obtain⟨R0,hm⟩:=iS hm;refine ap Flat.intK k0 ((k0.bring 1 rfl).own) R0 (fun p1 E1 j2 M0=>?_);refine rr 1 ?_;refine rn ?_;exact⟨(Y++([45]:(List Int))),_,⟨p1,E1,hm,(M0.taken 1),rfl⟩,rfl⟩
    ·refine sp ?_;exact⟨Y,_,⟨t0,y0,hm,g0,rfl⟩,rfl⟩
  ·refine ci hm (fun hm=>?_) (fun hm=>?_)
   ·refine rg<|rr 1 ?_;refine ns (f0.flatEls (U:=(tIntK .u8)) (els:=[.int .u8 48]) (ys:=[48]) ⟨[.int .u8 48],_,[],[],rfl,rfl,⟨rfl,rfl⟩,⟨rfl,rfl⟩⟩) (fun O1 V1 m2 S1 N0=>?_);have o0:=N0.bring 1 rfl;obtain⟨S0,hm⟩:=iS hm;refine ap Flat.intK o0 ((o0.bring 1 rfl).own) S0 (fun t1 F1 n2 O0=>?_);refine rr 1 ?_;refine rn ?_;exact⟨(t7++([48]:(List Int))),_,⟨t1,F1,hm,(O0.taken 1),rfl⟩,rfl⟩
   ·refine sp ?_;exact⟨t7,_,⟨r0,v0,hm,f0,rfl⟩,rfl⟩
 ·refine bk<|wk [0,3,4] ?_;refine it (fun(s6:Int × (List Int)) F w9=>∃ H O,St w w9 [ow z72 H s6.2 O]∧F=[(0,.int .i64 x0),(3,sl H s6.2 O),(4,.int .i64 s6.1)]) T0 ⟨A1,k2,y1,rfl⟩ ?_;rintro s6 F g1 _ f1 ⟨H,O,o,rfl⟩ b a1;unfold z1m at b;refine sq<|sq<|rg<|rr 2 ?_;refine rn<|ci b (fun b=>?_) (fun b=>?_)
  ·refine sp<|bk<|sq<|rg<|rr 3 ?_;refine rn<|sq<|sq<|rg<|rr 2 ?_;refine rn<|ct (fun(k:Int) F w9=>z2E fuel s6 k=some f1∧Ext g1 w9∧St w w9 [ow z72 H s6.2 O]∧F=[(0,.int .i64 x0),(3,sl H s6.2 O),(4,.int .i64 s6.1),(5,.int .i64 k)]) ?_ ?_
   ·rintro k F J1 ⟨b,j1,c0,rfl⟩;unfold z2E at b;refine sq<|rg<|rr 4 ?_;refine ns (c0.flatEls (U:=(tIntK .u8)) (els:=[.int .u8 (IntKind.u8.wrap (w64 (48+k)))]) (ys:=[IntKind.u8.wrap (w64 (48+k))]) ⟨[.int .u8 (IntKind.u8.wrap (w64 (48+k)))],_,[],[],rfl,rfl,⟨rfl,rfl⟩,⟨rfl,rfl⟩⟩) (fun k1 B1 K1 u1 d0=>?_);have y:=d0.bring 1 rfl;obtain⟨p0,b⟩:=iS b;refine ap Flat.intK y ((y.bring 1 rfl).own) p0 (fun D0 d1 L1 e0=>?_);refine rr 1 ?_;refine rn<|rg<|rr 3 ?_;refine rn ?_;cases b;exact⟨_,_,rfl,⟨D0,d1,(e0.taken 1),rfl⟩,rfl⟩
   ·refine ci b (fun b=>?_) (fun b=>?_)
    ·refine rg<|rr 3 ?_;refine rn ?_;exact⟨w64 (0 - (s6.1.tmod 10)),_,⟨b,(Ext.refl _),o,rfl⟩,rfl⟩
    ·refine sp ?_;exact⟨s6.1.tmod 10,_,⟨b,(Ext.refl _),o,rfl⟩,rfl⟩
  ·refine xt ?_;cases b;exact⟨_,_,⟨H,O,a1,o,rfl⟩,rfl⟩

theorem zaO:Enters Tryd.prog 28:=⟨_,_,Tryd.func28,rfl,by kernel_rfl⟩
def z35 (fuel:Nat) (x0:D.Port):Option (ByteArray):=((z2g fuel x0.Agent).bind fun b=>(if decide (b.size+(⟨#[46]⟩:ByteArray).size≤4294967296)=true then((z2g fuel x0.Slot).bind fun d=>(if decide ((b++(⟨#[46]⟩:ByteArray)).size+d.size≤4294967296)=true then(if decide (((b++(⟨#[46]⟩:ByteArray))++d).size+(⟨#[59]⟩:ByteArray).size≤4294967296)=true then some (((b++(⟨#[46]⟩:ByteArray))++d)++(⟨#[59]⟩:ByteArray)) else none) else none)) else none))

theorem z5X {W:Base}{w:World}(hE:Ext W w){e0:List Value}{x0:D.Port}(g0:ty64.ro W e0 x0){fuel:Nat}{r:ByteArray}(hm:z35 fuel x0=some r):
  Calls Tryd.prog 28 ⟨[.agg ⟨e0⟩]⟩ w (Ret fun v w8=>v=.string r∧St w w8 []):=by
 have e1:=zT g0;subst e1;refine into Tryd.func28 12 _ ?_;unfold z35 at hm;have hS:=St.start w;refine sq<|rg<|nw hS (fun g2 w3 e4 y=>?_);refine rr 1 ?_;refine rn<|sq<|dn 0 mixed 10 [([],1023),([0],1022),([1],1021),([2],1019),([],1023),([4],1007),([5,2],991),([3,6],951),([7],895),([8,6,0,1,2,3,4,5,6,7,8],767)] y.ext (fun b=>?_);have f0:=y.step (Ext.draw _);refine dr 8 b [0,4] ?_;refine dl b 1 ((y.bring 0 rfl).box) 0 ?_;refine dl b 5 ((y.bring 0 rfl).box) 1 ?_;obtain⟨i0,c0,hm⟩:=bS hm;refine o1 b 2 (mc b z7k (z4k (hE.trans f0.ext)  c0) (fun k0 p0 G=>?_));obtain⟨rfl,d⟩:=G;refine⟨d.ext,?_⟩;have o:=f0.join d;obtain⟨Y,hm⟩:=iS hm;refine dp b 3 rfl (fun _=>qCat (Nat.le_trans (of_decide_eq_true Y) (by decide))) ?_;obtain⟨j0,d0,hm⟩:=bS hm;refine o1 b 6 (mc b z7k (z4k (hE.trans o.ext)  d0) (fun o0 q0 H=>?_));obtain⟨rfl,k⟩:=H;refine⟨k.ext,?_⟩;have O:=o.join k;obtain⟨a0,hm⟩:=iS hm;refine dp b 7 rfl (fun _=>qCat (Nat.le_trans (of_decide_eq_true a0) (by decide))) ?_;obtain⟨b0,hm⟩:=iS hm;refine dp b 8 rfl (fun _=>qCat (Nat.le_trans (of_decide_eq_true b0) (by decide))) ?_;refine dr 0 b [9] ?_;refine dw [2] ?_;refine dd b ?_;refine rt ?_;cases hm;exact⟨_,.cons (.tmp rfl) .nil,rfl,(O.taken 0)⟩

theorem z5z:Enters Tryd.prog 34:=⟨_,_,Tryd.func34,rfl,by kernel_rfl⟩
def z2u (fuel:Nat) (x0:(List (List Int))) (x1:Int):Option ((List (List Int))):=(if decide (0≤(0:Int)∧0≤x1∧x1≤(x0.length:Int))=true then some ((x0.take x1.toNat).drop 0) else none)

theorem z2N {W:Base}{w:World}(hE:Ext W w){d:Option Addr}{k:Nat}{x0:(List (List Int))}{x1:Int}(o:ty66.ro W [sl d x0 k] x0){fuel:Nat}{r:(List (List Int))}(hm:z2u fuel x0 x1=some r):
  Calls Tryd.prog 34 ⟨[sl d x0 k,.int .i64 x1]⟩ w (Ret fun v w8=>∃ A0 k0,v=sl A0 r k0∧St w w8 []∧ty66.ro W [sl A0 r k0] r):=by
 refine into Tryd.func34 8 _ ?_;unfold z2u at hm;have hS:=St.start w;refine sq<|rg<|rr 1 ?_;refine rn<|sq<|rg<|rr 2 ?_;obtain⟨y,hm⟩:=iS hm;have b:=of_decide_eq_true y;refine cu (l:=0) (h:=x1.toNat) (hE.trans hS.ext) rfl o (.inl ⟨rfl,rfl⟩) (.inr ⟨_,_,rfl,by rw [Int.toNat_of_nonneg (Int.le_trans b.1 b.2.1)];rfl⟩) (by have:=b;omega) (by have:=b;omega) (fun A3 k4 h5=>?_);have h6:=z9L (by have:=b;omega:0≤x1.toNat) (by have:=b;omega) h5;refine kn (u:=.slice A3 ((x0.take x1.toNat).drop 0).length k4) 7 rfl (by rw [z5R (by have:=b;omega:x1.toNat≤x0.length)]) ?_;refine rr 1 ?_;refine rn<|rt ?_;cases hm;exact⟨_,.cons (.tmp rfl) .nil,A3,k4,rfl,hS,h6⟩

theorem zag:Enters Tryd.prog 71:=⟨_,_,Tryd.func71,rfl,by kernel_rfl⟩
def z4M (fuel:Nat) (t2:Unit):Option Bool:=some true
def z3p (fuel:Nat) (x0:(List Int)) (x1:(List Int)) (s1:Int):Option (Rd (Int) (Unit) (Bool)):=(if(decide (s1<(x0.length:Int)))=true then((idx x0 s1).bind fun b=>((idx x1 s1).bind fun d=>(if(b != d)=true then some (.ret false) else some (.next (w64 (s1+1)))))) else some (.brk ()))
def z3x (fuel:Nat) (x0:(List Int)) (x1:(List Int)):Option (Bool):=(if((x0.length:Int) != (x1.length:Int))=true then some false else((iter (z3p fuel x0 x1) fuel 0).bind fun o=>aft o (z4M fuel)))

theorem z6o {W:Base}{w:World}(hE:Ext W w){G:Option Addr}{i0:Nat}{x0:(List Int)}{H:Option Addr}{j0:Nat}{x1:(List Int)}(q0:ty37.ro W [sl G x0 i0] x0) (r0:ty37.ro W [sl H x1 j0] x1){fuel:Nat}{r:Bool}(hm:z3x fuel x0 x1=some r):
  Calls Tryd.prog 71 ⟨[sl G x0 i0,sl H x1 j0]⟩ w (Ret fun v w8=>v=.bool r∧St w w8 []):=by
 refine into Tryd.func71 26 _ ?_;unfold z3x at hm;have hS:=St.start w;refine sq<|rg<|rr 1 ?_;refine rn<|sq<|sq<|rg<|rr 5 ?_;refine rn<|ci hm (fun hm=>?_) (fun hm=>?_)
 ·refine sq<|rg<|rr 1 ?_;refine rn<|rt ?_;cases hm;exact⟨_,.cons (.tmp rfl) .nil,rfl,hS⟩
 ·refine sp<|sq<|sq<|rg<|rr 1 ?_;refine rn ?_;obtain⟨t0,b0,hm⟩:=bS hm;refine ct (fun(t2:Unit) F w9=>t0=.inl t2∧Ext w w9∧St w w9 []∧F=[]) ?_ ?_
  ·rintro t2 F w7 ⟨c0,u0,O,rfl⟩;subst c0;rw [zR] at hm;unfold z4M at hm;refine sq<|rg<|rr 1 ?_;refine rn<|rt ?_;cases hm;exact⟨_,.cons (.tmp rfl) .nil,rfl,O⟩
  ·refine bk<|wk [0,1,5] ?_;refine it (fun(s1:Int) F w9=>Ext w w9∧St w w9 []∧F=[(0,sl G x0 i0),(1,sl H x1 j0),(5,.int .i64 s1)]) b0 ⟨(Ext.refl _),hS,rfl⟩ ?_;rintro s1 F B0 _ v0 ⟨k0,d,rfl⟩ b y;unfold z3p at b;refine sq<|sq<|rg<|rr 4 ?_;refine rn<|ci b (fun b=>?_) (fun b=>?_)
   ·refine sp<|sq<|bk<|sq<|dn 0 mixed 9 [([],511),([],511),([0,1],508),([2],507),([],511),([],511),([4,5],463),([6],447),([3,7],375)] d.ext (fun k=>?_);have o:=d.step (Ext.draw _);refine dr 5 k [0,1,4,5] ?_;obtain⟨C0,f0,b⟩:=bS b;refine dx (hE.trans d.ext) k 2 q0 f0 (fun y0 o0 Y d0=>?_);cases d0;refine dl k 3 (At.ext (hE.trans d.ext) Y) 0 ?_;obtain⟨D0,g0,b⟩:=bS b;refine dx (hE.trans d.ext) k 6 r0 g0 (fun A0 p0 a0 e0=>?_);cases e0;refine dl k 7 (At.ext (hE.trans d.ext) a0) 0 ?_;refine dr 0 k [8] ?_;refine dw [0,1,5,25] ?_;refine dd k ?_;refine ci b (fun b=>?_) (fun b=>?_)
    ·refine sq<|rg<|rr 1 ?_;refine rn<|rt ?_;cases b;cases y;have hm:some _=some _:=hm;cases hm;exact⟨_,.cons (.tmp rfl) .nil,rfl,o⟩
    ·refine sp<|rg<|rr 3 ?_;refine rn ?_;cases b;exact⟨_,_,rfl,⟨(k0.trans (Ext.draw _)),o,rfl⟩,rfl⟩
   ·refine xt ?_;cases b;exact⟨_,_,⟨y,k0,d,rfl⟩,rfl⟩

theorem zas:Enters Tryd.prog 58:=⟨_,_,Tryd.func58,rfl,by kernel_rfl⟩
def z3S (fuel:Nat) (t2:Unit):Option Bool:=some true
def z1L (fuel:Nat) (x0:(List (List Int))) (x1:(List (List Int))) (s1:Int):Option (Rd (Int) (Unit) (Bool)):=(if(decide (s1<(x0.length:Int)))=true then((idx x0 s1).bind fun d=>((idx x1 s1).bind fun k=>((z3x fuel d k).bind fun b=>(if(!b)=true then some (.ret false) else some (.next (w64 (s1+1))))))) else some (.brk ()))
def z1y (fuel:Nat) (x0:(List (List Int))) (x1:(List (List Int))):Option (Bool):=(if((x0.length:Int) != (x1.length:Int))=true then some false else((iter (z1L fuel x0 x1) fuel 0).bind fun o=>aft o (z3S fuel)))

theorem z4Z {W:Base}{w:World}(hE:Ext W w){a0:Option Addr}{p0:Nat}{x0:(List (List Int))}{b0:Option Addr}{q0:Nat}{x1:(List (List Int))}(A0:ty66.ro W [sl a0 x0 p0] x0) (B0:ty66.ro W [sl b0 x1 q0] x1){fuel:Nat}{r:Bool}(hm:z1y fuel x0 x1=some r):
  Calls Tryd.prog 58 ⟨[sl a0 x0 p0,sl b0 x1 q0]⟩ w (Ret fun v w8=>v=.bool r∧St w w8 []):=by
 refine into Tryd.func58 27 _ ?_;unfold z1y at hm;have hS:=St.start w;refine sq<|rg<|rr 1 ?_;refine rn<|sq<|sq<|rg<|rr 5 ?_;refine rn<|ci hm (fun hm=>?_) (fun hm=>?_)
 ·refine sq<|rg<|rr 1 ?_;refine rn<|rt ?_;cases hm;exact⟨_,.cons (.tmp rfl) .nil,rfl,hS⟩
 ·refine sp<|sq<|sq<|rg<|rr 1 ?_;refine rn ?_;obtain⟨C0,g0,hm⟩:=bS hm;refine ct (fun(t2:Unit) F w9=>C0=.inl t2∧Ext w w9∧St w w9 []∧F=[]) ?_ ?_
  ·rintro t2 F w7 ⟨i0,F0,d0,rfl⟩;subst i0;rw [zR] at hm;unfold z3S at hm;refine sq<|rg<|rr 1 ?_;refine rn<|rt ?_;cases hm;exact⟨_,.cons (.tmp rfl) .nil,rfl,d0⟩
  ·refine bk<|wk [0,1,5] ?_;refine it (fun(s1:Int) F w9=>Ext w w9∧St w w9 []∧F=[(0,sl a0 x0 p0),(1,sl b0 x1 q0),(5,.int .i64 s1)]) g0 ⟨(Ext.refl _),hS,rfl⟩ ?_;rintro s1 F P0 _ J0 ⟨r0,k,rfl⟩ b H;unfold z1L at b;refine sq<|sq<|rg<|rr 4 ?_;refine rn<|ci b (fun b=>?_) (fun b=>?_)
   ·refine sp<|sq<|bk<|sq<|dn 0 mixed 10 [([],1023),([],1023),([0,1],1020),([2],1019),([],1023),([],1023),([4,5],975),([6],959),([3,7],887),([8],767)] k.ext (fun d=>?_);have y:=k.step (Ext.draw _);refine dr 6 d [0,1,4,5] ?_;obtain⟨R0,j0,b⟩:=bS b;refine dx (hE.trans k.ext) d 2 A0 j0 (fun K0 v0 e0 O=>?_);obtain⟨D0,G0,t0⟩:=z4i O;subst t0;refine dl d 3 (At.ext (hE.trans k.ext) e0) 0 ?_;obtain⟨S0,k0,b⟩:=bS b;refine dx (hE.trans k.ext) d 6 B0 k0 (fun M0 y0 f0 Y=>?_);obtain⟨E0,H0,u0⟩:=z4i Y;subst u0;refine dl d 7 (At.ext (hE.trans k.ext) f0) 0 ?_;obtain⟨N0,o0,b⟩:=bS b;refine o1 d 8 (mc d zag (z6o (hE.trans y.ext) O Y o0) (fun O0 Q0 c0=>?_));obtain⟨rfl,o⟩:=c0;refine⟨o.ext,?_⟩;have G:=y.join o;refine dr 0 d [9] ?_;refine dw [0,1,5,26] ?_;refine dd d ?_;refine ci b (fun b=>?_) (fun b=>?_)
    ·refine sq<|rg<|rr 1 ?_;refine rn<|rt ?_;cases b;cases H;have hm:some _=some _:=hm;cases hm;exact⟨_,.cons (.tmp rfl) .nil,rfl,G⟩
    ·refine sp<|rg<|rr 3 ?_;refine rn ?_;cases b;exact⟨_,_,rfl,⟨((r0.trans (Ext.draw _)).trans o.ext),G,rfl⟩,rfl⟩
   ·refine xt ?_;cases b;exact⟨_,_,⟨H,r0,k,rfl⟩,rfl⟩

theorem z6c:Enters Tryd.prog 31:=⟨_,_,Tryd.func31,rfl,by kernel_rfl⟩
def z25 (fuel:Nat) (x0:(List Int)):Option ((List Int)):=(if decide ((([]:(List Int)).length:Int)+(x0.length:Int)≤4294967296)=true then some (([]:(List Int))++x0) else none)

theorem z47 {W:Base}{w:World}(hE:Ext W w){d:Option Addr}{o:Nat}{x0:(List Int)}(G:ty37.ro W [sl d x0 o] x0){fuel:Nat}{r:(List Int)}(hm:z25 fuel x0=some r):
  Calls Tryd.prog 31 ⟨[sl d x0 o]⟩ w (Ret fun v w8=>∃ A0 k0,v=sl A0 r k0∧St w w8 [ow ty37 A0 r k0]):=by
 refine into Tryd.func31 6 _ ?_;unfold z25 at hm;have hS:=St.start w;refine sq<|rg<|rr 1 ?_;refine rn<|sq<|rg<|n0 (U:=tInt) hS (fun A1 k2 w3 e4 H=>?_);refine rr 1 ?_;have k:=H.bring 0 rfl;obtain⟨O,hm⟩:=iS hm;refine ap Flat.int k (ty37.ext (hE.trans k.ext) G) O (fun y Y a0 b=>?_);refine rr 1 ?_;refine rn<|rt ?_;cases hm;exact⟨_,.cons (.tmp rfl) .nil,y,Y,rfl,b⟩

theorem z8w:Enters Tryd.prog 64:=⟨_,_,Tryd.func64,rfl,by kernel_rfl⟩
def zH (fuel:Nat) (x0:(List Int)):Option ((List Int)):=(if decide ((([]:(List Int)).length:Int)+(x0.length:Int)≤4294967296)=true then some (([]:(List Int))++x0) else none)

theorem z34 {W:Base}{w:World}(hE:Ext W w){b:Option Addr}{o:Nat}{x0:(List Int)}(d:ty37.ro W [sl b x0 o] x0){fuel:Nat}{r:(List Int)}(hm:zH fuel x0=some r):
  Calls Tryd.prog 64 ⟨[sl b x0 o]⟩ w (Ret fun v w8=>∃ A0 k0,v=sl A0 r k0∧St w w8 [ow ty37 A0 r k0]):=by
 refine into Tryd.func64 8 _ ?_;unfold zH at hm;have hS:=St.start w;refine sq<|rg<|rr 1 ?_;refine rn<|sq<|sq<|rg<|rr 1 ?_;refine qt (qNilEq) ?_;refine rn ?_;cases b with
 | none=>
  have e:=zbg (by decide) d;subst e;refine cd true (fun _=>?_) (fun hc=>by cases hc);refine sq<|rg<|rr 1 ?_;refine rn<|rt ?_;have hr:r=[]:=by simpa using hm.symm
  subst hr;exact⟨_,.cons (.tmp rfl) .nil,none,0,rfl,hS.nilSl tInt 2⟩
 | some p=>
  refine cd false (fun hc=>by cases hc) (fun _=>?_);refine sp<|sq<|rg<|n0 (U:=tInt) hS (fun A1 k1 w1 e1 k=>?_);refine rr 1 ?_
  by_cases hk:decide ((([]:(List Int)).length:Int)+(x0.length:Int)≤4294967296)=true
  case neg=>rw [if_neg hk] at hm;cases hm
  rw [if_pos hk] at hm;cases hm;refine ap Flat.int k (ty37.ext (hE.trans k.ext) d) hk (fun A2 k2 w2 y=>?_);refine rr 1 ?_;refine rn<|rt ?_;exact⟨_,.cons (.tmp rfl) .nil,A2,k2,rfl,y⟩

end Go.E


