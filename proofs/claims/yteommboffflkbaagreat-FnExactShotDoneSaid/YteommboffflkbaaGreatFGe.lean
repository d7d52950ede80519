/- Models of functions and proofs that the code runs as they say (written by program). Conditions: the model gives a value. -/
import Derived.Test.YteommboffflkbaaGreatFGd
namespace Go.E
open Go.RowKit Go.Proofs
set_option linter.unusedVariables false
set_option linter.unusedSimpArgs false
set_option maxHeartbeats 2000000
set_option maxRecDepth 100000

theorem ziT : Enters Tryz.prog 144 := ⟨_, _, Tryz.func144, rfl, by kernel_rfl⟩
def z8Q (fuel : Nat) (t2 : Unit) : Option Bool := some true
def z5G (fuel : Nat) (x0 : (List D.Parcel)) (x1 : (List D.Parcel)) (s1 : Int) : Option (Rd (Int) (Unit) (Bool)) := (if (decide (s1 < (x0.length : Int))) = true then ((idx x0 s1).bind fun x21 => ((idx x1 s1).bind fun x34 => ((z6y fuel x21 x34).bind fun r47 => (if (!r47) = true then some (.ret false) else some (.next (w64 (s1 + 1))))))) else some (.brk ()))
def z5W (fuel : Nat) (x0 : (List D.Parcel)) (x1 : (List D.Parcel)) : Option (Bool) := (if ((x0.length : Int) != (x1.length : Int)) = true then some false else ((iter (z5G fuel x0 x1) fuel 0).bind fun o => aft o (z8Q fuel)))

theorem laws_eqParcelS_ok {W w : World} (hE : Ext W w) {A0_ : Option Addr} {k0_ : Nat} {x0 : (List D.Parcel)} {A1_ : Option Addr} {k1_ : Nat} {x1 : (List D.Parcel)} (h0_ : zas.ro W [sl A0_ x0 k0_] x0) (h1_ : zas.ro W [sl A1_ x1 k1_] x1) {fuel : Nat} {r : Bool} (hm : z5W fuel x0 x1 = some r) :
  Calls Tryz.prog 144 ⟨[sl A0_ x0 k0_, sl A1_ x1 k1_]⟩ w (Ret fun v w8 => v = .bool r ∧ St w w8 []) := by
 refine into Tryz.func144 27 _ ?_; unfold z5W at hm; have hS := St.start w; refine sq <| rg <| rr 1 ?_; refine rn <| sq <| sq <| rg <| rr 5 ?_; refine rn <| ci hm (fun hm => ?_) (fun hm => ?_)
 ·refine sq <| rg <| rr 1 ?_; refine rn <| rt ?_; cases hm; exact ⟨_, .cons (.tmp rfl) .nil, rfl, hS⟩
 ·refine sp <| sq <| sq <| rg <| rr 1 ?_; refine rn ?_; obtain ⟨o10, hl11, hm⟩ := bS hm; refine ct (fun (t2 : Unit) F w9 => o10 = .inl t2 ∧ Ext w w9 ∧ St w w9 [] ∧ F = []) ?_ ?_
  ·rintro t2 F w7 ⟨ho13, hE6, hS12, rfl⟩; subst ho13; rw [z8] at hm; unfold z8Q at hm; refine sq <| rg <| rr 1 ?_; refine rn <| rt ?_; cases hm; exact ⟨_, .cons (.tmp rfl) .nil, rfl, hS12⟩
  ·refine bk <| wk [0, 1, 5] ?_; refine it (fun (s1 : Int) F w9 => Ext w w9 ∧ St w w9 [] ∧ F = [(0, sl A0_ x0 k0_), (1, sl A1_ x1 k1_), (5, .int .i64 s1)]) hl11 ⟨(Ext.refl _), hS, rfl⟩ ?_; rintro s1 F w18 _ o16 ⟨hE5, hS17, rfl⟩ hb14 ho15; unfold z5G at hb14; refine sq <| sq <| rg <| rr 4 ?_; refine rn <| ci hb14 (fun hb14 => ?_) (fun hb14 => ?_)
   ·refine sp <| sq <| bk <| sq <| dn 0 mixed 10 [([], 1023), ([], 1023), ([0, 1], 1020), ([2], 1019), ([], 1023), ([], 1023), ([4, 5], 975), ([6], 959), ([3, 7], 887), ([8], 767)] hS17.ext (fun s_19 => ?_); have hS20 := hS17.step (Ext.draw _); refine dr 6 s_19 [0, 1, 4, 5] ?_; obtain ⟨x21, hx22, hb14⟩ := bS hb14; refine dx (hE.trans hS17.ext) s_19 2 h0_ hx22 (fun p23 es24 ha25 hr26 => ?_); obtain ⟨A27, k28, A30, k31, e33, h29, h32⟩ := z2o hr26; subst e33; refine dL s_19 3 (At.ext (hE.trans hS17.ext) ha25) ?_; obtain ⟨x34, hx35, hb14⟩ := bS hb14; refine dx (hE.trans hS17.ext) s_19 6 h1_ hx35 (fun p36 es37 ha38 hr39 => ?_); obtain ⟨A40, k41, A43, k44, e46, h42, h45⟩ := z2o hr39; subst e46; refine dL s_19 7 (At.ext (hE.trans hS17.ext) ha38) ?_; obtain ⟨r47, hx48, hb14⟩ := bS hb14; refine o1 s_19 8 (mc s_19 zix (laws_eqParcel_ok (hE.trans hS20.ext) hr26 hr39 hx48) (fun v49 w50 hR51 => ?_)); obtain ⟨rfl, hR52⟩ := hR51; refine ⟨hR52.ext, ?_⟩; have hS53 := hS20.join hR52; refine dr 0 s_19 [9] ?_; refine dw [0, 1, 5, 26] ?_; refine dd s_19 ?_; refine ci hb14 (fun hb14 => ?_) (fun hb14 => ?_)
    ·refine sq <| rg <| rr 1 ?_; refine rn <| rt ?_; cases hb14; cases ho15; have hm : some _ = some _ := hm; cases hm; exact ⟨_, .cons (.tmp rfl) .nil, rfl, hS53⟩
    ·refine sp <| rg <| rr 3 ?_; refine rn ?_; cases hb14; exact ⟨_, _, rfl, ⟨((hE5.trans (Ext.draw _)).trans hR52.ext), hS53, rfl⟩, rfl⟩
   ·refine xt ?_; cases hb14; exact ⟨_, _, ⟨ho15, hE5, hS17, rfl⟩, rfl⟩

theorem zgc : Enters Tryz.prog 77 := ⟨_, _, Tryz.func77, rfl, by kernel_rfl⟩
def z8p (fuel : Nat) (t2 : Unit) : Option Bool := some true
def z4W (fuel : Nat) (x0 : (List (List D.Parcel))) (x1 : (List (List D.Parcel))) (s1 : Int) : Option (Rd (Int) (Unit) (Bool)) := (if (decide (s1 < (x0.length : Int))) = true then ((idx x0 s1).bind fun x21 => ((idx x1 s1).bind fun x30 => ((z5W fuel x21 x30).bind fun r39 => (if (!r39) = true then some (.ret false) else some (.next (w64 (s1 + 1))))))) else some (.brk ()))
def z3C (fuel : Nat) (x0 : (List (List D.Parcel))) (x1 : (List (List D.Parcel))) : Option (Bool) := (if ((x0.length : Int) != (x1.length : Int)) = true then some false else ((iter (z4W fuel x0 x1) fuel 0).bind fun o => aft o (z8p fuel)))

theorem laws_eqParcelSS_ok {W w : World} (hE : Ext W w) {A0_ : Option Addr} {k0_ : Nat} {x0 : (List (List D.Parcel))} {A1_ : Option Addr} {k1_ : Nat} {x1 : (List (List D.Parcel))} (h0_ : ty38.ro W [sl A0_ x0 k0_] x0) (h1_ : ty38.ro W [sl A1_ x1 k1_] x1) {fuel : Nat} {r : Bool} (hm : z3C fuel x0 x1 = some r) :
  Calls Tryz.prog 77 ⟨[sl A0_ x0 k0_, sl A1_ x1 k1_]⟩ w (Ret fun v w8 => v = .bool r ∧ St w w8 []) := by
 refine into Tryz.func77 27 _ ?_; unfold z3C at hm; have hS := St.start w; refine sq <| rg <| rr 1 ?_; refine rn <| sq <| sq <| rg <| rr 5 ?_; refine rn <| ci hm (fun hm => ?_) (fun hm => ?_)
 ·refine sq <| rg <| rr 1 ?_; refine rn <| rt ?_; cases hm; exact ⟨_, .cons (.tmp rfl) .nil, rfl, hS⟩
 ·refine sp <| sq <| sq <| rg <| rr 1 ?_; refine rn ?_; obtain ⟨o10, hl11, hm⟩ := bS hm; refine ct (fun (t2 : Unit) F w9 => o10 = .inl t2 ∧ Ext w w9 ∧ St w w9 [] ∧ F = []) ?_ ?_
  ·rintro t2 F w7 ⟨ho13, hE6, hS12, rfl⟩; subst ho13; rw [z8] at hm; unfold z8p at hm; refine sq <| rg <| rr 1 ?_; refine rn <| rt ?_; cases hm; exact ⟨_, .cons (.tmp rfl) .nil, rfl, hS12⟩
  ·refine bk <| wk [0, 1, 5] ?_; refine it (fun (s1 : Int) F w9 => Ext w w9 ∧ St w w9 [] ∧ F = [(0, sl A0_ x0 k0_), (1, sl A1_ x1 k1_), (5, .int .i64 s1)]) hl11 ⟨(Ext.refl _), hS, rfl⟩ ?_; rintro s1 F w18 _ o16 ⟨hE5, hS17, rfl⟩ hb14 ho15; unfold z4W at hb14; refine sq <| sq <| rg <| rr 4 ?_; refine rn <| ci hb14 (fun hb14 => ?_) (fun hb14 => ?_)
   ·refine sp <| sq <| bk <| sq <| dn 0 mixed 10 [([], 1023), ([], 1023), ([0, 1], 1020), ([2], 1019), ([], 1023), ([], 1023), ([4, 5], 975), ([6], 959), ([3, 7], 887), ([8], 767)] hS17.ext (fun s_19 => ?_); have hS20 := hS17.step (Ext.draw _); refine dr 6 s_19 [0, 1, 4, 5] ?_; obtain ⟨x21, hx22, hb14⟩ := bS hb14; refine dx (hE.trans hS17.ext) s_19 2 h0_ hx22 (fun p23 es24 ha25 hr26 => ?_); obtain ⟨A27, k28, e29⟩ := z1f hr26; subst e29; refine dl s_19 3 (At.ext (hE.trans hS17.ext) ha25) 0 ?_; obtain ⟨x30, hx31, hb14⟩ := bS hb14; refine dx (hE.trans hS17.ext) s_19 6 h1_ hx31 (fun p32 es33 ha34 hr35 => ?_); obtain ⟨A36, k37, e38⟩ := z1f hr35; subst e38; refine dl s_19 7 (At.ext (hE.trans hS17.ext) ha34) 0 ?_; obtain ⟨r39, hx40, hb14⟩ := bS hb14; refine o1 s_19 8 (mc s_19 ziT (laws_eqParcelS_ok (hE.trans hS20.ext) hr26 hr35 hx40) (fun v41 w42 hR43 => ?_)); obtain ⟨rfl, hR44⟩ := hR43; refine ⟨hR44.ext, ?_⟩; have hS45 := hS20.join hR44; refine dr 0 s_19 [9] ?_; refine dw [0, 1, 5, 26] ?_; refine dd s_19 ?_; refine ci hb14 (fun hb14 => ?_) (fun hb14 => ?_)
    ·refine sq <| rg <| rr 1 ?_; refine rn <| rt ?_; cases hb14; cases ho15; have hm : some _ = some _ := hm; cases hm; exact ⟨_, .cons (.tmp rfl) .nil, rfl, hS45⟩
    ·refine sp <| rg <| rr 3 ?_; refine rn ?_; cases hb14; exact ⟨_, _, rfl, ⟨((hE5.trans (Ext.draw _)).trans hR44.ext), hS45, rfl⟩, rfl⟩
   ·refine xt ?_; cases hb14; exact ⟨_, _, ⟨ho15, hE5, hS17, rfl⟩, rfl⟩

theorem zgb : Enters Tryz.prog 78 := ⟨_, _, Tryz.func78, rfl, by kernel_rfl⟩
def z8R (fuel : Nat) (t2 : Unit) : Option Bool := some true
def z5H (fuel : Nat) (x0 : (List (List Int))) (x1 : (List (List Int))) (s1 : Int) : Option (Rd (Int) (Unit) (Bool)) := (if (decide (s1 < (x0.length : Int))) = true then ((idx x0 s1).bind fun x21 => ((idx x1 s1).bind fun x30 => ((z2M fuel x21 x30).bind fun r39 => (if (!r39) = true then some (.ret false) else some (.next (w64 (s1 + 1))))))) else some (.brk ()))
def z4o (fuel : Nat) (x0 : (List (List Int))) (x1 : (List (List Int))) : Option (Bool) := (if ((x0.length : Int) != (x1.length : Int)) = true then some false else ((iter (z5H fuel x0 x1) fuel 0).bind fun o => aft o (z8R fuel)))

theorem laws_eqInt64SS_ok {W w : World} (hE : Ext W w) {A0_ : Option Addr} {k0_ : Nat} {x0 : (List (List Int))} {A1_ : Option Addr} {k1_ : Nat} {x1 : (List (List Int))} (h0_ : ty28.ro W [sl A0_ x0 k0_] x0) (h1_ : ty28.ro W [sl A1_ x1 k1_] x1) {fuel : Nat} {r : Bool} (hm : z4o fuel x0 x1 = some r) :
  Calls Tryz.prog 78 ⟨[sl A0_ x0 k0_, sl A1_ x1 k1_]⟩ w (Ret fun v w8 => v = .bool r ∧ St w w8 []) := by
 refine into Tryz.func78 27 _ ?_; unfold z4o at hm; have hS := St.start w; refine sq <| rg <| rr 1 ?_; refine rn <| sq <| sq <| rg <| rr 5 ?_; refine rn <| ci hm (fun hm => ?_) (fun hm => ?_)
 ·refine sq <| rg <| rr 1 ?_; refine rn <| rt ?_; cases hm; exact ⟨_, .cons (.tmp rfl) .nil, rfl, hS⟩
 ·refine sp <| sq <| sq <| rg <| rr 1 ?_; refine rn ?_; obtain ⟨o10, hl11, hm⟩ := bS hm; refine ct (fun (t2 : Unit) F w9 => o10 = .inl t2 ∧ Ext w w9 ∧ St w w9 [] ∧ F = []) ?_ ?_
  ·rintro t2 F w7 ⟨ho13, hE6, hS12, rfl⟩; subst ho13; rw [z8] at hm; unfold z8R at hm; refine sq <| rg <| rr 1 ?_; refine rn <| rt ?_; cases hm; exact ⟨_, .cons (.tmp rfl) .nil, rfl, hS12⟩
  ·refine bk <| wk [0, 1, 5] ?_; refine it (fun (s1 : Int) F w9 => Ext w w9 ∧ St w w9 [] ∧ F = [(0, sl A0_ x0 k0_), (1, sl A1_ x1 k1_), (5, .int .i64 s1)]) hl11 ⟨(Ext.refl _), hS, rfl⟩ ?_; rintro s1 F w18 _ o16 ⟨hE5, hS17, rfl⟩ hb14 ho15; unfold z5H at hb14; refine sq <| sq <| rg <| rr 4 ?_; refine rn <| ci hb14 (fun hb14 => ?_) (fun hb14 => ?_)
   ·refine sp <| sq <| bk <| sq <| dn 0 mixed 10 [([], 1023), ([], 1023), ([0, 1], 1020), ([2], 1019), ([], 1023), ([], 1023), ([4, 5], 975), ([6], 959), ([3, 7], 887), ([8], 767)] hS17.ext (fun s_19 => ?_); have hS20 := hS17.step (Ext.draw _); refine dr 6 s_19 [0, 1, 4, 5] ?_; obtain ⟨x21, hx22, hb14⟩ := bS hb14; refine dx (hE.trans hS17.ext) s_19 2 h0_ hx22 (fun p23 es24 ha25 hr26 => ?_); obtain ⟨A27, k28, e29⟩ := z1u hr26; subst e29; refine dl s_19 3 (At.ext (hE.trans hS17.ext) ha25) 0 ?_; obtain ⟨x30, hx31, hb14⟩ := bS hb14; refine dx (hE.trans hS17.ext) s_19 6 h1_ hx31 (fun p32 es33 ha34 hr35 => ?_); obtain ⟨A36, k37, e38⟩ := z1u hr35; subst e38; refine dl s_19 7 (At.ext (hE.trans hS17.ext) ha34) 0 ?_; obtain ⟨r39, hx40, hb14⟩ := bS hb14; refine o1 s_19 8 (mc s_19 zc4 (laws_eqInt64S_ok (hE.trans hS20.ext) hr26 hr35 hx40) (fun v41 w42 hR43 => ?_)); obtain ⟨rfl, hR44⟩ := hR43; refine ⟨hR44.ext, ?_⟩; have hS45 := hS20.join hR44; refine dr 0 s_19 [9] ?_; refine dw [0, 1, 5, 26] ?_; refine dd s_19 ?_; refine ci hb14 (fun hb14 => ?_) (fun hb14 => ?_)
    ·refine sq <| rg <| rr 1 ?_; refine rn <| rt ?_; cases hb14; cases ho15; have hm : some _ = some _ := hm; cases hm; exact ⟨_, .cons (.tmp rfl) .nil, rfl, hS45⟩
    ·refine sp <| rg <| rr 3 ?_; refine rn ?_; cases hb14; exact ⟨_, _, rfl, ⟨((hE5.trans (Ext.draw _)).trans hR44.ext), hS45, rfl⟩, rfl⟩
   ·refine xt ?_; cases hb14; exact ⟨_, _, ⟨ho15, hE5, hS17, rfl⟩, rfl⟩

theorem zki : Enters Tryz.prog 19 := ⟨_, _, Tryz.func19, rfl, by kernel_rfl⟩
def z5X (fuel : Nat) (x0 : D.Cluster) (x1 : D.Cluster) : Option (Bool) := ((z7K fuel x0.Grid x1.Grid).bind fun r43 => (if (!r43) = true then some false else ((z3C fuel x0.Channels x1.Channels).bind fun r50 => (if (!r50) = true then some false else ((z4o fuel x0.Counts x1.Counts).bind fun r57 => (if (!r57) = true then some false else ((z2M fuel x0.Sent x1.Sent).bind fun r65 => (if (!r65) = true then some false else ((z2M fuel x0.Got x1.Got).bind fun r72 => (if (!r72) = true then some false else some true))))))))))

theorem laws_eqCluster_ok {W w : World} (hE : Ext W w) {c0_ : List Value} {x0 : D.Cluster} {c1_ : List Value} {x1 : D.Cluster} (h0_ : ty40.ro W c0_ x0) (h1_ : ty40.ro W c1_ x1) {fuel : Nat} {r : Bool} (hm : z5X fuel x0 x1 = some r) :
  Calls Tryz.prog 19 ⟨[.agg ⟨c0_⟩, .agg ⟨c1_⟩]⟩ w (Ret fun v w8 => v = .bool r ∧ St w w8 []) := by
 obtain ⟨A1, k2, A4, k5, A7, k10, A12, k13, A15, k16, e18, h3, h6, h11, h14, h17⟩ := z7r h0_; subst e18; obtain ⟨A19, k20, A22, k23, A25, k26, A28, k29, A31, k32, e34, h21, h24, h27, h30, h33⟩ := z7r h1_; subst e34; refine into Tryz.func19 35 _ ?_; unfold z5X at hm; have hS := St.start w; refine sq <| rg <| nw hS (fun g35 w36 e37 hS38 => ?_); refine nw hS38 (fun g39 w40 e41 hS42 => ?_); refine rr 1 ?_; refine rn <| sq <| sq <| rg <| rr 1 ?_; refine lN (At.sub ((hS42.bring 1 rfl).box) 0 4) ?_; refine rr 1 ?_; refine lN (At.sub ((hS42.bring 0 rfl).box) 0 4) ?_; obtain ⟨r43, hx44, hm⟩ := bS hm; refine ca zk7 (laws_eqGrid_ok (hE.trans hS42.ext) (z5N x0.Grid h3) (z5N x1.Grid h21) hx44) (fun v45 w46 hR47 => ?_); obtain ⟨rfl, hR48⟩ := hR47; have hS49 := hS42.join hR48; refine rr 1 ?_; refine rn <| ci hm (fun hm => ?_) (fun hm => ?_)
 ·refine sq <| rg <| rr 1 ?_; refine rn <| rt ?_; cases hm; exact ⟨_, .cons (.tmp rfl) .nil, rfl, (hS49.taken 0)⟩
 ·refine sp <| sq <| sq <| rg <| rr 1 ?_; refine l1 ((hS49.bring 1 rfl).box) 4 ?_; refine rr 1 ?_; refine l1 ((hS49.bring 0 rfl).box) 4 ?_; obtain ⟨r50, hx51, hm⟩ := bS hm; refine ca zgc (laws_eqParcelSS_ok (hE.trans hS49.ext) h6 h24 hx51) (fun v52 w53 hR54 => ?_); obtain ⟨rfl, hR55⟩ := hR54; have hS56 := hS49.join hR55; refine rr 1 ?_; refine rn <| ci hm (fun hm => ?_) (fun hm => ?_)
  ·refine sq <| rg <| rr 1 ?_; refine rn <| rt ?_; cases hm; exact ⟨_, .cons (.tmp rfl) .nil, rfl, (hS56.taken 0)⟩
  ·refine sp <| sq <| sq <| rg <| rr 1 ?_; refine l1 ((hS56.bring 1 rfl).box) 5 ?_; refine rr 1 ?_; refine l1 ((hS56.bring 0 rfl).box) 5 ?_; obtain ⟨r57, hx58, hm⟩ := bS hm; refine ca zgb (laws_eqInt64SS_ok (hE.trans hS56.ext) h11 h27 hx58) (fun v59 w60 hR61 => ?_); obtain ⟨rfl, hR62⟩ := hR61; have hS63 := hS56.join hR62; refine rr 1 ?_; refine rn <| ci hm (fun hm => ?_) (fun hm => ?_)
   ·refine sq <| rg <| rr 1 ?_; refine rn <| rt ?_; cases hm; exact ⟨_, .cons (.tmp rfl) .nil, rfl, (hS63.taken 0)⟩
   ·refine sp <| sq <| sq <| rg <| rr 1 ?_; refine l1 ((hS63.bring 1 rfl).box) 6 ?_; refine rr 1 ?_; refine l1 ((hS63.bring 0 rfl).box) 6 ?_; obtain ⟨r65, hx66, hm⟩ := bS hm; refine ca zc4 (laws_eqInt64S_ok (hE.trans hS63.ext) h14 h30 hx66) (fun v67 w68 hR69 => ?_); obtain ⟨rfl, hR70⟩ := hR69; have hS71 := hS63.join hR70; refine rr 1 ?_; refine rn <| ci hm (fun hm => ?_) (fun hm => ?_)
    ·refine sq <| rg <| rr 1 ?_; refine rn <| rt ?_; cases hm; exact ⟨_, .cons (.tmp rfl) .nil, rfl, (hS71.taken 0)⟩
    ·refine sp <| sq <| sq <| rg <| rr 1 ?_; refine l1 ((hS71.bring 1 rfl).box) 7 ?_; refine rr 1 ?_; refine l1 ((hS71.bring 0 rfl).box) 7 ?_; obtain ⟨r72, hx73, hm⟩ := bS hm; refine ca zc4 (laws_eqInt64S_ok (hE.trans hS71.ext) h17 h33 hx73) (fun v74 w75 hR76 => ?_); obtain ⟨rfl, hR77⟩ := hR76; have hS78 := hS71.join hR77; refine rr 1 ?_; refine rn <| ci hm (fun hm => ?_) (fun hm => ?_)
     ·refine sq <| rg <| rr 1 ?_; refine rn <| rt ?_; cases hm; exact ⟨_, .cons (.tmp rfl) .nil, rfl, (hS78.taken 0)⟩
     ·refine sp <| sq <| rg <| rr 1 ?_; refine rn <| rt ?_; cases hm; exact ⟨_, .cons (.tmp rfl) .nil, rfl, (hS78.taken 0)⟩

end Go.E

