/- Models of functions and proofs that the code runs as they say (written by program). Conditions: the model gives a value. -/
import Derived.Test.YteommboffflkbaaGreatFGe
namespace Go.E
open Go.RowKit Go.Proofs
set_option linter.unusedVariables false
set_option linter.unusedSimpArgs false
set_option maxHeartbeats 2000000
set_option maxRecDepth 100000

theorem zkq : Enters Tryz.prog 198 := ⟨_, _, Tryz.func198, rfl, by kernel_rfl⟩
def z7B (fuel : Nat) (x0 : Bool) : Option (Int) := (if x0 = true then some 1 else some 0)

theorem zdY {W w : World} (hE : Ext W w) {x0 : Bool}  {fuel : Nat} {r : Int} (hm : z7B fuel x0 = some r) :
    Calls Tryz.prog 198 ⟨[.bool x0]⟩ w (Ret fun v w8 => v = .int .i64 r ∧ St w w8 []) := by
  refine into Tryz.func198 4 _ ?_; unfold z7B at hm; have hS := St.start w; refine sq <| rg <| rr 1 ?_; refine rn <| sq <| sq <| rg <| rr 1 ?_; refine rn <| ci hm (fun hm => ?_) (fun hm => ?_)
  · refine sq <| rg <| rr 1 ?_; refine rn <| rt ?_; cases hm; exact ⟨_, .cons (.tmp rfl) .nil, rfl, hS⟩
  · refine sp <| sq <| rg <| rr 1 ?_; refine rn <| rt ?_; cases hm; exact ⟨_, .cons (.tmp rfl) .nil, rfl, hS⟩

theorem zgZ : Enters Tryz.prog 145 := ⟨_, _, Tryz.func145, rfl, by kernel_rfl⟩
def z9p (fuel : Nat) (t2 : Int) : Option Int := some t2
def z3v (fuel : Nat) (x0 : (List D.Parcel)) (s1 : Int × Int) : Option (Rd (Int × Int) (Int) (Int)) := (if (decide (s1.2 < (x0.length : Int))) = true then ((idx x0 s1.2).bind fun x19 => ((z7B fuel (x19.Kind == 4)).bind fun r32 => some (.next (w64 (s1.1 + r32), w64 (s1.2 + 1))))) else some (.brk s1.1))
def z42 (fuel : Nat) (x0 : (List D.Parcel)) : Option (Int) := ((iter (z3v fuel x0) fuel (0, 0)).bind fun o => aft o (z9p fuel))

theorem zaa {W w : World} (hE : Ext W w) {A0_ : Option Addr} {k0_ : Nat} {x0 : (List D.Parcel)} (h0_ : z9h.ro W [sl A0_ x0 k0_] x0) {fuel : Nat} {r : Int} (hm : z42 fuel x0 = some r) :
    Calls Tryz.prog 145 ⟨[sl A0_ x0 k0_]⟩ w (Ret fun v w8 => v = .int .i64 r ∧ St w w8 []) := by
  refine into Tryz.func145 21 _ ?_; unfold z42 at hm; have hS := St.start w; refine sq <| rg <| rr 1 ?_; refine rn <| sq <| rg <| rr 1 ?_; refine rn <| sq <| sq <| rg <| rr 1 ?_; refine rn ?_; obtain ⟨o10, hl11, hm⟩ := bS hm; refine ct (fun (t2 : Int) F w9 => o10 = .inl t2 ∧ Ext w w9 ∧ St w w9 [] ∧ F = [(3, .int .i64 t2)]) ?_ ?_
  · rintro t2 F w7 ⟨ho13, hE6, hS12, rfl⟩; subst ho13; rw [z8] at hm; unfold z9p at hm; refine sq <| rg <| rr 2 ?_; refine rn <| rt ?_; cases hm; exact ⟨_, .cons (.tmp rfl) .nil, rfl, hS12⟩
  · refine bk <| wk [0, 3, 4] ?_; refine it (fun (s1 : Int × Int) F w9 => Ext w w9 ∧ St w w9 [] ∧ F = [(0, sl A0_ x0 k0_), (3, .int .i64 s1.1), (4, .int .i64 s1.2)]) hl11 ⟨(Ext.refl _), hS, rfl⟩ ?_; rintro s1 F w18 _ o16 ⟨hE5, hS17, rfl⟩ hb14 ho15; unfold z3v at hb14; refine sq <| sq <| rg <| rr 4 ?_; refine rn <| ci hb14 (fun hb14 => ?_) (fun hb14 => ?_)
    · refine sp <| sq <| bk <| rg <| rr 3 ?_; obtain ⟨x19, hx20, hb14⟩ := bS hb14; refine ix (hE.trans hS17.ext) h0_ hx20 (fun p21 es22 ha23 hr24 => ?_); obtain ⟨A25, k26, A28, k29, e31, h27, h30⟩ := z2O hr24; subst e31; refine rr 1 ?_; refine l1 (At.ext (hE.trans hS17.ext) ha23) 0 ?_; refine rr 1 ?_; obtain ⟨r32, hx33, hb14⟩ := bS hb14; refine ca zkq (zdY (hE.trans hS17.ext)  hx33) (fun v34 w35 hR36 => ?_); obtain ⟨rfl, hR37⟩ := hR36; have hS38 := hS17.join hR37; refine rr 2 ?_; refine rn <| rg <| rr 3 ?_; refine rn ?_; cases hb14; exact ⟨_, _, rfl, ⟨(hE5.trans hR37.ext), hS38, rfl⟩, rfl⟩
    · refine xt ?_; cases hb14; exact ⟨_, _, ⟨ho15, hE5, hS17, rfl⟩, rfl⟩

theorem zi5 : Enters Tryz.prog 81 := ⟨_, _, Tryz.func81, rfl, by kernel_rfl⟩
def z9o (fuel : Nat) (t20 : Int) : Option Int := some t20
def z3u (fuel : Nat) (x0 : D.Cluster) (s19 : Int × Int) : Option (Rd (Int × Int) (Int) (Int)) := (if (decide (s19.2 < (x0.Channels.length : Int))) = true then ((idx x0.Channels s19.2).bind fun x37 => ((idx x0.Channels s19.2).bind fun x46 => ((z42 fuel x46).bind fun r55 => some (.next (w64 (s19.1 + (w64 ((x37.length : Int) - r55))), w64 (s19.2 + 1)))))) else some (.brk s19.1))
def z41 (fuel : Nat) (x0 : D.Cluster) : Option (Int) := ((iter (z3u fuel x0) fuel (0, 0)).bind fun o => aft o (z9o fuel))

theorem za9 {W w : World} (hE : Ext W w) {p0_ : Addr} {c0_ : List Value} {x0 : D.Cluster} (h0_ : ty40.ro W c0_ x0) (g0_ : At W p0_ c0_) {fuel : Nat} {r : Int} (hm : z41 fuel x0 = some r) :
    Calls Tryz.prog 81 ⟨[.pointer (some p0_)]⟩ w (Ret fun v w8 => v = .int .i64 r ∧ St w w8 []) := by
  obtain ⟨A1, k2, A4, k5, A7, k10, A12, k13, A15, k16, e18, h3, h6, h11, h14, h17⟩ := z1j h0_; subst e18; refine into Tryz.func81 34 _ ?_; unfold z41 at hm; have hS := St.start w; refine sq <| rg <| rr 1 ?_; refine rn <| sq <| rg <| rr 1 ?_; refine rn <| sq <| sq <| rg <| rr 1 ?_; refine rn ?_; obtain ⟨o26, hl27, hm⟩ := bS hm; refine ct (fun (t20 : Int) F w9 => o26 = .inl t20 ∧ Ext w w9 ∧ St w w9 [] ∧ F = [(3, .int .i64 t20)]) ?_ ?_
  · rintro t20 F w25 ⟨ho29, hE24, hS28, rfl⟩; subst ho29; rw [z8] at hm; unfold z9o at hm; refine sq <| rg <| rr 2 ?_; refine rn <| rt ?_; cases hm; exact ⟨_, .cons (.tmp rfl) .nil, rfl, hS28⟩
  · refine bk <| wk [0, 3, 4] ?_; refine it (fun (s19 : Int × Int) F w9 => Ext w w9 ∧ St w w9 [] ∧ F = [(0, .pointer (some p0_)), (3, .int .i64 s19.1), (4, .int .i64 s19.2)]) hl27 ⟨(Ext.refl _), hS, rfl⟩ ?_; rintro s19 F w34 _ o32 ⟨hE23, hS33, rfl⟩ hb30 ho31; unfold z3u at hb30; refine sq <| sq <| rg <| rr 4 ?_; refine l1 (At.ext (hE.trans hS33.ext) g0_) 4 ?_; refine rr 2 ?_; refine rn <| ci hb30 (fun hb30 => ?_) (fun hb30 => ?_)
    · refine sp <| sq <| bk <| dn 0 mixed 20 [([], 1048575), ([], 1048575), ([1], 1048573), ([2], 1048571), ([3], 1048567), ([], 1048575), ([4, 5], 1048527), ([6], 1048511), ([7], 1048447), ([], 1048575), ([9], 1048063), ([10], 1047551), ([11], 1046527), ([], 1048575), ([12, 13], 1036287), ([14], 1032191), ([15], 1015807), ([8, 16], 982783), ([0, 17], 917502), ([18, 16, 0, 1, 2, 3, 4, 5, 6, 7, 8, 9, 10, 11, 12, 13, 14, 15, 16, 17, 18], 786430)] hS33.ext (fun s_35 => ?_); have hS36 := hS33.step (Ext.draw _); refine dr 11 s_35 [0, 1, 2, 3, 5, 9, 10, 11, 13] ?_; refine dw [0, 3, 4, 14, 17, 19, 25, 27] ?_; refine dl s_35 4 (At.ext (hE.trans hS33.ext) g0_) 4 ?_; obtain ⟨x37, hx38, hb30⟩ := bS hb30; refine dx (hE.trans hS33.ext) s_35 6 h6 hx38 (fun p39 es40 ha41 hr42 => ?_); obtain ⟨A43, k44, e45⟩ := z1t hr42; subst e45; refine dl s_35 7 (At.ext (hE.trans hS33.ext) ha41) 0 ?_; refine dr 7 s_35 [8] ?_; refine dl s_35 12 (At.ext (hE.trans hS33.ext) g0_) 4 ?_; obtain ⟨x46, hx47, hb30⟩ := bS hb30; refine dx (hE.trans hS33.ext) s_35 14 h6 hx47 (fun p48 es49 ha50 hr51 => ?_); obtain ⟨A52, k53, e54⟩ := z1t hr51; subst e54; refine dl s_35 15 (At.ext (hE.trans hS33.ext) ha50) 0 ?_; obtain ⟨r55, hx56, hb30⟩ := bS hb30; refine o1 s_35 16 (mc s_35 zgZ (zaa (hE.trans hS36.ext) hr51 hx56) (fun v57 w58 hR59 => ?_)); obtain ⟨rfl, hR60⟩ := hR59; refine ⟨hR60.ext, ?_⟩; have hS61 := hS36.join hR60; refine dr 0 s_35 [17, 18, 19] ?_; refine dw [0, 3, 4] ?_; refine dd s_35 ?_; refine rg <| rr 3 ?_; refine rn ?_; cases hb30; exact ⟨_, _, rfl, ⟨((hE23.trans (Ext.draw _)).trans hR60.ext), hS61, rfl⟩, rfl⟩
    · refine xt ?_; cases hb30; exact ⟨_, _, ⟨ho31, hE23, hS33, rfl⟩, rfl⟩

theorem znD : Enters Tryz.prog 22 := ⟨_, _, Tryz.func22, rfl, by kernel_rfl⟩
def z6u (fuel : Nat) (x0 : D.Cluster) : Option (Int × Int) := ((z4R fuel x0).bind fun r23 => (if (!r23) = true then some (0, 1) else ((z41 fuel x0).bind fun r30 => some (r30, 0))))

theorem zcU {W w : World} (hE : Ext W w) {c0_ : List Value} {x0 : D.Cluster} (h0_ : ty40.ro W c0_ x0) {fuel : Nat} {r : Int × Int} (hm : z6u fuel x0 = some r) :
    Calls Tryz.prog 22 ⟨[.agg ⟨c0_⟩]⟩ w (Ret fun v w8 => v = .tuple ⟨[.int .i64 r.1, .int .i64 r.2]⟩ ∧ St w w8 []) := by
  obtain ⟨A1, k2, A4, k5, A7, k10, A12, k13, A15, k16, e18, h3, h6, h11, h14, h17⟩ := z1j h0_; subst e18; refine into Tryz.func22 7 _ ?_; unfold z6u at hm; have hS := St.start w; refine sq <| rg <| nw hS (fun g19 w20 e21 hS22 => ?_); refine rr 2 ?_; refine rn <| sq <| sq <| rg ?_; obtain ⟨r23, hx24, hm⟩ := bS hm; refine ca zcB (z8d (Ext.refl _) (ty40.ext (hE.trans hS22.ext) h0_) ((hS22.bring 0 rfl).box) hx24) (fun v25 w26 hR27 => ?_); obtain ⟨rfl, hR28⟩ := hR27; have hS29 := hS22.join hR28; refine rr 1 ?_; refine rn <| ci hm (fun hm => ?_) (fun hm => ?_)
  · refine sq <| rg <| rr 2 ?_; refine rn <| rt ?_; cases hm; exact ⟨_, .cons (.tmp rfl) (.cons (.tmp rfl) .nil), rfl, (hS29.taken 0)⟩
  · refine sp <| sq <| rg ?_; obtain ⟨r30, hx31, hm⟩ := bS hm; refine ca zi5 (za9 (Ext.refl _) (ty40.ext (hE.trans hS29.ext) h0_) ((hS29.bring 0 rfl).box) hx31) (fun v32 w33 hR34 => ?_); obtain ⟨rfl, hR35⟩ := hR34; have hS36 := hS29.join hR35; refine rr 2 ?_; refine rn <| rt ?_; cases hm; exact ⟨_, .cons (.tmp rfl) (.cons (.tmp rfl) .nil), rfl, (hS36.taken 0)⟩

theorem zkM : Enters Tryz.prog 156 := ⟨_, _, Tryz.func156, rfl, by kernel_rfl⟩
def z9b (fuel : Nat) (x0 : Bool) : Option (Int) := (if x0 = true then some 1 else some 0)

theorem zfJ {W w : World} (hE : Ext W w) {x0 : Bool}  {fuel : Nat} {r : Int} (hm : z9b fuel x0 = some r) :
    Calls Tryz.prog 156 ⟨[.bool x0]⟩ w (Ret fun v w8 => v = .int .i64 r ∧ St w w8 []) := by
  refine into Tryz.func156 4 _ ?_; unfold z9b at hm; have hS := St.start w; refine sq <| rg <| rr 1 ?_; refine rn <| sq <| sq <| rg <| rr 1 ?_; refine rn <| ci hm (fun hm => ?_) (fun hm => ?_)
  · refine sq <| rg <| rr 1 ?_; refine rn <| rt ?_; cases hm; exact ⟨_, .cons (.tmp rfl) .nil, rfl, hS⟩
  · refine sp <| sq <| rg <| rr 1 ?_; refine rn <| rt ?_; cases hm; exact ⟨_, .cons (.tmp rfl) .nil, rfl, hS⟩

theorem zgY : Enters Tryz.prog 146 := ⟨_, _, Tryz.func146, rfl, by kernel_rfl⟩
def zaE (fuel : Nat) (t2 : Int) : Option Int := some t2
def z64 (fuel : Nat) (x0 : (List D.Parcel)) (s1 : Int × Int) : Option (Rd (Int × Int) (Int) (Int)) := (if (decide (s1.2 < (x0.length : Int))) = true then ((idx x0 s1.2).bind fun x16 => ((z9b fuel (x16.Kind == 4)).bind fun r36 => some (.next (w64 (s1.1 + r36), w64 (s1.2 + 1))))) else some (.brk s1.1))
def z6H (fuel : Nat) (x0 : (List D.Parcel)) : Option (Int) := ((iter (z64 fuel x0) fuel (0, 0)).bind fun o => aft o (zaE fuel))

theorem zbw {W w : World} (hE : Ext W w) {A0_ : Option Addr} {k0_ : Nat} {x0 : (List D.Parcel)} (h0_ : z9h.ro W [sl A0_ x0 k0_] x0) {fuel : Nat} {r : Int} (hm : z6H fuel x0 = some r) :
    Calls Tryz.prog 146 ⟨[sl A0_ x0 k0_]⟩ w (Ret fun v w8 => v = .int .i64 r ∧ St w w8 []) := by
  refine into Tryz.func146 20 _ ?_; unfold z6H at hm; have hS := St.start w; refine sq <| rg <| rr 1 ?_; refine rn <| sq <| rg <| rr 1 ?_; refine rn <| sq <| sq <| rg <| rr 3 ?_; refine rn ?_; obtain ⟨o5, hl6, hm⟩ := bS hm; refine ct (fun (t2 : Int) F w9 => o5 = .inl t2 ∧ St w w9 [] ∧ F = [(3, .int .i64 t2)]) ?_ ?_
  · rintro t2 F w4 ⟨ho10, hS7, rfl⟩; subst ho10; rw [z8] at hm; unfold zaE at hm; refine sq <| rg <| rr 2 ?_; refine rn <| rt ?_; cases hm; exact ⟨_, .cons (.tmp rfl) .nil, rfl, hS7⟩
  · refine bk <| wk [3, 6, 7, 8] ?_; refine it (fun (s1 : Int × Int) F w9 => St w w9 [] ∧ F = [(3, .int .i64 s1.1), (6, sl A0_ x0 k0_), (7, .int .i64 (x0.length : Int)), (8, .int .i64 s1.2)]) hl6 ⟨hS, rfl⟩ ?_; rintro s1 F w15 _ o13 ⟨hS14, rfl⟩ hb11 ho12; unfold z64 at hb11; refine sq <| rg <| rr 1 ?_; refine rn <| sq <| ci hb11 (fun hb11 => ?_) (fun hb11 => ?_)
    · refine sp <| sq <| bk <| sq <| rg ?_; obtain ⟨x16, hx17, hb11⟩ := bS hb11; refine ix (hE.trans hS14.ext) h0_ hx17 (fun p18 es19 ha20 hr21 => ?_); obtain ⟨A22, k23, A25, k26, e28, h24, h27⟩ := z2O hr21; subst e28; refine lN (At.ext (hE.trans hS14.ext) ha20) ?_; refine nw hS14 (fun g29 w30 e31 hS32 => ?_); have hS33 := hS32.bring 0 rfl; refine so (A := []) hS33 0 (fun w34 hS35 => ?_); refine rn <| rg <| rr 2 ?_; refine l1 ((hS35.bring 0 rfl).box) 0 ?_; refine rr 1 ?_; obtain ⟨r36, hx37, hb11⟩ := bS hb11; refine ca zkM (zfJ (hE.trans hS35.ext)  hx37) (fun v38 w39 hR40 => ?_); obtain ⟨rfl, hR41⟩ := hR40; have hS42 := hS35.join hR41; refine rr 2 ?_; refine rn <| rg <| rr 2 ?_; refine rn ?_; cases hb11; exact ⟨_, _, rfl, ⟨(hS42.taken 0), rfl⟩, rfl⟩
    · refine xt ?_; cases hb11; exact ⟨_, _, ⟨ho12, hS14, rfl⟩, rfl⟩

theorem zi4 : Enters Tryz.prog 82 := ⟨_, _, Tryz.func82, rfl, by kernel_rfl⟩
def z7g (fuel : Nat) (t20 : Int) : Option Int := some t20
def z1x (fuel : Nat) (x0 : D.Cluster) (s19 : Int × Int) : Option (Rd (Int × Int) (Int) (Int)) := (if (decide (s19.2 < (x0.Channels.length : Int))) = true then ((idx x0.Channels s19.2).bind fun x35 => ((z6H fuel x35).bind fun r44 => some (.next (w64 (s19.1 + (w64 ((x35.length : Int) - r44))), w64 (s19.2 + 1))))) else some (.brk s19.1))
def z1u (fuel : Nat) (x0 : D.Cluster) : Option (Int) := ((iter (z1x fuel x0) fuel (0, 0)).bind fun o => aft o (z7g fuel))

theorem z7T {W w : World} (hE : Ext W w) {p0_ : Addr} {c0_ : List Value} {x0 : D.Cluster} (h0_ : ty40.ro W c0_ x0) (g0_ : At W p0_ c0_) {fuel : Nat} {r : Int} (hm : z1u fuel x0 = some r) :
    Calls Tryz.prog 82 ⟨[.pointer (some p0_)]⟩ w (Ret fun v w8 => v = .int .i64 r ∧ St w w8 []) := by
  obtain ⟨A1, k2, A4, k5, A7, k10, A12, k13, A15, k16, e18, h3, h6, h11, h14, h17⟩ := z1j h0_; subst e18; refine into Tryz.func82 24 _ ?_; unfold z1u at hm; have hS := St.start w; refine sq <| rg <| rr 1 ?_; refine rn <| sq <| rg <| rr 1 ?_; refine rn <| sq <| sq <| rg <| rr 3 ?_; refine l1 (At.ext (hE.trans hS.ext) g0_) 4 ?_; refine rr 2 ?_; refine rn ?_; obtain ⟨o26, hl27, hm⟩ := bS hm; refine ct (fun (t20 : Int) F w9 => o26 = .inl t20 ∧ Ext w w9 ∧ St w w9 [] ∧ F = [(3, .int .i64 t20)]) ?_ ?_
  · rintro t20 F w25 ⟨ho29, hE24, hS28, rfl⟩; subst ho29; rw [z8] at hm; unfold z7g at hm; refine sq <| rg <| rr 2 ?_; refine rn <| rt ?_; cases hm; exact ⟨_, .cons (.tmp rfl) .nil, rfl, hS28⟩
  · refine bk <| wk [3, 9, 10, 11] ?_; refine it (fun (s19 : Int × Int) F w9 => Ext w w9 ∧ St w w9 [] ∧ F = [(3, .int .i64 s19.1), (9, sl A4 x0.Channels k5), (10, .int .i64 (x0.Channels.length : Int)), (11, .int .i64 s19.2)]) hl27 ⟨(Ext.refl _), hS, rfl⟩ ?_; rintro s19 F w34 _ o32 ⟨hE23, hS33, rfl⟩ hb30 ho31; unfold z1x at hb30; refine sq <| rg <| rr 1 ?_; refine rn <| sq <| ci hb30 (fun hb30 => ?_) (fun hb30 => ?_)
    · refine sp <| sq <| bk <| sq <| rg ?_; obtain ⟨x35, hx36, hb30⟩ := bS hb30; refine ix (hE.trans hS33.ext) h6 hx36 (fun p37 es38 ha39 hr40 => ?_); obtain ⟨A41, k42, e43⟩ := z1t hr40; subst e43; refine l1 (At.ext (hE.trans hS33.ext) ha39) 0 ?_; refine rr 1 ?_; refine rn <| rg <| rr 4 ?_; obtain ⟨r44, hx45, hb30⟩ := bS hb30; refine ca zgY (zbw (hE.trans hS33.ext) hr40 hx45) (fun v46 w47 hR48 => ?_); obtain ⟨rfl, hR49⟩ := hR48; have hS50 := hS33.join hR49; refine rr 3 ?_; refine rn <| rg <| rr 2 ?_; refine rn ?_; cases hb30; exact ⟨_, _, rfl, ⟨(hE23.trans hR49.ext), hS50, rfl⟩, rfl⟩
    · refine xt ?_; cases hb30; exact ⟨_, _, ⟨ho31, hE23, hS33, rfl⟩, rfl⟩

theorem znC : Enters Tryz.prog 23 := ⟨_, _, Tryz.func23, rfl, by kernel_rfl⟩
def z6D (fuel : Nat) (x0 : D.Cluster) : Option (Int × Int) := ((z1i fuel x0).bind fun r23 => (if (!r23) = true then some (0, 1) else ((z1u fuel x0).bind fun r30 => some (r30, 0))))

theorem zd1 {W w : World} (hE : Ext W w) {c0_ : List Value} {x0 : D.Cluster} (h0_ : ty40.ro W c0_ x0) {fuel : Nat} {r : Int × Int} (hm : z6D fuel x0 = some r) :
    Calls Tryz.prog 23 ⟨[.agg ⟨c0_⟩]⟩ w (Ret fun v w8 => v = .tuple ⟨[.int .i64 r.1, .int .i64 r.2]⟩ ∧ St w w8 []) := by
  obtain ⟨A1, k2, A4, k5, A7, k10, A12, k13, A15, k16, e18, h3, h6, h11, h14, h17⟩ := z1j h0_; subst e18; refine into Tryz.func23 8 _ ?_; unfold z6D at hm; have hS := St.start w; refine sq <| rg <| nw hS (fun g19 w20 e21 hS22 => ?_); refine rr 2 ?_; refine rn <| sq <| sq <| rg <| lN ((hS22.bring 0 rfl).box) ?_; obtain ⟨r23, hx24, hm⟩ := bS hm; refine ca zcD (z3S (hE.trans hS22.ext) h0_ hx24) (fun v25 w26 hR27 => ?_); obtain ⟨rfl, hR28⟩ := hR27; have hS29 := hS22.join hR28; refine rr 1 ?_; refine rn <| ci hm (fun hm => ?_) (fun hm => ?_)
  · refine sq <| rg <| rr 2 ?_; refine rn <| rt ?_; cases hm; exact ⟨_, .cons (.tmp rfl) (.cons (.tmp rfl) .nil), rfl, (hS29.taken 0)⟩
  · refine sp <| sq <| rg ?_; obtain ⟨r30, hx31, hm⟩ := bS hm; refine ca zi4 (z7T (Ext.refl _) (ty40.ext (hE.trans hS29.ext) h0_) ((hS29.bring 0 rfl).box) hx31) (fun v32 w33 hR34 => ?_); obtain ⟨rfl, hR35⟩ := hR34; have hS36 := hS29.join hR35; refine rr 2 ?_; refine rn <| rt ?_; cases hm; exact ⟨_, .cons (.tmp rfl) (.cons (.tmp rfl) .nil), rfl, (hS36.taken 0)⟩

def z1C (fuel : Nat) (x0 : D.Cluster) (r54 : D.Cluster) (t86 : Bool) : Option Bool := (if t86 = true then some false else ((zj fuel x0).bind fun r93 => ((z25 fuel r54 r93).bind fun r110 => (if (!r110) = true then some false else some true))))
def z3X (fuel : Nat) (x0 : D.Cluster) : Option (Bool) := ((z24 fuel x0 1048576).bind fun r23 => (if (decide (r23 < 0)) = true then some true else ((zj fuel x0).bind fun r30 => ((z6u fuel r30).bind fun r47 => ((zj fuel x0).bind fun r54 => ((z6D fuel r54).bind fun r79 => (if (r79.1 != r47.1) = true then z1C fuel x0 r54 true else z1C fuel x0 r54 (r79.2 != r47.2))))))))

theorem laws_FnExactInTransit_ok {W w : World} (hE : Ext W w) {c0_ : List Value} {x0 : D.Cluster} (h0_ : ty31.ro W c0_ x0) {fuel : Nat} {r : Bool} (hm : z3X fuel x0 = some r) :
    Calls Tryz.prog 5 ⟨[.agg ⟨c0_⟩]⟩ w (Ret fun v w8 => v = .bool r ∧ St w w8 []) := by
  obtain ⟨A1, k2, A4, k5, A7, k10, A12, k13, A15, k16, e18, h3, h6, h11, h14, h17⟩ := z9J h0_; subst e18; refine into Tryz.func5 40 _ ?_; unfold z3X at hm; have hS := St.start w; refine sq <| rg <| nw hS (fun g19 w20 e21 hS22 => ?_); refine rr 1 ?_; refine rn <| sq <| rg <| rr 1 ?_; refine rn <| sq <| rg <| lN ((hS22.bring 0 rfl).box) ?_; refine rr 1 ?_; obtain ⟨r23, hx24, hm⟩ := bS hm; refine ca zcE (laws_szCluster_ok (hE.trans hS22.ext) h0_ hx24) (fun v25 w26 hR27 => ?_); obtain ⟨rfl, hR28⟩ := hR27; have hS29 := hS22.join hR28; refine rr 1 ?_; refine rn <| sq <| sq <| rg <| rr 2 ?_; refine rn <| ci hm (fun hm => ?_) (fun hm => ?_)
  · refine sq <| rg <| rr 1 ?_; refine rn <| rt ?_; cases hm; exact ⟨_, .cons (.tmp rfl) .nil, rfl, (hS29.taken 0)⟩
  · refine sp <| sq <| rg <| lN ((hS29.bring 0 rfl).box) ?_; obtain ⟨r30, hx31, hm⟩ := bS hm; refine ca z6o (laws_toCluster_ok (hE.trans hS29.ext) h0_ hx31) (fun v32 w33 hR34 => ?_); obtain ⟨A35, k36, A37, k38, A39, k40, A41, k42, A43, k44, rfl, hR45⟩ := hR34; have hS46 := hS29.join hR45; obtain ⟨r47, hx48, hm⟩ := bS hm; refine ca znD (zcU (Ext.refl _) (z1b r30 ((hS46.bring 0 rfl).own) ((hS46.bring 1 rfl).own) ((hS46.bring 2 rfl).own) ((hS46.bring 3 rfl).own) ((hS46.bring 4 rfl).own)) hx48) (fun v49 w50 hR51 => ?_); obtain ⟨rfl, hR52⟩ := hR51; have hS53 := hS46.join hR52; refine rr 5 ?_; refine rn <| sq <| rg <| lN ((hS53.bring 5 rfl).box) ?_; obtain ⟨r54, hx55, hm⟩ := bS hm; refine ca z6o (laws_toCluster_ok (hE.trans hS53.ext) h0_ hx55) (fun v56 w57 hR58 => ?_); obtain ⟨A59, k60, A61, k62, A63, k65, A66, k67, A68, k69, rfl, hR70⟩ := hR58; have hS71 := hS53.join hR70; refine nw hS71 (fun g72 w73 e74 hS75 => ?_); have hS76 := hS75.bring 0 rfl; refine so (A := []) hS76 0 (fun w77 hS78 => ?_); refine rn <| sq <| rg <| lN ((hS78.bring 0 rfl).box) ?_; obtain ⟨r79, hx80, hm⟩ := bS hm; refine ca znC (zd1 (Ext.refl _) (z1b r54 ((hS78.bring 1 rfl).own) ((hS78.bring 2 rfl).own) ((hS78.bring 3 rfl).own) ((hS78.bring 4 rfl).own) ((hS78.bring 5 rfl).own)) hx80) (fun v81 w82 hR83 => ?_); obtain ⟨rfl, hR84⟩ := hR83; have hS85 := hS78.join hR84; refine rr 5 ?_; refine rn <| sq <| sq <| ct (fun (t86 : Bool) F w9 => z1C fuel x0 r54 t86 = some r ∧ Ext w82 w9 ∧ St w w9 [Box g72 [sl A59 r54.Grid.Shards k60, .int .i64 r54.Grid.Root.Machine, .int .i64 r54.Grid.Root.Kind, .int .i64 r54.Grid.Root.Index, sl A61 r54.Channels k62, sl A63 r54.Counts k65, sl A66 r54.Sent k67, sl A68 r54.Got k69] 40, ow ty34 A59 r54.Grid.Shards k60, ow ty38 A61 r54.Channels k62, ow ty28 A63 r54.Counts k65, ow ty29 A66 r54.Sent k67, ow ty29 A68 r54.Got k69, ow ty34 A35 r30.Grid.Shards k36, ow ty38 A37 r30.Channels k38, ow ty28 A39 r30.Counts k40, ow ty29 A41 r30.Sent k42, ow ty29 A43 r30.Got k44, Box g19 [sl A1 x0.Grid.Shards k2, .int .i64 x0.Grid.Root.Machine, .int .i64 x0.Grid.Root.Kind, .int .i64 x0.Grid.Root.Index, sl A4 x0.Channels k5, sl A7 x0.Counts k10, sl A12 x0.Sent k13, sl A15 x0.Got k16] 31] ∧ F = [(1, .pointer (some ⟨g19, 0, none⟩)), (6, .pointer (some ⟨g72, 0, none⟩)), (34, .bool t86)]) ?_ ?_
    · rintro t86 F w89 ⟨hm, hE87, hS88, rfl⟩; unfold z1C at hm; refine ci hm (fun hm => ?_) (fun hm => ?_)
      · refine sq <| rg <| rr 1 ?_; refine rn <| rt ?_; cases hm; exact ⟨_, .cons (.tmp rfl) .nil, rfl, (hS88.taken 0)⟩
      · refine sp <| sq <| sq <| dn 0 mixed 5 [([], 31), ([], 31), ([1], 29), ([0, 2, 2], 26), ([3], 23)] hS88.ext (fun s_91 => ?_); have hS92 := hS88.step (Ext.draw _); refine dL s_91 0 ((hS88.bring 0 rfl).box) ?_; refine dL s_91 1 ((hS88.bring 11 rfl).box) ?_; obtain ⟨r93, hx94, hm⟩ := bS hm; refine o1 s_91 2 (mc s_91 z6o (laws_toCluster_ok (hE.trans hS92.ext) h0_ hx94) (fun v95 w96 hR97 => ?_)); obtain ⟨A98, k99, A100, k101, A102, k103, A104, k105, A106, k107, rfl, hR108⟩ := hR97; refine ⟨hR108.ext, ?_⟩; have hS109 := hS92.join hR108; obtain ⟨r110, hx111, hm⟩ := bS hm; refine o1 s_91 3 (mc s_91 zcC (laws_eqCluster_ok (Ext.refl _) (z1b r54 ((hS109.bring 6 rfl).own) ((hS109.bring 7 rfl).own) ((hS109.bring 8 rfl).own) ((hS109.bring 9 rfl).own) ((hS109.bring 10 rfl).own)) (z1b r93 ((hS109.bring 0 rfl).own) ((hS109.bring 1 rfl).own) ((hS109.bring 2 rfl).own) ((hS109.bring 3 rfl).own) ((hS109.bring 4 rfl).own)) hx111) (fun v112 w113 hR114 => ?_)); obtain ⟨rfl, hR115⟩ := hR114; refine ⟨hR115.ext, ?_⟩; have hS116 := hS109.join hR115; refine dr 0 s_91 [4] ?_; refine dw [39] ?_; refine dd s_91 ?_; refine ci hm (fun hm => ?_) (fun hm => ?_)
        · refine sq <| rg <| rr 1 ?_; refine rn <| rt ?_; cases hm; exact ⟨_, .cons (.tmp rfl) .nil, rfl, (hS116.taken 0)⟩
        · refine sp <| sq <| rg <| rr 1 ?_; refine rn <| rt ?_; cases hm; exact ⟨_, .cons (.tmp rfl) .nil, rfl, (hS116.taken 0)⟩
    · refine rg <| rr 4 ?_; refine rb 30 hm (fun hm => ?_) (fun hm => ?_)
      · refine rr 4 ?_; refine rn ?_; exact ⟨true, _, ⟨hm, (Ext.refl _), hS85, rfl⟩, rfl⟩
      · refine rr 4 ?_; refine rn ?_; exact ⟨(r79.2 != r47.2), _, ⟨hm, (Ext.refl _), hS85, rfl⟩, rfl⟩

end Go.E

