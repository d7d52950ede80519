/- Models of functions and proofs that the code runs as they say (written by program). Conditions: the model gives a value. -/
import Derived.Test.YteommboffflkbaaGreatFGe
import Derived.Test.YteommboffflkbaaGreatIter
namespace Go.E
open Go.RowKit Go.Proofs
set_option linter.unusedVariables false
set_option linter.unusedSimpArgs false
set_option maxHeartbeats 2000000
set_option maxRecDepth 100000

theorem zba : Enters Tryz.prog 198 := ⟨_, _, Tryz.func198, rfl, by kernel_rfl⟩
def z3w (fuel : Nat) (x0 : Bool) : Option (Int) := (if x0 = true then some 1 else some 0)

theorem z7s {W w : World} (hE : Ext W w) {x0 : Bool}  {fuel : Nat} {r : Int} (hm : z3w fuel x0 = some r) :
    Calls Tryz.prog 198 ⟨[.bool x0]⟩ w (Ret fun v w8 => v = .int .i64 r ∧ St w w8 []) := by
  refine into Tryz.func198 4 _ ?_; unfold z3w at hm; have hS := St.start w; refine sq <| rg <| rr 1 ?_; refine rn <| sq <| sq <| rg <| rr 1 ?_; refine rn <| ci hm (fun hm => ?_) (fun hm => ?_)
  · refine sq <| rg <| rr 1 ?_; refine rn <| rt ?_; cases hm; exact ⟨_, .cons (.tmp rfl) .nil, rfl, hS⟩
  · refine sp <| sq <| rg <| rr 1 ?_; refine rn <| rt ?_; cases hm; exact ⟨_, .cons (.tmp rfl) .nil, rfl, hS⟩

theorem zf8 : Enters Tryz.prog 145 := ⟨_, _, Tryz.func145, rfl, by kernel_rfl⟩
def z8k (fuel : Nat) (t2 : Int) : Option Int := some t2
def z39 (fuel : Nat) (x0 : (List D.Parcel)) (s1 : Int × Int) : Option (Rd (Int × Int) (Int) (Int)) := (if (decide (s1.2 < (x0.length : Int))) = true then ((idx x0 s1.2).bind fun x19 => ((z3w fuel (x19.Kind == 4)).bind fun r32 => some (.next (w64 (s1.1 + r32), w64 (s1.2 + 1))))) else some (.brk s1.1))
def z3y (fuel : Nat) (x0 : (List D.Parcel)) : Option (Int) := ((iter (z39 fuel x0) fuel (0, 0)).bind fun o => aft o (z8k fuel))

theorem z8V {W w : World} (hE : Ext W w) {A0_ : Option Addr} {k0_ : Nat} {x0 : (List D.Parcel)} (h0_ : zas.ro W [sl A0_ x0 k0_] x0) {fuel : Nat} {r : Int} (hm : z3y fuel x0 = some r) :
    Calls Tryz.prog 145 ⟨[sl A0_ x0 k0_]⟩ w (Ret fun v w8 => v = .int .i64 r ∧ St w w8 []) := by
  refine into Tryz.func145 21 _ ?_; unfold z3y at hm; have hS := St.start w; refine sq <| rg <| rr 1 ?_; refine rn <| sq <| rg <| rr 1 ?_; refine rn <| sq <| sq <| rg <| rr 1 ?_; refine rn ?_; obtain ⟨o10, hl11, hm⟩ := bS hm; refine ct (fun (t2 : Int) F w9 => o10 = .inl t2 ∧ Ext w w9 ∧ St w w9 [] ∧ F = [(3, .int .i64 t2)]) ?_ ?_
  · rintro t2 F w7 ⟨ho13, hE6, hS12, rfl⟩; subst ho13; rw [z8] at hm; unfold z8k at hm; refine sq <| rg <| rr 2 ?_; refine rn <| rt ?_; cases hm; exact ⟨_, .cons (.tmp rfl) .nil, rfl, hS12⟩
  · refine bk <| wk [0, 3, 4] ?_; refine it (fun (s1 : Int × Int) F w9 => Ext w w9 ∧ St w w9 [] ∧ F = [(0, sl A0_ x0 k0_), (3, .int .i64 s1.1), (4, .int .i64 s1.2)]) hl11 ⟨(Ext.refl _), hS, rfl⟩ ?_; rintro s1 F w18 _ o16 ⟨hE5, hS17, rfl⟩ hb14 ho15; unfold z39 at hb14; refine sq <| sq <| rg <| rr 4 ?_; refine rn <| ci hb14 (fun hb14 => ?_) (fun hb14 => ?_)
    · refine sp <| sq <| bk <| rg <| rr 3 ?_; obtain ⟨x19, hx20, hb14⟩ := bS hb14; refine ix (hE.trans hS17.ext) h0_ hx20 (fun p21 es22 ha23 hr24 => ?_); obtain ⟨A25, k26, A28, k29, e31, h27, h30⟩ := z2o hr24; subst e31; refine rr 1 ?_; refine l1 (At.ext (hE.trans hS17.ext) ha23) 0 ?_; refine rr 1 ?_; obtain ⟨r32, hx33, hb14⟩ := bS hb14; refine ca zba (z7s (hE.trans hS17.ext)  hx33) (fun v34 w35 hR36 => ?_); obtain ⟨rfl, hR37⟩ := hR36; have hS38 := hS17.join hR37; refine rr 2 ?_; refine rn <| rg <| rr 3 ?_; refine rn ?_; cases hb14; exact ⟨_, _, rfl, ⟨(hE5.trans hR37.ext), hS38, rfl⟩, rfl⟩
    · refine xt ?_; cases hb14; exact ⟨_, _, ⟨ho15, hE5, hS17, rfl⟩, rfl⟩

theorem zbc : Enters Tryz.prog 156 := ⟨_, _, Tryz.func156, rfl, by kernel_rfl⟩
def z5y (fuel : Nat) (x0 : Bool) : Option (Int) := (if x0 = true then some 1 else some 0)

theorem z8w {W w : World} (hE : Ext W w) {x0 : Bool}  {fuel : Nat} {r : Int} (hm : z5y fuel x0 = some r) :
    Calls Tryz.prog 156 ⟨[.bool x0]⟩ w (Ret fun v w8 => v = .int .i64 r ∧ St w w8 []) := by
  refine into Tryz.func156 4 _ ?_; unfold z5y at hm; have hS := St.start w; refine sq <| rg <| rr 1 ?_; refine rn <| sq <| sq <| rg <| rr 1 ?_; refine rn <| ci hm (fun hm => ?_) (fun hm => ?_)
  · refine sq <| rg <| rr 1 ?_; refine rn <| rt ?_; cases hm; exact ⟨_, .cons (.tmp rfl) .nil, rfl, hS⟩
  · refine sp <| sq <| rg <| rr 1 ?_; refine rn <| rt ?_; cases hm; exact ⟨_, .cons (.tmp rfl) .nil, rfl, hS⟩

theorem zf7 : Enters Tryz.prog 146 := ⟨_, _, Tryz.func146, rfl, by kernel_rfl⟩
def z9v (fuel : Nat) (t2 : Int) : Option Int := some t2
def z5s (fuel : Nat) (x0 : (List D.Parcel)) (s1 : Int × Int) : Option (Rd (Int × Int) (Int) (Int)) := (if (decide (s1.2 < (x0.length : Int))) = true then ((idx x0 s1.2).bind fun x16 => ((z5y fuel (x16.Kind == 4)).bind fun r36 => some (.next (w64 (s1.1 + r36), w64 (s1.2 + 1))))) else some (.brk s1.1))
def z64 (fuel : Nat) (x0 : (List D.Parcel)) : Option (Int) := ((iter (z5s fuel x0) fuel (0, 0)).bind fun o => aft o (z9v fuel))

theorem za8 {W w : World} (hE : Ext W w) {A0_ : Option Addr} {k0_ : Nat} {x0 : (List D.Parcel)} (h0_ : zas.ro W [sl A0_ x0 k0_] x0) {fuel : Nat} {r : Int} (hm : z64 fuel x0 = some r) :
    Calls Tryz.prog 146 ⟨[sl A0_ x0 k0_]⟩ w (Ret fun v w8 => v = .int .i64 r ∧ St w w8 []) := by
  refine into Tryz.func146 20 _ ?_; unfold z64 at hm; have hS := St.start w; refine sq <| rg <| rr 1 ?_; refine rn <| sq <| rg <| rr 1 ?_; refine rn <| sq <| sq <| rg <| rr 3 ?_; refine rn ?_; obtain ⟨o5, hl6, hm⟩ := bS hm; refine ct (fun (t2 : Int) F w9 => o5 = .inl t2 ∧ St w w9 [] ∧ F = [(3, .int .i64 t2)]) ?_ ?_
  · rintro t2 F w4 ⟨ho10, hS7, rfl⟩; subst ho10; rw [z8] at hm; unfold z9v at hm; refine sq <| rg <| rr 2 ?_; refine rn <| rt ?_; cases hm; exact ⟨_, .cons (.tmp rfl) .nil, rfl, hS7⟩
  · refine bk <| wk [3, 6, 7, 8] ?_; refine it (fun (s1 : Int × Int) F w9 => St w w9 [] ∧ F = [(3, .int .i64 s1.1), (6, sl A0_ x0 k0_), (7, .int .i64 (x0.length : Int)), (8, .int .i64 s1.2)]) hl6 ⟨hS, rfl⟩ ?_; rintro s1 F w15 _ o13 ⟨hS14, rfl⟩ hb11 ho12; unfold z5s at hb11; refine sq <| rg <| rr 1 ?_; refine rn <| sq <| ci hb11 (fun hb11 => ?_) (fun hb11 => ?_)
    · refine sp <| sq <| bk <| sq <| rg ?_; obtain ⟨x16, hx17, hb11⟩ := bS hb11; refine ix (hE.trans hS14.ext) h0_ hx17 (fun p18 es19 ha20 hr21 => ?_); obtain ⟨A22, k23, A25, k26, e28, h24, h27⟩ := z2o hr21; subst e28; refine lN (At.ext (hE.trans hS14.ext) ha20) ?_; refine nw hS14 (fun g29 w30 e31 hS32 => ?_); have hS33 := hS32.bring 0 rfl; refine so (A := []) hS33 0 (fun w34 hS35 => ?_); refine rn <| rg <| rr 2 ?_; refine l1 ((hS35.bring 0 rfl).box) 0 ?_; refine rr 1 ?_; obtain ⟨r36, hx37, hb11⟩ := bS hb11; refine ca zbc (z8w (hE.trans hS35.ext)  hx37) (fun v38 w39 hR40 => ?_); obtain ⟨rfl, hR41⟩ := hR40; have hS42 := hS35.join hR41; refine rr 2 ?_; refine rn <| rg <| rr 2 ?_; refine rn ?_; cases hb11; exact ⟨_, _, rfl, ⟨(hS42.taken 0), rfl⟩, rfl⟩
    · refine xt ?_; cases hb11; exact ⟨_, _, ⟨ho12, hS14, rfl⟩, rfl⟩

end Go.E

namespace Go.E
open Go.RowKit Go.Proofs
set_option linter.unusedVariables false
set_option linter.unusedSimpArgs false
set_option maxHeartbeats 2000000
set_option maxRecDepth 100000

theorem zga : Enters Tryz.prog 87 := ⟨_, _, Tryz.func87, rfl, by kernel_rfl⟩
def z62 (fuel : Nat) (x0 : (List Bool)) (x1 : Int) : Option (Int) := (if (decide ((w64 (x1 - (x0.length : Int))) < 0)) = true then some (-1) else some (w64 (x1 - (x0.length : Int))))

theorem laws_szBoolS_ok {W w : World} (hE : Ext W w) {A0_ : Option Addr} {k0_ : Nat} {x0 : (List Bool)} {x1 : Int} (h0_ : ty56.ro W [sl A0_ x0 k0_] x0) {fuel : Nat} {r : Int} (hm : z62 fuel x0 x1 = some r) :
    Calls Tryz.prog 87 ⟨[sl A0_ x0 k0_, .int .i64 x1]⟩ w (Ret fun v w8 => v = .int .i64 r ∧ St w w8 []) := by
  refine into Tryz.func87 12 _ ?_; unfold z62 at hm; have hS := St.start w; refine sq <| rg <| rr 1 ?_; refine rn <| sq <| rg <| rr 5 ?_; refine rn <| sq <| sq <| rg <| rr 2 ?_; refine rn <| ci hm (fun hm => ?_) (fun hm => ?_)
  · refine sq <| rg <| rr 1 ?_; refine rn <| rt ?_; cases hm; exact ⟨_, .cons (.tmp rfl) .nil, rfl, hS⟩
  · refine sp <| sq <| rg <| rr 2 ?_; refine rn <| rt ?_; cases hm; exact ⟨_, .cons (.tmp rfl) .nil, rfl, hS⟩

theorem zg9 : Enters Tryz.prog 89 := ⟨_, _, Tryz.func89, rfl, by kernel_rfl⟩
def z9t (fuel : Nat) (t11 : (List Bool)) : Option (List Bool) := some t11
def z6N (fuel : Nat) (x0 : (List Bool)) (s10 : Int × (List Bool)) : Option (Rd (Int × (List Bool)) ((List Bool)) ((List Bool))) := (if (decide (s10.1 < (x0.length : Int))) = true then ((idx x0 s10.1).bind fun x25 => (if decide (0 ≤ s10.1 ∧ s10.1.toNat < s10.2.length) = true then some (.next (w64 (s10.1 + 1), (s10.2.set s10.1.toNat x25))) else none)) else some (.brk s10.2))
def z61 (fuel : Nat) (x0 : (List Bool)) : Option ((List Bool)) := (if decide (0 ≤ (x0.length : Int) ∧ (x0.length : Int) ≤ 4294967296) = true then ((iter (z6N fuel x0) fuel (0, (List.replicate (x0.length : Int).toNat false))).bind fun o => aft o (z9t fuel)) else none)

theorem laws_toBoolS_ok {W w : World} (hE : Ext W w) {A0_ : Option Addr} {k0_ : Nat} {x0 : (List Bool)} (h0_ : ty56.ro W [sl A0_ x0 k0_] x0) {fuel : Nat} {r : (List Bool)} (hm : z61 fuel x0 = some r) :
    Calls Tryz.prog 89 ⟨[sl A0_ x0 k0_]⟩ w (Ret fun v w8 => ∃ A0 k0, v = sl A0 r k0 ∧ St w w8 [ow ty56 A0 r k0]) := by
  refine into Tryz.func89 22 _ ?_; unfold z61 at hm; have hS := St.start w; refine sq <| rg <| rr 1 ?_; refine rn <| sq <| rg <| rr 2 ?_; obtain ⟨hk1, hm⟩ := iS hm; have hz7 := of_decide_eq_true hk1; refine mS (U := tBool) false hS hz7 (fun _ => ⟨rfl, rfl⟩) (fun A2 k3 w4 e5 hS6 => ?_); refine rr 1 ?_; refine rn <| sq <| sq <| rg <| rr 1 ?_; refine rn ?_; obtain ⟨o14, hl15, hm⟩ := bS hm; refine ct (fun (t11 : (List Bool)) F w9 => o14 = .inl t11 ∧ St w w9 [Own ty56 [sl A2 (List.replicate (x0.length : Int).toNat false) k3] t11] ∧ F = [(3, sl A2 (List.replicate (x0.length : Int).toNat false) k3)]) ?_ ?_
  · rintro t11 F w13 ⟨ho17, hS16, rfl⟩; subst ho17; rw [z8] at hm; unfold z9t at hm; refine sq <| rg <| rr 2 ?_; refine rn <| rt ?_; cases hm; have hn18 := (hS16.bring 0 rfl).lenEq; have hS19 := (hS16.bring 0 rfl).reLen hn18; exact ⟨_, .cons (.tmp rfl) .nil, A2, k3, (by first | (simp only [sl, hn18]; done) | (simp only [sl, hn18]; rfl)), hS19⟩
  · refine bk <| wk [0, 3, 4] ?_; refine it (fun (s10 : Int × (List Bool)) F w9 => St w w9 [Own ty56 [sl A2 (List.replicate (x0.length : Int).toNat false) k3] s10.2] ∧ F = [(0, sl A0_ x0 k0_), (3, sl A2 (List.replicate (x0.length : Int).toNat false) k3), (4, .int .i64 s10.1)]) hl15 ⟨hS6, rfl⟩ ?_; rintro s10 F w24 _ o22 ⟨hS23, rfl⟩ hb20 ho21; unfold z6N at hb20; refine sq <| sq <| rg <| rr 4 ?_; refine rn <| ci hb20 (fun hb20 => ?_) (fun hb20 => ?_)
    · refine sp <| sq <| bk <| rg <| rr 4 ?_; obtain ⟨x25, hx26, hb20⟩ := bS hb20; refine ix (hE.trans hS23.ext) h0_ hx26 (fun p27 es28 ha29 hr30 => ?_); cases hr30; refine l1 (At.ext (hE.trans hS23.ext) ha29) 0 ?_; have hS31 := hS23.bring 0 rfl; obtain ⟨hk32, hb20⟩ := iS hb20; have hb33 := of_decide_eq_true hk32; refine io hS31 hb33.1 hb33.2 (fun q34 hq35 => ?_); have hS36 := hS31.flat (T := tBool) (cs := [.bool x25]) (x := x25) ⟨rfl, rfl⟩; have hS37 := hS36.bring 1 rfl; refine se hS37 hb33.2 hq35 (fun w38 hS39 => ?_); refine rn <| rg <| rr 3 ?_; refine rn ?_; cases hb20; exact ⟨_, _, rfl, ⟨hS39, rfl⟩, rfl⟩
    · refine xt ?_; cases hb20; exact ⟨_, _, ⟨ho21, hS23, rfl⟩, rfl⟩

theorem zg8 : Enters Tryz.prog 92 := ⟨_, _, Tryz.func92, rfl, by kernel_rfl⟩
def z9u (fuel : Nat) (t2 : Unit) : Option Bool := some true
def z6O (fuel : Nat) (x0 : (List Bool)) (x1 : (List Bool)) (s1 : Int) : Option (Rd (Int) (Unit) (Bool)) := (if (decide (s1 < (x0.length : Int))) = true then ((idx x0 s1).bind fun x21 => ((idx x1 s1).bind fun x27 => (if (!(x21 == x27)) = true then some (.ret false) else some (.next (w64 (s1 + 1)))))) else some (.brk ()))
def z63 (fuel : Nat) (x0 : (List Bool)) (x1 : (List Bool)) : Option (Bool) := (if ((x0.length : Int) != (x1.length : Int)) = true then some false else ((iter (z6O fuel x0 x1) fuel 0).bind fun o => aft o (z9u fuel)))

theorem laws_eqBoolS_ok {W w : World} (hE : Ext W w) {A0_ : Option Addr} {k0_ : Nat} {x0 : (List Bool)} {A1_ : Option Addr} {k1_ : Nat} {x1 : (List Bool)} (h0_ : ty56.ro W [sl A0_ x0 k0_] x0) (h1_ : ty56.ro W [sl A1_ x1 k1_] x1) {fuel : Nat} {r : Bool} (hm : z63 fuel x0 x1 = some r) :
    Calls Tryz.prog 92 ⟨[sl A0_ x0 k0_, sl A1_ x1 k1_]⟩ w (Ret fun v w8 => v = .bool r ∧ St w w8 []) := by
  refine into Tryz.func92 26 _ ?_; unfold z63 at hm; have hS := St.start w; refine sq <| rg <| rr 1 ?_; refine rn <| sq <| sq <| rg <| rr 5 ?_; refine rn <| ci hm (fun hm => ?_) (fun hm => ?_)
  · refine sq <| rg <| rr 1 ?_; refine rn <| rt ?_; cases hm; exact ⟨_, .cons (.tmp rfl) .nil, rfl, hS⟩
  · refine sp <| sq <| sq <| rg <| rr 1 ?_; refine rn ?_; obtain ⟨o10, hl11, hm⟩ := bS hm; refine ct (fun (t2 : Unit) F w9 => o10 = .inl t2 ∧ Ext w w9 ∧ St w w9 [] ∧ F = []) ?_ ?_
    · rintro t2 F w7 ⟨ho13, hE6, hS12, rfl⟩; subst ho13; rw [z8] at hm; unfold z9u at hm; refine sq <| rg <| rr 1 ?_; refine rn <| rt ?_; cases hm; exact ⟨_, .cons (.tmp rfl) .nil, rfl, hS12⟩
    · refine bk <| wk [0, 1, 5] ?_; refine it (fun (s1 : Int) F w9 => Ext w w9 ∧ St w w9 [] ∧ F = [(0, sl A0_ x0 k0_), (1, sl A1_ x1 k1_), (5, .int .i64 s1)]) hl11 ⟨(Ext.refl _), hS, rfl⟩ ?_; rintro s1 F w18 _ o16 ⟨hE5, hS17, rfl⟩ hb14 ho15; unfold z6O at hb14; refine sq <| sq <| rg <| rr 4 ?_; refine rn <| ci hb14 (fun hb14 => ?_) (fun hb14 => ?_)
      · refine sp <| sq <| bk <| sq <| dn 0 mixed 9 [([], 511), ([], 511), ([0, 1], 508), ([2], 507), ([], 511), ([], 511), ([4, 5], 463), ([6], 447), ([3, 7], 375)] hS17.ext (fun s_19 => ?_); have hS20 := hS17.step (Ext.draw _); refine dr 5 s_19 [0, 1, 4, 5] ?_; obtain ⟨x21, hx22, hb14⟩ := bS hb14; refine dx (hE.trans hS17.ext) s_19 2 h0_ hx22 (fun p23 es24 ha25 hr26 => ?_); cases hr26; refine dl s_19 3 (At.ext (hE.trans hS17.ext) ha25) 0 ?_; obtain ⟨x27, hx28, hb14⟩ := bS hb14; refine dx (hE.trans hS17.ext) s_19 6 h1_ hx28 (fun p29 es30 ha31 hr32 => ?_); cases hr32; refine dl s_19 7 (At.ext (hE.trans hS17.ext) ha31) 0 ?_; refine dr 0 s_19 [8] ?_; refine dw [0, 1, 5, 25] ?_; refine dd s_19 ?_; refine ci hb14 (fun hb14 => ?_) (fun hb14 => ?_)
        · refine sq <| rg <| rr 1 ?_; refine rn <| rt ?_; cases hb14; cases ho15; have hm : some _ = some _ := hm; cases hm; exact ⟨_, .cons (.tmp rfl) .nil, rfl, hS20⟩
        · refine sp <| rg <| rr 3 ?_; refine rn ?_; cases hb14; exact ⟨_, _, rfl, ⟨(hE5.trans (Ext.draw _)), hS20, rfl⟩, rfl⟩
      · refine xt ?_; cases hb14; exact ⟨_, _, ⟨ho15, hE5, hS17, rfl⟩, rfl⟩

end Go.E

namespace Go.E
open Go.RowKit Go.Proofs
set_option linter.unusedVariables false

def z9z (W0 : World) : Ty D.Shard := tMap (fun c : D.Shard => (c.Cells, c.Vars, c.Redexes, ())) (tPair (tBor W0 z8e) (tPair (tBor W0 z8A) (tPair (tBor W0 z98) tUnit)))
instance {W0 : World} : Reads W0 (z9z W0) := inferInstanceAs (Reads W0 (tMap (fun c : D.Shard => (c.Cells, c.Vars, c.Redexes, ())) (tPair (tBor W0 z8e) (tPair (tBor W0 z8A) (tPair (tBor W0 z98) tUnit)))))
theorem zgG {W0 : World} : (z9z W0).ro = z97.ro := rfl
theorem zer {W0 w : World} {c : D.Shard} {A0 : Option Addr} {k0 : Nat} {A1 : Option Addr} {k1 : Nat} {A2 : Option Addr} {k2 : Nat} {G : List Nat} (h : (All [Own (tBor W0 z8e) [.slice A0 c.Cells.length k0] c.Cells, Own (tBor W0 z8A) [.slice A1 c.Vars.length k1] c.Vars, Own (tBor W0 z98) [.slice A2 c.Redexes.length k2] c.Redexes]).A w G) : (z9z W0).own w [.slice A0 c.Cells.length k0, .slice A1 c.Vars.length k1, .slice A2 c.Redexes.length k2] c G := by
  obtain ⟨G0, R0, rfl, h0, G1, R1, rfl, h1, G2, R2, rfl, h2, hz⟩ := h
  have hz' : R2 = [] := hz
  subst hz'
  exact cast (congrArg _ (by simp)) (show (z9z W0).own w [.slice A0 c.Cells.length k0, .slice A1 c.Vars.length k1, .slice A2 c.Redexes.length k2] c (_) from ⟨_, _, _, _, rfl, rfl, h0, ⟨_, _, _, _, rfl, rfl, h1, ⟨_, _, _, _, rfl, rfl, h2, ⟨rfl, rfl⟩⟩⟩⟩)
theorem zdK {W0 W w : World} {B : List Res} {c : D.Shard} {A0 : Option Addr} {k0 : Nat} {A1 : Option Addr} {k1 : Nat} {A2 : Option Addr} {k2 : Nat} (h : St W w ([Own (tBor W0 z8e) [.slice A0 c.Cells.length k0] c.Cells, Own (tBor W0 z8A) [.slice A1 c.Vars.length k1] c.Vars, Own (tBor W0 z98) [.slice A2 c.Redexes.length k2] c.Redexes] ++ B)) : St W w (Own (z9z W0) [.slice A0 c.Cells.length k0, .slice A1 c.Vars.length k1, .slice A2 c.Redexes.length k2] c :: B) := (St.fuseAll h).conv fun _ hG => zer hG

def zkt (W0 : World) : Ty (List D.Shard) := tSl 166 (z9z W0)
instance {W0 : World} : Reads W0 (zkt W0) := inferInstanceAs (Reads W0 (tSl 166 (z9z W0)))
theorem zhd {W0 : World} : (zkt W0).ro = ty34.ro := zkv zgG

end Go.E

