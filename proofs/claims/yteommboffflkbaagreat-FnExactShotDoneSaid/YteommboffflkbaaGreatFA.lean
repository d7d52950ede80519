/- Models of functions and proofs that the code runs as they say (written by program). Conditions: the model gives a value. -/
import Derived.Test.YteommboffflkbaaGreatShort
namespace Go.E
open Go.RowKit Go.Proofs
set_option linter.unusedVariables false
set_option linter.unusedSimpArgs false
set_option maxHeartbeats 2000000
set_option maxRecDepth 100000

theorem zhW : Enters Tryz.prog 266 := ⟨_, _, Tryz.func266, rfl, by kernel_rfl⟩
def z38 (fuel : Nat) (x0 : D.Agent) : Option (Int) := (if (x0.Kind == 9) = true then some (w64 ((x0.Ports.length : Int) - 1)) else some 0)

theorem zbn {W w : World} (hE : Ext W w) {p0_ : Addr} {c0_ : List Value} {x0 : D.Agent} (h0_ : zaq.ro W c0_ x0) (g0_ : At W p0_ c0_) {fuel : Nat} {r : Int} (hm : z38 fuel x0 = some r) :
  Calls Tryz.prog 266 ⟨[.pointer (some p0_)]⟩ w (Ret fun v w8 => v = .int .i64 r ∧ St w w8 []) := by
 obtain ⟨A1, k2, A4, k5, e7, h3, h6⟩ := zad h0_; subst e7; refine into Tryz.func266 14 _ ?_; unfold z38 at hm; have hS := St.start w; refine sq <| rg <| rr 1 ?_; refine rn <| sq <| sq <| rg <| rr 3 ?_; refine l1 (At.ext (hE.trans hS.ext) g0_) 0 ?_; refine rr 1 ?_; refine rn <| ci hm (fun hm => ?_) (fun hm => ?_)
 ·refine sq <| rg <| rr 3 ?_; refine l1 (At.ext (hE.trans hS.ext) g0_) 4 ?_; refine rr 3 ?_; refine rn <| rt ?_; cases hm; exact ⟨_, .cons (.tmp rfl) .nil, rfl, hS⟩
 ·refine sp <| sq <| rg <| rr 1 ?_; refine rn <| rt ?_; cases hm; exact ⟨_, .cons (.tmp rfl) .nil, rfl, hS⟩

theorem z3r : Enters Tryz.prog 149 := ⟨_, _, Tryz.func149, rfl, by kernel_rfl⟩
def zX (fuel : Nat) (x0 : Int) (x1 : Int) (x2 : Int) : Option (Bool) := (if (decide (x0 ≥ x1)) = true then some (decide (x0 ≤ x2)) else some false)

theorem z1a {W w : World} (hE : Ext W w) {x0 : Int} {x1 : Int} {x2 : Int}  {fuel : Nat} {r : Bool} (hm : zX fuel x0 x1 x2 = some r) :
  Calls Tryz.prog 149 ⟨[.int .i64 x0, .int .i64 x1, .int .i64 x2]⟩ w (Ret fun v w8 => v = .bool r ∧ St w w8 []) := by
 refine into Tryz.func149 15 _ ?_; unfold zX at hm; have hS := St.start w; refine sq <| rg <| rr 1 ?_; refine rn <| sq <| rg <| rr 4 ?_; refine rb 10 hm (fun hm => ?_) (fun hm => ?_)
 ·refine rr 5 ?_; refine rn <| rt ?_; cases hm; exact ⟨_, .cons (.tmp rfl) .nil, rfl, hS⟩
 ·refine rr 5 ?_; refine rn <| rt ?_; cases hm; exact ⟨_, .cons (.tmp rfl) .nil, rfl, hS⟩

theorem zhX : Enters Tryz.prog 265 := ⟨_, _, Tryz.func265, rfl, by kernel_rfl⟩
def z5f (fuel : Nat) (t20 : Bool) : Option Int := (if t20 = true then some 3 else some 0)
def z5e (fuel : Nat) (t25 : Bool) : Option Int := z5f fuel t25
def z5d (fuel : Nat) (t30 : Bool) : Option Int := z5e fuel t30
def z5g (fuel : Nat) (x0 : Int) (t15 : Bool) : Option Int := (if t15 = true then some 2 else (if (x0 == 2) = true then z5f fuel (x0 == 2) else (if (x0 == 3) = true then z5e fuel (x0 == 3) else (if (x0 == 4) = true then z5d fuel (x0 == 4) else z5d fuel (x0 == 7)))))
def z5c (fuel : Nat) (x0 : Int) (t35 : Bool) : Option Int := z5g fuel x0 t35
def z5h (fuel : Nat) (x0 : Int) (t10 : Bool) : Option Int := (if t10 = true then some 1 else (if (x0 == 8) = true then z5g fuel x0 (x0 == 8) else (if (x0 == 10) = true then z5c fuel x0 (x0 == 10) else z5c fuel x0 (x0 == 11))))
def z5b (fuel : Nat) (x0 : Int) (t40 : Bool) : Option Int := z5h fuel x0 t40
def z5a (fuel : Nat) (x0 : Int) (t45 : Bool) : Option Int := z5b fuel x0 t45
def z4L (fuel : Nat) (x0 : Int) (x1 : Int) : Option (Int) := (if (x0 == 9) = true then ((zX fuel x1 0 3).bind fun r1 => (if r1 = true then some (w64 (1 + x1)) else some 0)) else (if (x1 != 0) = true then some 0 else (if (x0 == 1) = true then z5h fuel x0 (x0 == 1) else (if (x0 == 5) = true then z5b fuel x0 (x0 == 5) else (if (x0 == 6) = true then z5a fuel x0 (x0 == 6) else z5a fuel x0 (x0 == 12))))))

theorem zcn {W w : World} (hE : Ext W w) {x0 : Int} {x1 : Int}  {fuel : Nat} {r : Int} (hm : z4L fuel x0 x1 = some r) :
  Calls Tryz.prog 265 ⟨[.int .i64 x0, .int .i64 x1]⟩ w (Ret fun v w8 => v = .int .i64 r ∧ St w w8 []) := by
 refine into Tryz.func265 28 _ ?_; unfold z4L at hm; have hS := St.start w; refine sq <| rg <| rr 1 ?_; refine rn <| sq <| sq <| rg <| rr 2 ?_; refine rn <| ci hm (fun hm => ?_) (fun hm => ?_)
 ·refine sq <| sq <| rg <| rr 1 ?_; obtain ⟨r1, hx2, hm⟩ := bS hm; refine ca z3r (z1a (hE.trans hS.ext)  hx2) (fun v3 w4 hR5 => ?_); obtain ⟨rfl, hR6⟩ := hR5; have hS7 := hS.join hR6; refine rn <| ci hm (fun hm => ?_) (fun hm => ?_)
  ·refine sq <| rg <| rr 3 ?_; refine rn <| rt ?_; cases hm; exact ⟨_, .cons (.tmp rfl) .nil, rfl, hS7⟩
  ·refine sp <| sq <| rg <| rr 1 ?_; refine rn <| rt ?_; cases hm; exact ⟨_, .cons (.tmp rfl) .nil, rfl, hS7⟩
 ·refine sp <| sq <| sq <| rg <| rr 2 ?_; refine rn <| ci hm (fun hm => ?_) (fun hm => ?_)
  ·refine sq <| rg <| rr 1 ?_; refine rn <| rt ?_; cases hm; exact ⟨_, .cons (.tmp rfl) .nil, rfl, hS⟩
  ·refine sp <| sq <| sq <| rg <| rr 1 ?_; refine rn <| bk <| sq <| sq <| rg <| rr 2 ?_; refine rn <| ct (fun (t10 : Bool) F w9 => z5h fuel x0 t10 = some r ∧ Ext w w9 ∧ St w w9 [] ∧ F = [(13, .int .i64 x0), (14, .bool t10)]) ?_ ?_
   ·rintro t10 F w13 ⟨hm, hE11, hS12, rfl⟩; unfold z5h at hm; refine ci hm (fun hm => ?_) (fun hm => ?_)
    ·refine sq <| rg <| rr 1 ?_; refine rn <| rt ?_; cases hm; exact ⟨_, .cons (.tmp rfl) .nil, rfl, hS12⟩
    ·refine sq <| sq <| rg <| rr 2 ?_; refine rn <| ct (fun (t15 : Bool) F w9 => z5g fuel x0 t15 = some r ∧ Ext w13 w9 ∧ St w w9 [] ∧ F = [(13, .int .i64 x0), (19, .bool t15)]) ?_ ?_
     ·rintro t15 F w18 ⟨hm, hE16, hS17, rfl⟩; unfold z5g at hm; refine ci hm (fun hm => ?_) (fun hm => ?_)
      ·refine sq <| rg <| rr 1 ?_; refine rn <| rt ?_; cases hm; exact ⟨_, .cons (.tmp rfl) .nil, rfl, hS17⟩
      ·refine sq <| sq <| rg <| rr 2 ?_; refine rn <| ct (fun (t20 : Bool) F w9 => z5f fuel t20 = some r ∧ Ext w18 w9 ∧ St w w9 [] ∧ F = [(23, .bool t20)]) ?_ ?_
       ·rintro t20 F w23 ⟨hm, hE21, hS22, rfl⟩; unfold z5f at hm; refine ci hm (fun hm => ?_) (fun hm => ?_)
        ·refine sq <| rg <| rr 1 ?_; refine rn <| rt ?_; cases hm; exact ⟨_, .cons (.tmp rfl) .nil, rfl, hS22⟩
        ·refine sp <| sq <| rg <| rr 1 ?_; refine rn <| rt ?_; cases hm; exact ⟨_, .cons (.tmp rfl) .nil, rfl, hS22⟩
       ·refine ci hm (fun hm => ?_) (fun hm => ?_)
        ·refine sp ?_; exact ⟨(x0 == 2), _, ⟨hm, (Ext.refl _), hS17, rfl⟩, rfl⟩
        ·refine sq <| rg <| rr 2 ?_; refine rn <| ct (fun (t25 : Bool) F w9 => z5e fuel t25 = some r ∧ Ext w18 w9 ∧ St w w9 [] ∧ F = [(23, .bool t25)]) ?_ ?_
         ·rintro t25 F w28 ⟨hm, hE26, hS27, rfl⟩; unfold z5e at hm; exact ⟨t25, _, ⟨hm, hE26, hS27, rfl⟩, rfl⟩
         ·refine ci hm (fun hm => ?_) (fun hm => ?_)
          ·refine sp ?_; exact ⟨(x0 == 3), _, ⟨hm, (Ext.refl _), hS17, rfl⟩, rfl⟩
          ·refine sq <| rg <| rr 2 ?_; refine rn <| ct (fun (t30 : Bool) F w9 => z5d fuel t30 = some r ∧ Ext w18 w9 ∧ St w w9 [] ∧ F = [(23, .bool t30)]) ?_ ?_
           ·rintro t30 F w33 ⟨hm, hE31, hS32, rfl⟩; unfold z5d at hm; exact ⟨t30, _, ⟨hm, hE31, hS32, rfl⟩, rfl⟩
           ·refine ci hm (fun hm => ?_) (fun hm => ?_)
            ·refine sp ?_; exact ⟨(x0 == 4), _, ⟨hm, (Ext.refl _), hS17, rfl⟩, rfl⟩
            ·refine rg <| rr 2 ?_; refine rn ?_; exact ⟨(x0 == 7), _, ⟨hm, (Ext.refl _), hS17, rfl⟩, rfl⟩
     ·refine ci hm (fun hm => ?_) (fun hm => ?_)
      ·refine sp ?_; exact ⟨(x0 == 8), _, ⟨hm, (Ext.refl _), hS12, rfl⟩, rfl⟩
      ·refine sq <| rg <| rr 2 ?_; refine rn <| ct (fun (t35 : Bool) F w9 => z5c fuel x0 t35 = some r ∧ Ext w13 w9 ∧ St w w9 [] ∧ F = [(13, .int .i64 x0), (19, .bool t35)]) ?_ ?_
       ·rintro t35 F w38 ⟨hm, hE36, hS37, rfl⟩; unfold z5c at hm; exact ⟨t35, _, ⟨hm, hE36, hS37, rfl⟩, rfl⟩
       ·refine ci hm (fun hm => ?_) (fun hm => ?_)
        ·refine sp ?_; exact ⟨(x0 == 10), _, ⟨hm, (Ext.refl _), hS12, rfl⟩, rfl⟩
        ·refine rg <| rr 2 ?_; refine rn ?_; exact ⟨(x0 == 11), _, ⟨hm, (Ext.refl _), hS12, rfl⟩, rfl⟩
   ·refine ci hm (fun hm => ?_) (fun hm => ?_)
    ·refine sp ?_; exact ⟨(x0 == 1), _, ⟨hm, (Ext.refl _), hS, rfl⟩, rfl⟩
    ·refine sq <| rg <| rr 2 ?_; refine rn <| ct (fun (t40 : Bool) F w9 => z5b fuel x0 t40 = some r ∧ Ext w w9 ∧ St w w9 [] ∧ F = [(13, .int .i64 x0), (14, .bool t40)]) ?_ ?_
     ·rintro t40 F w43 ⟨hm, hE41, hS42, rfl⟩; unfold z5b at hm; exact ⟨t40, _, ⟨hm, hE41, hS42, rfl⟩, rfl⟩
     ·refine ci hm (fun hm => ?_) (fun hm => ?_)
      ·refine sp ?_; exact ⟨(x0 == 5), _, ⟨hm, (Ext.refl _), hS, rfl⟩, rfl⟩
      ·refine sq <| rg <| rr 2 ?_; refine rn <| ct (fun (t45 : Bool) F w9 => z5a fuel x0 t45 = some r ∧ Ext w w9 ∧ St w w9 [] ∧ F = [(13, .int .i64 x0), (14, .bool t45)]) ?_ ?_
       ·rintro t45 F w48 ⟨hm, hE46, hS47, rfl⟩; unfold z5a at hm; exact ⟨t45, _, ⟨hm, hE46, hS47, rfl⟩, rfl⟩
       ·refine ci hm (fun hm => ?_) (fun hm => ?_)
        ·refine sp ?_; exact ⟨(x0 == 6), _, ⟨hm, (Ext.refl _), hS, rfl⟩, rfl⟩
        ·refine rg <| rr 2 ?_; refine rn ?_; exact ⟨(x0 == 12), _, ⟨hm, (Ext.refl _), hS, rfl⟩, rfl⟩

theorem zhR : Enters Tryz.prog 272 := ⟨_, _, Tryz.func272, rfl, by kernel_rfl⟩
def z4A (fuel : Nat) (t1 : Bool) : Option Bool := (if t1 = true then some true else some false)
def z4z (fuel : Nat) (t6 : Bool) : Option Bool := z4A fuel t6
def z4y (fuel : Nat) (t13 : Bool) : Option Bool := z4z fuel t13
def z4x (fuel : Nat) (t18 : Bool) : Option Bool := z4y fuel t18
def z4w (fuel : Nat) (t23 : Bool) : Option Bool := z4x fuel t23
def z4v (fuel : Nat) (t28 : Bool) : Option Bool := z4w fuel t28
def z4u (fuel : Nat) (t33 : Bool) : Option Bool := z4v fuel t33
def z4t (fuel : Nat) (t38 : Bool) : Option Bool := z4u fuel t38
def z6v (fuel : Nat) (x0 : Int) : Option (Bool) := (if (x0 == 2) = true then z4A fuel (x0 == 2) else (if (x0 == 3) = true then z4z fuel (x0 == 3) else (if (x0 == 4) = true then z4y fuel (x0 == 4) else (if (x0 == 7) = true then z4x fuel (x0 == 7) else (if (x0 == 8) = true then z4w fuel (x0 == 8) else (if (x0 == 9) = true then z4v fuel (x0 == 9) else (if (x0 == 10) = true then z4u fuel (x0 == 10) else (if (x0 == 11) = true then z4t fuel (x0 == 11) else z4t fuel (x0 == 12)))))))))

theorem zbR {W w : World} (hE : Ext W w) {x0 : Int}  {fuel : Nat} {r : Bool} (hm : z6v fuel x0 = some r) :
  Calls Tryz.prog 272 ⟨[.int .i64 x0]⟩ w (Ret fun v w8 => v = .bool r ∧ St w w8 []) := by
 refine into Tryz.func272 14 _ ?_; unfold z6v at hm; have hS := St.start w; refine sq <| rg <| rr 1 ?_; refine rn <| sq <| sq <| rg <| rr 1 ?_; refine rn <| bk <| sq <| sq <| rg <| rr 2 ?_; refine rn <| ct (fun (t1 : Bool) F w9 => z4A fuel t1 = some r ∧ Ext w w9 ∧ St w w9 [] ∧ F = [(4, .bool t1)]) ?_ ?_
 ·rintro t1 F w4 ⟨hm, hE2, hS3, rfl⟩; unfold z4A at hm; refine ci hm (fun hm => ?_) (fun hm => ?_)
  ·refine sq <| rg <| rr 1 ?_; refine rn <| rt ?_; cases hm; exact ⟨_, .cons (.tmp rfl) .nil, rfl, hS3⟩
  ·refine sp <| sq <| rg <| rr 1 ?_; refine rn <| rt ?_; cases hm; exact ⟨_, .cons (.tmp rfl) .nil, rfl, hS3⟩
 ·refine ci hm (fun hm => ?_) (fun hm => ?_)
  ·refine sp ?_; exact ⟨(x0 == 2), _, ⟨hm, (Ext.refl _), hS, rfl⟩, rfl⟩
  ·refine sq <| rg <| rr 2 ?_; refine rn <| ct (fun (t6 : Bool) F w9 => z4z fuel t6 = some r ∧ Ext w w9 ∧ St w w9 [] ∧ F = [(4, .bool t6)]) ?_ ?_
   ·rintro t6 F w11 ⟨hm, hE7, hS10, rfl⟩; unfold z4z at hm; exact ⟨t6, _, ⟨hm, hE7, hS10, rfl⟩, rfl⟩
   ·refine ci hm (fun hm => ?_) (fun hm => ?_)
    ·refine sp ?_; exact ⟨(x0 == 3), _, ⟨hm, (Ext.refl _), hS, rfl⟩, rfl⟩
    ·refine sq <| rg <| rr 2 ?_; refine rn <| ct (fun (t13 : Bool) F w9 => z4y fuel t13 = some r ∧ Ext w w9 ∧ St w w9 [] ∧ F = [(4, .bool t13)]) ?_ ?_
     ·rintro t13 F w16 ⟨hm, hE14, hS15, rfl⟩; unfold z4y at hm; exact ⟨t13, _, ⟨hm, hE14, hS15, rfl⟩, rfl⟩
     ·refine ci hm (fun hm => ?_) (fun hm => ?_)
      ·refine sp ?_; exact ⟨(x0 == 4), _, ⟨hm, (Ext.refl _), hS, rfl⟩, rfl⟩
      ·refine sq <| rg <| rr 2 ?_; refine rn <| ct (fun (t18 : Bool) F w9 => z4x fuel t18 = some r ∧ Ext w w9 ∧ St w w9 [] ∧ F = [(4, .bool t18)]) ?_ ?_
       ·rintro t18 F w21 ⟨hm, hE19, hS20, rfl⟩; unfold z4x at hm; exact ⟨t18, _, ⟨hm, hE19, hS20, rfl⟩, rfl⟩
       ·refine ci hm (fun hm => ?_) (fun hm => ?_)
        ·refine sp ?_; exact ⟨(x0 == 7), _, ⟨hm, (Ext.refl _), hS, rfl⟩, rfl⟩
        ·refine sq <| rg <| rr 2 ?_; refine rn <| ct (fun (t23 : Bool) F w9 => z4w fuel t23 = some r ∧ Ext w w9 ∧ St w w9 [] ∧ F = [(4, .bool t23)]) ?_ ?_
         ·rintro t23 F w26 ⟨hm, hE24, hS25, rfl⟩; unfold z4w at hm; exact ⟨t23, _, ⟨hm, hE24, hS25, rfl⟩, rfl⟩
         ·refine ci hm (fun hm => ?_) (fun hm => ?_)
          ·refine sp ?_; exact ⟨(x0 == 8), _, ⟨hm, (Ext.refl _), hS, rfl⟩, rfl⟩
          ·refine sq <| rg <| rr 2 ?_; refine rn <| ct (fun (t28 : Bool) F w9 => z4v fuel t28 = some r ∧ Ext w w9 ∧ St w w9 [] ∧ F = [(4, .bool t28)]) ?_ ?_
           ·rintro t28 F w31 ⟨hm, hE29, hS30, rfl⟩; unfold z4v at hm; exact ⟨t28, _, ⟨hm, hE29, hS30, rfl⟩, rfl⟩
           ·refine ci hm (fun hm => ?_) (fun hm => ?_)
            ·refine sp ?_; exact ⟨(x0 == 9), _, ⟨hm, (Ext.refl _), hS, rfl⟩, rfl⟩
            ·refine sq <| rg <| rr 2 ?_; refine rn <| ct (fun (t33 : Bool) F w9 => z4u fuel t33 = some r ∧ Ext w w9 ∧ St w w9 [] ∧ F = [(4, .bool t33)]) ?_ ?_
             ·rintro t33 F w36 ⟨hm, hE34, hS35, rfl⟩; unfold z4u at hm; exact ⟨t33, _, ⟨hm, hE34, hS35, rfl⟩, rfl⟩
             ·refine ci hm (fun hm => ?_) (fun hm => ?_)
              ·refine sp ?_; exact ⟨(x0 == 10), _, ⟨hm, (Ext.refl _), hS, rfl⟩, rfl⟩
              ·refine sq <| rg <| rr 2 ?_; refine rn <| ct (fun (t38 : Bool) F w9 => z4t fuel t38 = some r ∧ Ext w w9 ∧ St w w9 [] ∧ F = [(4, .bool t38)]) ?_ ?_
               ·rintro t38 F w41 ⟨hm, hE39, hS40, rfl⟩; unfold z4t at hm; exact ⟨t38, _, ⟨hm, hE39, hS40, rfl⟩, rfl⟩
               ·refine ci hm (fun hm => ?_) (fun hm => ?_)
                ·refine sp ?_; exact ⟨(x0 == 11), _, ⟨hm, (Ext.refl _), hS, rfl⟩, rfl⟩
                ·refine rg <| rr 2 ?_; refine rn ?_; exact ⟨(x0 == 12), _, ⟨hm, (Ext.refl _), hS, rfl⟩, rfl⟩

theorem zhQ : Enters Tryz.prog 273 := ⟨_, _, Tryz.func273, rfl, by kernel_rfl⟩
def z82 (fuel : Nat) (x0 : Int) : Option (Bool) := ((zX fuel x0 1 12).bind fun r1 => some r1)

theorem zck {W w : World} (hE : Ext W w) {x0 : Int}  {fuel : Nat} {r : Bool} (hm : z82 fuel x0 = some r) :
  Calls Tryz.prog 273 ⟨[.int .i64 x0]⟩ w (Ret fun v w8 => v = .bool r ∧ St w w8 []) := by
 refine into Tryz.func273 5 _ ?_; unfold z82 at hm; have hS := St.start w; refine sq <| rg <| rr 1 ?_; refine rn <| sq <| rg <| rr 1 ?_; obtain ⟨r1, hx2, hm⟩ := bS hm; refine ca z3r (z1a (hE.trans hS.ext)  hx2) (fun v3 w4 hR5 => ?_); obtain ⟨rfl, hR6⟩ := hR5; have hS7 := hS.join hR6; refine rr 1 ?_; refine rn <| rt ?_; cases hm; exact ⟨_, .cons (.tmp rfl) .nil, rfl, hS7⟩

theorem zhV : Enters Tryz.prog 267 := ⟨_, _, Tryz.func267, rfl, by kernel_rfl⟩
def z6t (fuel : Nat) (x0 : Int) (x1 : Int) : Option (Bool) := ((z6v fuel x0).bind fun r1 => (if r1 = true then ((zX fuel x1 0 8).bind fun r10 => some r10) else ((z82 fuel x0).bind fun r17 => (if r17 = true then some (x1 == 0) else some false))))

theorem zbP {W w : World} (hE : Ext W w) {x0 : Int} {x1 : Int}  {fuel : Nat} {r : Bool} (hm : z6t fuel x0 x1 = some r) :
  Calls Tryz.prog 267 ⟨[.int .i64 x0, .int .i64 x1]⟩ w (Ret fun v w8 => v = .bool r ∧ St w w8 []) := by
 refine into Tryz.func267 15 _ ?_; unfold z6t at hm; have hS := St.start w; refine sq <| rg <| rr 1 ?_; refine rn <| sq <| sq <| rg <| rr 1 ?_; obtain ⟨r1, hx2, hm⟩ := bS hm; refine ca zhR (zbR (hE.trans hS.ext)  hx2) (fun v3 w4 hR5 => ?_); obtain ⟨rfl, hR6⟩ := hR5; have hS7 := hS.join hR6; refine rn <| ci hm (fun hm => ?_) (fun hm => ?_)
 ·refine sq <| rg <| rr 1 ?_; obtain ⟨r10, hx11, hm⟩ := bS hm; refine ca z3r (z1a (hE.trans hS7.ext)  hx11) (fun v12 w13 hR14 => ?_); obtain ⟨rfl, hR15⟩ := hR14; have hS16 := hS7.join hR15; refine rr 1 ?_; refine rn <| rt ?_; cases hm; exact ⟨_, .cons (.tmp rfl) .nil, rfl, hS16⟩
 ·refine sp <| sq <| rg <| rr 1 ?_; obtain ⟨r17, hx18, hm⟩ := bS hm; refine ca zhQ (zck (hE.trans hS7.ext)  hx18) (fun v19 w20 hR21 => ?_); obtain ⟨rfl, hR22⟩ := hR21; have hS23 := hS7.join hR22; refine rr 1 ?_; refine rb 11 hm (fun hm => ?_) (fun hm => ?_)
  ·refine rr 4 ?_; refine rn <| rt ?_; cases hm; exact ⟨_, .cons (.tmp rfl) .nil, rfl, hS23⟩
  ·refine rr 4 ?_; refine rn <| rt ?_; cases hm; exact ⟨_, .cons (.tmp rfl) .nil, rfl, hS23⟩

theorem zeQ : Enters Tryz.prog 274 := ⟨_, _, Tryz.func274, rfl, by kernel_rfl⟩
def z6L (fuel : Nat) (x0 : Int) : Option (Bool) := ((zX fuel x0 0 23).bind fun r1 => some r1)

theorem zaz {W w : World} (hE : Ext W w) {x0 : Int}  {fuel : Nat} {r : Bool} (hm : z6L fuel x0 = some r) :
  Calls Tryz.prog 274 ⟨[.int .i64 x0]⟩ w (Ret fun v w8 => v = .bool r ∧ St w w8 []) := by
 refine into Tryz.func274 5 _ ?_; unfold z6L at hm; have hS := St.start w; refine sq <| rg <| rr 1 ?_; refine rn <| sq <| rg <| rr 1 ?_; obtain ⟨r1, hx2, hm⟩ := bS hm; refine ca z3r (z1a (hE.trans hS.ext)  hx2) (fun v3 w4 hR5 => ?_); obtain ⟨rfl, hR6⟩ := hR5; have hS7 := hS.join hR6; refine rr 1 ?_; refine rn <| rt ?_; cases hm; exact ⟨_, .cons (.tmp rfl) .nil, rfl, hS7⟩

theorem zhU : Enters Tryz.prog 268 := ⟨_, _, Tryz.func268, rfl, by kernel_rfl⟩
def z6S (fuel : Nat) (t76 : Unit) : Option Bool := some true
def z3e (fuel : Nat) (x0 : D.Agent) (s75 : Int) : Option (Rd (Int) (Unit) (Bool)) := (if (decide (s75 < (x0.Data.length : Int))) = true then ((idx x0.Data s75).bind fun x91 => ((z6L fuel x91).bind fun r97 => (if (!r97) = true then some (.ret false) else some (.next (w64 (s75 + 1)))))) else some (.brk ()))
def zZ (fuel : Nat) (x0 : D.Agent) (t70 : Bool) : Option Bool := (if t70 = true then some false else ((iter (z3e fuel x0) fuel 0).bind fun o => aft o (z6S fuel)))
def z1G (fuel : Nat) (x0 : D.Agent) (t65 : Bool) : Option Bool := (if t65 = true then (if (x0.Value != 0) = true then zZ fuel x0 true else (if (x0.Kind == 11) = true then (if ((x0.Data.length : Int) != 2) = true then zZ fuel x0 true else (if (x0.Kind == 10) = true then ((zX fuel (x0.Data.length : Int) 1 4).bind fun r108 => zZ fuel x0 (!r108)) else zZ fuel x0 false)) else (if (x0.Kind == 10) = true then ((zX fuel (x0.Data.length : Int) 1 4).bind fun r116 => zZ fuel x0 (!r116)) else zZ fuel x0 false))) else (if (x0.Value == 0) = true then some ((x0.Data.length : Int) == 0) else some false))
def z13 (fuel : Nat) (x0 : D.Agent) : Option (Bool) := (if (x0.Kind == 6) = true then (if ((x0.Data.length : Int) == 0) = true then ((zX fuel x0.Value (-2147483648) 2147483647).bind fun r11 => some r11) else some false) else (if (x0.Kind == 7) = true then (if ((x0.Data.length : Int) == 0) = true then ((zX fuel x0.Value 1 6).bind fun r19 => some r19) else some false) else (if (x0.Kind == 8) = true then (if ((x0.Data.length : Int) == 1) = true then ((zX fuel x0.Value 1 6).bind fun r27 => (if r27 = true then ((idx x0.Data 0).bind fun x35 => ((zX fuel x35 (-2147483648) 2147483647).bind fun r41 => some r41)) else some false)) else some false) else (if (x0.Kind == 9) = true then (if ((x0.Data.length : Int) == 0) = true then ((zX fuel x0.Value 0 3).bind fun r49 => some r49) else some false) else (if (x0.Kind == 12) = true then (if ((x0.Data.length : Int) == 0) = true then ((z6L fuel x0.Value).bind fun r57 => some r57) else some false) else (if (x0.Kind == 10) = true then z1G fuel x0 (x0.Kind == 10) else z1G fuel x0 (x0.Kind == 11)))))))

theorem zaW {W w : World} (hE : Ext W w) {p0_ : Addr} {c0_ : List Value} {x0 : D.Agent} (h0_ : zaq.ro W c0_ x0) (g0_ : At W p0_ c0_) {fuel : Nat} {r : Bool} (hm : z13 fuel x0 = some r) :
  Calls Tryz.prog 268 ⟨[.pointer (some p0_)]⟩ w (Ret fun v w8 => v = .bool r ∧ St w w8 []) := by
 obtain ⟨A1, k2, A4, k5, e7, h3, h6⟩ := zad h0_; subst e7; refine into Tryz.func268 162 _ ?_; unfold z13 at hm; have hS := St.start w; refine sq <| rg <| rr 1 ?_; refine rn <| sq <| sq <| rg <| rr 3 ?_; refine l1 (At.ext (hE.trans hS.ext) g0_) 0 ?_; refine rn <| bk <| sq <| rg <| rr 2 ?_; refine rn <| ci hm (fun hm => ?_) (fun hm => ?_)
 ·refine sq <| rg <| rr 3 ?_; refine l1 (At.ext (hE.trans hS.ext) g0_) 3 ?_; refine rr 3 ?_; refine rb 16 hm (fun hm => ?_) (fun hm => ?_)
  ·refine rr 3 ?_; refine l1 (At.ext (hE.trans hS.ext) g0_) 2 ?_; obtain ⟨r11, hx12, hm⟩ := bS hm; refine ca z3r (z1a (hE.trans hS.ext)  hx12) (fun v13 w14 hR15 => ?_); obtain ⟨rfl, hR16⟩ := hR15; have hS17 := hS.join hR16; refine rr 2 ?_; refine rn <| rt ?_; cases hm; exact ⟨_, .cons (.tmp rfl) .nil, rfl, hS17⟩
  ·refine rr 7 ?_; refine rn <| rt ?_; cases hm; exact ⟨_, .cons (.tmp rfl) .nil, rfl, hS⟩
 ·refine sq <| rg <| rr 2 ?_; refine rn <| ci hm (fun hm => ?_) (fun hm => ?_)
  ·refine sq <| rg <| rr 3 ?_; refine l1 (At.ext (hE.trans hS.ext) g0_) 3 ?_; refine rr 3 ?_; refine rb 31 hm (fun hm => ?_) (fun hm => ?_)
   ·refine rr 3 ?_; refine l1 (At.ext (hE.trans hS.ext) g0_) 2 ?_; obtain ⟨r19, hx20, hm⟩ := bS hm; refine ca z3r (z1a (hE.trans hS.ext)  hx20) (fun v21 w22 hR23 => ?_); obtain ⟨rfl, hR24⟩ := hR23; have hS25 := hS.join hR24; refine rr 2 ?_; refine rn <| rt ?_; cases hm; exact ⟨_, .cons (.tmp rfl) .nil, rfl, hS25⟩
   ·refine rr 7 ?_; refine rn <| rt ?_; cases hm; exact ⟨_, .cons (.tmp rfl) .nil, rfl, hS⟩
  ·refine sq <| rg <| rr 2 ?_; refine rn <| ci hm (fun hm => ?_) (fun hm => ?_)
   ·refine sq <| rg <| rr 3 ?_; refine l1 (At.ext (hE.trans hS.ext) g0_) 3 ?_; refine rr 3 ?_; refine rb 46 hm (fun hm => ?_) (fun hm => ?_)
    ·refine rr 3 ?_; refine l1 (At.ext (hE.trans hS.ext) g0_) 2 ?_; obtain ⟨r27, hx28, hm⟩ := bS hm; refine ca z3r (z1a (hE.trans hS.ext)  hx28) (fun v29 w30 hR31 => ?_); obtain ⟨rfl, hR32⟩ := hR31; have hS33 := hS.join hR32; refine rr 2 ?_; refine rb 53 hm (fun hm => ?_) (fun hm => ?_)
     ·refine rr 3 ?_; refine l1 (At.ext (hE.trans hS33.ext) g0_) 3 ?_; obtain ⟨x35, hx36, hm⟩ := bS hm; refine ix (hE.trans hS33.ext) h3 hx36 (fun p37 es38 ha39 hr40 => ?_); cases hr40; refine l1 (At.ext (hE.trans hS33.ext) ha39) 0 ?_; obtain ⟨r41, hx42, hm⟩ := bS hm; refine ca z3r (z1a (hE.trans hS33.ext)  hx42) (fun v43 w44 hR45 => ?_); obtain ⟨rfl, hR46⟩ := hR45; have hS47 := hS33.join hR46; refine rr 2 ?_; refine rn <| rt ?_; cases hm; exact ⟨_, .cons (.tmp rfl) .nil, rfl, hS47⟩
     ·refine rr 9 ?_; refine rn <| rt ?_; cases hm; exact ⟨_, .cons (.tmp rfl) .nil, rfl, hS33⟩
    ·refine rr 16 ?_; refine rn <| rt ?_; cases hm; exact ⟨_, .cons (.tmp rfl) .nil, rfl, hS⟩
   ·refine sq <| rg <| rr 2 ?_; refine rn <| ci hm (fun hm => ?_) (fun hm => ?_)
    ·refine sq <| rg <| rr 3 ?_; refine l1 (At.ext (hE.trans hS.ext) g0_) 3 ?_; refine rr 3 ?_; refine rb 70 hm (fun hm => ?_) (fun hm => ?_)
     ·refine rr 3 ?_; refine l1 (At.ext (hE.trans hS.ext) g0_) 2 ?_; obtain ⟨r49, hx50, hm⟩ := bS hm; refine ca z3r (z1a (hE.trans hS.ext)  hx50) (fun v51 w52 hR53 => ?_); obtain ⟨rfl, hR54⟩ := hR53; have hS55 := hS.join hR54; refine rr 2 ?_; refine rn <| rt ?_; cases hm; exact ⟨_, .cons (.tmp rfl) .nil, rfl, hS55⟩
     ·refine rr 7 ?_; refine rn <| rt ?_; cases hm; exact ⟨_, .cons (.tmp rfl) .nil, rfl, hS⟩
    ·refine sq <| rg <| rr 2 ?_; refine rn <| ci hm (fun hm => ?_) (fun hm => ?_)
     ·refine sq <| rg <| rr 3 ?_; refine l1 (At.ext (hE.trans hS.ext) g0_) 3 ?_; refine rr 3 ?_; refine rb 85 hm (fun hm => ?_) (fun hm => ?_)
      ·refine rr 3 ?_; refine l1 (At.ext (hE.trans hS.ext) g0_) 2 ?_; obtain ⟨r57, hx58, hm⟩ := bS hm; refine ca zeQ (zaz (hE.trans hS.ext)  hx58) (fun v59 w60 hR61 => ?_); obtain ⟨rfl, hR62⟩ := hR61; have hS63 := hS.join hR62; refine rr 2 ?_; refine rn <| rt ?_; cases hm; exact ⟨_, .cons (.tmp rfl) .nil, rfl, hS63⟩
      ·refine rr 7 ?_; refine rn <| rt ?_; cases hm; exact ⟨_, .cons (.tmp rfl) .nil, rfl, hS⟩
     ·refine sq <| sq <| rg <| rr 2 ?_; refine rn <| ct (fun (t65 : Bool) F w9 => z1G fuel x0 t65 = some r ∧ Ext w w9 ∧ St w w9 [] ∧ F = [(0, .pointer (some p0_)), (92, .bool t65)]) ?_ ?_
      ·rintro t65 F w68 ⟨hm, hE66, hS67, rfl⟩; unfold z1G at hm; refine ci hm (fun hm => ?_) (fun hm => ?_)
       ·refine sq <| sq <| ct (fun (t70 : Bool) F w9 => zZ fuel x0 t70 = some r ∧ Ext w68 w9 ∧ St w w9 [] ∧ F = [(0, .pointer (some p0_)), (130, .bool t70)]) ?_ ?_
        ·rintro t70 F w73 ⟨hm, hE71, hS72, rfl⟩; unfold zZ at hm; refine ci hm (fun hm => ?_) (fun hm => ?_)
         ·refine sq <| rg <| rr 1 ?_; refine rn <| rt ?_; cases hm; exact ⟨_, .cons (.tmp rfl) .nil, rfl, hS72⟩
         ·refine sp <| sq <| sq <| rg <| rr 1 ?_; refine rn ?_; obtain ⟨o82, hl83, hm⟩ := bS hm; refine ct (fun (t76 : Unit) F w9 => o82 = .inl t76 ∧ Ext w73 w9 ∧ St w w9 [] ∧ F = []) ?_ ?_
          ·rintro t76 F w81 ⟨ho85, hE80, hS84, rfl⟩; subst ho85; rw [z8] at hm; unfold z6S at hm; refine sq <| rg <| rr 1 ?_; refine rn <| rt ?_; cases hm; exact ⟨_, .cons (.tmp rfl) .nil, rfl, hS84⟩
          ·refine bk <| wk [0, 3] ?_; refine it (fun (s75 : Int) F w9 => Ext w73 w9 ∧ St w w9 [] ∧ F = [(0, .pointer (some p0_)), (3, .int .i64 s75)]) hl83 ⟨(Ext.refl _), hS72, rfl⟩ ?_; rintro s75 F w90 _ o88 ⟨hE79, hS89, rfl⟩ hb86 ho87; unfold z3e at hb86; refine sq <| sq <| rg <| rr 4 ?_; refine l1 (At.ext (hE.trans hS89.ext) g0_) 3 ?_; refine rr 2 ?_; refine rn <| ci hb86 (fun hb86 => ?_) (fun hb86 => ?_)
           ·refine sp <| sq <| bk <| sq <| rg <| rr 3 ?_; refine l1 (At.ext (hE.trans hS89.ext) g0_) 3 ?_; refine rr 1 ?_; obtain ⟨x91, hx92, hb86⟩ := bS hb86; refine ix (hE.trans hS89.ext) h3 hx92 (fun p93 es94 ha95 hr96 => ?_); cases hr96; refine l1 (At.ext (hE.trans hS89.ext) ha95) 0 ?_; obtain ⟨r97, hx98, hb86⟩ := bS hb86; refine ca zeQ (zaz (hE.trans hS89.ext)  hx98) (fun v99 w100 hR101 => ?_); obtain ⟨rfl, hR102⟩ := hR101; have hS103 := hS89.join hR102; refine rr 1 ?_; refine rn <| ci hb86 (fun hb86 => ?_) (fun hb86 => ?_)
            ·refine sq <| rg <| rr 1 ?_; refine rn <| rt ?_; cases hb86; cases ho87; have hm : some _ = some _ := hm; cases hm; exact ⟨_, .cons (.tmp rfl) .nil, rfl, hS103⟩
            ·refine sp <| rg <| rr 3 ?_; refine rn ?_; cases hb86; exact ⟨_, _, rfl, ⟨(hE79.trans hR102.ext), hS103, rfl⟩, rfl⟩
           ·refine xt ?_; cases hb86; exact ⟨_, _, ⟨ho87, hE79, hS89, rfl⟩, rfl⟩
        ·refine rg <| rr 3 ?_; refine l1 (At.ext (hE.trans hS67.ext) g0_) 2 ?_; refine rr 2 ?_; refine rb 100 hm (fun hm => ?_) (fun hm => ?_)
         ·refine rr 30 ?_; refine rn ?_; exact ⟨true, _, ⟨hm, (Ext.refl _), hS67, rfl⟩, rfl⟩
         ·refine rr 3 ?_; refine l1 (At.ext (hE.trans hS67.ext) g0_) 0 ?_; refine rr 2 ?_; refine rb 106 hm (fun hm => ?_) (fun hm => ?_)
          ·refine rr 3 ?_; refine l1 (At.ext (hE.trans hS67.ext) g0_) 3 ?_; refine rr 5 ?_; refine rb 115 hm (fun hm => ?_) (fun hm => ?_)
           ·refine rr 15 ?_; refine rn ?_; exact ⟨true, _, ⟨hm, (Ext.refl _), hS67, rfl⟩, rfl⟩
           ·refine rr 3 ?_; refine l1 (At.ext (hE.trans hS67.ext) g0_) 0 ?_; refine rr 2 ?_; refine rb 121 hm (fun hm => ?_) (fun hm => ?_)
            ·refine rr 3 ?_; refine l1 (At.ext (hE.trans hS67.ext) g0_) 3 ?_; refine rr 1 ?_; obtain ⟨r108, hx109, hm⟩ := bS hm; refine ca z3r (z1a (hE.trans hS67.ext)  hx109) (fun v110 w111 hR112 => ?_); obtain ⟨rfl, hR113⟩ := hR112; have hS114 := hS67.join hR113; refine rr 3 ?_; refine rn ?_; exact ⟨!r108, _, ⟨hm, hR113.ext, hS114, rfl⟩, rfl⟩
            ·refine rr 9 ?_; refine rn ?_; exact ⟨false, _, ⟨hm, (Ext.refl _), hS67, rfl⟩, rfl⟩
          ·refine rr 12 ?_; refine l1 (At.ext (hE.trans hS67.ext) g0_) 0 ?_; refine rr 2 ?_; refine rb 121 hm (fun hm => ?_) (fun hm => ?_)
           ·refine rr 3 ?_; refine l1 (At.ext (hE.trans hS67.ext) g0_) 3 ?_; refine rr 1 ?_; obtain ⟨r116, hx117, hm⟩ := bS hm; refine ca z3r (z1a (hE.trans hS67.ext)  hx117) (fun v118 w119 hR120 => ?_); obtain ⟨rfl, hR121⟩ := hR120; have hS122 := hS67.join hR121; refine rr 3 ?_; refine rn ?_; exact ⟨!r116, _, ⟨hm, hR121.ext, hS122, rfl⟩, rfl⟩
           ·refine rr 9 ?_; refine rn ?_; exact ⟨false, _, ⟨hm, (Ext.refl _), hS67, rfl⟩, rfl⟩
       ·refine sp <| sq <| rg <| rr 3 ?_; refine l1 (At.ext (hE.trans hS67.ext) g0_) 2 ?_; refine rr 2 ?_; refine rb 154 hm (fun hm => ?_) (fun hm => ?_)
        ·refine rr 3 ?_; refine l1 (At.ext (hE.trans hS67.ext) g0_) 3 ?_; refine rr 4 ?_; refine rn <| rt ?_; cases hm; exact ⟨_, .cons (.tmp rfl) .nil, rfl, hS67⟩
        ·refine rr 8 ?_; refine rn <| rt ?_; cases hm; exact ⟨_, .cons (.tmp rfl) .nil, rfl, hS67⟩
      ·refine ci hm (fun hm => ?_) (fun hm => ?_)
       ·refine sp ?_; exact ⟨(x0.Kind == 10), _, ⟨hm, (Ext.refl _), hS, rfl⟩, rfl⟩
       ·refine rg <| rr 2 ?_; refine rn ?_; exact ⟨(x0.Kind == 11), _, ⟨hm, (Ext.refl _), hS, rfl⟩, rfl⟩

theorem zia : Enters Tryz.prog 249 := ⟨_, _, Tryz.func249, rfl, by kernel_rfl⟩
def z3U (fuel : Nat) (x0 : D.Agent) : Option (Bool) := ((z38 fuel x0).bind fun r12 => ((z4L fuel x0.Kind r12).bind fun r19 => (if (decide (r19 > 0)) = true then (if ((x0.Ports.length : Int) == r19) = true then ((z6t fuel x0.Kind x0.Level).bind fun r30 => (if r30 = true then ((z13 fuel x0).bind fun r38 => some r38) else some false)) else some false) else some false)))

theorem zbO {W w : World} (hE : Ext W w) {p0_ : Addr} {c0_ : List Value} {x0 : D.Agent} (h0_ : zaq.ro W c0_ x0) (g0_ : At W p0_ c0_) {fuel : Nat} {r : Bool} (hm : z3U fuel x0 = some r) :
  Calls Tryz.prog 249 ⟨[.pointer (some p0_)]⟩ w (Ret fun v w8 => v = .bool r ∧ St w w8 []) := by
 obtain ⟨A1, k2, A4, k5, e7, h3, h6⟩ := zad h0_; subst e7; refine into Tryz.func249 37 _ ?_; unfold z3U at hm; have hS := St.start w; refine sq <| rg <| rr 1 ?_; refine rn <| sq <| dn 0 mixed 8 [([], 255), ([0], 254), ([1], 253), ([2], 251), ([], 255), ([4], 239), ([3, 5, 5], 215), ([6, 6, 0, 1, 2, 3, 4, 5, 6], 191)] hS.ext (fun s_10 => ?_); have hS11 := hS.step (Ext.draw _); refine dr 4 s_10 [0, 1, 2, 4] ?_; refine dl s_10 3 (At.ext (hE.trans hS.ext) g0_) 0 ?_; obtain ⟨r12, hx13, hm⟩ := bS hm; refine o1 s_10 5 (mc s_10 zhW (zbn (hE.trans hS11.ext) h0_ g0_ hx13) (fun v14 w15 hR16 => ?_)); obtain ⟨rfl, hR17⟩ := hR16; refine ⟨hR17.ext, ?_⟩; have hS18 := hS11.join hR17; obtain ⟨r19, hx20, hm⟩ := bS hm; refine o1 s_10 6 (mc s_10 zhX (zcn (hE.trans hS18.ext)  hx20) (fun v21 w22 hR23 => ?_)); obtain ⟨rfl, hR24⟩ := hR23; refine ⟨hR24.ext, ?_⟩; have hS25 := hS18.join hR24; refine dr 0 s_10 [7] ?_; refine dw [0, 3] ?_; refine dd s_10 ?_; refine sq <| dn 0 mixed 27 [([], 134217727), ([0], 134217726), ([1], 134217725), ([2], 134217723), ([3, 2], 134217715), ([4, 2], 134217707), ([5, 2], 134217691), ([6, 2], 134217659), ([2], 134217723), ([7, 8, 2], 134217339), ([2, 9], 134217211), ([10, 2], 134216703), ([11], 134215679), ([12, 11], 134211583), ([13, 11], 134207487), ([14, 11], 134199295), ([11], 134215679), ([16, 11], 134150143), ([17, 11], 134084607), ([18, 11], 133953535), ([15, 19, 11, 11], 133658623), ([11, 20], 133167103), ([21, 20], 132120575), ([22], 130023423), ([23, 22, 22], 121634815), ([22, 24], 113246207), ([25, 24, 0, 1, 2, 3, 4, 5, 6, 7, 8, 9, 10, 11, 12, 13, 14, 15, 16, 17, 18, 19, 20, 21, 22, 23, 24, 25], 100663295)] hS25.ext (fun s_26 => ?_); have hS27 := hS25.step (Ext.draw _); refine dr 24 s_26 [0, 1, 2] ?_; refine db 13 hm (fun hm => ?_) (fun hm => ?_)
 ·refine dr 20 s_26 [3, 4, 5, 8] ?_; refine dl s_26 6 (At.ext (hE.trans hS25.ext) g0_) 4 ?_; refine dr 15 s_26 [7, 9, 10, 11] ?_; refine dw [0, 22] ?_; refine db 22 hm (fun hm => ?_) (fun hm => ?_)
  ·refine dr 9 s_26 [12, 13, 14, 16, 17, 18] ?_; refine dl s_26 15 (At.ext (hE.trans hS25.ext) g0_) 0 ?_; refine dl s_26 19 (At.ext (hE.trans hS25.ext) g0_) 1 ?_; obtain ⟨r30, hx31, hm⟩ := bS hm; refine o1 s_26 20 (mc s_26 zhV (zbP (hE.trans hS27.ext)  hx31) (fun v32 w33 hR34 => ?_)); obtain ⟨rfl, hR35⟩ := hR34; refine ⟨hR35.ext, ?_⟩; have hS36 := hS27.join hR35; refine dr 4 s_26 [21, 22] ?_; refine dw [0, 33] ?_; refine db 33 hm (fun hm => ?_) (fun hm => ?_)
   ·refine dr 3 s_26 [23] ?_; obtain ⟨r38, hx39, hm⟩ := bS hm; refine o1 s_26 24 (mc s_26 zhU (zaW (hE.trans hS36.ext) h0_ g0_ hx39) (fun v40 w41 hR42 => ?_)); obtain ⟨rfl, hR43⟩ := hR42; refine ⟨hR43.ext, ?_⟩; have hS44 := hS36.join hR43; refine dr 0 s_26 [25, 26] ?_; refine dd s_26 ?_; refine rt ?_; cases hm; exact ⟨_, .cons (.tmp rfl) .nil, rfl, hS44⟩
   ·refine dr 0 s_26 [23, 24, 25, 26] ?_; refine dd s_26 ?_; refine rt ?_; cases hm; exact ⟨_, .cons (.tmp rfl) .nil, rfl, hS36⟩
  ·refine dr 0 s_26 [12, 13, 14, 15, 16, 17, 18, 19, 20, 21, 22, 23, 24, 25, 26] ?_; refine dw [2] ?_; refine dd s_26 ?_; refine rt ?_; cases hm; exact ⟨_, .cons (.tmp rfl) .nil, rfl, hS27⟩
 ·refine dr 0 s_26 [3, 4, 5, 6, 7, 8, 9, 10, 11, 12, 13, 14, 15, 16, 17, 18, 19, 20, 21, 22, 23, 24, 25, 26] ?_; refine dw [2] ?_; refine dd s_26 ?_; refine rt ?_; cases hm; exact ⟨_, .cons (.tmp rfl) .nil, rfl, hS27⟩

theorem zi3 : Enters Tryz.prog 256 := ⟨_, _, Tryz.func256, rfl, by kernel_rfl⟩
def z6B (fuel : Nat) (x0 : Int) (x1 : Int) : Option (Int) := (if (x0 == 9) = true then some (w64 (x1 - 1)) else some 0)

theorem zbS {W w : World} (hE : Ext W w) {x0 : Int} {x1 : Int}  {fuel : Nat} {r : Int} (hm : z6B fuel x0 x1 = some r) :
  Calls Tryz.prog 256 ⟨[.int .i64 x0, .int .i64 x1]⟩ w (Ret fun v w8 => v = .int .i64 r ∧ St w w8 []) := by
 refine into Tryz.func256 9 _ ?_; unfold z6B at hm; have hS := St.start w; refine sq <| rg <| rr 1 ?_; refine rn <| sq <| sq <| rg <| rr 2 ?_; refine rn <| ci hm (fun hm => ?_) (fun hm => ?_)
 ·refine sq <| rg <| rr 3 ?_; refine rn <| rt ?_; cases hm; exact ⟨_, .cons (.tmp rfl) .nil, rfl, hS⟩
 ·refine sp <| sq <| rg <| rr 1 ?_; refine rn <| rt ?_; cases hm; exact ⟨_, .cons (.tmp rfl) .nil, rfl, hS⟩

theorem zcH : Enters Tryz.prog 269 := ⟨_, _, Tryz.func269, rfl, by kernel_rfl⟩
def z5L (fuel : Nat) (x0 : Int) : Option (Bool) := (if (decide (x0 ≥ 1)) = true then some (decide (x0 ≤ 12)) else some false)

theorem z9b {W w : World} (hE : Ext W w) {x0 : Int}  {fuel : Nat} {r : Bool} (hm : z5L fuel x0 = some r) :
  Calls Tryz.prog 269 ⟨[.int .i64 x0]⟩ w (Ret fun v w8 => v = .bool r ∧ St w w8 []) := by
 refine into Tryz.func269 9 _ ?_; unfold z5L at hm; have hS := St.start w; refine sq <| rg <| rr 1 ?_; refine rn <| sq <| rg <| rr 3 ?_; refine rb 5 hm (fun hm => ?_) (fun hm => ?_)
 ·refine rr 4 ?_; refine rn <| rt ?_; cases hm; exact ⟨_, .cons (.tmp rfl) .nil, rfl, hS⟩
 ·refine rr 4 ?_; refine rn <| rt ?_; cases hm; exact ⟨_, .cons (.tmp rfl) .nil, rfl, hS⟩

theorem zi4 : Enters Tryz.prog 255 := ⟨_, _, Tryz.func255, rfl, by kernel_rfl⟩
def z1C (fuel : Nat) (x0 : Int) (t6 : Bool) : Option Int := (if t6 = true then some 0 else ((idx ([0, 1, 3, 3, 3, 1, 1, 3, 2, 0, 2, 2, 1] : List Int) x0).bind fun x13 => some x13))
def z2F (fuel : Nat) (x0 : Int) (x1 : Int) (t1 : Bool) : Option Int := (if t1 = true then some (w64 (x1 + 1)) else ((z5L fuel x0).bind fun r15 => (if (!r15) = true then z1C fuel x0 true else (if (x0 == 9) = true then z1C fuel x0 true else z1C fuel x0 (x1 != 0)))))
def z65 (fuel : Nat) (x0 : Int) (x1 : Int) : Option (Int) := (if (x0 == 9) = true then (if (decide (x1 ≥ 0)) = true then z2F fuel x0 x1 (decide (x1 ≤ 3)) else z2F fuel x0 x1 false) else z2F fuel x0 x1 false)

theorem zcC {W w : World} (hE : Ext W w) {x0 : Int} {x1 : Int}  {fuel : Nat} {r : Int} (hm : z65 fuel x0 x1 = some r) :
  Calls Tryz.prog 255 ⟨[.int .i64 x0, .int .i64 x1]⟩ w (Ret fun v w8 => v = .int .i64 r ∧ St w w8 []) := by
 refine into Tryz.func255 33 _ ?_; unfold z65 at hm; have hS := St.start w; refine sq <| rg <| rr 1 ?_; refine rn <| sq <| bk <| sq <| ct (fun (t1 : Bool) F w9 => z2F fuel x0 x1 t1 = some r ∧ Ext w w9 ∧ St w w9 [] ∧ F = [(0, .int .i64 x0), (1, .int .i64 x1), (5, .bool t1)]) ?_ ?_
 ·rintro t1 F w4 ⟨hm, hE2, hS3, rfl⟩; unfold z2F at hm; refine ci hm (fun hm => ?_) (fun hm => ?_)
  ·refine sq <| rg <| rr 3 ?_; refine rn <| rt ?_; cases hm; exact ⟨_, .cons (.tmp rfl) .nil, rfl, hS3⟩
  ·refine sq <| ct (fun (t6 : Bool) F w9 => z1C fuel x0 t6 = some r ∧ Ext w4 w9 ∧ St w w9 [] ∧ F = [(0, .int .i64 x0), (18, .bool t6)]) ?_ ?_
   ·rintro t6 F w11 ⟨hm, hE7, hS10, rfl⟩; unfold z1C at hm; refine ci hm (fun hm => ?_) (fun hm => ?_)
    ·refine sq <| rg <| rr 1 ?_; refine rn <| rt ?_; cases hm; exact ⟨_, .cons (.tmp rfl) .nil, rfl, hS10⟩
    ·refine sp <| sq <| rg <| qt (qBuildK (cs := [.int .i64 0, .int .i64 1, .int .i64 3, .int .i64 3, .int .i64 3, .int .i64 1, .int .i64 1, .int .i64 3, .int .i64 2, .int .i64 0, .int .i64 2, .int .i64 2, .int .i64 1])) ?_; refine rr 1 ?_; obtain ⟨x13, hx14, hm⟩ := bS hm; refine qt (Quiet.arrIdx ttok (xs := ([0, 1, 3, 3, 3, 1, 1, 3, 2, 0, 2, 2, 1] : List Int)) (e := 2) rfl (by kernel_rfl) rfl rfl rfl rfl rfl rfl (z1q hx14).1 (z1q hx14).2) ?_; refine rr 1 ?_; refine rn <| rt ?_; cases hm; exact ⟨_, .cons (.tmp rfl) .nil, rfl, hS10⟩
   ·refine rg <| rr 1 ?_; obtain ⟨r15, hx16, hm⟩ := bS hm; refine ca zcH (z9b (hE.trans hS3.ext)  hx16) (fun v17 w18 hR19 => ?_); obtain ⟨rfl, hR20⟩ := hR19; have hS21 := hS3.join hR20; refine rr 2 ?_; refine rb 22 hm (fun hm => ?_) (fun hm => ?_)
    ·refine rr 8 ?_; refine rn ?_; exact ⟨true, _, ⟨hm, hR20.ext, hS21, rfl⟩, rfl⟩
    ·refine rr 4 ?_; refine rb 26 hm (fun hm => ?_) (fun hm => ?_)
     ·refine rr 4 ?_; refine rn ?_; exact ⟨true, _, ⟨hm, hR20.ext, hS21, rfl⟩, rfl⟩
     ·refine rr 4 ?_; refine rn ?_; exact ⟨(x1 != 0), _, ⟨hm, hR20.ext, hS21, rfl⟩, rfl⟩
 ·refine rg <| rr 3 ?_; refine rb 8 hm (fun hm => ?_) (fun hm => ?_)
  ·refine rr 4 ?_; refine rb 12 hm (fun hm => ?_) (fun hm => ?_)
   ·refine rr 4 ?_; refine rn ?_; exact ⟨decide (x1 ≤ 3), _, ⟨hm, (Ext.refl _), hS, rfl⟩, rfl⟩
   ·refine rr 4 ?_; refine rn ?_; exact ⟨false, _, ⟨hm, (Ext.refl _), hS, rfl⟩, rfl⟩
  ·refine rr 8 ?_; refine rn ?_; exact ⟨false, _, ⟨hm, (Ext.refl _), hS, rfl⟩, rfl⟩

theorem zhT : Enters Tryz.prog 270 := ⟨_, _, Tryz.func270, rfl, by kernel_rfl⟩
def z6D (fuel : Nat) (x0 : Int) : Option (Bool) := ((z5L fuel x0).bind fun r1 => (if r1 = true then (if (x0 != 1) = true then (if (x0 != 5) = true then some (x0 != 6) else some false) else some false) else some false))

theorem zbU {W w : World} (hE : Ext W w) {x0 : Int}  {fuel : Nat} {r : Bool} (hm : z6D fuel x0 = some r) :
  Calls Tryz.prog 270 ⟨[.int .i64 x0]⟩ w (Ret fun v w8 => v = .bool r ∧ St w w8 []) := by
 refine into Tryz.func270 17 _ ?_; unfold z6D at hm; have hS := St.start w; refine sq <| rg <| rr 1 ?_; refine rn <| sq <| rg <| rr 1 ?_; obtain ⟨r1, hx2, hm⟩ := bS hm; refine ca zcH (z9b (hE.trans hS.ext)  hx2) (fun v3 w4 hR5 => ?_); obtain ⟨rfl, hR6⟩ := hR5; have hS7 := hS.join hR6; refine rr 1 ?_; refine rb 5 hm (fun hm => ?_) (fun hm => ?_)
 ·refine rr 4 ?_; refine rb 9 hm (fun hm => ?_) (fun hm => ?_)
  ·refine rr 4 ?_; refine rb 13 hm (fun hm => ?_) (fun hm => ?_)
   ·refine rr 4 ?_; refine rn <| rt ?_; cases hm; exact ⟨_, .cons (.tmp rfl) .nil, rfl, hS7⟩
   ·refine rr 4 ?_; refine rn <| rt ?_; cases hm; exact ⟨_, .cons (.tmp rfl) .nil, rfl, hS7⟩
  ·refine rr 8 ?_; refine rn <| rt ?_; cases hm; exact ⟨_, .cons (.tmp rfl) .nil, rfl, hS7⟩
 ·refine rr 12 ?_; refine rn <| rt ?_; cases hm; exact ⟨_, .cons (.tmp rfl) .nil, rfl, hS7⟩

theorem zhS : Enters Tryz.prog 271 := ⟨_, _, Tryz.func271, rfl, by kernel_rfl⟩
def z70 (fuel : Nat) (x0 : Int) : Option (Bool) := (if (decide (x0 ≥ 0)) = true then some (decide (x0 ≤ 8)) else some false)

theorem zcB {W w : World} (hE : Ext W w) {x0 : Int}  {fuel : Nat} {r : Bool} (hm : z70 fuel x0 = some r) :
  Calls Tryz.prog 271 ⟨[.int .i64 x0]⟩ w (Ret fun v w8 => v = .bool r ∧ St w w8 []) := by
 refine into Tryz.func271 9 _ ?_; unfold z70 at hm; have hS := St.start w; refine sq <| rg <| rr 1 ?_; refine rn <| sq <| rg <| rr 3 ?_; refine rb 5 hm (fun hm => ?_) (fun hm => ?_)
 ·refine rr 4 ?_; refine rn <| rt ?_; cases hm; exact ⟨_, .cons (.tmp rfl) .nil, rfl, hS⟩
 ·refine rr 4 ?_; refine rn <| rt ?_; cases hm; exact ⟨_, .cons (.tmp rfl) .nil, rfl, hS⟩

theorem zi2 : Enters Tryz.prog 257 := ⟨_, _, Tryz.func257, rfl, by kernel_rfl⟩
def z5Y (fuel : Nat) (x0 : Int) (x1 : Int) : Option (Bool) := ((z5L fuel x0).bind fun r1 => (if r1 = true then (if (x1 == 0) = true then some true else ((z6D fuel x0).bind fun r12 => (if r12 = true then ((z70 fuel x1).bind fun r20 => some r20) else some false))) else some false))

theorem zbs {W w : World} (hE : Ext W w) {x0 : Int} {x1 : Int}  {fuel : Nat} {r : Bool} (hm : z5Y fuel x0 x1 = some r) :
  Calls Tryz.prog 257 ⟨[.int .i64 x0, .int .i64 x1]⟩ w (Ret fun v w8 => v = .bool r ∧ St w w8 []) := by
 refine into Tryz.func257 19 _ ?_; unfold z5Y at hm; have hS := St.start w; refine sq <| rg <| rr 1 ?_; refine rn <| sq <| rg <| rr 1 ?_; obtain ⟨r1, hx2, hm⟩ := bS hm; refine ca zcH (z9b (hE.trans hS.ext)  hx2) (fun v3 w4 hR5 => ?_); obtain ⟨rfl, hR6⟩ := hR5; have hS7 := hS.join hR6; refine rr 1 ?_; refine rb 7 hm (fun hm => ?_) (fun hm => ?_)
 ·refine rr 3 ?_; refine rb 10 hm (fun hm => ?_) (fun hm => ?_)
  ·refine rr 9 ?_; refine rn <| rt ?_; cases hm; exact ⟨_, .cons (.tmp rfl) .nil, rfl, hS7⟩
  ·refine rr 1 ?_; obtain ⟨r12, hx13, hm⟩ := bS hm; refine ca zhT (zbU (hE.trans hS7.ext)  hx13) (fun v14 w15 hR16 => ?_); obtain ⟨rfl, hR17⟩ := hR16; have hS18 := hS7.join hR17; refine rr 1 ?_; refine rb 13 hm (fun hm => ?_) (fun hm => ?_)
   ·refine rr 1 ?_; obtain ⟨r20, hx21, hm⟩ := bS hm; refine ca zhS (zcB (hE.trans hS18.ext)  hx21) (fun v22 w23 hR24 => ?_); obtain ⟨rfl, hR25⟩ := hR24; have hS26 := hS18.join hR25; refine rr 4 ?_; refine rn <| rt ?_; cases hm; exact ⟨_, .cons (.tmp rfl) .nil, rfl, hS26⟩
   ·refine rr 6 ?_; refine rn <| rt ?_; cases hm; exact ⟨_, .cons (.tmp rfl) .nil, rfl, hS18⟩
 ·refine rr 12 ?_; refine rn <| rt ?_; cases hm; exact ⟨_, .cons (.tmp rfl) .nil, rfl, hS7⟩

theorem ziG : Enters Tryz.prog 185 := ⟨_, _, Tryz.func185, rfl, by kernel_rfl⟩
def z2j (fuel : Nat) (t2 : Unit) : Option Int := some (-1)
def z14 (fuel : Nat) (x0 : (List Int)) (x1 : Int → Option Bool) (s1 : Int) : Option (Rd (Int) (Unit) (Int)) := (if (decide (s1 < (x0.length : Int))) = true then ((idx x0 s1).bind fun x19 => ((x1 x19).bind fun r25 => (if r25 = true then some (.ret s1) else some (.next (w64 (s1 + 1)))))) else some (.brk ()))
def z1J (fuel : Nat) (x0 : (List Int)) (x1 : Int → Option Bool) : Option (Int) := ((iter (z14 fuel x0 x1) fuel 0).bind fun o => aft o (z2j fuel))

theorem z7Y {W w : World} (hE : Ext W w) {A0_ : Option Addr} {k0_ : Nat} {x0 : (List Int)} {f1_ : Nat} {u1_ : List Value} {x1 : Int → Option Bool} (h0_ : ty29.ro W [sl A0_ x0 k0_] x0) (h1_ : Enters Tryz.prog f1_ ∧ ∀ {w9 : World}, Ext W w9 → ∀ {z0 : Int} {y9 : Bool}, x1 z0 = some y9 → Calls Tryz.prog f1_ ⟨[.int .i64 z0] ++ u1_⟩ w9 (Ret fun v w8 => v = .bool y9 ∧ St w9 w8 [])) {fuel : Nat} {r : Int} (hm : z1J fuel x0 x1 = some r) :
  Calls Tryz.prog 185 ⟨[sl A0_ x0 k0_, .func (.func f1_) #[] ⟨u1_⟩]⟩ w (Ret fun v w8 => v = .int .i64 r ∧ St w w8 []) := by
 refine into Tryz.func185 19 _ ?_; unfold z1J at hm; have hS := St.start w; refine sq <| rg <| rr 1 ?_; refine rn <| sq <| sq <| rg <| rr 3 ?_; refine rn ?_; obtain ⟨o10, hl11, hm⟩ := bS hm; refine ct (fun (t2 : Unit) F w9 => o10 = .inl t2 ∧ Ext w w9 ∧ St w w9 [] ∧ F = []) ?_ ?_
 ·rintro t2 F w7 ⟨ho13, hE6, hS12, rfl⟩; subst ho13; rw [z8] at hm; unfold z2j at hm; refine sq <| rg <| rr 1 ?_; refine rn <| rt ?_; cases hm; exact ⟨_, .cons (.tmp rfl) .nil, rfl, hS12⟩
 ·refine bk <| wk [0, 1, 7, 8] ?_; refine it (fun (s1 : Int) F w9 => Ext w w9 ∧ St w w9 [] ∧ F = [(0, sl A0_ x0 k0_), (1, .func (.func f1_) #[] ⟨u1_⟩), (7, .int .i64 (x0.length : Int)), (8, .int .i64 s1)]) hl11 ⟨(Ext.refl _), hS, rfl⟩ ?_; rintro s1 F w18 _ o16 ⟨hE5, hS17, rfl⟩ hb14 ho15; unfold z14 at hb14; refine sq <| rg <| rr 1 ?_; refine rn <| sq <| ci hb14 (fun hb14 => ?_) (fun hb14 => ?_)
  ·refine sp <| sq <| bk <| sq <| rg <| rr 2 ?_; refine rn <| sq <| rg <| rr 3 ?_; obtain ⟨x19, hx20, hb14⟩ := bS hb14; refine ix (hE.trans hS17.ext) h0_ hx20 (fun p21 es22 ha23 hr24 => ?_); cases hr24; refine l1 (At.ext (hE.trans hS17.ext) ha23) 0 ?_; obtain ⟨r25, hx26, hb14⟩ := bS hb14; refine ca h1_.1 (h1_.2 (hE.trans hS17.ext)  hx26) (fun v27 w28 hR29 => ?_); obtain ⟨rfl, hR30⟩ := hR29; have hS31 := hS17.join hR30; refine rn <| ci hb14 (fun hb14 => ?_) (fun hb14 => ?_)
   ·refine sq <| rg <| rr 2 ?_; refine rn <| rt ?_; cases hb14; cases ho15; have hm : some _ = some _ := hm; cases hm; exact ⟨_, .cons (.tmp rfl) .nil, rfl, hS31⟩
   ·refine sp <| rg <| rr 2 ?_; refine rn ?_; cases hb14; exact ⟨_, _, rfl, ⟨(hE5.trans hR30.ext), hS31, rfl⟩, rfl⟩
  ·refine xt ?_; cases hb14; exact ⟨_, _, ⟨ho15, hE5, hS17, rfl⟩, rfl⟩

theorem zfb : Enters Tryz.prog 131 := ⟨_, _, Tryz.func131, rfl, by kernel_rfl⟩
def zM (fuel : Nat) (x0 : (List Int)) (x1 : Int → Option Bool) : Option (Bool) := ((z1J fuel x0 x1).bind fun r1 => some (decide (r1 ≥ 0)))

theorem z49 {W w : World} (hE : Ext W w) {A0_ : Option Addr} {k0_ : Nat} {x0 : (List Int)} {f1_ : Nat} {u1_ : List Value} {x1 : Int → Option Bool} (h0_ : ty29.ro W [sl A0_ x0 k0_] x0) (h1_ : Enters Tryz.prog f1_ ∧ ∀ {w9 : World}, Ext W w9 → ∀ {z0 : Int} {y9 : Bool}, x1 z0 = some y9 → Calls Tryz.prog f1_ ⟨[.int .i64 z0] ++ u1_⟩ w9 (Ret fun v w8 => v = .bool y9 ∧ St w9 w8 [])) {fuel : Nat} {r : Bool} (hm : zM fuel x0 x1 = some r) :
  Calls Tryz.prog 131 ⟨[sl A0_ x0 k0_, .func (.func f1_) #[] ⟨u1_⟩]⟩ w (Ret fun v w8 => v = .bool r ∧ St w w8 []) := by
 refine into Tryz.func131 9 _ ?_; unfold zM at hm; have hS := St.start w; refine sq <| rg <| rr 1 ?_; refine rn <| sq <| rg <| rr 2 ?_; obtain ⟨r1, hx2, hm⟩ := bS hm; refine ca ziG (z7Y (hE.trans hS.ext) h0_ h1_ hx2) (fun v3 w4 hR5 => ?_); obtain ⟨rfl, hR6⟩ := hR5; have hS7 := hS.join hR6; refine rr 2 ?_; refine rn <| rt ?_; cases hm; exact ⟨_, .cons (.tmp rfl) .nil, rfl, hS7⟩

theorem zeT : Enters Tryz.prog 259 := ⟨_, _, Tryz.func259, rfl, by kernel_rfl⟩
def z3G (fuel : Nat) (x0 : Int) : Option (Bool) := (if (decide (x0 ≥ 0)) = true then some (decide (x0 < 24)) else some false)

theorem z96 {W w : World} (hE : Ext W w) {x0 : Int}  {fuel : Nat} {r : Bool} (hm : z3G fuel x0 = some r) :
  Calls Tryz.prog 259 ⟨[.int .i64 x0]⟩ w (Ret fun v w8 => v = .bool r ∧ St w w8 []) := by
 refine into Tryz.func259 9 _ ?_; unfold z3G at hm; have hS := St.start w; refine sq <| rg <| rr 1 ?_; refine rn <| sq <| rg <| rr 3 ?_; refine rb 5 hm (fun hm => ?_) (fun hm => ?_)
 ·refine rr 4 ?_; refine rn <| rt ?_; cases hm; exact ⟨_, .cons (.tmp rfl) .nil, rfl, hS⟩
 ·refine rr 4 ?_; refine rn <| rt ?_; cases hm; exact ⟨_, .cons (.tmp rfl) .nil, rfl, hS⟩

theorem zi1 : Enters Tryz.prog 258 := ⟨_, _, Tryz.func258, rfl, by kernel_rfl⟩
def z4Y (fuel : Nat) (x0 : Int) : Option (Bool) := ((z3G fuel x0).bind fun r1 => some (!r1))

theorem za3 {W w : World} (hE : Ext W w) {x0 : Int}  {fuel : Nat} {r : Bool} (hm : z4Y fuel x0 = some r) :
  Calls Tryz.prog 258 ⟨[.int .i64 x0]⟩ w (Ret fun v w8 => v = .bool r ∧ St w w8 []) := by
 refine into Tryz.func258 6 _ ?_; unfold z4Y at hm; have hS := St.start w; refine sq <| rg <| rr 1 ?_; refine rn <| sq <| rg <| rr 1 ?_; obtain ⟨r1, hx2, hm⟩ := bS hm; refine ca zeT (z96 (hE.trans hS.ext)  hx2) (fun v3 w4 hR5 => ?_); obtain ⟨rfl, hR6⟩ := hR5; have hS7 := hS.join hR6; refine rr 2 ?_; refine rn <| rt ?_; cases hm; exact ⟨_, .cons (.tmp rfl) .nil, rfl, hS7⟩

theorem zeS : Enters Tryz.prog 260 := ⟨_, _, Tryz.func260, rfl, by kernel_rfl⟩
def z7o (fuel : Nat) (x0 : Int) : Option (Bool) := (if (decide (x0 ≥ (-2147483648))) = true then some (decide (x0 ≤ 2147483647)) else some false)

theorem zb7 {W w : World} (hE : Ext W w) {x0 : Int}  {fuel : Nat} {r : Bool} (hm : z7o fuel x0 = some r) :
  Calls Tryz.prog 260 ⟨[.int .i64 x0]⟩ w (Ret fun v w8 => v = .bool r ∧ St w w8 []) := by
 refine into Tryz.func260 9 _ ?_; unfold z7o at hm; have hS := St.start w; refine sq <| rg <| rr 1 ?_; refine rn <| sq <| rg <| rr 3 ?_; refine rb 5 hm (fun hm => ?_) (fun hm => ?_)
 ·refine rr 4 ?_; refine rn <| rt ?_; cases hm; exact ⟨_, .cons (.tmp rfl) .nil, rfl, hS⟩
 ·refine rr 4 ?_; refine rn <| rt ?_; cases hm; exact ⟨_, .cons (.tmp rfl) .nil, rfl, hS⟩

theorem zeR : Enters Tryz.prog 261 := ⟨_, _, Tryz.func261, rfl, by kernel_rfl⟩
def z3F (fuel : Nat) (x0 : Int) : Option (Bool) := (if (decide (x0 ≥ 1)) = true then some (decide (x0 ≤ 6)) else some false)

theorem z95 {W w : World} (hE : Ext W w) {x0 : Int}  {fuel : Nat} {r : Bool} (hm : z3F fuel x0 = some r) :
  Calls Tryz.prog 261 ⟨[.int .i64 x0]⟩ w (Ret fun v w8 => v = .bool r ∧ St w w8 []) := by
 refine into Tryz.func261 9 _ ?_; unfold z3F at hm; have hS := St.start w; refine sq <| rg <| rr 1 ?_; refine rn <| sq <| rg <| rr 3 ?_; refine rb 5 hm (fun hm => ?_) (fun hm => ?_)
 ·refine rr 4 ?_; refine rn <| rt ?_; cases hm; exact ⟨_, .cons (.tmp rfl) .nil, rfl, hS⟩
 ·refine rr 4 ?_; refine rn <| rt ?_; cases hm; exact ⟨_, .cons (.tmp rfl) .nil, rfl, hS⟩

theorem zii : Enters Tryz.prog 233 := ⟨_, _, Tryz.func233, rfl, by kernel_rfl⟩
def z3p (fuel : Nat) (t28 : Bool × Bool) : Option Bool := (if t28.1 = true then some t28.2 else some false)
def z3o (fuel : Nat) (t41 : Bool × Bool) : Option Bool := z3p fuel (t41.1, t41.2)
def z3n (fuel : Nat) (t76 : Bool × Bool) : Option Bool := z3o fuel (t76.1, t76.2)
def z3m (fuel : Nat) (x0 : D.Agent) (t81 : Bool) : Option Bool := z3n fuel (t81, ((x0.Data.length : Int) == 0))
def z3k (fuel : Nat) (t87 : Bool × Bool) : Option Bool := z3n fuel (t87.1, t87.2)
def z2s (fuel : Nat) (x0 : D.Agent) (t92 : Bool) : Option Bool := z3k fuel ((x0.Value == 0), t92)
def z3j (fuel : Nat) (t99 : Bool × Bool) : Option Bool := z3k fuel (t99.1, t99.2)
def z3i (fuel : Nat) (x0 : D.Agent) (t104 : Bool) : Option Bool := z3j fuel ((x0.Value == 0), t104)
def z2N (fuel : Nat) (x0 : D.Agent) (t110 : Bool) : Option Bool := z3j fuel (t110, ((x0.Data.length : Int) == 0))
def z1H (fuel : Nat) (x0 : D.Agent) (t14 : Bool) : Option Bool := (if t14 = true then some false else ((zM fuel x0.Data (fun y0 => z4Y fuel y0)).bind fun r21 => (if (x0.Kind == 6) = true then ((z7o fuel x0.Value).bind fun r34 => z3p fuel (r34, ((x0.Data.length : Int) == 0))) else (if (x0.Kind == 7) = true then ((z3F fuel x0.Value).bind fun r46 => z3o fuel (r46, ((x0.Data.length : Int) == 0))) else (if (x0.Kind == 8) = true then ((z3F fuel x0.Value).bind fun r53 => (if r53 = true then (if ((x0.Data.length : Int) == 1) = true then ((idx x0.Data 0).bind fun x62 => ((z7o fuel x62).bind fun r69 => some r69)) else some false) else some false)) else (if (x0.Kind == 9) = true then (if (decide (x0.Value ≥ 0)) = true then z3m fuel x0 (decide (x0.Value < 4)) else z3m fuel x0 false) else (if (x0.Kind == 10) = true then (if (decide ((x0.Data.length : Int) ≥ 1)) = true then (if (decide ((x0.Data.length : Int) ≤ 4)) = true then z2s fuel x0 (!r21) else z2s fuel x0 false) else z2s fuel x0 false) else (if (x0.Kind == 11) = true then (if ((x0.Data.length : Int) == 2) = true then z3i fuel x0 (!r21) else z3i fuel x0 false) else (if (x0.Kind == 12) = true then ((z3G fuel x0.Value).bind fun r115 => z2N fuel x0 r115) else z2N fuel x0 (x0.Value == 0))))))))))
def z2E (fuel : Nat) (x0 : D.Agent) : Option (Bool) := (if ((x0.Ports.length : Int) == 0) = true then z1H fuel x0 true else ((z6B fuel x0.Kind (x0.Ports.length : Int)).bind fun r125 => ((z65 fuel x0.Kind r125).bind fun r132 => (if (r132 != (x0.Ports.length : Int)) = true then z1H fuel x0 true else ((z5Y fuel x0.Kind x0.Level).bind fun r140 => z1H fuel x0 (!r140))))))

theorem zb5 {W w : World} (hE : Ext W w) {c0_ : List Value} {x0 : D.Agent} (h0_ : zaq.ro W c0_ x0) {fuel : Nat} {r : Bool} (hm : z2E fuel x0 = some r) :
  Calls Tryz.prog 233 ⟨[.agg ⟨c0_⟩]⟩ w (Ret fun v w8 => v = .bool r ∧ St w w8 []) := by
 obtain ⟨A1, k2, A4, k5, e7, h3, h6⟩ := zad h0_; subst e7; refine into Tryz.func233 117 _ ?_; unfold z2E at hm; have hS := St.start w; refine sq <| rg <| nw hS (fun g10 w11 e12 hS13 => ?_); refine rr 1 ?_; refine rn <| sq <| sq <| ct (fun (t14 : Bool) F w9 => z1H fuel x0 t14 = some r ∧ Ext w11 w9 ∧ St w w9 [Box g10 [.int .i64 x0.Kind, .int .i64 x0.Level, .int .i64 x0.Value, sl A1 x0.Data k2, sl A4 x0.Ports k5] 262] ∧ F = [(1, .pointer (some ⟨g10, 0, none⟩)), (32, .bool t14)]) ?_ ?_
 ·rintro t14 F w17 ⟨hm, hE15, hS16, rfl⟩; unfold z1H at hm; refine ci hm (fun hm => ?_) (fun hm => ?_)
  ·refine sq <| rg <| rr 1 ?_; refine rn <| rt ?_; cases hm; exact ⟨_, .cons (.tmp rfl) .nil, rfl, (hS16.taken 0)⟩
  ·refine sp <| sq <| dn 0 mixed 9 [([], 511), ([0], 510), ([1], 509), ([], 511), ([3], 503), ([4], 495), ([5], 479), ([2, 0, 1, 2], 507), ([6, 7, 0, 1, 2, 3, 4, 5, 6, 7], 447)] hS16.ext (fun s_19 => ?_); have hS20 := hS16.step (Ext.draw _); refine dr 7 s_19 [0, 3] ?_; refine dl s_19 1 ((hS16.bring 0 rfl).box) 2 ?_; refine dr 4 s_19 [2, 7] ?_; refine dl s_19 4 ((hS16.bring 0 rfl).box) 3 ?_; refine dr 0 s_19 [5, 6, 8] ?_; refine dw [1, 3, 4] ?_; refine dd s_19 ?_; refine sq <| rg <| rr 1 ?_; refine l1 ((hS20.bring 0 rfl).box) 3 ?_; obtain ⟨r21, hx22, hm⟩ := bS hm; refine ca zfb (z49 (hE.trans hS20.ext) h3 ⟨zi1, fun e9 => (fun  hx9 => za3 (Ext.refl _)  hx9)⟩ hx22) (fun v23 w24 hR25 => ?_); obtain ⟨rfl, hR26⟩ := hR25; have hS27 := hS20.join hR26; refine rr 2 ?_; refine rn <| sq <| sq <| rg <| rr 1 ?_; refine l1 ((hS27.bring 0 rfl).box) 0 ?_; refine rn <| bk <| sq <| rg <| rr 2 ?_; refine rn <| ct (fun (t28 : Bool × Bool) F w9 => z3p fuel t28 = some r ∧ Ext w24 w9 ∧ St w w9 [Box g10 [.int .i64 x0.Kind, .int .i64 x0.Level, .int .i64 x0.Value, sl A1 x0.Data k2, sl A4 x0.Ports k5] 262] ∧ F = [(3, .bool t28.1), (4, .bool t28.2)]) ?_ ?_
   ·rintro t28 F w31 ⟨hm, hE29, hS30, rfl⟩; unfold z3p at hm; refine sq <| rg <| rr 2 ?_; refine rb 114 hm (fun hm => ?_) (fun hm => ?_)
    ·refine rr 3 ?_; refine rn <| rt ?_; cases hm; exact ⟨_, .cons (.tmp rfl) .nil, rfl, (hS30.taken 0)⟩
    ·refine rr 3 ?_; refine rn <| rt ?_; cases hm; exact ⟨_, .cons (.tmp rfl) .nil, rfl, (hS30.taken 0)⟩
   ·refine ci hm (fun hm => ?_) (fun hm => ?_)
    ·refine rg <| rr 1 ?_; refine l1 ((hS27.bring 0 rfl).box) 2 ?_; obtain ⟨r34, hx35, hm⟩ := bS hm; refine ca zeS (zb7 (hE.trans hS27.ext)  hx35) (fun v36 w37 hR38 => ?_); obtain ⟨rfl, hR39⟩ := hR38; have hS40 := hS27.join hR39; refine rr 1 ?_; refine rn ?_; exact ⟨(r34, ((x0.Data.length : Int) == 0)), _, ⟨hm, hR39.ext, hS40, rfl⟩, rfl⟩
    ·refine sq <| rg <| rr 2 ?_; refine rn <| ct (fun (t41 : Bool × Bool) F w9 => z3o fuel t41 = some r ∧ Ext w24 w9 ∧ St w w9 [Box g10 [.int .i64 x0.Kind, .int .i64 x0.Level, .int .i64 x0.Value, sl A1 x0.Data k2, sl A4 x0.Ports k5] 262] ∧ F = [(3, .bool t41.1), (4, .bool t41.2)]) ?_ ?_
     ·rintro t41 F w44 ⟨hm, hE42, hS43, rfl⟩; unfold z3o at hm; exact ⟨(t41.1, t41.2), _, ⟨hm, hE42, hS43, rfl⟩, rfl⟩
     ·refine ci hm (fun hm => ?_) (fun hm => ?_)
      ·refine rg <| rr 1 ?_; refine l1 ((hS27.bring 0 rfl).box) 2 ?_; obtain ⟨r46, hx47, hm⟩ := bS hm; refine ca zeR (z95 (hE.trans hS27.ext)  hx47) (fun v48 w49 hR50 => ?_); obtain ⟨rfl, hR51⟩ := hR50; have hS52 := hS27.join hR51; refine rr 1 ?_; refine rn ?_; exact ⟨(r46, ((x0.Data.length : Int) == 0)), _, ⟨hm, hR51.ext, hS52, rfl⟩, rfl⟩
      ·refine sq <| rg <| rr 2 ?_; refine rn <| ci hm (fun hm => ?_) (fun hm => ?_)
       ·refine sq <| rg <| rr 1 ?_; refine l1 ((hS27.bring 0 rfl).box) 2 ?_; obtain ⟨r53, hx54, hm⟩ := bS hm; refine ca zeR (z95 (hE.trans hS27.ext)  hx54) (fun v55 w56 hR57 => ?_); obtain ⟨rfl, hR58⟩ := hR57; have hS59 := hS27.join hR58; refine rr 1 ?_; refine rb 61 hm (fun hm => ?_) (fun hm => ?_)
        ·refine rr 1 ?_; refine l1 ((hS59.bring 0 rfl).box) 3 ?_; refine rr 4 ?_; refine rb 67 hm (fun hm => ?_) (fun hm => ?_)
         ·refine rr 1 ?_; refine l1 ((hS59.bring 0 rfl).box) 3 ?_; obtain ⟨x62, hx63, hm⟩ := bS hm; refine ix (hE.trans hS59.ext) h3 hx63 (fun p65 es66 ha67 hr68 => ?_); cases hr68; refine l1 (At.ext (hE.trans hS59.ext) ha67) 0 ?_; obtain ⟨r69, hx70, hm⟩ := bS hm; refine ca zeS (zb7 (hE.trans hS59.ext)  hx70) (fun v71 w72 hR73 => ?_); obtain ⟨rfl, hR74⟩ := hR73; have hS75 := hS59.join hR74; refine rr 2 ?_; refine rn <| rt ?_; cases hm; exact ⟨_, .cons (.tmp rfl) .nil, rfl, (hS75.taken 0)⟩
         ·refine rr 7 ?_; refine rn <| rt ?_; cases hm; exact ⟨_, .cons (.tmp rfl) .nil, rfl, (hS59.taken 0)⟩
        ·refine rr 13 ?_; refine rn <| rt ?_; cases hm; exact ⟨_, .cons (.tmp rfl) .nil, rfl, (hS59.taken 0)⟩
       ·refine sq <| rg <| rr 2 ?_; refine rn <| ct (fun (t76 : Bool × Bool) F w9 => z3n fuel t76 = some r ∧ Ext w24 w9 ∧ St w w9 [Box g10 [.int .i64 x0.Kind, .int .i64 x0.Level, .int .i64 x0.Value, sl A1 x0.Data k2, sl A4 x0.Ports k5] 262] ∧ F = [(3, .bool t76.1), (4, .bool t76.2)]) ?_ ?_
        ·rintro t76 F w79 ⟨hm, hE77, hS78, rfl⟩; unfold z3n at hm; exact ⟨(t76.1, t76.2), _, ⟨hm, hE77, hS78, rfl⟩, rfl⟩
        ·refine ci hm (fun hm => ?_) (fun hm => ?_)
         ·refine ct (fun (t81 : Bool) F w9 => z3m fuel x0 t81 = some r ∧ Ext w24 w9 ∧ St w w9 [Box g10 [.int .i64 x0.Kind, .int .i64 x0.Level, .int .i64 x0.Value, sl A1 x0.Data k2, sl A4 x0.Ports k5] 262] ∧ F = [(3, .bool t81), (4, .bool ((x0.Data.length : Int) == 0))]) ?_ ?_
          ·rintro t81 F w84 ⟨hm, hE82, hS83, rfl⟩; unfold z3m at hm; exact ⟨(t81, ((x0.Data.length : Int) == 0)), _, ⟨hm, hE82, hS83, rfl⟩, rfl⟩
          ·refine rg <| rr 1 ?_; refine l1 ((hS27.bring 0 rfl).box) 2 ?_; refine rr 2 ?_; refine rb 79 hm (fun hm => ?_) (fun hm => ?_)
           ·refine rr 1 ?_; refine l1 ((hS27.bring 0 rfl).box) 2 ?_; refine rr 3 ?_; refine rn ?_; exact ⟨decide (x0.Value < 4), _, ⟨hm, (Ext.refl _), hS27, rfl⟩, rfl⟩
           ·refine rr 5 ?_; refine rn ?_; exact ⟨false, _, ⟨hm, (Ext.refl _), hS27, rfl⟩, rfl⟩
         ·refine sq <| rg <| rr 2 ?_; refine rn <| ct (fun (t87 : Bool × Bool) F w9 => z3k fuel t87 = some r ∧ Ext w24 w9 ∧ St w w9 [Box g10 [.int .i64 x0.Kind, .int .i64 x0.Level, .int .i64 x0.Value, sl A1 x0.Data k2, sl A4 x0.Ports k5] 262] ∧ F = [(3, .bool t87.1), (4, .bool t87.2)]) ?_ ?_
          ·rintro t87 F w90 ⟨hm, hE88, hS89, rfl⟩; unfold z3k at hm; exact ⟨(t87.1, t87.2), _, ⟨hm, hE88, hS89, rfl⟩, rfl⟩
          ·refine ci hm (fun hm => ?_) (fun hm => ?_)
           ·refine ct (fun (t92 : Bool) F w9 => z2s fuel x0 t92 = some r ∧ Ext w24 w9 ∧ St w w9 [Box g10 [.int .i64 x0.Kind, .int .i64 x0.Level, .int .i64 x0.Value, sl A1 x0.Data k2, sl A4 x0.Ports k5] 262] ∧ F = [(3, .bool (x0.Value == 0)), (4, .bool t92)]) ?_ ?_
            ·rintro t92 F w95 ⟨hm, hE93, hS94, rfl⟩; unfold z2s at hm; exact ⟨((x0.Value == 0), t92), _, ⟨hm, hE93, hS94, rfl⟩, rfl⟩
            ·refine rg <| rr 1 ?_; refine l1 ((hS27.bring 0 rfl).box) 3 ?_; refine rr 3 ?_; refine rb 90 hm (fun hm => ?_) (fun hm => ?_)
             ·refine rr 1 ?_; refine l1 ((hS27.bring 0 rfl).box) 3 ?_; refine rr 4 ?_; refine rb 96 hm (fun hm => ?_) (fun hm => ?_)
              ·refine rr 3 ?_; refine rn ?_; exact ⟨!r21, _, ⟨hm, (Ext.refl _), hS27, rfl⟩, rfl⟩
              ·refine rr 3 ?_; refine rn ?_; exact ⟨false, _, ⟨hm, (Ext.refl _), hS27, rfl⟩, rfl⟩
             ·refine rr 9 ?_; refine rn ?_; exact ⟨false, _, ⟨hm, (Ext.refl _), hS27, rfl⟩, rfl⟩
           ·refine sq <| rg <| rr 2 ?_; refine rn <| ct (fun (t99 : Bool × Bool) F w9 => z3j fuel t99 = some r ∧ Ext w24 w9 ∧ St w w9 [Box g10 [.int .i64 x0.Kind, .int .i64 x0.Level, .int .i64 x0.Value, sl A1 x0.Data k2, sl A4 x0.Ports k5] 262] ∧ F = [(3, .bool t99.1), (4, .bool t99.2)]) ?_ ?_
            ·rintro t99 F w102 ⟨hm, hE100, hS101, rfl⟩; unfold z3j at hm; exact ⟨(t99.1, t99.2), _, ⟨hm, hE100, hS101, rfl⟩, rfl⟩
            ·refine ci hm (fun hm => ?_) (fun hm => ?_)
             ·refine ct (fun (t104 : Bool) F w9 => z3i fuel x0 t104 = some r ∧ Ext w24 w9 ∧ St w w9 [Box g10 [.int .i64 x0.Kind, .int .i64 x0.Level, .int .i64 x0.Value, sl A1 x0.Data k2, sl A4 x0.Ports k5] 262] ∧ F = [(3, .bool (x0.Value == 0)), (4, .bool t104)]) ?_ ?_
              ·rintro t104 F w107 ⟨hm, hE105, hS106, rfl⟩; unfold z3i at hm; exact ⟨((x0.Value == 0), t104), _, ⟨hm, hE105, hS106, rfl⟩, rfl⟩
              ·refine rg <| rr 1 ?_; refine l1 ((hS27.bring 0 rfl).box) 3 ?_; refine rr 3 ?_; refine rb 105 hm (fun hm => ?_) (fun hm => ?_)
               ·refine rr 3 ?_; refine rn ?_; exact ⟨!r21, _, ⟨hm, (Ext.refl _), hS27, rfl⟩, rfl⟩
               ·refine rr 3 ?_; refine rn ?_; exact ⟨false, _, ⟨hm, (Ext.refl _), hS27, rfl⟩, rfl⟩
             ·refine sq <| rg <| rr 2 ?_; refine rn <| ct (fun (t110 : Bool) F w9 => z2N fuel x0 t110 = some r ∧ Ext w24 w9 ∧ St w w9 [Box g10 [.int .i64 x0.Kind, .int .i64 x0.Level, .int .i64 x0.Value, sl A1 x0.Data k2, sl A4 x0.Ports k5] 262] ∧ F = [(3, .bool t110), (4, .bool ((x0.Data.length : Int) == 0))]) ?_ ?_
              ·rintro t110 F w113 ⟨hm, hE111, hS112, rfl⟩; unfold z2N at hm; exact ⟨(t110, ((x0.Data.length : Int) == 0)), _, ⟨hm, hE111, hS112, rfl⟩, rfl⟩
              ·refine ci hm (fun hm => ?_) (fun hm => ?_)
               ·refine rg <| rr 1 ?_; refine l1 ((hS27.bring 0 rfl).box) 2 ?_; obtain ⟨r115, hx116, hm⟩ := bS hm; refine ca zeT (z96 (hE.trans hS27.ext)  hx116) (fun v117 w118 hR119 => ?_); obtain ⟨rfl, hR120⟩ := hR119; have hS121 := hS27.join hR120; refine rr 1 ?_; refine rn ?_; exact ⟨r115, _, ⟨hm, hR120.ext, hS121, rfl⟩, rfl⟩
               ·refine sp ?_; exact ⟨(x0.Value == 0), _, ⟨hm, (Ext.refl _), hS27, rfl⟩, rfl⟩
 ·refine dn 0 mixed 27 [([], 134217727), ([0], 134217726), ([1], 134217725), ([2], 134217723), ([3], 134217719), ([4], 134217711), ([5, 4], 134217679), ([4], 134217711), ([7, 4], 134217583), ([4], 134217711), ([9, 4], 134217199), ([10, 4], 134216687), ([8, 11, 4, 4], 134215407), ([6, 12, 12, 4], 134213551), ([4], 134217711), ([14, 4], 134201327), ([15, 4], 134184943), ([13, 16, 4], 134143983), ([4, 17], 134086639), ([18, 13], 133955583), ([19], 133693439), ([20, 19], 132644863), ([19], 133693439), ([22, 19], 129499135), ([21, 23, 19, 19], 123207679), ([24, 19], 116916223), ([19, 25], 100139007)] hS13.ext (fun s_122 => ?_); have hS123 := hS13.step (Ext.draw _); refine dr 26 s_122 [0] ?_; refine dl s_122 1 ((hS13.bring 0 rfl).box) 4 ?_; refine dr 22 s_122 [2, 3, 4] ?_; refine dw [1, 10] ?_; refine db 10 hm (fun hm => ?_) (fun hm => ?_)
  ·refine dr 0 s_122 [5, 6, 7, 8, 9, 10, 11, 12, 13, 14, 15, 16, 17, 18, 19, 20, 21, 22, 23, 24, 25, 26] ?_; refine dw [1, 32] ?_; refine dd s_122 ?_; exact ⟨true, _, ⟨hm, (Ext.draw _), hS123, rfl⟩, rfl⟩
  ·refine dr 18 s_122 [5, 7, 9, 14] ?_; refine dl s_122 6 ((hS13.bring 0 rfl).box) 0 ?_; refine dl s_122 8 ((hS13.bring 0 rfl).box) 0 ?_; refine dl s_122 10 ((hS13.bring 0 rfl).box) 4 ?_; refine dr 14 s_122 [11] ?_; refine dl s_122 15 ((hS13.bring 0 rfl).box) 4 ?_; refine dr 12 s_122 [16] ?_; refine dw [1, 10, 12, 14, 17, 22] ?_; obtain ⟨r125, hx126, hm⟩ := bS hm; refine o1 s_122 12 (mc s_122 zi3 (zbS (hE.trans hS123.ext)  hx126) (fun v127 w128 hR129 => ?_)); obtain ⟨rfl, hR130⟩ := hR129; refine ⟨hR130.ext, ?_⟩; have hS131 := hS123.join hR130; obtain ⟨r132, hx133, hm⟩ := bS hm; refine o1 s_122 13 (mc s_122 zi4 (zcC (hE.trans hS131.ext)  hx133) (fun v134 w135 hR136 => ?_)); obtain ⟨rfl, hR137⟩ := hR136; refine ⟨hR137.ext, ?_⟩; have hS138 := hS131.join hR137; refine dr 7 s_122 [17, 18, 19] ?_; refine dw [1, 25] ?_; refine db 25 hm (fun hm => ?_) (fun hm => ?_)
   ·refine dr 0 s_122 [20, 21, 22, 23, 24, 25, 26] ?_; refine dw [1, 32] ?_; refine dd s_122 ?_; exact ⟨true, _, ⟨hm, (((Ext.draw _).trans hR130.ext).trans hR137.ext), hS138, rfl⟩, rfl⟩
   ·refine dr 5 s_122 [20, 22] ?_; refine dl s_122 21 ((hS13.bring 0 rfl).box) 0 ?_; refine dl s_122 23 ((hS13.bring 0 rfl).box) 1 ?_; obtain ⟨r140, hx141, hm⟩ := bS hm; refine o1 s_122 24 (mc s_122 zi2 (zbs (hE.trans hS138.ext)  hx141) (fun v142 w143 hR144 => ?_)); obtain ⟨rfl, hR145⟩ := hR144; refine ⟨hR145.ext, ?_⟩; have hS146 := hS138.join hR145; refine dr 0 s_122 [25, 26] ?_; refine dw [1, 32] ?_; refine dd s_122 ?_; exact ⟨!r140, _, ⟨hm, ((((Ext.draw _).trans hR130.ext).trans hR137.ext).trans hR145.ext), hS146, rfl⟩, rfl⟩

end Go.E

