/- Models of functions and proofs that the code runs as they say (written by program). Conditions: the model gives a value. -/
import Derived.Test.YtomgmnacnchbeaaFT
namespace Go.E
open Go.RowKit Go.Proofs
set_option linter.unusedVariables false
set_option linter.unusedSimpArgs false
set_option maxHeartbeats 2000000

theorem enters98 : Enters Try.prog 98 := ⟨_, _, Try.func98, rfl, by kernel_rfl⟩
def m_laws_markCellS_j1 (fuel : Nat) (t2 : Int × (List D.Cell)) : Option (Int × (List D.Cell)) := some (t2.1, t2.2)
def m_laws_markCellS_b1 (fuel : Nat) (x0 : (List D.Cell)) (s1 : Int × Int × (List D.Cell)) : Option (Rd (Int × Int × (List D.Cell)) (Int × (List D.Cell)) (Int × (List D.Cell))) := (if (decide (s1.2.1 < (x0.length : Int))) = true then ((idx s1.2.2 s1.2.1).bind fun x17 => ((m_laws_markInt64S fuel x17.Data (w64 ((w64 ((w64 (s1.1 + 1)) + 1)) + 1))).bind fun r44 => ((m_laws_markWordS fuel x17.Words r44.1).bind fun r52 => some (.next (r52.1, w64 (s1.2.1 + 1), (s1.2.2.set s1.2.1.toNat (⟨s1.1, w64 (s1.1 + 1), w64 ((w64 (s1.1 + 1)) + 1), r44.2, r52.2⟩ : D.Cell))))))) else some (.brk (s1.1, s1.2.2)))
def m_laws_markCellS (fuel : Nat) (x0 : (List D.Cell)) (x1 : Int) : Option (Int × (List D.Cell)) := ((iter (m_laws_markCellS_b1 fuel x0) fuel (x1, 0, x0)).bind fun o => aft o (m_laws_markCellS_j1 fuel))

set_option maxRecDepth 100000 in
theorem laws_markCellS_ok {W w : World} {RR : List Res} {A0_ : Option Addr} {k0_ : Nat} {x0 : (List D.Cell)} {x1 : Int} (hS : St W w (Own ty76 [.slice A0_ x0.length k0_] x0 :: RR)) {fuel : Nat} {r : Int × (List D.Cell)} (hm : m_laws_markCellS fuel x0 x1 = some r) :
    Calls Try.prog 98 ⟨[.slice A0_ x0.length k0_, .int .i64 x1]⟩ w (Ret fun v w8 => v = .int .i64 r.1 ∧ St W w8 (Own ty76 [.slice A0_ x0.length k0_] r.2 :: RR)) := by
  refine Calls.into Try.func98 rfl 48 rfl rfl _ rfl ?_
  unfold m_laws_markCellS at hm
  refine WP.seq ?_
  refine WP.region ?_
  refine RW.run ttok 1 rfl ?_
  refine RW.nil ?_
  refine WP.seq ?_
  refine WP.seq ?_
  refine WP.region ?_
  refine RW.run ttok 1 rfl ?_
  refine RW.nil ?_
  obtain ⟨o5, hl6, hm⟩ := bind_some hm
  refine WP.cut (fun (t2 : Int × (List D.Cell)) F w9 => o5 = .inl t2 ∧ St W w9 (Own ty76 [.slice A0_ x0.length k0_] t2.2 :: RR) ∧ F = [(1, .int .i64 t2.1)]) ?_ ?_
  · skip
    rintro t2 F w4 ⟨ho10, hS7, rfl⟩
    subst ho10
    rw [aft_inl] at hm
    unfold m_laws_markCellS_j1 at hm
    refine WP.seq ?_
    refine WP.region ?_
    refine RW.run ttok 2 rfl ?_
    refine RW.nil ?_
    refine WP.ret ?_
    cases hm
    exact ⟨_, .cons (.tmp rfl) .nil, rfl, hS7⟩
  · skip
    refine WP.block ?_
    refine WP.weak [(0, .slice A0_ x0.length k0_), (1, .int .i64 x1), (5, .int .i64 0)] ⟨rfl, rfl, rfl, trivial⟩ ?_
    refine WP.iter (fun (s1 : Int × Int × (List D.Cell)) F w9 => St W w9 (Own ty76 [.slice A0_ x0.length k0_] s1.2.2 :: RR) ∧ F = [(0, .slice A0_ x0.length k0_), (1, .int .i64 s1.1), (5, .int .i64 s1.2.1)]) _ hl6 ⟨hS, rfl⟩ ?_
    rintro s1 F w15 _ o13 ⟨hS14, rfl⟩ hb11 ho12
    unfold m_laws_markCellS_b1 at hb11
    refine WP.seq ?_
    refine WP.seq ?_
    refine WP.region ?_
    refine RW.run ttok 4 rfl ?_
    refine RW.nil ?_
    refine WP.cond (decide (s1.2.1 < (x0.length : Int))) rfl (fun hc => ?_) (fun hc => ?_)
    · skip
      rw [if_pos hc] at hb11
      refine WP.skip ?_
      refine WP.seq ?_
      refine WP.block ?_
      refine WP.seq ?_
      refine WP.region ?_
      refine RW.run ttok 3 rfl ?_
      have hS16 := hS14.bring 0 rfl
      obtain ⟨x17, hx18, hb11⟩ := bind_some hb11
      refine RW.focus ttok hS16 rfl rfl rfl rfl rfl rfl rfl rfl (idx_some hx18).1 (idx_some hx18).2 rfl rfl (fun q19 es20 hq21 hS22 => ?_)
      obtain ⟨A25, k26, A27, k28, e24, hS23⟩ := ty157_openS (hS22.bring 1 rfl); subst e24
      refine RW.run ttok 1 rfl ?_
      have hS29 := hS23.bring 2 rfl
      refine RW.storeHoleN ttok hS29 hq21 rfl rfl rfl rfl rfl 0 rfl rfl rfl rfl rfl (fun w30 hS31 => ?_)
      refine RW.nil ?_
      refine WP.seq ?_
      refine WP.region ?_
      refine RW.run ttok 3 rfl ?_
      refine RW.nil ?_
      refine WP.seq ?_
      refine WP.region ?_
      refine RW.run ttok 3 rfl ?_
      refine RW.idxAgain ttok (hS31.bring 0 rfl) rfl rfl rfl rfl rfl rfl rfl rfl (idx_some hx18).1 rfl rfl (fun q32 hq33 => ?_)
      refine RW.run ttok 1 rfl ?_
      have hS34 := hS31.bring 0 rfl
      refine RW.storeHoleN ttok hS34 hq33 rfl rfl rfl rfl rfl 1 rfl rfl rfl rfl rfl (fun w35 hS36 => ?_)
      refine RW.nil ?_
      refine WP.seq ?_
      refine WP.region ?_
      refine RW.run ttok 3 rfl ?_
      refine RW.nil ?_
      refine WP.seq ?_
      refine WP.region ?_
      refine RW.run ttok 3 rfl ?_
      refine RW.idxAgain ttok (hS36.bring 0 rfl) rfl rfl rfl rfl rfl rfl rfl rfl (idx_some hx18).1 rfl rfl (fun q37 hq38 => ?_)
      refine RW.run ttok 1 rfl ?_
      have hS39 := hS36.bring 0 rfl
      refine RW.storeHoleN ttok hS39 hq38 rfl rfl rfl rfl rfl 2 rfl rfl rfl rfl rfl (fun w40 hS41 => ?_)
      refine RW.nil ?_
      refine WP.seq ?_
      refine WP.region ?_
      refine RW.run ttok 3 rfl ?_
      refine RW.nil ?_
      refine WP.seq ?_
      refine WP.region ?_
      refine RW.run ttok 2 rfl ?_
      refine RW.idxAgain ttok (hS41.bring 0 rfl) rfl rfl rfl rfl rfl rfl rfl rfl (idx_some hx18).1 rfl rfl (fun q42 hq43 => ?_)
      refine RW.run ttok 1 rfl ?_
      refine RW.load1 ttok rfl rfl rfl rfl rfl ((hS41.bring 0 rfl).hole_atN hq43) 3 rfl rfl rfl rfl ?_
      refine RW.run ttok 1 rfl ?_
      obtain ⟨r44, hx45, hb11⟩ := bind_some hb11
      refine RW.call rfl rfl rfl enters69 (laws_markInt64S_ok (W := W) (RR := _) (x0 := x17.Data) (x1 := w64 ((w64 ((w64 (s1.1 + 1)) + 1)) + 1)) (hS41.bring 1 rfl)  hx45) (fun v46 w47 hR48 => ?_)
      obtain ⟨rfl, hS49⟩ := hR48
      refine RW.run ttok 1 rfl ?_
      refine RW.nil ?_
      refine WP.region ?_
      refine RW.run ttok 2 rfl ?_
      refine RW.idxAgain ttok (hS49.bring 1 rfl) rfl rfl rfl rfl rfl rfl rfl rfl (idx_some hx18).1 rfl rfl (fun q50 hq51 => ?_)
      refine RW.run ttok 1 rfl ?_
      refine RW.load1 ttok rfl rfl rfl rfl rfl ((hS49.bring 1 rfl).hole_atN hq51) 4 rfl rfl rfl rfl ?_
      refine RW.run ttok 1 rfl ?_
      obtain ⟨r52, hx53, hb11⟩ := bind_some hb11
      refine RW.call rfl rfl rfl enters159 (laws_markWordS_ok (W := W) (RR := _) (x0 := x17.Words) (x1 := r44.1) (hS49.bring 2 rfl)  hx53) (fun v54 w55 hR56 => ?_)
      obtain ⟨rfl, hS57⟩ := hR56
      refine RW.run ttok 1 rfl ?_
      refine RW.nil ?_
      refine WP.region ?_
      refine RW.run ttok 3 rfl ?_
      refine RW.nil ?_
      have hn58 := (hS57.bring 1 rfl).lenEq
      have hS59 := (hS57.bring 1 rfl).reLen hn58
      have hS60 := (hS59.bring 2 rfl).reHole (es' := [.int .i64 s1.1, .int .i64 (w64 (s1.1 + 1)), .int .i64 (w64 ((w64 (s1.1 + 1)) + 1)), .slice A25 r44.2.length k26, .slice A27 x17.Words.length k28]) (by show ([.int .i64 s1.1, .int .i64 (w64 (s1.1 + 1)), .int .i64 (w64 ((w64 (s1.1 + 1)) + 1)), .slice A25 x17.Data.length k26, .slice A27 x17.Words.length k28] : List Value) = [.int .i64 s1.1, .int .i64 (w64 (s1.1 + 1)), .int .i64 (w64 ((w64 (s1.1 + 1)) + 1)), .slice A25 r44.2.length k26, .slice A27 x17.Words.length k28]; first | (simp only [hn58]; done) | (simp only [hn58]; rfl))
      have hn61 := (hS60.bring 2 rfl).lenEq
      have hS62 := (hS60.bring 2 rfl).reLen hn61
      have hS63 := (hS62.bring 1 rfl).reHole (es' := [.int .i64 s1.1, .int .i64 (w64 (s1.1 + 1)), .int .i64 (w64 ((w64 (s1.1 + 1)) + 1)), .slice A25 r44.2.length k26, .slice A27 r52.2.length k28]) (by show ([.int .i64 s1.1, .int .i64 (w64 (s1.1 + 1)), .int .i64 (w64 ((w64 (s1.1 + 1)) + 1)), .slice A25 r44.2.length k26, .slice A27 x17.Words.length k28] : List Value) = [.int .i64 s1.1, .int .i64 (w64 (s1.1 + 1)), .int .i64 (w64 ((w64 (s1.1 + 1)) + 1)), .slice A25 r44.2.length k26, .slice A27 r52.2.length k28]; first | (simp only [hn61]; done) | (simp only [hn61]; rfl))
      have h65 := (show ty103.ro _ [.slice A25 x17.Data.length k26] r44.2 from (Eq.symm hn58) ▸ ((hS63.bring 2 rfl).own))
      have h66 := (show ty155.ro _ [.slice A27 x17.Words.length k28] r52.2 from (Eq.symm hn61) ▸ ((hS63.bring 1 rfl).own))
      have hS67 := hS63.bring 1 rfl
      have hS68 := hS67.bring 2 rfl
      have hS69 := ty157_shutS (c := (⟨s1.1, w64 (s1.1 + 1), w64 ((w64 (s1.1 + 1)) + 1), r44.2, r52.2⟩ : D.Cell)) (B := _) hS68
      have hS70 := hS69.bring 1 rfl
      have hS71 := St.unfocusN hS70
      cases hb11
      exact ⟨_, [(0, .slice A0_ x0.length k0_), (1, .int .i64 r52.1), (5, .int .i64 (w64 (s1.2.1 + 1)))], ⟨rfl, rfl, rfl, trivial⟩, rfl, hS71, rfl⟩
    · skip
      rw [if_neg (not_t hc)] at hb11
      refine WP.exit ?_
      cases hb11
      exact ⟨_, [(1, .int .i64 s1.1)], ⟨rfl, trivial⟩, ho12, hS14, rfl⟩

theorem enters99 : Enters Try.prog 99 := ⟨_, _, Try.func99, rfl, by kernel_rfl⟩
def m_laws_markPairS_j1 (fuel : Nat) (t2 : Int × (List D.Pair)) : Option (Int × (List D.Pair)) := some (t2.1, t2.2)
def m_laws_markPairS_b1 (fuel : Nat) (x0 : (List D.Pair)) (s1 : Int × Int × (List D.Pair)) : Option (Rd (Int × Int × (List D.Pair)) (Int × (List D.Pair)) (Int × (List D.Pair))) := (if (decide (s1.2.1 < (x0.length : Int))) = true then ((idx s1.2.2 s1.2.1).bind fun x17 => some (.next (w64 ((w64 (s1.1 + 1)) + 1), w64 (s1.2.1 + 1), (s1.2.2.set s1.2.1.toNat (⟨s1.1, w64 (s1.1 + 1)⟩ : D.Pair))))) else some (.brk (s1.1, s1.2.2)))
def m_laws_markPairS (fuel : Nat) (x0 : (List D.Pair)) (x1 : Int) : Option (Int × (List D.Pair)) := ((iter (m_laws_markPairS_b1 fuel x0) fuel (x1, 0, x0)).bind fun o => aft o (m_laws_markPairS_j1 fuel))

set_option maxRecDepth 100000 in
theorem laws_markPairS_ok {W w : World} {RR : List Res} {A0_ : Option Addr} {k0_ : Nat} {x0 : (List D.Pair)} {x1 : Int} (hS : St W w (Own ty78 [.slice A0_ x0.length k0_] x0 :: RR)) {fuel : Nat} {r : Int × (List D.Pair)} (hm : m_laws_markPairS fuel x0 x1 = some r) :
    Calls Try.prog 99 ⟨[.slice A0_ x0.length k0_, .int .i64 x1]⟩ w (Ret fun v w8 => v = .int .i64 r.1 ∧ St W w8 (Own ty78 [.slice A0_ x0.length k0_] r.2 :: RR)) := by
  refine Calls.into Try.func99 rfl 27 rfl rfl _ rfl ?_
  unfold m_laws_markPairS at hm
  refine WP.seq ?_
  refine WP.region ?_
  refine RW.run ttok 1 rfl ?_
  refine RW.nil ?_
  refine WP.seq ?_
  refine WP.seq ?_
  refine WP.region ?_
  refine RW.run ttok 1 rfl ?_
  refine RW.nil ?_
  obtain ⟨o5, hl6, hm⟩ := bind_some hm
  refine WP.cut (fun (t2 : Int × (List D.Pair)) F w9 => o5 = .inl t2 ∧ St W w9 (Own ty78 [.slice A0_ x0.length k0_] t2.2 :: RR) ∧ F = [(1, .int .i64 t2.1)]) ?_ ?_
  · skip
    rintro t2 F w4 ⟨ho10, hS7, rfl⟩
    subst ho10
    rw [aft_inl] at hm
    unfold m_laws_markPairS_j1 at hm
    refine WP.seq ?_
    refine WP.region ?_
    refine RW.run ttok 2 rfl ?_
    refine RW.nil ?_
    refine WP.ret ?_
    cases hm
    exact ⟨_, .cons (.tmp rfl) .nil, rfl, hS7⟩
  · skip
    refine WP.block ?_
    refine WP.weak [(0, .slice A0_ x0.length k0_), (1, .int .i64 x1), (5, .int .i64 0)] ⟨rfl, rfl, rfl, trivial⟩ ?_
    refine WP.iter (fun (s1 : Int × Int × (List D.Pair)) F w9 => St W w9 (Own ty78 [.slice A0_ x0.length k0_] s1.2.2 :: RR) ∧ F = [(0, .slice A0_ x0.length k0_), (1, .int .i64 s1.1), (5, .int .i64 s1.2.1)]) _ hl6 ⟨hS, rfl⟩ ?_
    rintro s1 F w15 _ o13 ⟨hS14, rfl⟩ hb11 ho12
    unfold m_laws_markPairS_b1 at hb11
    refine WP.seq ?_
    refine WP.seq ?_
    refine WP.region ?_
    refine RW.run ttok 4 rfl ?_
    refine RW.nil ?_
    refine WP.cond (decide (s1.2.1 < (x0.length : Int))) rfl (fun hc => ?_) (fun hc => ?_)
    · skip
      rw [if_pos hc] at hb11
      refine WP.skip ?_
      refine WP.seq ?_
      refine WP.block ?_
      refine WP.seq ?_
      refine WP.region ?_
      refine RW.run ttok 3 rfl ?_
      have hS16 := hS14.bring 0 rfl
      obtain ⟨x17, hx18, hb11⟩ := bind_some hb11
      refine RW.focus ttok hS16 rfl rfl rfl rfl rfl rfl rfl rfl (idx_some hx18).1 (idx_some hx18).2 rfl rfl (fun q19 es20 hq21 hS22 => ?_)
      obtain ⟨e24, hS23⟩ := ty139_openS (hS22.bring 1 rfl); subst e24
      refine RW.run ttok 1 rfl ?_
      have hS25 := hS23.bring 0 rfl
      refine RW.storeHoleN ttok hS25 hq21 rfl rfl rfl rfl rfl 0 rfl rfl rfl rfl rfl (fun w26 hS27 => ?_)
      refine RW.nil ?_
      refine WP.seq ?_
      refine WP.region ?_
      refine RW.run ttok 3 rfl ?_
      refine RW.nil ?_
      refine WP.seq ?_
      refine WP.region ?_
      refine RW.run ttok 3 rfl ?_
      refine RW.idxAgain ttok (hS27.bring 0 rfl) rfl rfl rfl rfl rfl rfl rfl rfl (idx_some hx18).1 rfl rfl (fun q28 hq29 => ?_)
      refine RW.run ttok 1 rfl ?_
      have hS30 := hS27.bring 0 rfl
      refine RW.storeHoleN ttok hS30 hq29 rfl rfl rfl rfl rfl 1 rfl rfl rfl rfl rfl (fun w31 hS32 => ?_)
      refine RW.nil ?_
      refine WP.region ?_
      refine RW.run ttok 3 rfl ?_
      refine RW.nil ?_
      refine WP.region ?_
      refine RW.run ttok 3 rfl ?_
      refine RW.nil ?_
      have hS33 := ty139_shutS (c := (⟨s1.1, w64 (s1.1 + 1)⟩ : D.Pair)) (B := _) hS32
      have hS34 := hS33.bring 1 rfl
      have hS35 := St.unfocusN hS34
      cases hb11
      exact ⟨_, [(0, .slice A0_ x0.length k0_), (1, .int .i64 (w64 ((w64 (s1.1 + 1)) + 1))), (5, .int .i64 (w64 (s1.2.1 + 1)))], ⟨rfl, rfl, rfl, trivial⟩, rfl, hS35, rfl⟩
    · skip
      rw [if_neg (not_t hc)] at hb11
      refine WP.exit ?_
      cases hb11
      exact ⟨_, [(1, .int .i64 s1.1)], ⟨rfl, trivial⟩, ho12, hS14, rfl⟩

theorem enters42 : Enters Try.prog 42 := ⟨_, _, Try.func42, rfl, by kernel_rfl⟩
def m_laws_markMemory (fuel : Nat) (x0 : D.Memory) (x1 : Int) : Option (Int × (List D.Cell) × (List D.Pair)) := ((m_laws_markCellS fuel x0.Cells x1).bind fun r5 => ((m_laws_markPairS fuel x0.Redexes r5.1).bind fun r13 => some (r13.1, r5.2, r13.2)))

set_option maxRecDepth 100000 in
theorem laws_markMemory_ok {W w : World} {RR : List Res} {x0 : D.Memory} {A0_0 : Option Addr} {k0_0 : Nat} {A0_4 : Option Addr} {k0_4 : Nat} {x1 : Int} (hS : St W w (Own ty76 [.slice A0_0 x0.Cells.length k0_0] x0.Cells :: Own ty78 [.slice A0_4 x0.Redexes.length k0_4] x0.Redexes :: RR)) {fuel : Nat} {r : Int × (List D.Cell) × (List D.Pair)} (hm : m_laws_markMemory fuel x0 x1 = some r) :
    Calls Try.prog 42 ⟨[.agg ⟨[.slice A0_0 x0.Cells.length k0_0, .int .i64 x0.Free, .int .i64 x0.Root.Tag, .int .i64 x0.Root.At, .slice A0_4 x0.Redexes.length k0_4]⟩, .int .i64 x1]⟩ w (Ret fun v w8 => v = .int .i64 r.1 ∧ St W w8 (Own ty76 [.slice A0_0 x0.Cells.length k0_0] r.2.1 :: Own ty78 [.slice A0_4 x0.Redexes.length k0_4] r.2.2 :: RR)) := by
  refine Calls.into Try.func42 rfl 14 rfl rfl _ rfl ?_
  unfold m_laws_markMemory at hm
  refine WP.seq ?_
  refine WP.region ?_
  refine RW.new ttok hS rfl rfl rfl rfl (fun g1 w2 e3 hS4 => ?_)
  refine RW.run ttok 1 rfl ?_
  refine RW.nil ?_
  refine WP.seq ?_
  refine WP.region ?_
  refine RW.run ttok 1 rfl ?_
  refine RW.load1 ttok rfl rfl rfl rfl rfl ((hS4.bring 0 rfl).box) 0 rfl rfl rfl rfl ?_
  refine RW.run ttok 1 rfl ?_
  obtain ⟨r5, hx6, hm⟩ := bind_some hm
  refine RW.call rfl rfl rfl enters98 (laws_markCellS_ok (W := W) (RR := _) (x0 := x0.Cells) (x1 := x1) (hS4.bring 1 rfl)  hx6) (fun v7 w10 hR11 => ?_)
  obtain ⟨rfl, hS12⟩ := hR11
  refine RW.run ttok 1 rfl ?_
  refine RW.nil ?_
  refine WP.seq ?_
  refine WP.region ?_
  refine RW.run ttok 1 rfl ?_
  refine RW.load1 ttok rfl rfl rfl rfl rfl ((hS12.bring 1 rfl).box) 4 rfl rfl rfl rfl ?_
  refine RW.run ttok 1 rfl ?_
  obtain ⟨r13, hx14, hm⟩ := bind_some hm
  refine RW.call rfl rfl rfl enters99 (laws_markPairS_ok (W := W) (RR := _) (x0 := x0.Redexes) (x1 := r5.1) (hS12.bring 2 rfl)  hx14) (fun v15 w16 hR17 => ?_)
  obtain ⟨rfl, hS18⟩ := hR17
  refine RW.run ttok 1 rfl ?_
  refine RW.nil ?_
  refine WP.seq ?_
  refine WP.region ?_
  refine RW.run ttok 2 rfl ?_
  refine RW.nil ?_
  refine WP.ret ?_
  cases hm
  exact ⟨_, .cons (.tmp rfl) .nil, rfl, (((hS18.bring 2 rfl).drop.bring 0 rfl).bring 1 rfl)⟩

theorem enters118 : Enters Try.prog 118 := ⟨_, _, Try.func118, rfl, by kernel_rfl⟩
def m_laws_heldInt64S_j1 (fuel : Nat) (t2 : Int) : Option Int := some t2
def m_laws_heldInt64S_b1 (fuel : Nat) (x0 : (List Int)) (s1 : Int × Int) : Option (Rd (Int × Int) (Int) (Int)) := (if (decide (s1.2 < (x0.length : Int))) = true then ((idx x0 s1.2).bind fun x19 => (if (x19 != s1.1) = true then some (.ret (-1)) else some (.next (w64 (s1.1 + 1), w64 (s1.2 + 1))))) else some (.brk s1.1))
def m_laws_heldInt64S (fuel : Nat) (x0 : (List Int)) (x1 : Int) : Option (Int) := ((iter (m_laws_heldInt64S_b1 fuel x0) fuel (x1, 0)).bind fun o => aft o (m_laws_heldInt64S_j1 fuel))

set_option maxRecDepth 100000 in
theorem laws_heldInt64S_ok {W w : World} (hE : Ext W w) {A0_ : Option Addr} {k0_ : Nat} {x0 : (List Int)} {x1 : Int} (h0_ : ty103.ro W [.slice A0_ x0.length k0_] x0) {fuel : Nat} {r : Int} (hm : m_laws_heldInt64S fuel x0 x1 = some r) :
    Calls Try.prog 118 ⟨[.slice A0_ x0.length k0_, .int .i64 x1]⟩ w (Ret fun v w8 => v = .int .i64 r ∧ St w w8 []) := by
  refine Calls.into Try.func118 rfl 21 rfl rfl _ rfl ?_
  unfold m_laws_heldInt64S at hm
  have hS := St.start w
  refine WP.seq ?_
  refine WP.region ?_
  refine RW.run ttok 1 rfl ?_
  refine RW.nil ?_
  refine WP.seq ?_
  refine WP.seq ?_
  refine WP.region ?_
  refine RW.run ttok 1 rfl ?_
  refine RW.nil ?_
  obtain ⟨o10, hl11, hm⟩ := bind_some hm
  refine WP.cut (fun (t2 : Int) F w9 => o10 = .inl t2 ∧ Ext w w9 ∧ St w w9 [] ∧ F = [(1, .int .i64 t2)]) ?_ ?_
  · skip
    rintro t2 F w7 ⟨ho13, hE6, hS12, rfl⟩
    subst ho13
    rw [aft_inl] at hm
    unfold m_laws_heldInt64S_j1 at hm
    refine WP.seq ?_
    refine WP.region ?_
    refine RW.run ttok 2 rfl ?_
    refine RW.nil ?_
    refine WP.ret ?_
    cases hm
    exact ⟨_, .cons (.tmp rfl) .nil, rfl, hS12⟩
  · skip
    refine WP.block ?_
    refine WP.weak [(0, .slice A0_ x0.length k0_), (1, .int .i64 x1), (5, .int .i64 0)] ⟨rfl, rfl, rfl, trivial⟩ ?_
    refine WP.iter (fun (s1 : Int × Int) F w9 => Ext w w9 ∧ St w w9 [] ∧ F = [(0, .slice A0_ x0.length k0_), (1, .int .i64 s1.1), (5, .int .i64 s1.2)]) _ hl11 ⟨(Ext.refl _), hS, rfl⟩ ?_
    rintro s1 F w18 _ o16 ⟨hE5, hS17, rfl⟩ hb14 ho15
    unfold m_laws_heldInt64S_b1 at hb14
    refine WP.seq ?_
    refine WP.seq ?_
    refine WP.region ?_
    refine RW.run ttok 4 rfl ?_
    refine RW.nil ?_
    refine WP.cond (decide (s1.2 < (x0.length : Int))) rfl (fun hc => ?_) (fun hc => ?_)
    · skip
      rw [if_pos hc] at hb14
      refine WP.skip ?_
      refine WP.seq ?_
      refine WP.block ?_
      refine WP.seq ?_
      refine WP.seq ?_
      refine WP.region ?_
      refine RW.run ttok 2 rfl ?_
      obtain ⟨x19, hx20, hb14⟩ := bind_some hb14
      refine RW.idx ttok (hE.trans hS17.ext) rfl rfl rfl rfl rfl rfl (by decide) rfl rfl h0_ (idx_some hx20).1 (idx_some hx20).2 rfl rfl (fun p21 es22 ha23 hr24 => ?_)
      cases hr24
      refine RW.load1 ttok rfl rfl rfl rfl rfl (At.ext (hE.trans hS17.ext) ha23) 0 rfl rfl rfl rfl ?_
      refine RW.run ttok 2 rfl ?_
      refine RW.nil ?_
      refine WP.cond (x19 != s1.1) rfl (fun hc => ?_) (fun hc => ?_)
      · skip
        rw [if_pos hc] at hb14
        refine WP.seq ?_
        refine WP.region ?_
        refine RW.run ttok 1 rfl ?_
        refine RW.nil ?_
        refine WP.ret ?_
        cases hb14
        cases ho15
        have hm : some _ = some _ := hm
        cases hm
        exact ⟨_, .cons (.tmp rfl) .nil, rfl, hS17⟩
      · skip
        rw [if_neg (not_t hc)] at hb14
        refine WP.skip ?_
        refine WP.region ?_
        refine RW.run ttok 3 rfl ?_
        refine RW.nil ?_
        refine WP.region ?_
        refine RW.run ttok 3 rfl ?_
        refine RW.nil ?_
        cases hb14
        exact ⟨_, [(0, .slice A0_ x0.length k0_), (1, .int .i64 (w64 (s1.1 + 1))), (5, .int .i64 (w64 (s1.2 + 1)))], ⟨rfl, rfl, rfl, trivial⟩, rfl, hE5, hS17, rfl⟩
    · skip
      rw [if_neg (not_t hc)] at hb14
      refine WP.exit ?_
      cases hb14
      exact ⟨_, [(1, .int .i64 s1.1)], ⟨rfl, trivial⟩, ho15, hE5, hS17, rfl⟩

theorem enters160 : Enters Try.prog 160 := ⟨_, _, Try.func160, rfl, by kernel_rfl⟩
def m_laws_heldWordS_j1 (fuel : Nat) (t2 : Int) : Option Int := some t2
def m_laws_heldWordS_b1 (fuel : Nat) (x0 : (List D.Word)) (s1 : Int × Int) : Option (Rd (Int × Int) (Int) (Int)) := (if (decide (s1.2 < (x0.length : Int))) = true then ((idx x0 s1.2).bind fun x19 => (if (x19.Tag != s1.1) = true then some (.ret (-1)) else ((idx x0 s1.2).bind fun x26 => (if (x26.At != (w64 (s1.1 + 1))) = true then some (.ret (-1)) else some (.next (w64 ((w64 (s1.1 + 1)) + 1), w64 (s1.2 + 1))))))) else some (.brk s1.1))
def m_laws_heldWordS (fuel : Nat) (x0 : (List D.Word)) (x1 : Int) : Option (Int) := ((iter (m_laws_heldWordS_b1 fuel x0) fuel (x1, 0)).bind fun o => aft o (m_laws_heldWordS_j1 fuel))

set_option maxRecDepth 100000 in
theorem laws_heldWordS_ok {W w : World} (hE : Ext W w) {A0_ : Option Addr} {k0_ : Nat} {x0 : (List D.Word)} {x1 : Int} (h0_ : ty155.ro W [.slice A0_ x0.length k0_] x0) {fuel : Nat} {r : Int} (hm : m_laws_heldWordS fuel x0 x1 = some r) :
    Calls Try.prog 160 ⟨[.slice A0_ x0.length k0_, .int .i64 x1]⟩ w (Ret fun v w8 => v = .int .i64 r ∧ St w w8 []) := by
  refine Calls.into Try.func160 rfl 31 rfl rfl _ rfl ?_
  unfold m_laws_heldWordS at hm
  have hS := St.start w
  refine WP.seq ?_
  refine WP.region ?_
  refine RW.run ttok 1 rfl ?_
  refine RW.nil ?_
  refine WP.seq ?_
  refine WP.seq ?_
  refine WP.region ?_
  refine RW.run ttok 1 rfl ?_
  refine RW.nil ?_
  obtain ⟨o10, hl11, hm⟩ := bind_some hm
  refine WP.cut (fun (t2 : Int) F w9 => o10 = .inl t2 ∧ Ext w w9 ∧ St w w9 [] ∧ F = [(1, .int .i64 t2)]) ?_ ?_
  · skip
    rintro t2 F w7 ⟨ho13, hE6, hS12, rfl⟩
    subst ho13
    rw [aft_inl] at hm
    unfold m_laws_heldWordS_j1 at hm
    refine WP.seq ?_
    refine WP.region ?_
    refine RW.run ttok 2 rfl ?_
    refine RW.nil ?_
    refine WP.ret ?_
    cases hm
    exact ⟨_, .cons (.tmp rfl) .nil, rfl, hS12⟩
  · skip
    refine WP.block ?_
    refine WP.weak [(0, .slice A0_ x0.length k0_), (1, .int .i64 x1), (5, .int .i64 0)] ⟨rfl, rfl, rfl, trivial⟩ ?_
    refine WP.iter (fun (s1 : Int × Int) F w9 => Ext w w9 ∧ St w w9 [] ∧ F = [(0, .slice A0_ x0.length k0_), (1, .int .i64 s1.1), (5, .int .i64 s1.2)]) _ hl11 ⟨(Ext.refl _), hS, rfl⟩ ?_
    rintro s1 F w18 _ o16 ⟨hE5, hS17, rfl⟩ hb14 ho15
    unfold m_laws_heldWordS_b1 at hb14
    refine WP.seq ?_
    refine WP.seq ?_
    refine WP.region ?_
    refine RW.run ttok 4 rfl ?_
    refine RW.nil ?_
    refine WP.cond (decide (s1.2 < (x0.length : Int))) rfl (fun hc => ?_) (fun hc => ?_)
    · skip
      rw [if_pos hc] at hb14
      refine WP.skip ?_
      refine WP.seq ?_
      refine WP.block ?_
      refine WP.seq ?_
      refine WP.seq ?_
      refine WP.region ?_
      refine RW.run ttok 2 rfl ?_
      obtain ⟨x19, hx20, hb14⟩ := bind_some hb14
      refine RW.idx ttok (hE.trans hS17.ext) rfl rfl rfl rfl rfl rfl (by decide) rfl rfl h0_ (idx_some hx20).1 (idx_some hx20).2 rfl rfl (fun p21 es22 ha23 hr24 => ?_)
      have e25 := ty77_open hr24; subst e25
      refine RW.run ttok 1 rfl ?_
      refine RW.load1 ttok rfl rfl rfl rfl rfl (At.ext (hE.trans hS17.ext) ha23) 0 rfl rfl rfl rfl ?_
      refine RW.run ttok 2 rfl ?_
      refine RW.nil ?_
      refine WP.cond (x19.Tag != s1.1) rfl (fun hc => ?_) (fun hc => ?_)
      · skip
        rw [if_pos hc] at hb14
        refine WP.seq ?_
        refine WP.region ?_
        refine RW.run ttok 1 rfl ?_
        refine RW.nil ?_
        refine WP.ret ?_
        cases hb14
        cases ho15
        have hm : some _ = some _ := hm
        cases hm
        exact ⟨_, .cons (.tmp rfl) .nil, rfl, hS17⟩
      · skip
        rw [if_neg (not_t hc)] at hb14
        refine WP.skip ?_
        refine WP.seq ?_
        refine WP.region ?_
        refine RW.run ttok 3 rfl ?_
        refine RW.nil ?_
        refine WP.seq ?_
        refine WP.seq ?_
        refine WP.region ?_
        refine RW.run ttok 2 rfl ?_
        obtain ⟨x26, hx27, hb14⟩ := bind_some hb14
        refine RW.idx ttok (hE.trans hS17.ext) rfl rfl rfl rfl rfl rfl (by decide) rfl rfl h0_ (idx_some hx27).1 (idx_some hx27).2 rfl rfl (fun p28 es29 ha30 hr31 => ?_)
        have e32 := ty77_open hr31; subst e32
        refine RW.run ttok 1 rfl ?_
        refine RW.load1 ttok rfl rfl rfl rfl rfl (At.ext (hE.trans hS17.ext) ha30) 1 rfl rfl rfl rfl ?_
        refine RW.run ttok 2 rfl ?_
        refine RW.nil ?_
        refine WP.cond (x26.At != (w64 (s1.1 + 1))) rfl (fun hc => ?_) (fun hc => ?_)
        · skip
          rw [if_pos hc] at hb14
          refine WP.seq ?_
          refine WP.region ?_
          refine RW.run ttok 1 rfl ?_
          refine RW.nil ?_
          refine WP.ret ?_
          cases hb14
          cases ho15
          have hm : some _ = some _ := hm
          cases hm
          exact ⟨_, .cons (.tmp rfl) .nil, rfl, hS17⟩
        · skip
          rw [if_neg (not_t hc)] at hb14
          refine WP.skip ?_
          refine WP.region ?_
          refine RW.run ttok 3 rfl ?_
          refine RW.nil ?_
          refine WP.region ?_
          refine RW.run ttok 3 rfl ?_
          refine RW.nil ?_
          cases hb14
          exact ⟨_, [(0, .slice A0_ x0.length k0_), (1, .int .i64 (w64 ((w64 (s1.1 + 1)) + 1))), (5, .int .i64 (w64 (s1.2 + 1)))], ⟨rfl, rfl, rfl, trivial⟩, rfl, hE5, hS17, rfl⟩
    · skip
      rw [if_neg (not_t hc)] at hb14
      refine WP.exit ?_
      cases hb14
      exact ⟨_, [(1, .int .i64 s1.1)], ⟨rfl, trivial⟩, ho15, hE5, hS17, rfl⟩

theorem enters100 : Enters Try.prog 100 := ⟨_, _, Try.func100, rfl, by kernel_rfl⟩
def m_laws_heldCellS_j1 (fuel : Nat) (t2 : Int) : Option Int := some t2
def m_laws_heldCellS_b1 (fuel : Nat) (x0 : (List D.Cell)) (s1 : Int × Int) : Option (Rd (Int × Int) (Int) (Int)) := (if (decide (s1.2 < (x0.length : Int))) = true then ((idx x0 s1.2).bind fun x19 => (if (x19.Kind != s1.1) = true then some (.ret (-1)) else ((idx x0 s1.2).bind fun x32 => (if (x32.Level != (w64 (s1.1 + 1))) = true then some (.ret (-1)) else ((idx x0 s1.2).bind fun x45 => (if (x45.Value != (w64 ((w64 (s1.1 + 1)) + 1))) = true then some (.ret (-1)) else ((idx x0 s1.2).bind fun x58 => ((m_laws_heldInt64S fuel x58.Data (w64 ((w64 ((w64 (s1.1 + 1)) + 1)) + 1))).bind fun r72 => (if (decide (r72 < 0)) = true then some (.ret (-1)) else ((idx x0 s1.2).bind fun x79 => ((m_laws_heldWordS fuel x79.Words r72).bind fun r92 => (if (decide (r92 < 0)) = true then some (.ret (-1)) else some (.next (r92, w64 (s1.2 + 1))))))))))))))) else some (.brk s1.1))
def m_laws_heldCellS (fuel : Nat) (x0 : (List D.Cell)) (x1 : Int) : Option (Int) := ((iter (m_laws_heldCellS_b1 fuel x0) fuel (x1, 0)).bind fun o => aft o (m_laws_heldCellS_j1 fuel))

set_option maxRecDepth 100000 in
theorem laws_heldCellS_ok {W w : World} (hE : Ext W w) {A0_ : Option Addr} {k0_ : Nat} {x0 : (List D.Cell)} {x1 : Int} (h0_ : ty76.ro W [.slice A0_ x0.length k0_] x0) {fuel : Nat} {r : Int} (hm : m_laws_heldCellS fuel x0 x1 = some r) :
    Calls Try.prog 100 ⟨[.slice A0_ x0.length k0_, .int .i64 x1]⟩ w (Ret fun v w8 => v = .int .i64 r ∧ St w w8 []) := by
  refine Calls.into Try.func100 rfl 58 rfl rfl _ rfl ?_
  unfold m_laws_heldCellS at hm
  have hS := St.start w
  refine WP.seq ?_
  refine WP.region ?_
  refine RW.run ttok 1 rfl ?_
  refine RW.nil ?_
  refine WP.seq ?_
  refine WP.seq ?_
  refine WP.region ?_
  refine RW.run ttok 1 rfl ?_
  refine RW.nil ?_
  obtain ⟨o10, hl11, hm⟩ := bind_some hm
  refine WP.cut (fun (t2 : Int) F w9 => o10 = .inl t2 ∧ Ext w w9 ∧ St w w9 [] ∧ F = [(1, .int .i64 t2)]) ?_ ?_
  · skip
    rintro t2 F w7 ⟨ho13, hE6, hS12, rfl⟩
    subst ho13
    rw [aft_inl] at hm
    unfold m_laws_heldCellS_j1 at hm
    refine WP.seq ?_
    refine WP.region ?_
    refine RW.run ttok 2 rfl ?_
    refine RW.nil ?_
    refine WP.ret ?_
    cases hm
    exact ⟨_, .cons (.tmp rfl) .nil, rfl, hS12⟩
  · skip
    refine WP.block ?_
    refine WP.weak [(0, .slice A0_ x0.length k0_), (1, .int .i64 x1), (5, .int .i64 0)] ⟨rfl, rfl, rfl, trivial⟩ ?_
    refine WP.iter (fun (s1 : Int × Int) F w9 => Ext w w9 ∧ St w w9 [] ∧ F = [(0, .slice A0_ x0.length k0_), (1, .int .i64 s1.1), (5, .int .i64 s1.2)]) _ hl11 ⟨(Ext.refl _), hS, rfl⟩ ?_
    rintro s1 F w18 _ o16 ⟨hE5, hS17, rfl⟩ hb14 ho15
    unfold m_laws_heldCellS_b1 at hb14
    refine WP.seq ?_
    refine WP.seq ?_
    refine WP.region ?_
    refine RW.run ttok 4 rfl ?_
    refine RW.nil ?_
    refine WP.cond (decide (s1.2 < (x0.length : Int))) rfl (fun hc => ?_) (fun hc => ?_)
    · skip
      rw [if_pos hc] at hb14
      refine WP.skip ?_
      refine WP.seq ?_
      refine WP.block ?_
      refine WP.seq ?_
      refine WP.seq ?_
      refine WP.region ?_
      refine RW.run ttok 2 rfl ?_
      obtain ⟨x19, hx20, hb14⟩ := bind_some hb14
      refine RW.idx ttok (hE.trans hS17.ext) rfl rfl rfl rfl rfl rfl (by decide) rfl rfl h0_ (idx_some hx20).1 (idx_some hx20).2 rfl rfl (fun p21 es22 ha23 hr24 => ?_)
      obtain ⟨A25, k26, A28, k29, e31, h27, h30⟩ := ty157_open hr24; subst e31
      refine RW.run ttok 1 rfl ?_
      refine RW.load1 ttok rfl rfl rfl rfl rfl (At.ext (hE.trans hS17.ext) ha23) 0 rfl rfl rfl rfl ?_
      refine RW.run ttok 2 rfl ?_
      refine RW.nil ?_
      refine WP.cond (x19.Kind != s1.1) rfl (fun hc => ?_) (fun hc => ?_)
      · skip
        rw [if_pos hc] at hb14
        refine WP.seq ?_
        refine WP.region ?_
        refine RW.run ttok 1 rfl ?_
        refine RW.nil ?_
        refine WP.ret ?_
        cases hb14
        cases ho15
        have hm : some _ = some _ := hm
        cases hm
        exact ⟨_, .cons (.tmp rfl) .nil, rfl, hS17⟩
      · skip
        rw [if_neg (not_t hc)] at hb14
        refine WP.skip ?_
        refine WP.seq ?_
        refine WP.region ?_
        refine RW.run ttok 3 rfl ?_
        refine RW.nil ?_
        refine WP.seq ?_
        refine WP.seq ?_
        refine WP.region ?_
        refine RW.run ttok 2 rfl ?_
        obtain ⟨x32, hx33, hb14⟩ := bind_some hb14
        refine RW.idx ttok (hE.trans hS17.ext) rfl rfl rfl rfl rfl rfl (by decide) rfl rfl h0_ (idx_some hx33).1 (idx_some hx33).2 rfl rfl (fun p34 es35 ha36 hr37 => ?_)
        obtain ⟨A38, k39, A41, k42, e44, h40, h43⟩ := ty157_open hr37; subst e44
        refine RW.run ttok 1 rfl ?_
        refine RW.load1 ttok rfl rfl rfl rfl rfl (At.ext (hE.trans hS17.ext) ha36) 1 rfl rfl rfl rfl ?_
        refine RW.run ttok 2 rfl ?_
        refine RW.nil ?_
        refine WP.cond (x32.Level != (w64 (s1.1 + 1))) rfl (fun hc => ?_) (fun hc => ?_)
        · skip
          rw [if_pos hc] at hb14
          refine WP.seq ?_
          refine WP.region ?_
          refine RW.run ttok 1 rfl ?_
          refine RW.nil ?_
          refine WP.ret ?_
          cases hb14
          cases ho15
          have hm : some _ = some _ := hm
          cases hm
          exact ⟨_, .cons (.tmp rfl) .nil, rfl, hS17⟩
        · skip
          rw [if_neg (not_t hc)] at hb14
          refine WP.skip ?_
          refine WP.seq ?_
          refine WP.region ?_
          refine RW.run ttok 3 rfl ?_
          refine RW.nil ?_
          refine WP.seq ?_
          refine WP.seq ?_
          refine WP.region ?_
          refine RW.run ttok 2 rfl ?_
          obtain ⟨x45, hx46, hb14⟩ := bind_some hb14
          refine RW.idx ttok (hE.trans hS17.ext) rfl rfl rfl rfl rfl rfl (by decide) rfl rfl h0_ (idx_some hx46).1 (idx_some hx46).2 rfl rfl (fun p47 es48 ha49 hr50 => ?_)
          obtain ⟨A51, k52, A54, k55, e57, h53, h56⟩ := ty157_open hr50; subst e57
          refine RW.run ttok 1 rfl ?_
          refine RW.load1 ttok rfl rfl rfl rfl rfl (At.ext (hE.trans hS17.ext) ha49) 2 rfl rfl rfl rfl ?_
          refine RW.run ttok 2 rfl ?_
          refine RW.nil ?_
          refine WP.cond (x45.Value != (w64 ((w64 (s1.1 + 1)) + 1))) rfl (fun hc => ?_) (fun hc => ?_)
          · skip
            rw [if_pos hc] at hb14
            refine WP.seq ?_
            refine WP.region ?_
            refine RW.run ttok 1 rfl ?_
            refine RW.nil ?_
            refine WP.ret ?_
            cases hb14
            cases ho15
            have hm : some _ = some _ := hm
            cases hm
            exact ⟨_, .cons (.tmp rfl) .nil, rfl, hS17⟩
          · skip
            rw [if_neg (not_t hc)] at hb14
            refine WP.skip ?_
            refine WP.seq ?_
            refine WP.region ?_
            refine RW.run ttok 3 rfl ?_
            refine RW.nil ?_
            refine WP.seq ?_
            refine WP.region ?_
            refine RW.run ttok 2 rfl ?_
            obtain ⟨x58, hx59, hb14⟩ := bind_some hb14
            refine RW.idx ttok (hE.trans hS17.ext) rfl rfl rfl rfl rfl rfl (by decide) rfl rfl h0_ (idx_some hx59).1 (idx_some hx59).2 rfl rfl (fun p60 es61 ha62 hr63 => ?_)
            obtain ⟨A65, k66, A68, k69, e71, h67, h70⟩ := ty157_open hr63; subst e71
            refine RW.run ttok 1 rfl ?_
            refine RW.load1 ttok rfl rfl rfl rfl rfl (At.ext (hE.trans hS17.ext) ha62) 3 rfl rfl rfl rfl ?_
            refine RW.run ttok 1 rfl ?_
            obtain ⟨r72, hx73, hb14⟩ := bind_some hb14
            refine RW.call rfl rfl rfl enters118 (laws_heldInt64S_ok (hE.trans hS17.ext) h67 hx73) (fun v74 w75 hR76 => ?_)
            obtain ⟨rfl, hR77⟩ := hR76
            have hS78 := hS17.join hR77
            refine RW.run ttok 1 rfl ?_
            refine RW.nil ?_
            refine WP.seq ?_
            refine WP.seq ?_
            refine WP.region ?_
            refine RW.run ttok 2 rfl ?_
            refine RW.nil ?_
            refine WP.cond (decide (r72 < 0)) rfl (fun hc => ?_) (fun hc => ?_)
            · skip
              rw [if_pos hc] at hb14
              refine WP.seq ?_
              refine WP.region ?_
              refine RW.run ttok 1 rfl ?_
              refine RW.nil ?_
              refine WP.ret ?_
              cases hb14
              cases ho15
              have hm : some _ = some _ := hm
              cases hm
              exact ⟨_, .cons (.tmp rfl) .nil, rfl, hS78⟩
            · skip
              rw [if_neg (not_t hc)] at hb14
              refine WP.skip ?_
              refine WP.seq ?_
              refine WP.region ?_
              refine RW.run ttok 2 rfl ?_
              obtain ⟨x79, hx80, hb14⟩ := bind_some hb14
              refine RW.idx ttok (hE.trans hS78.ext) rfl rfl rfl rfl rfl rfl (by decide) rfl rfl h0_ (idx_some hx80).1 (idx_some hx80).2 rfl rfl (fun p81 es82 ha83 hr84 => ?_)
              obtain ⟨A85, k86, A88, k89, e91, h87, h90⟩ := ty157_open hr84; subst e91
              refine RW.run ttok 1 rfl ?_
              refine RW.load1 ttok rfl rfl rfl rfl rfl (At.ext (hE.trans hS78.ext) ha83) 4 rfl rfl rfl rfl ?_
              refine RW.run ttok 1 rfl ?_
              obtain ⟨r92, hx93, hb14⟩ := bind_some hb14
              refine RW.call rfl rfl rfl enters160 (laws_heldWordS_ok (hE.trans hS78.ext) h90 hx93) (fun v94 w95 hR96 => ?_)
              obtain ⟨rfl, hR97⟩ := hR96
              have hS98 := hS78.join hR97
              refine RW.run ttok 1 rfl ?_
              refine RW.nil ?_
              refine WP.seq ?_
              refine WP.region ?_
              refine RW.run ttok 2 rfl ?_
              refine RW.nil ?_
              refine WP.cond (decide (r92 < 0)) rfl (fun hc => ?_) (fun hc => ?_)
              · skip
                rw [if_pos hc] at hb14
                refine WP.seq ?_
                refine WP.region ?_
                refine RW.run ttok 1 rfl ?_
                refine RW.nil ?_
                refine WP.ret ?_
                cases hb14
                cases ho15
                have hm : some _ = some _ := hm
                cases hm
                exact ⟨_, .cons (.tmp rfl) .nil, rfl, hS98⟩
              · skip
                rw [if_neg (not_t hc)] at hb14
                refine WP.skip ?_
                refine WP.region ?_
                refine RW.run ttok 3 rfl ?_
                refine RW.nil ?_
                cases hb14
                exact ⟨_, [(0, .slice A0_ x0.length k0_), (1, .int .i64 r92), (5, .int .i64 (w64 (s1.2 + 1)))], ⟨rfl, rfl, rfl, trivial⟩, rfl, ((hE5.trans hR77.ext).trans hR97.ext), hS98, rfl⟩
    · skip
      rw [if_neg (not_t hc)] at hb14
      refine WP.exit ?_
      cases hb14
      exact ⟨_, [(1, .int .i64 s1.1)], ⟨rfl, trivial⟩, ho15, hE5, hS17, rfl⟩

theorem enters101 : Enters Try.prog 101 := ⟨_, _, Try.func101, rfl, by kernel_rfl⟩
def m_laws_heldPairS_j1 (fuel : Nat) (t2 : Int) : Option Int := some t2
def m_laws_heldPairS_b1 (fuel : Nat) (x0 : (List D.Pair)) (s1 : Int × Int) : Option (Rd (Int × Int) (Int) (Int)) := (if (decide (s1.2 < (x0.length : Int))) = true then ((idx x0 s1.2).bind fun x19 => (if (x19.A != s1.1) = true then some (.ret (-1)) else ((idx x0 s1.2).bind fun x26 => (if (x26.B != (w64 (s1.1 + 1))) = true then some (.ret (-1)) else some (.next (w64 ((w64 (s1.1 + 1)) + 1), w64 (s1.2 + 1))))))) else some (.brk s1.1))
def m_laws_heldPairS (fuel : Nat) (x0 : (List D.Pair)) (x1 : Int) : Option (Int) := ((iter (m_laws_heldPairS_b1 fuel x0) fuel (x1, 0)).bind fun o => aft o (m_laws_heldPairS_j1 fuel))

set_option maxRecDepth 100000 in
theorem laws_heldPairS_ok {W w : World} (hE : Ext W w) {A0_ : Option Addr} {k0_ : Nat} {x0 : (List D.Pair)} {x1 : Int} (h0_ : ty78.ro W [.slice A0_ x0.length k0_] x0) {fuel : Nat} {r : Int} (hm : m_laws_heldPairS fuel x0 x1 = some r) :
    Calls Try.prog 101 ⟨[.slice A0_ x0.length k0_, .int .i64 x1]⟩ w (Ret fun v w8 => v = .int .i64 r ∧ St w w8 []) := by
  refine Calls.into Try.func101 rfl 31 rfl rfl _ rfl ?_
  unfold m_laws_heldPairS at hm
  have hS := St.start w
  refine WP.seq ?_
  refine WP.region ?_
  refine RW.run ttok 1 rfl ?_
  refine RW.nil ?_
  refine WP.seq ?_
  refine WP.seq ?_
  refine WP.region ?_
  refine RW.run ttok 1 rfl ?_
  refine RW.nil ?_
  obtain ⟨o10, hl11, hm⟩ := bind_some hm
  refine WP.cut (fun (t2 : Int) F w9 => o10 = .inl t2 ∧ Ext w w9 ∧ St w w9 [] ∧ F = [(1, .int .i64 t2)]) ?_ ?_
  · skip
    rintro t2 F w7 ⟨ho13, hE6, hS12, rfl⟩
    subst ho13
    rw [aft_inl] at hm
    unfold m_laws_heldPairS_j1 at hm
    refine WP.seq ?_
    refine WP.region ?_
    refine RW.run ttok 2 rfl ?_
    refine RW.nil ?_
    refine WP.ret ?_
    cases hm
    exact ⟨_, .cons (.tmp rfl) .nil, rfl, hS12⟩
  · skip
    refine WP.block ?_
    refine WP.weak [(0, .slice A0_ x0.length k0_), (1, .int .i64 x1), (5, .int .i64 0)] ⟨rfl, rfl, rfl, trivial⟩ ?_
    refine WP.iter (fun (s1 : Int × Int) F w9 => Ext w w9 ∧ St w w9 [] ∧ F = [(0, .slice A0_ x0.length k0_), (1, .int .i64 s1.1), (5, .int .i64 s1.2)]) _ hl11 ⟨(Ext.refl _), hS, rfl⟩ ?_
    rintro s1 F w18 _ o16 ⟨hE5, hS17, rfl⟩ hb14 ho15
    unfold m_laws_heldPairS_b1 at hb14
    refine WP.seq ?_
    refine WP.seq ?_
    refine WP.region ?_
    refine RW.run ttok 4 rfl ?_
    refine RW.nil ?_
    refine WP.cond (decide (s1.2 < (x0.length : Int))) rfl (fun hc => ?_) (fun hc => ?_)
    · skip
      rw [if_pos hc] at hb14
      refine WP.skip ?_
      refine WP.seq ?_
      refine WP.block ?_
      refine WP.seq ?_
      refine WP.seq ?_
      refine WP.region ?_
      refine RW.run ttok 2 rfl ?_
      obtain ⟨x19, hx20, hb14⟩ := bind_some hb14
      refine RW.idx ttok (hE.trans hS17.ext) rfl rfl rfl rfl rfl rfl (by decide) rfl rfl h0_ (idx_some hx20).1 (idx_some hx20).2 rfl rfl (fun p21 es22 ha23 hr24 => ?_)
      have e25 := ty139_open hr24; subst e25
      refine RW.run ttok 1 rfl ?_
      refine RW.load1 ttok rfl rfl rfl rfl rfl (At.ext (hE.trans hS17.ext) ha23) 0 rfl rfl rfl rfl ?_
      refine RW.run ttok 2 rfl ?_
      refine RW.nil ?_
      refine WP.cond (x19.A != s1.1) rfl (fun hc => ?_) (fun hc => ?_)
      · skip
        rw [if_pos hc] at hb14
        refine WP.seq ?_
        refine WP.region ?_
        refine RW.run ttok 1 rfl ?_
        refine RW.nil ?_
        refine WP.ret ?_
        cases hb14
        cases ho15
        have hm : some _ = some _ := hm
        cases hm
        exact ⟨_, .cons (.tmp rfl) .nil, rfl, hS17⟩
      · skip
        rw [if_neg (not_t hc)] at hb14
        refine WP.skip ?_
        refine WP.seq ?_
        refine WP.region ?_
        refine RW.run ttok 3 rfl ?_
        refine RW.nil ?_
        refine WP.seq ?_
        refine WP.seq ?_
        refine WP.region ?_
        refine RW.run ttok 2 rfl ?_
        obtain ⟨x26, hx27, hb14⟩ := bind_some hb14
        refine RW.idx ttok (hE.trans hS17.ext) rfl rfl rfl rfl rfl rfl (by decide) rfl rfl h0_ (idx_some hx27).1 (idx_some hx27).2 rfl rfl (fun p28 es29 ha30 hr31 => ?_)
        have e32 := ty139_open hr31; subst e32
        refine RW.run ttok 1 rfl ?_
        refine RW.load1 ttok rfl rfl rfl rfl rfl (At.ext (hE.trans hS17.ext) ha30) 1 rfl rfl rfl rfl ?_
        refine RW.run ttok 2 rfl ?_
        refine RW.nil ?_
        refine WP.cond (x26.B != (w64 (s1.1 + 1))) rfl (fun hc => ?_) (fun hc => ?_)
        · skip
          rw [if_pos hc] at hb14
          refine WP.seq ?_
          refine WP.region ?_
          refine RW.run ttok 1 rfl ?_
          refine RW.nil ?_
          refine WP.ret ?_
          cases hb14
          cases ho15
          have hm : some _ = some _ := hm
          cases hm
          exact ⟨_, .cons (.tmp rfl) .nil, rfl, hS17⟩
        · skip
          rw [if_neg (not_t hc)] at hb14
          refine WP.skip ?_
          refine WP.region ?_
          refine RW.run ttok 3 rfl ?_
          refine RW.nil ?_
          refine WP.region ?_
          refine RW.run ttok 3 rfl ?_
          refine RW.nil ?_
          cases hb14
          exact ⟨_, [(0, .slice A0_ x0.length k0_), (1, .int .i64 (w64 ((w64 (s1.1 + 1)) + 1))), (5, .int .i64 (w64 (s1.2 + 1)))], ⟨rfl, rfl, rfl, trivial⟩, rfl, hE5, hS17, rfl⟩
    · skip
      rw [if_neg (not_t hc)] at hb14
      refine WP.exit ?_
      cases hb14
      exact ⟨_, [(1, .int .i64 s1.1)], ⟨rfl, trivial⟩, ho15, hE5, hS17, rfl⟩

theorem enters43 : Enters Try.prog 43 := ⟨_, _, Try.func43, rfl, by kernel_rfl⟩
def m_laws_heldMemory (fuel : Nat) (x0 : D.Memory) (x1 : Int) : Option (Int) := ((m_laws_heldCellS fuel x0.Cells x1).bind fun r14 => (if (decide (r14 < 0)) = true then some (-1) else ((m_laws_heldPairS fuel x0.Redexes r14).bind fun r21 => (if (decide (r21 < 0)) = true then some (-1) else some r21))))

set_option maxRecDepth 100000 in
theorem laws_heldMemory_ok {W w : World} (hE : Ext W w) {c0_ : List Value} {x0 : D.Memory} {x1 : Int} (h0_ : ty80.ro W c0_ x0) {fuel : Nat} {r : Int} (hm : m_laws_heldMemory fuel x0 x1 = some r) :
    Calls Try.prog 43 ⟨[.agg ⟨c0_⟩, .int .i64 x1]⟩ w (Ret fun v w8 => v = .int .i64 r ∧ St w w8 []) := by
  obtain ⟨A1, k2, A4, k5, e7, h3, h6⟩ := ty80_open h0_; subst e7
  refine Calls.into Try.func43 rfl 18 rfl rfl _ rfl ?_
  unfold m_laws_heldMemory at hm
  have hS := St.start w
  refine WP.seq ?_
  refine WP.region ?_
  refine RW.new ttok hS rfl rfl rfl rfl (fun g10 w11 e12 hS13 => ?_)
  refine RW.run ttok 1 rfl ?_
  refine RW.nil ?_
  refine WP.seq ?_
  refine WP.region ?_
  refine RW.run ttok 1 rfl ?_
  refine RW.load1 ttok rfl rfl rfl rfl rfl ((hS13.bring 0 rfl).box) 0 rfl rfl rfl rfl ?_
  refine RW.run ttok 1 rfl ?_
  obtain ⟨r14, hx15, hm⟩ := bind_some hm
  refine RW.call rfl rfl rfl enters100 (laws_heldCellS_ok (hE.trans hS13.ext) h3 hx15) (fun v16 w17 hR18 => ?_)
  obtain ⟨rfl, hR19⟩ := hR18
  have hS20 := hS13.join hR19
  refine RW.run ttok 1 rfl ?_
  refine RW.nil ?_
  refine WP.seq ?_
  refine WP.seq ?_
  refine WP.region ?_
  refine RW.run ttok 2 rfl ?_
  refine RW.nil ?_
  refine WP.cond (decide (r14 < 0)) rfl (fun hc => ?_) (fun hc => ?_)
  · skip
    rw [if_pos hc] at hm
    refine WP.seq ?_
    refine WP.region ?_
    refine RW.run ttok 1 rfl ?_
    refine RW.nil ?_
    refine WP.ret ?_
    cases hm
    exact ⟨_, .cons (.tmp rfl) .nil, rfl, (hS20.taken 0)⟩
  · skip
    rw [if_neg (not_t hc)] at hm
    refine WP.skip ?_
    refine WP.seq ?_
    refine WP.region ?_
    refine RW.run ttok 1 rfl ?_
    refine RW.load1 ttok rfl rfl rfl rfl rfl ((hS20.bring 0 rfl).box) 4 rfl rfl rfl rfl ?_
    refine RW.run ttok 1 rfl ?_
    obtain ⟨r21, hx22, hm⟩ := bind_some hm
    refine RW.call rfl rfl rfl enters101 (laws_heldPairS_ok (hE.trans hS20.ext) h6 hx22) (fun v23 w24 hR25 => ?_)
    obtain ⟨rfl, hR26⟩ := hR25
    have hS27 := hS20.join hR26
    refine RW.run ttok 1 rfl ?_
    refine RW.nil ?_
    refine WP.seq ?_
    refine WP.seq ?_
    refine WP.region ?_
    refine RW.run ttok 2 rfl ?_
    refine RW.nil ?_
    refine WP.cond (decide (r21 < 0)) rfl (fun hc => ?_) (fun hc => ?_)
    · skip
      rw [if_pos hc] at hm
      refine WP.seq ?_
      refine WP.region ?_
      refine RW.run ttok 1 rfl ?_
      refine RW.nil ?_
      refine WP.ret ?_
      cases hm
      exact ⟨_, .cons (.tmp rfl) .nil, rfl, (hS27.taken 0)⟩
    · skip
      rw [if_neg (not_t hc)] at hm
      refine WP.skip ?_
      refine WP.seq ?_
      refine WP.region ?_
      refine RW.run ttok 2 rfl ?_
      refine RW.nil ?_
      refine WP.ret ?_
      cases hm
      exact ⟨_, .cons (.tmp rfl) .nil, rfl, (hS27.taken 0)⟩

theorem enters8 : Enters Try.prog 8 := ⟨_, _, Try.func8, rfl, by kernel_rfl⟩
def m_laws_FnExactTidyMemory_j3 (fuel : Nat) (r69 : D.Memory × Int) (r123 : Int × (List D.Cell) × (List D.Pair)) (t171 : Bool) : Option Bool := (if t171 = true then some false else ((m_laws_heldMemory fuel (⟨r123.2.1, r69.1.Free, (⟨r69.1.Root.Tag, r69.1.Root.At⟩ : D.Word), r123.2.2⟩ : D.Memory) 1).bind fun r176 => (if (decide (r176 < 0)) = true then some false else (if (r176 != r123.1) = true then some false else some true))))
def m_laws_FnExactTidyMemory_j2 (fuel : Nat) (x0 : D.Memory) (r32 : D.Memory × Int) (r69 : D.Memory × Int) (t118 : Bool) : Option Bool := (if t118 = true then some false else ((m_laws_markMemory fuel r69.1 1).bind fun r123 => ((m_laws_heldMemory fuel (⟨r123.2.1, r69.1.Free, (⟨r69.1.Root.Tag, r69.1.Root.At⟩ : D.Word), r123.2.2⟩ : D.Memory) 1).bind fun r135 => (if (decide (r135 < 0)) = true then some false else (if (r135 != r123.1) = true then some false else ((m_laws_toMemory fuel x0).bind fun r142 => ((m_impl_TidyMemory fuel r142).bind fun r153 => ((m_laws_eqMemory fuel r153.1 r32.1).bind fun r183 => (if (!r183) = true then m_laws_FnExactTidyMemory_j3 fuel r69 r123 true else m_laws_FnExactTidyMemory_j3 fuel r69 r123 (r153.2 != r32.2))))))))))
def m_laws_FnExactTidyMemory_j1 (fuel : Nat) (x0 : D.Memory) (r32 : D.Memory × Int) (r50 : D.Memory) (r69 : D.Memory × Int) (t87 : Bool) : Option Bool := (if t87 = true then some false else ((m_laws_toMemory fuel x0).bind fun r94 => ((m_laws_eqMemory fuel r50 r94).bind fun r105 => (if (!r105) = true then some false else ((m_laws_markMemory fuel r50 1).bind fun r112 => (if (decide (r112.1 < 0)) = true then m_laws_FnExactTidyMemory_j2 fuel x0 r32 r69 true else ((m_laws_eqMemory fuel r69.1 r32.1).bind fun r192 => (if (!r192) = true then m_laws_FnExactTidyMemory_j2 fuel x0 r32 r69 true else m_laws_FnExactTidyMemory_j2 fuel x0 r32 r69 (r69.2 != r32.2)))))))))
def m_laws_FnExactTidyMemory (fuel : Nat) (x0 : D.Memory) : Option (Bool) := ((m_laws_szMemory fuel x0 1048576).bind fun r14 => (if (decide (r14 < 0)) = true then some true else ((m_laws_toMemory fuel x0).bind fun r21 => ((m_spec_TidyMemory fuel r21).bind fun r32 => ((m_laws_toMemory fuel x0).bind fun r50 => ((m_impl_TidyMemory fuel r50).bind fun r69 => ((m_laws_eqMemory fuel r69.1 r32.1).bind fun r200 => (if (!r200) = true then m_laws_FnExactTidyMemory_j1 fuel x0 r32 r50 r69 true else m_laws_FnExactTidyMemory_j1 fuel x0 r32 r50 r69 (r69.2 != r32.2)))))))))

set_option maxRecDepth 100000 in
theorem laws_FnExactTidyMemory_ok {W w : World} (hE : Ext W w) {c0_ : List Value} {x0 : D.Memory} (h0_ : ty73.ro W c0_ x0) {fuel : Nat} {r : Bool} (hm : m_laws_FnExactTidyMemory fuel x0 = some r) :
    Calls Try.prog 8 ⟨[.agg ⟨c0_⟩]⟩ w (Ret fun v w8 => v = .bool r ∧ St w w8 []) := by
  obtain ⟨A1, k2, A4, k5, e7, h3, h6⟩ := ty73_open h0_; subst e7
  refine Calls.into Try.func8 rfl 96 rfl rfl _ rfl ?_
  unfold m_laws_FnExactTidyMemory at hm
  have hS := St.start w
  refine WP.seq ?_
  refine WP.region ?_
  refine RW.new ttok hS rfl rfl rfl rfl (fun g10 w11 e12 hS13 => ?_)
  refine RW.run ttok 1 rfl ?_
  refine RW.nil ?_
  refine WP.seq ?_
  refine WP.region ?_
  refine RW.run ttok 1 rfl ?_
  refine RW.nil ?_
  refine WP.seq ?_
  refine WP.region ?_
  refine RW.loadN ttok rfl rfl rfl rfl rfl ((hS13.bring 0 rfl).box) rfl rfl rfl ?_
  refine RW.run ttok 1 rfl ?_
  obtain ⟨r14, hx15, hm⟩ := bind_some hm
  refine RW.call rfl rfl rfl enters35 (laws_szMemory_ok (hE.trans hS13.ext) h0_ hx15) (fun v16 w17 hR18 => ?_)
  obtain ⟨rfl, hR19⟩ := hR18
  have hS20 := hS13.join hR19
  refine RW.run ttok 1 rfl ?_
  refine RW.nil ?_
  refine WP.seq ?_
  refine WP.seq ?_
  refine WP.region ?_
  refine RW.run ttok 2 rfl ?_
  refine RW.nil ?_
  refine WP.cond (decide (r14 < 0)) rfl (fun hc => ?_) (fun hc => ?_)
  · skip
    rw [if_pos hc] at hm
    refine WP.seq ?_
    refine WP.region ?_
    refine RW.run ttok 1 rfl ?_
    refine RW.nil ?_
    refine WP.ret ?_
    cases hm
    exact ⟨_, .cons (.tmp rfl) .nil, rfl, (hS20.taken 0)⟩
  · skip
    rw [if_neg (not_t hc)] at hm
    refine WP.skip ?_
    refine WP.seq ?_
    refine WP.region ?_
    refine RW.loadN ttok rfl rfl rfl rfl rfl ((hS20.bring 0 rfl).box) rfl rfl rfl ?_
    obtain ⟨r21, hx22, hm⟩ := bind_some hm
    refine RW.call rfl rfl rfl enters37 (laws_toMemory_ok (hE.trans hS20.ext) h0_ hx22) (fun v23 w24 hR25 => ?_)
    obtain ⟨A26, k27, A28, k29, rfl, hR30⟩ := hR25
    have hS31 := hS20.join hR30
    obtain ⟨r32, hx33, hm⟩ := bind_some hm
    refine RW.call rfl rfl rfl enters40 (spec_TidyMemory_ok (Ext.refl _) (ty80_shut r21 ((hS31.bring 0 rfl).own) ((hS31.bring 1 rfl).own)) hx33) (fun v34 w35 hR36 => ?_)
    obtain ⟨A37, k38, A39, k40, rfl, hR41⟩ := hR36
    have hS42 := hS31.join hR41
    refine RW.run ttok 3 rfl ?_
    refine RW.new ttok hS42 rfl rfl rfl rfl (fun g43 w44 e45 hS46 => ?_)
    have hS47 := hS46.bring 0 rfl
    refine RW.store ttok (A := []) hS47 rfl rfl rfl rfl rfl 0 rfl rfl rfl rfl rfl (fun w48 hS49 => ?_)
    refine RW.run ttok 1 rfl ?_
    refine RW.nil ?_
    refine WP.seq ?_
    refine WP.region ?_
    refine RW.loadN ttok rfl rfl rfl rfl rfl ((hS49.bring 5 rfl).box) rfl rfl rfl ?_
    obtain ⟨r50, hx51, hm⟩ := bind_some hm
    refine RW.call rfl rfl rfl enters37 (laws_toMemory_ok (hE.trans hS49.ext) h0_ hx51) (fun v52 w53 hR54 => ?_)
    obtain ⟨A55, k56, A57, k58, rfl, hR59⟩ := hR54
    have hS60 := hS49.join hR59
    refine RW.new ttok hS60 rfl rfl rfl rfl (fun g61 w62 e63 hS65 => ?_)
    have hS66 := hS65.bring 0 rfl
    refine RW.store ttok (A := []) hS66 rfl rfl rfl rfl rfl 0 rfl rfl rfl rfl rfl (fun w67 hS68 => ?_)
    refine RW.nil ?_
    refine WP.seq ?_
    refine WP.region ?_
    refine RW.loadN ttok rfl rfl rfl rfl rfl ((hS68.bring 0 rfl).box) rfl rfl rfl ?_
    obtain ⟨r69, hx70, hm⟩ := bind_some hm
    refine RW.call rfl rfl rfl enters41 (impl_TidyMemory_ok (Ext.refl _) (ty80_shut r50 ((hS68.bring 1 rfl).own) ((hS68.bring 2 rfl).own)) hx70) (fun v71 w72 hR73 => ?_)
    obtain ⟨A74, k75, A76, k77, rfl, hR78⟩ := hR73
    have hS79 := hS68.join hR78
    refine RW.run ttok 3 rfl ?_
    refine RW.new ttok hS79 rfl rfl rfl rfl (fun g80 w81 e82 hS83 => ?_)
    have hS84 := hS83.bring 0 rfl
    refine RW.store ttok (A := []) hS84 rfl rfl rfl rfl rfl 0 rfl rfl rfl rfl rfl (fun w85 hS86 => ?_)
    refine RW.run ttok 1 rfl ?_
    refine RW.nil ?_
    refine WP.seq ?_
    refine WP.seq ?_
    refine WP.cut (fun (t87 : Bool) F w9 => m_laws_FnExactTidyMemory_j1 fuel x0 r32 r50 r69 t87 = some r ∧ Ext w85 w9 ∧ St w w9 [Box g80 [.slice A74 r69.1.Cells.length k75, .int .i64 r69.1.Free, .int .i64 r69.1.Root.Tag, .int .i64 r69.1.Root.At, .slice A76 r69.1.Redexes.length k77] 80, Own ty76 [.slice A74 r69.1.Cells.length k75] r69.1.Cells, Own ty78 [.slice A76 r69.1.Redexes.length k77] r69.1.Redexes, Box g61 [.slice A55 r50.Cells.length k56, .int .i64 r50.Free, .int .i64 r50.Root.Tag, .int .i64 r50.Root.At, .slice A57 r50.Redexes.length k58] 80, Own ty76 [.slice A55 r50.Cells.length k56] r50.Cells, Own ty78 [.slice A57 r50.Redexes.length k58] r50.Redexes, Box g43 [.slice A37 r32.1.Cells.length k38, .int .i64 r32.1.Free, .int .i64 r32.1.Root.Tag, .int .i64 r32.1.Root.At, .slice A39 r32.1.Redexes.length k40] 80, Own ty76 [.slice A37 r32.1.Cells.length k38] r32.1.Cells, Own ty78 [.slice A39 r32.1.Redexes.length k40] r32.1.Redexes, Own ty76 [.slice A26 r21.Cells.length k27] r21.Cells, Own ty78 [.slice A28 r21.Redexes.length k29] r21.Redexes, Box g10 [.slice A1 x0.Cells.length k2, .int .i64 x0.Free, .int .i64 x0.Root.Tag, .int .i64 x0.Root.At, .slice A4 x0.Redexes.length k5] 73] ∧ F = [(1, .pointer (some ⟨g10, 0, none⟩)), (4, .pointer (some ⟨g43, 0, none⟩)), (5, .int .i64 r32.2), (6, .pointer (some ⟨g61, 0, none⟩)), (7, .pointer (some ⟨g80, 0, none⟩)), (8, .int .i64 r69.2), (40, .bool t87)]) ?_ ?_
    · skip
      rintro t87 F w90 ⟨hm, hE88, hS89, rfl⟩
      unfold m_laws_FnExactTidyMemory_j1 at hm
      refine WP.cond t87 rfl (fun hc => ?_) (fun hc => ?_)
      · skip
        rw [if_pos hc] at hm
        refine WP.seq ?_
        refine WP.region ?_
        refine RW.run ttok 1 rfl ?_
        refine RW.nil ?_
        refine WP.ret ?_
        cases hm
        exact ⟨_, .cons (.tmp rfl) .nil, rfl, (hS89.taken 0)⟩
      · skip
        rw [if_neg (not_t hc)] at hm
        refine WP.skip ?_
        refine WP.seq ?_
        refine WP.seq ?_
        refine WP.drawnM 0 mixed 5 (by kernel_rfl) (by kernel_rfl) [([], 31), ([], 31), ([1], 29), ([0, 2, 2], 26), ([3], 23)] (by kernel_rfl) hS89.ext (fun hsk92 => ?_)
        have hS93 := hS89.step (Ext.draw _)
        refine DM.loadN ttok hsk92 0 1 (by kernel_rfl) (by kernel_rfl) (by kernel_rfl) (by kernel_rfl) rfl (by kernel_rfl) rfl rfl rfl rfl rfl ((hS89.bring 3 rfl).box) rfl rfl rfl ?_
        refine DM.loadN ttok hsk92 1 3 (by kernel_rfl) (by kernel_rfl) (by kernel_rfl) (by kernel_rfl) rfl (by kernel_rfl) rfl rfl rfl rfl rfl ((hS89.bring 11 rfl).box) rfl rfl rfl ?_
        obtain ⟨r94, hx95, hm⟩ := bind_some hm
        refine DM.one hsk92 2 (by kernel_rfl) (LM.call hsk92 7 (by kernel_rfl) (by kernel_rfl) rfl rfl rfl rfl enters37 (laws_toMemory_ok (hE.trans hS93.ext) h0_ hx95) (fun v96 w97 hR98 => ?_))
        obtain ⟨A99, k100, A101, k102, rfl, hR103⟩ := hR98
        refine ⟨hR103.ext, ?_⟩
        have hS104 := hS93.join hR103
        obtain ⟨r105, hx106, hm⟩ := bind_some hm
        refine DM.one hsk92 3 (by kernel_rfl) (LM.call hsk92 15 (by kernel_rfl) (by kernel_rfl) rfl rfl rfl rfl enters39 (laws_eqMemory_ok (Ext.refl _) (ty80_shut r50 ((hS104.bring 6 rfl).own) ((hS104.bring 7 rfl).own)) (ty80_shut r94 ((hS104.bring 0 rfl).own) ((hS104.bring 1 rfl).own)) hx106) (fun v107 w108 hR109 => ?_))
        obtain ⟨rfl, hR110⟩ := hR109
        refine ⟨hR110.ext, ?_⟩
        have hS111 := hS104.join hR110
        refine DM.run (fuel := 0) ttok hsk92 [4] 31 (by kernel_rfl) (by kernel_rfl) rfl ?_
        refine DM.done hsk92 (by kernel_rfl) ?_
        refine WP.cond (!r105) rfl (fun hc => ?_) (fun hc => ?_)
        · skip
          rw [if_pos hc] at hm
          refine WP.seq ?_
          refine WP.region ?_
          refine RW.run ttok 1 rfl ?_
          refine RW.nil ?_
          refine WP.ret ?_
          cases hm
          exact ⟨_, .cons (.tmp rfl) .nil, rfl, (hS111.taken 0)⟩
        · skip
          rw [if_neg (not_t hc)] at hm
          refine WP.skip ?_
          refine WP.seq ?_
          refine WP.region ?_
          refine RW.run ttok 1 rfl ?_
          refine RW.nil ?_
          refine WP.seq ?_
          refine WP.region ?_
          refine RW.loadN ttok rfl rfl rfl rfl rfl ((hS111.bring 5 rfl).box) rfl rfl rfl ?_
          refine RW.run ttok 1 rfl ?_
          obtain ⟨r112, hx113, hm⟩ := bind_some hm
          refine RW.call rfl rfl rfl enters42 (laws_markMemory_ok (W := w) (RR := _) (x0 := r50) (x1 := 1) ((hS111.bring 7 rfl).bring 7 rfl)  hx113) (fun v114 w115 hR116 => ?_)
          obtain ⟨rfl, hS117⟩ := hR116
          refine RW.run ttok 1 rfl ?_
          refine RW.nil ?_
          refine WP.seq ?_
          refine WP.seq ?_
          refine WP.cut (fun (t118 : Bool) F w9 => m_laws_FnExactTidyMemory_j2 fuel x0 r32 r69 t118 = some r ∧ Ext w115 w9 ∧ St w w9 [Own ty76 [.slice A55 r50.Cells.length k56] r112.2.1, Own ty78 [.slice A57 r50.Redexes.length k58] r112.2.2, Own ty76 [.slice A99 r94.Cells.length k100] r94.Cells, Own ty78 [.slice A101 r94.Redexes.length k102] r94.Redexes, Box g80 [.slice A74 r69.1.Cells.length k75, .int .i64 r69.1.Free, .int .i64 r69.1.Root.Tag, .int .i64 r69.1.Root.At, .slice A76 r69.1.Redexes.length k77] 80, Own ty76 [.slice A74 r69.1.Cells.length k75] r69.1.Cells, Own ty78 [.slice A76 r69.1.Redexes.length k77] r69.1.Redexes, Box g61 [.slice A55 r50.Cells.length k56, .int .i64 r50.Free, .int .i64 r50.Root.Tag, .int .i64 r50.Root.At, .slice A57 r50.Redexes.length k58] 80, Box g43 [.slice A37 r32.1.Cells.length k38, .int .i64 r32.1.Free, .int .i64 r32.1.Root.Tag, .int .i64 r32.1.Root.At, .slice A39 r32.1.Redexes.length k40] 80, Own ty76 [.slice A37 r32.1.Cells.length k38] r32.1.Cells, Own ty78 [.slice A39 r32.1.Redexes.length k40] r32.1.Redexes, Own ty76 [.slice A26 r21.Cells.length k27] r21.Cells, Own ty78 [.slice A28 r21.Redexes.length k29] r21.Redexes, Box g10 [.slice A1 x0.Cells.length k2, .int .i64 x0.Free, .int .i64 x0.Root.Tag, .int .i64 x0.Root.At, .slice A4 x0.Redexes.length k5] 73] ∧ F = [(1, .pointer (some ⟨g10, 0, none⟩)), (4, .pointer (some ⟨g43, 0, none⟩)), (5, .int .i64 r32.2), (7, .pointer (some ⟨g80, 0, none⟩)), (61, .bool t118)]) ?_ ?_
          · skip
            rintro t118 F w121 ⟨hm, hE119, hS120, rfl⟩
            unfold m_laws_FnExactTidyMemory_j2 at hm
            refine WP.cond t118 rfl (fun hc => ?_) (fun hc => ?_)
            · skip
              rw [if_pos hc] at hm
              refine WP.seq ?_
              refine WP.region ?_
              refine RW.run ttok 1 rfl ?_
              refine RW.nil ?_
              refine WP.ret ?_
              cases hm
              exact ⟨_, .cons (.tmp rfl) .nil, rfl, (hS120.taken 0)⟩
            · skip
              rw [if_neg (not_t hc)] at hm
              refine WP.skip ?_
              refine WP.seq ?_
              refine WP.region ?_
              refine RW.run ttok 1 rfl ?_
              refine RW.nil ?_
              refine WP.seq ?_
              refine WP.region ?_
              refine RW.loadN ttok rfl rfl rfl rfl rfl ((hS120.bring 4 rfl).box) rfl rfl rfl ?_
              refine RW.run ttok 1 rfl ?_
              obtain ⟨r123, hx124, hm⟩ := bind_some hm
              refine RW.call rfl rfl rfl enters42 (laws_markMemory_ok (W := w) (RR := _) (x0 := r69.1) (x1 := 1) ((hS120.bring 6 rfl).bring 6 rfl)  hx124) (fun v125 w126 hR127 => ?_)
              obtain ⟨rfl, hS128⟩ := hR127
              refine RW.run ttok 1 rfl ?_
              refine RW.nil ?_
              refine WP.seq ?_
              refine WP.region ?_
              refine RW.run ttok 1 rfl ?_
              refine RW.nil ?_
              refine WP.seq ?_
              refine WP.region ?_
              refine RW.loadN ttok rfl rfl rfl rfl rfl ((hS128.bring 6 rfl).box) rfl rfl rfl ?_
              refine RW.run ttok 1 rfl ?_
              have hn129 := (hS128.bring 0 rfl).lenEq
              have hS130 := (hS128.bring 0 rfl).reLen hn129
              have hS131 := (hS130.bring 6 rfl).reBox (cs' := [.slice A74 r123.2.1.length k75, .int .i64 r69.1.Free, .int .i64 r69.1.Root.Tag, .int .i64 r69.1.Root.At, .slice A76 r69.1.Redexes.length k77]) (by show ([.slice A74 r69.1.Cells.length k75, .int .i64 r69.1.Free, .int .i64 r69.1.Root.Tag, .int .i64 r69.1.Root.At, .slice A76 r69.1.Redexes.length k77] : List Value) = [.slice A74 r123.2.1.length k75, .int .i64 r69.1.Free, .int .i64 r69.1.Root.Tag, .int .i64 r69.1.Root.At, .slice A76 r69.1.Redexes.length k77]; first | (simp only [hn129]; done) | (simp only [hn129]; rfl))
              have hn132 := (hS131.bring 2 rfl).lenEq
              have hS133 := (hS131.bring 2 rfl).reLen hn132
              have hS134 := (hS133.bring 1 rfl).reBox (cs' := [.slice A74 r123.2.1.length k75, .int .i64 r69.1.Free, .int .i64 r69.1.Root.Tag, .int .i64 r69.1.Root.At, .slice A76 r123.2.2.length k77]) (by show ([.slice A74 r123.2.1.length k75, .int .i64 r69.1.Free, .int .i64 r69.1.Root.Tag, .int .i64 r69.1.Root.At, .slice A76 r69.1.Redexes.length k77] : List Value) = [.slice A74 r123.2.1.length k75, .int .i64 r69.1.Free, .int .i64 r69.1.Root.Tag, .int .i64 r69.1.Root.At, .slice A76 r123.2.2.length k77]; first | (simp only [hn132]; done) | (simp only [hn132]; rfl))
              refine RW.know (u := .agg ⟨[.slice A74 r123.2.1.length k75, .int .i64 r69.1.Free, .int .i64 r69.1.Root.Tag, .int .i64 r69.1.Root.At, .slice A76 r123.2.2.length k77]⟩) 65 rfl (by simp only [hn129, hn132]) ?_
              obtain ⟨r135, hx136, hm⟩ := bind_some hm
              refine RW.call rfl rfl rfl enters43 (laws_heldMemory_ok (Ext.refl _) (ty80_shut (⟨r123.2.1, r69.1.Free, (⟨r69.1.Root.Tag, r69.1.Root.At⟩ : D.Word), r123.2.2⟩ : D.Memory) ((hS134.bring 2 rfl).own) ((hS134.bring 1 rfl).own)) hx136) (fun v137 w138 hR139 => ?_)
              obtain ⟨rfl, hR140⟩ := hR139
              have hS141 := hS134.join hR140
              refine RW.run ttok 1 rfl ?_
              refine RW.nil ?_
              refine WP.seq ?_
              refine WP.seq ?_
              refine WP.region ?_
              refine RW.run ttok 2 rfl ?_
              refine RW.nil ?_
              refine WP.cond (decide (r135 < 0)) rfl (fun hc => ?_) (fun hc => ?_)
              · skip
                rw [if_pos hc] at hm
                refine WP.seq ?_
                refine WP.region ?_
                refine RW.run ttok 1 rfl ?_
                refine RW.nil ?_
                refine WP.ret ?_
                cases hm
                exact ⟨_, .cons (.tmp rfl) .nil, rfl, (hS141.taken 0)⟩
              · skip
                rw [if_neg (not_t hc)] at hm
                refine WP.skip ?_
                refine WP.seq ?_
                refine WP.seq ?_
                refine WP.region ?_
                refine RW.run ttok 3 rfl ?_
                refine RW.nil ?_
                refine WP.cond (r135 != r123.1) rfl (fun hc => ?_) (fun hc => ?_)
                · skip
                  rw [if_pos hc] at hm
                  refine WP.seq ?_
                  refine WP.region ?_
                  refine RW.run ttok 1 rfl ?_
                  refine RW.nil ?_
                  refine WP.ret ?_
                  cases hm
                  exact ⟨_, .cons (.tmp rfl) .nil, rfl, (hS141.taken 0)⟩
                · skip
                  rw [if_neg (not_t hc)] at hm
                  refine WP.skip ?_
                  refine WP.seq ?_
                  refine WP.region ?_
                  refine RW.loadN ttok rfl rfl rfl rfl rfl ((hS141.bring 13 rfl).box) rfl rfl rfl ?_
                  obtain ⟨r142, hx143, hm⟩ := bind_some hm
                  refine RW.call rfl rfl rfl enters37 (laws_toMemory_ok (hE.trans hS141.ext) h0_ hx143) (fun v144 w145 hR146 => ?_)
                  obtain ⟨A147, k148, A149, k150, rfl, hR151⟩ := hR146
                  have hS152 := hS141.join hR151
                  obtain ⟨r153, hx154, hm⟩ := bind_some hm
                  refine RW.call rfl rfl rfl enters41 (impl_TidyMemory_ok (Ext.refl _) (ty80_shut r142 ((hS152.bring 0 rfl).own) ((hS152.bring 1 rfl).own)) hx154) (fun v155 w156 hR157 => ?_)
                  obtain ⟨A158, k159, A160, k161, rfl, hR162⟩ := hR157
                  have hS163 := hS152.join hR162
                  refine RW.run ttok 3 rfl ?_
                  refine RW.new ttok hS163 rfl rfl rfl rfl (fun g164 w165 e166 hS167 => ?_)
                  have hS168 := hS167.bring 0 rfl
                  refine RW.store ttok (A := []) hS168 rfl rfl rfl rfl rfl 0 rfl rfl rfl rfl rfl (fun w169 hS170 => ?_)
                  refine RW.run ttok 1 rfl ?_
                  refine RW.nil ?_
                  refine WP.seq ?_
                  refine WP.seq ?_
                  refine WP.cut (fun (t171 : Bool) F w9 => m_laws_FnExactTidyMemory_j3 fuel r69 r123 t171 = some r ∧ Ext w169 w9 ∧ St w w9 [Box g164 [.slice A158 r153.1.Cells.length k159, .int .i64 r153.1.Free, .int .i64 r153.1.Root.Tag, .int .i64 r153.1.Root.At, .slice A160 r153.1.Redexes.length k161] 80, Own ty76 [.slice A158 r153.1.Cells.length k159] r153.1.Cells, Own ty78 [.slice A160 r153.1.Redexes.length k161] r153.1.Redexes, Own ty76 [.slice A147 r142.Cells.length k148] r142.Cells, Own ty78 [.slice A149 r142.Redexes.length k150] r142.Redexes, Box g80 [.slice A74 r123.2.1.length k75, .int .i64 r69.1.Free, .int .i64 r69.1.Root.Tag, .int .i64 r69.1.Root.At, .slice A76 r123.2.2.length k77] 80, Own ty78 [.slice A76 r123.2.2.length k77] r123.2.2, Own ty76 [.slice A74 r123.2.1.length k75] r123.2.1, Own ty76 [.slice A55 r50.Cells.length k56] r112.2.1, Own ty78 [.slice A57 r50.Redexes.length k58] r112.2.2, Own ty76 [.slice A99 r94.Cells.length k100] r94.Cells, Own ty78 [.slice A101 r94.Redexes.length k102] r94.Redexes, Box g61 [.slice A55 r50.Cells.length k56, .int .i64 r50.Free, .int .i64 r50.Root.Tag, .int .i64 r50.Root.At, .slice A57 r50.Redexes.length k58] 80, Box g43 [.slice A37 r32.1.Cells.length k38, .int .i64 r32.1.Free, .int .i64 r32.1.Root.Tag, .int .i64 r32.1.Root.At, .slice A39 r32.1.Redexes.length k40] 80, Own ty76 [.slice A37 r32.1.Cells.length k38] r32.1.Cells, Own ty78 [.slice A39 r32.1.Redexes.length k40] r32.1.Redexes, Own ty76 [.slice A26 r21.Cells.length k27] r21.Cells, Own ty78 [.slice A28 r21.Redexes.length k29] r21.Redexes, Box g10 [.slice A1 x0.Cells.length k2, .int .i64 x0.Free, .int .i64 x0.Root.Tag, .int .i64 x0.Root.At, .slice A4 x0.Redexes.length k5] 73] ∧ F = [(7, .pointer (some ⟨g80, 0, none⟩)), (10, .int .i64 r123.1), (87, .bool t171)]) ?_ ?_
                  · skip
                    rintro t171 F w174 ⟨hm, hE172, hS173, rfl⟩
                    unfold m_laws_FnExactTidyMemory_j3 at hm
                    refine WP.cond t171 rfl (fun hc => ?_) (fun hc => ?_)
                    · skip
                      rw [if_pos hc] at hm
                      refine WP.seq ?_
                      refine WP.region ?_
                      refine RW.run ttok 1 rfl ?_
                      refine RW.nil ?_
                      refine WP.ret ?_
                      cases hm
                      exact ⟨_, .cons (.tmp rfl) .nil, rfl, (hS173.taken 0)⟩
                    · skip
                      rw [if_neg (not_t hc)] at hm
                      refine WP.skip ?_
                      refine WP.seq ?_
                      refine WP.region ?_
                      refine RW.run ttok 1 rfl ?_
                      refine RW.nil ?_
                      refine WP.seq ?_
                      refine WP.region ?_
                      refine RW.loadN ttok rfl rfl rfl rfl rfl ((hS173.bring 5 rfl).box) rfl rfl rfl ?_
                      refine RW.run ttok 1 rfl ?_
                      obtain ⟨r176, hx177, hm⟩ := bind_some hm
                      refine RW.call rfl rfl rfl enters43 (laws_heldMemory_ok (Ext.refl _) (ty80_shut (⟨r123.2.1, r69.1.Free, (⟨r69.1.Root.Tag, r69.1.Root.At⟩ : D.Word), r123.2.2⟩ : D.Memory) ((hS173.bring 7 rfl).own) ((hS173.bring 6 rfl).own)) hx177) (fun v178 w179 hR180 => ?_)
                      obtain ⟨rfl, hR181⟩ := hR180
                      have hS182 := hS173.join hR181
                      refine RW.run ttok 1 rfl ?_
                      refine RW.nil ?_
                      refine WP.seq ?_
                      refine WP.seq ?_
                      refine WP.region ?_
                      refine RW.run ttok 2 rfl ?_
                      refine RW.nil ?_
                      refine WP.cond (decide (r176 < 0)) rfl (fun hc => ?_) (fun hc => ?_)
                      · skip
                        rw [if_pos hc] at hm
                        refine WP.seq ?_
                        refine WP.region ?_
                        refine RW.run ttok 1 rfl ?_
                        refine RW.nil ?_
                        refine WP.ret ?_
                        cases hm
                        exact ⟨_, .cons (.tmp rfl) .nil, rfl, (hS182.taken 0)⟩
                      · skip
                        rw [if_neg (not_t hc)] at hm
                        refine WP.skip ?_
                        refine WP.seq ?_
                        refine WP.seq ?_
                        refine WP.region ?_
                        refine RW.run ttok 3 rfl ?_
                        refine RW.nil ?_
                        refine WP.cond (r176 != r123.1) rfl (fun hc => ?_) (fun hc => ?_)
                        · skip
                          rw [if_pos hc] at hm
                          refine WP.seq ?_
                          refine WP.region ?_
                          refine RW.run ttok 1 rfl ?_
                          refine RW.nil ?_
                          refine WP.ret ?_
                          cases hm
                          exact ⟨_, .cons (.tmp rfl) .nil, rfl, (hS182.taken 0)⟩
                        · skip
                          rw [if_neg (not_t hc)] at hm
                          refine WP.skip ?_
                          refine WP.seq ?_
                          refine WP.region ?_
                          refine RW.run ttok 1 rfl ?_
                          refine RW.nil ?_
                          refine WP.ret ?_
                          cases hm
                          exact ⟨_, .cons (.tmp rfl) .nil, rfl, (hS182.taken 0)⟩
                  · skip
                    refine WP.region ?_
                    refine RW.loadN ttok rfl rfl rfl rfl rfl ((hS170.bring 0 rfl).box) rfl rfl rfl ?_
                    refine RW.loadN ttok rfl rfl rfl rfl rfl ((hS170.bring 13 rfl).box) rfl rfl rfl ?_
                    obtain ⟨r183, hx184, hm⟩ := bind_some hm
                    refine RW.call rfl rfl rfl enters39 (laws_eqMemory_ok (Ext.refl _) (ty80_shut r153.1 ((hS170.bring 1 rfl).own) ((hS170.bring 2 rfl).own)) (ty80_shut r32.1 ((hS170.bring 14 rfl).own) ((hS170.bring 15 rfl).own)) hx184) (fun v185 w186 hR187 => ?_)
                    obtain ⟨rfl, hR188⟩ := hR187
                    have hS189 := hS170.join hR188
                    refine RW.run ttok 2 rfl ?_
                    by_cases hg190 : (!r183) = true
                    · skip
                      rw [if_pos hg190] at hm
                      refine RW.know 83 rfl (congrArg Value.bool hg190) ?_
                      refine RW.run ttok 4 rfl ?_
                      refine RW.nil ?_
                      exact ⟨true, [(7, .pointer (some ⟨g80, 0, none⟩)), (10, .int .i64 r123.1), (87, .bool true)], ⟨rfl, rfl, rfl, trivial⟩, hm, hR188.ext, hS189, rfl⟩
                    · skip
                      rw [if_neg hg190] at hm
                      refine RW.know 83 rfl (congrArg Value.bool (Bool.eq_false_iff.2 hg190)) ?_
                      refine RW.run ttok 4 rfl ?_
                      refine RW.nil ?_
                      exact ⟨(r153.2 != r32.2), [(7, .pointer (some ⟨g80, 0, none⟩)), (10, .int .i64 r123.1), (87, .bool (r153.2 != r32.2))], ⟨rfl, rfl, rfl, trivial⟩, hm, hR188.ext, hS189, rfl⟩
          · skip
            refine WP.region ?_
            refine RW.run ttok 3 rfl ?_
            by_cases hg191 : (decide (r112.1 < 0)) = true
            · skip
              rw [if_pos hg191] at hm
              refine RW.know 51 rfl (congrArg Value.bool hg191) ?_
              refine RW.run ttok 10 rfl ?_
              refine RW.nil ?_
              exact ⟨true, [(1, .pointer (some ⟨g10, 0, none⟩)), (4, .pointer (some ⟨g43, 0, none⟩)), (5, .int .i64 r32.2), (7, .pointer (some ⟨g80, 0, none⟩)), (61, .bool true)], ⟨rfl, rfl, rfl, rfl, rfl, trivial⟩, hm, (Ext.refl _), hS117, rfl⟩
            · skip
              rw [if_neg hg191] at hm
              refine RW.know 51 rfl (congrArg Value.bool (Bool.eq_false_iff.2 hg191)) ?_
              refine RW.loadN ttok rfl rfl rfl rfl rfl ((hS117.bring 4 rfl).box) rfl rfl rfl ?_
              refine RW.loadN ttok rfl rfl rfl rfl rfl ((hS117.bring 8 rfl).box) rfl rfl rfl ?_
              obtain ⟨r192, hx193, hm⟩ := bind_some hm
              refine RW.call rfl rfl rfl enters39 (laws_eqMemory_ok (Ext.refl _) (ty80_shut r69.1 ((hS117.bring 5 rfl).own) ((hS117.bring 6 rfl).own)) (ty80_shut r32.1 ((hS117.bring 9 rfl).own) ((hS117.bring 10 rfl).own)) hx193) (fun v194 w195 hR196 => ?_)
              obtain ⟨rfl, hR197⟩ := hR196
              have hS198 := hS117.join hR197
              refine RW.run ttok 3 rfl ?_
              by_cases hg199 : (!r192) = true
              · skip
                rw [if_pos hg199] at hm
                refine RW.know 57 rfl (congrArg Value.bool hg199) ?_
                refine RW.run ttok 4 rfl ?_
                refine RW.nil ?_
                exact ⟨true, [(1, .pointer (some ⟨g10, 0, none⟩)), (4, .pointer (some ⟨g43, 0, none⟩)), (5, .int .i64 r32.2), (7, .pointer (some ⟨g80, 0, none⟩)), (61, .bool true)], ⟨rfl, rfl, rfl, rfl, rfl, trivial⟩, hm, hR197.ext, hS198, rfl⟩
              · skip
                rw [if_neg hg199] at hm
                refine RW.know 57 rfl (congrArg Value.bool (Bool.eq_false_iff.2 hg199)) ?_
                refine RW.run ttok 4 rfl ?_
                refine RW.nil ?_
                exact ⟨(r69.2 != r32.2), [(1, .pointer (some ⟨g10, 0, none⟩)), (4, .pointer (some ⟨g43, 0, none⟩)), (5, .int .i64 r32.2), (7, .pointer (some ⟨g80, 0, none⟩)), (61, .bool (r69.2 != r32.2))], ⟨rfl, rfl, rfl, rfl, rfl, trivial⟩, hm, hR197.ext, hS198, rfl⟩
    · skip
      refine WP.region ?_
      refine RW.loadN ttok rfl rfl rfl rfl rfl ((hS86.bring 0 rfl).box) rfl rfl rfl ?_
      refine RW.loadN ttok rfl rfl rfl rfl rfl ((hS86.bring 6 rfl).box) rfl rfl rfl ?_
      obtain ⟨r200, hx201, hm⟩ := bind_some hm
      refine RW.call rfl rfl rfl enters39 (laws_eqMemory_ok (Ext.refl _) (ty80_shut r69.1 ((hS86.bring 1 rfl).own) ((hS86.bring 2 rfl).own)) (ty80_shut r32.1 ((hS86.bring 7 rfl).own) ((hS86.bring 8 rfl).own)) hx201) (fun v202 w203 hR204 => ?_)
      obtain ⟨rfl, hR205⟩ := hR204
      have hS206 := hS86.join hR205
      refine RW.run ttok 2 rfl ?_
      by_cases hg207 : (!r200) = true
      · skip
        rw [if_pos hg207] at hm
        refine RW.know 36 rfl (congrArg Value.bool hg207) ?_
        refine RW.run ttok 4 rfl ?_
        refine RW.nil ?_
        exact ⟨true, [(1, .pointer (some ⟨g10, 0, none⟩)), (4, .pointer (some ⟨g43, 0, none⟩)), (5, .int .i64 r32.2), (6, .pointer (some ⟨g61, 0, none⟩)), (7, .pointer (some ⟨g80, 0, none⟩)), (8, .int .i64 r69.2), (40, .bool true)], ⟨rfl, rfl, rfl, rfl, rfl, rfl, rfl, trivial⟩, hm, hR205.ext, hS206, rfl⟩
      · skip
        rw [if_neg hg207] at hm
        refine RW.know 36 rfl (congrArg Value.bool (Bool.eq_false_iff.2 hg207)) ?_
        refine RW.run ttok 4 rfl ?_
        refine RW.nil ?_
        exact ⟨(r69.2 != r32.2), [(1, .pointer (some ⟨g10, 0, none⟩)), (4, .pointer (some ⟨g43, 0, none⟩)), (5, .int .i64 r32.2), (6, .pointer (some ⟨g61, 0, none⟩)), (7, .pointer (some ⟨g80, 0, none⟩)), (8, .int .i64 r69.2), (40, .bool (r69.2 != r32.2))], ⟨rfl, rfl, rfl, rfl, rfl, rfl, rfl, trivial⟩, hm, hR205.ext, hS206, rfl⟩

end Go.E
