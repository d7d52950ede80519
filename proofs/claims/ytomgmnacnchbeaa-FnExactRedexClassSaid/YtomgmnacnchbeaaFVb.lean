/- Models of functions and proofs that the code runs as they say (written by program). Conditions: the model gives a value. -/
import Derived.Test.YtomgmnacnchbeaaFV
namespace Go.E
open Go.RowKit Go.Proofs
set_option linter.unusedVariables false
set_option linter.unusedSimpArgs false
set_option maxHeartbeats 2000000

theorem enters94 : Enters Try.prog 94 := ⟨_, _, Try.func94, rfl, by kernel_rfl⟩
def m_impl_Memory_resolve_j1 (fuel : Nat) (t20 : Int × Int) : Option (D.Word × Bool) := some ((⟨0, 0⟩ : D.Word), false)
def m_impl_Memory_resolve_j2 (fuel : Nat) (x0 : D.Memory) (s19 : Int × Int × Int) (t35 : Bool) : Option (Rd (Int × Int × Int) (Int × Int) (D.Word × Bool)) := (if t35 = true then some (.ret ((⟨s19.2.1, s19.2.2⟩ : D.Word), true)) else ((idx x0.Cells s19.2.2).bind fun x45 => ((idx x45.Words 0).bind fun x58 => some (.next (w64 (s19.1 + 1), x58.Tag, x58.At)))))
def m_impl_Memory_resolve_b1 (fuel : Nat) (x0 : D.Memory) (s19 : Int × Int × Int) : Option (Rd (Int × Int × Int) (Int × Int) (D.Word × Bool)) := (if (decide (s19.1 < (w64 ((x0.Cells.length : Int) + 1)))) = true then (if (s19.2.1 == 1) = true then m_impl_Memory_resolve_j2 fuel x0 s19 true else ((idx x0.Cells s19.2.2).bind fun x72 => m_impl_Memory_resolve_j2 fuel x0 s19 ((x72.Words.length : Int) == 0))) else some (.brk (s19.2.1, s19.2.2)))
def m_impl_Memory_resolve (fuel : Nat) (x0 : D.Memory) (x1 : D.Word) : Option (D.Word × Bool) := ((iter (m_impl_Memory_resolve_b1 fuel x0) fuel (0, x1.Tag, x1.At)).bind fun o => aft o (m_impl_Memory_resolve_j1 fuel))

set_option maxRecDepth 100000 in
theorem impl_Memory_resolve_ok {W w : World} (hE : Ext W w) {p0_ : Addr} {c0_ : List Value} {x0 : D.Memory} {c1_ : List Value} {x1 : D.Word} (h0_ : ty80.ro W c0_ x0) (g0_ : At W p0_ c0_) (h1_ : ty77.ro W c1_ x1) {fuel : Nat} {r : D.Word × Bool} (hm : m_impl_Memory_resolve fuel x0 x1 = some r) :
    Calls Try.prog 94 ⟨[.pointer (some p0_), .agg ⟨c1_⟩]⟩ w (Ret fun v w8 => v = .tuple ⟨[.agg ⟨[.int .i64 r.1.Tag, .int .i64 r.1.At]⟩, .bool r.2]⟩ ∧ St w w8 []) := by
  obtain ⟨A1, k2, A4, k5, e7, h3, h6⟩ := ty80_open h0_; subst e7
  have e10 := ty77_open h1_; subst e10
  refine Calls.into Try.func94 rfl 44 rfl rfl _ rfl ?_
  unfold m_impl_Memory_resolve at hm
  have hS := St.start w
  refine WP.seq ?_
  refine WP.region ?_
  refine RW.new ttok hS rfl rfl rfl rfl (fun g11 w12 e13 hS14 => ?_)
  refine RW.new ttok hS14 rfl rfl rfl rfl (fun g15 w16 e17 hS18 => ?_)
  refine RW.run ttok 1 rfl ?_
  refine RW.nil ?_
  refine WP.seq ?_
  refine WP.seq ?_
  refine WP.region ?_
  refine RW.run ttok 3 rfl ?_
  refine RW.load1 ttok rfl rfl rfl rfl rfl (At.ext (hE.trans hS18.ext) g0_) 0 rfl rfl rfl rfl ?_
  refine RW.run ttok 3 rfl ?_
  refine RW.nil ?_
  obtain ⟨o23, hl24, hm⟩ := bind_some hm
  refine WP.cut (fun (t20 : Int × Int) F w9 => o23 = .inl t20 ∧ St w w9 [Box g15 [.int .i64 0, .int .i64 0] 77, Box g11 [.int .i64 t20.1, .int .i64 t20.2] 77] ∧ F = [(4, .pointer (some ⟨g15, 0, none⟩))]) ?_ ?_
  · skip
    rintro t20 F w22 ⟨ho26, hS25, rfl⟩
    subst ho26
    rw [aft_inl] at hm
    unfold m_impl_Memory_resolve_j1 at hm
    refine WP.seq ?_
    refine WP.region ?_
    refine RW.quiet rfl (Quiet.build ttok rfl rfl rfl rfl rfl) rfl rfl ?_
    have hS27 := hS25.bring 0 rfl
    refine RW.store ttok (A := []) hS27 rfl rfl rfl rfl rfl 0 rfl rfl rfl rfl rfl (fun w28 hS29 => ?_)
    refine RW.run ttok 1 rfl ?_
    refine RW.nil ?_
    refine WP.ret ?_
    cases hm
    exact ⟨_, .cons (ResIs.agg ttok rfl rfl rfl ((hS29.bring 0 rfl).box) rfl) (.cons (.tmp rfl) .nil), rfl, (hS29.taken 0)⟩
  · skip
    refine WP.block ?_
    refine WP.weak [(0, .pointer (some p0_)), (3, .pointer (some ⟨g11, 0, none⟩)), (4, .pointer (some ⟨g15, 0, none⟩)), (11, .int .i64 (w64 ((x0.Cells.length : Int) + 1))), (12, .int .i64 0)] ⟨rfl, rfl, rfl, rfl, rfl, trivial⟩ ?_
    refine WP.iter (fun (s19 : Int × Int × Int) F w9 => St w w9 [Box g15 [.int .i64 0, .int .i64 0] 77, Box g11 [.int .i64 s19.2.1, .int .i64 s19.2.2] 77] ∧ F = [(0, .pointer (some p0_)), (3, .pointer (some ⟨g11, 0, none⟩)), (4, .pointer (some ⟨g15, 0, none⟩)), (11, .int .i64 (w64 ((x0.Cells.length : Int) + 1))), (12, .int .i64 s19.1)]) _ hl24 ⟨hS18, rfl⟩ ?_
    rintro s19 F w34 _ o32 ⟨hS33, rfl⟩ hb30 ho31
    unfold m_impl_Memory_resolve_b1 at hb30
    refine WP.seq ?_
    refine WP.region ?_
    refine RW.run ttok 1 rfl ?_
    refine RW.nil ?_
    refine WP.seq ?_
    refine WP.cond (decide (s19.1 < (w64 ((x0.Cells.length : Int) + 1)))) rfl (fun hc => ?_) (fun hc => ?_)
    · skip
      rw [if_pos hc] at hb30
      refine WP.skip ?_
      refine WP.seq ?_
      refine WP.block ?_
      refine WP.seq ?_
      refine WP.seq ?_
      refine WP.cut (fun (t35 : Bool) F w9 => m_impl_Memory_resolve_j2 fuel x0 s19 t35 = some o32 ∧ Ext w34 w9 ∧ St w w9 [Box g15 [.int .i64 0, .int .i64 0] 77, Box g11 [.int .i64 s19.2.1, .int .i64 s19.2.2] 77] ∧ F = [(0, .pointer (some p0_)), (3, .pointer (some ⟨g11, 0, none⟩)), (4, .pointer (some ⟨g15, 0, none⟩)), (11, .int .i64 (w64 ((x0.Cells.length : Int) + 1))), (12, .int .i64 s19.1), (29, .bool t35)]) ?_ ?_
      · skip
        rintro t35 F w38 ⟨hb30, hE36, hS37, rfl⟩
        unfold m_impl_Memory_resolve_j2 at hb30
        refine WP.cond t35 rfl (fun hc => ?_) (fun hc => ?_)
        · skip
          rw [if_pos hc] at hb30
          refine WP.seq ?_
          refine WP.region ?_
          refine RW.loadN ttok rfl rfl rfl rfl rfl ((hS37.bring 1 rfl).box) rfl rfl rfl ?_
          have hS40 := hS37.bring 0 rfl
          refine RW.store ttok (A := []) hS40 rfl rfl rfl rfl rfl 0 rfl rfl rfl rfl rfl (fun w41 hS42 => ?_)
          refine RW.run ttok 1 rfl ?_
          refine RW.nil ?_
          refine WP.ret ?_
          cases hb30
          cases ho31
          have hm : some _ = some _ := hm
          cases hm
          exact ⟨_, .cons (ResIs.agg ttok rfl rfl rfl ((hS42.bring 0 rfl).box) rfl) (.cons (.tmp rfl) .nil), rfl, (hS42.taken 0)⟩
        · skip
          rw [if_neg (not_t hc)] at hb30
          refine WP.skip ?_
          refine WP.drawnM 2048 mixed 12 (by kernel_rfl) (by kernel_rfl) [([], 4095), ([0], 4094), ([1], 4093), ([2], 4091), ([], 4095), ([4], 4079), ([3, 5], 4055), ([6], 4031), ([7], 3967), ([8], 3839), ([9], 3583), ([10, 0, 1, 2, 3, 4, 5, 6, 7, 8, 9, 10], 3071)] (by kernel_rfl) hS37.ext (fun hsk43 => ?_)
          have hS44 := hS37.step (Ext.draw _)
          refine DM.run (fuel := 8) ttok hsk43 [0, 1, 2, 4] 23 (by kernel_rfl) (by kernel_rfl) rfl ?_
          refine DM.load1 ttok hsk43 3 31 (by kernel_rfl) (by kernel_rfl) (by kernel_rfl) (by kernel_rfl) rfl (by kernel_rfl) rfl rfl rfl rfl rfl (At.ext (hE.trans hS37.ext) g0_) 0 rfl rfl rfl rfl ?_
          refine DM.load1 ttok hsk43 5 63 (by kernel_rfl) (by kernel_rfl) (by kernel_rfl) (by kernel_rfl) rfl (by kernel_rfl) rfl rfl rfl rfl rfl ((hS37.bring 1 rfl).box) 1 rfl rfl rfl rfl ?_
          obtain ⟨x45, hx46, hb30⟩ := bind_some hb30
          refine DM.idx ttok (hE.trans hS37.ext) hsk43 6 127 (by kernel_rfl) (by kernel_rfl) (by kernel_rfl) (by kernel_rfl) rfl (by kernel_rfl) rfl rfl rfl rfl rfl rfl (by decide) rfl rfl h3 (idx_some hx46).1 (idx_some hx46).2 rfl rfl (fun p47 es48 ha49 hr50 => ?_)
          obtain ⟨A51, k52, A54, k55, e57, h53, h56⟩ := ty157_open hr50; subst e57
          refine DM.run (fuel := 4) ttok hsk43 [7] 255 (by kernel_rfl) (by kernel_rfl) rfl ?_
          refine DM.weak [(0, .pointer (some p0_)), (3, .pointer (some ⟨g11, 0, none⟩)), (4, .pointer (some ⟨g15, 0, none⟩)), (11, .int .i64 (w64 ((x0.Cells.length : Int) + 1))), (12, .int .i64 s19.1), (38, .pointer (some (p47.add 4)))] ⟨rfl, rfl, rfl, rfl, rfl, rfl, trivial⟩ ?_
          refine DM.load1 ttok hsk43 8 511 (by kernel_rfl) (by kernel_rfl) (by kernel_rfl) (by kernel_rfl) rfl (by kernel_rfl) rfl rfl rfl rfl rfl (At.ext (hE.trans hS37.ext) ha49) 4 rfl rfl rfl rfl ?_
          obtain ⟨x58, hx59, hb30⟩ := bind_some hb30
          refine DM.idx ttok (hE.trans hS37.ext) hsk43 9 1023 (by kernel_rfl) (by kernel_rfl) (by kernel_rfl) (by kernel_rfl) rfl (by kernel_rfl) rfl rfl rfl rfl rfl rfl (by decide) rfl rfl h56 (idx_some hx59).1 (idx_some hx59).2 rfl rfl (fun p60 es61 ha62 hr63 => ?_)
          have e65 := ty77_open hr63; subst e65
          refine DM.loadN ttok hsk43 10 2047 (by kernel_rfl) (by kernel_rfl) (by kernel_rfl) (by kernel_rfl) rfl (by kernel_rfl) rfl rfl rfl rfl rfl (At.ext (hE.trans hS37.ext) ha62) rfl rfl rfl ?_
          have hS66 := hS44.bring 1 rfl
          refine DM.one hsk43 11 (by kernel_rfl) (LM.store ttok (A := []) hS66 hsk43 4095 (by kernel_rfl) (by kernel_rfl) rfl rfl rfl rfl rfl rfl 0 rfl rfl rfl rfl rfl (fun w67 hS68 => ?_))
          refine DM.done hsk43 (by kernel_rfl) ?_
          refine WP.region ?_
          refine RW.run ttok 2 rfl ?_
          refine RW.nil ?_
          cases hb30
          exact ⟨_, [(0, .pointer (some p0_)), (3, .pointer (some ⟨g11, 0, none⟩)), (4, .pointer (some ⟨g15, 0, none⟩)), (11, .int .i64 (w64 ((x0.Cells.length : Int) + 1))), (12, .int .i64 (w64 (s19.1 + 1)))], ⟨rfl, rfl, rfl, rfl, rfl, trivial⟩, rfl, ((hS68.bring 0 rfl).bring 1 rfl), rfl⟩
      · skip
        refine WP.drawnM 0 mixed 16 (by kernel_rfl) (by kernel_rfl) [([], 65535), ([0], 65534), ([1], 65533), ([2], 65531), ([3], 65527), ([4, 3], 65511), ([5, 3], 65495), ([6, 3], 65463), ([3], 65527), ([8, 3], 65271), ([7, 9, 3], 64887), ([10, 3], 64503), ([11, 3], 63479), ([12, 3], 61431), ([13, 3], 57335), ([3, 14], 49143)] (by kernel_rfl) hS33.ext (fun hsk69 => ?_)
        have hS70 := hS33.step (Ext.draw _)
        refine DM.run (fuel := 15) ttok hsk69 [0] 1 (by kernel_rfl) (by kernel_rfl) rfl ?_
        refine DM.load1 ttok hsk69 1 3 (by kernel_rfl) (by kernel_rfl) (by kernel_rfl) (by kernel_rfl) rfl (by kernel_rfl) rfl rfl rfl rfl rfl ((hS33.bring 1 rfl).box) 0 rfl rfl rfl rfl ?_
        refine DM.run (fuel := 12) ttok hsk69 [2, 3] 15 (by kernel_rfl) (by kernel_rfl) rfl ?_
        by_cases hg71 : (s19.2.1 == 1) = true
        · skip
          rw [if_pos hg71] at hb30
          refine DM.know 17 rfl (congrArg Value.bool hg71) ?_
          refine DM.run (fuel := 0) ttok hsk69 [4, 5, 6, 7, 8, 9, 10, 11, 12, 13, 14, 15] 65535 (by kernel_rfl) (by kernel_rfl) rfl ?_
          refine DM.weak [(0, .pointer (some p0_)), (3, .pointer (some ⟨g11, 0, none⟩)), (4, .pointer (some ⟨g15, 0, none⟩)), (11, .int .i64 (w64 ((x0.Cells.length : Int) + 1))), (12, .int .i64 s19.1), (29, .bool true)] ⟨rfl, rfl, rfl, rfl, rfl, rfl, trivial⟩ ?_
          refine DM.done hsk69 (by kernel_rfl) ?_
          exact ⟨true, [(0, .pointer (some p0_)), (3, .pointer (some ⟨g11, 0, none⟩)), (4, .pointer (some ⟨g15, 0, none⟩)), (11, .int .i64 (w64 ((x0.Cells.length : Int) + 1))), (12, .int .i64 s19.1), (29, .bool true)], ⟨rfl, rfl, rfl, rfl, rfl, rfl, trivial⟩, hb30, (Ext.draw _), hS70, rfl⟩
        · skip
          rw [if_neg hg71] at hb30
          refine DM.know 17 rfl (congrArg Value.bool (Bool.eq_false_iff.2 hg71)) ?_
          refine DM.run (fuel := 8) ttok hsk69 [4, 5, 6, 8] 383 (by kernel_rfl) (by kernel_rfl) rfl ?_
          refine DM.weak [(0, .pointer (some p0_)), (3, .pointer (some ⟨g11, 0, none⟩)), (4, .pointer (some ⟨g15, 0, none⟩)), (11, .int .i64 (w64 ((x0.Cells.length : Int) + 1))), (12, .int .i64 s19.1), (17, .bool false), (20, .pointer (some p0_)), (22, .pointer (some ⟨g11, 1, none⟩))] ⟨rfl, rfl, rfl, rfl, rfl, rfl, rfl, rfl, trivial⟩ ?_
          refine DM.load1 ttok hsk69 7 511 (by kernel_rfl) (by kernel_rfl) (by kernel_rfl) (by kernel_rfl) rfl (by kernel_rfl) rfl rfl rfl rfl rfl (At.ext (hE.trans hS33.ext) g0_) 0 rfl rfl rfl rfl ?_
          refine DM.load1 ttok hsk69 9 1023 (by kernel_rfl) (by kernel_rfl) (by kernel_rfl) (by kernel_rfl) rfl (by kernel_rfl) rfl rfl rfl rfl rfl ((hS33.bring 1 rfl).box) 1 rfl rfl rfl rfl ?_
          obtain ⟨x72, hx73, hb30⟩ := bind_some hb30
          refine DM.idx ttok (hE.trans hS33.ext) hsk69 10 2047 (by kernel_rfl) (by kernel_rfl) (by kernel_rfl) (by kernel_rfl) rfl (by kernel_rfl) rfl rfl rfl rfl rfl rfl (by decide) rfl rfl h3 (idx_some hx73).1 (idx_some hx73).2 rfl rfl (fun p74 es75 ha76 hr77 => ?_)
          obtain ⟨A78, k79, A81, k82, e84, h80, h83⟩ := ty157_open hr77; subst e84
          refine DM.run (fuel := 4) ttok hsk69 [11] 4095 (by kernel_rfl) (by kernel_rfl) rfl ?_
          refine DM.load1 ttok hsk69 12 8191 (by kernel_rfl) (by kernel_rfl) (by kernel_rfl) (by kernel_rfl) rfl (by kernel_rfl) rfl rfl rfl rfl rfl (At.ext (hE.trans hS33.ext) ha76) 4 rfl rfl rfl rfl ?_
          refine DM.run (fuel := 0) ttok hsk69 [13, 14, 15] 65535 (by kernel_rfl) (by kernel_rfl) rfl ?_
          refine DM.weak [(0, .pointer (some p0_)), (3, .pointer (some ⟨g11, 0, none⟩)), (4, .pointer (some ⟨g15, 0, none⟩)), (11, .int .i64 (w64 ((x0.Cells.length : Int) + 1))), (12, .int .i64 s19.1), (29, .bool ((x72.Words.length : Int) == 0))] ⟨rfl, rfl, rfl, rfl, rfl, rfl, trivial⟩ ?_
          refine DM.done hsk69 (by kernel_rfl) ?_
          exact ⟨((x72.Words.length : Int) == 0), [(0, .pointer (some p0_)), (3, .pointer (some ⟨g11, 0, none⟩)), (4, .pointer (some ⟨g15, 0, none⟩)), (11, .int .i64 (w64 ((x0.Cells.length : Int) + 1))), (12, .int .i64 s19.1), (29, .bool ((x72.Words.length : Int) == 0))], ⟨rfl, rfl, rfl, rfl, rfl, rfl, trivial⟩, hb30, (Ext.draw _), hS70, rfl⟩
    · skip
      rw [if_neg (not_t hc)] at hb30
      refine WP.exit ?_
      cases hb30
      exact ⟨_, [(4, .pointer (some ⟨g15, 0, none⟩))], ⟨rfl, trivial⟩, ho31, hS33, rfl⟩

theorem enters147 : Enters Try.prog 147 := ⟨_, _, Try.func147, rfl, by kernel_rfl⟩
def m_impl_Memory_validWith_j4 (fuel : Nat) (t29 : Unit) : Option Bool := some true
def m_impl_Memory_validWith_j5 (fuel : Nat) (s28 : Int) (t69 : Unit) : Option (Rd (Int) (Unit) (Bool)) := some (.next (w64 (s28 + 1)))
def m_impl_Memory_validWith_b1 (fuel : Nat) (x0 : D.Memory) (s28 : Int) : Option (Rd (Int) (Unit) (Bool)) := (if (decide (s28 < (x0.Cells.length : Int))) = true then ((idx x0.Cells s28).bind fun x41 => ((m_impl_Cell_isVariable fuel x41).bind fun r61 => (if r61 = true then ((m_impl_Memory_resolve fuel x0 (⟨2, s28⟩ : D.Word)).bind fun r73 => (if (!r73.2) = true then some (.ret false) else m_impl_Memory_validWith_j5 fuel s28 ())) else m_impl_Memory_validWith_j5 fuel s28 ()))) else some (.brk ()))
def m_impl_Memory_validWith_j3 (fuel : Nat) (x0 : D.Memory) (t23 : Bool) : Option Bool := (if t23 = true then some false else ((iter (m_impl_Memory_validWith_b1 fuel x0) fuel 0).bind fun o => aft o (m_impl_Memory_validWith_j4 fuel)))
def m_impl_Memory_validWith_j2 (fuel : Nat) (x0 : D.Memory) (x1 : (List D.Word)) (t19 : Bool) : Option Bool := (if t19 = true then some false else ((m_impl_Memory_occurrencesOk fuel x0 x1).bind fun r87 => (if (!r87) = true then m_impl_Memory_validWith_j3 fuel x0 true else ((m_impl_Memory_freeOk fuel x0).bind fun r95 => m_impl_Memory_validWith_j3 fuel x0 (!r95)))))
def m_impl_Memory_validWith_j1 (fuel : Nat) (x0 : D.Memory) (x1 : (List D.Word)) (t14 : Bool) : Option Bool := (if t14 = true then some false else ((m_slices_ContainsFunc_impl_Cell_impl_Cell fuel x0.Cells (fun y0 => m_impl_Memory_validWith_c1 fuel y0)).bind fun r102 => (if r102 = true then m_impl_Memory_validWith_j2 fuel x0 x1 true else ((m_impl_Memory_words fuel x0).bind fun r110 => (if decide ((r110.length : Int) + (x1.length : Int) ≤ 4294967296) = true then ((m_slices_ContainsFunc_impl_Word_impl_Word fuel (r110 ++ x1) (fun y0 => m_impl_Memory_validWith_c2 fuel y0 x0)).bind fun r125 => (if r125 = true then m_impl_Memory_validWith_j2 fuel x0 x1 true else ((m_slices_ContainsFunc_impl_Pair_impl_Pair fuel x0.Redexes (fun y0 => m_impl_Memory_validWith_c3 fuel y0 x0)).bind fun r133 => m_impl_Memory_validWith_j2 fuel x0 x1 r133))) else none)))))
def m_impl_Memory_validWith (fuel : Nat) (x0 : D.Memory) (x1 : (List D.Word)) : Option (Bool) := (if (decide ((x0.Cells.length : Int) < 1)) = true then m_impl_Memory_validWith_j1 fuel x0 x1 true else (if (decide ((x0.Cells.length : Int) > 1500)) = true then m_impl_Memory_validWith_j1 fuel x0 x1 true else m_impl_Memory_validWith_j1 fuel x0 x1 (decide ((x0.Redexes.length : Int) > (x0.Cells.length : Int)))))

set_option maxRecDepth 100000 in
theorem impl_Memory_validWith_ok {W w : World} (hE : Ext W w) {p0_ : Addr} {c0_ : List Value} {x0 : D.Memory} {A1_ : Option Addr} {k1_ : Nat} {x1 : (List D.Word)} (h0_ : ty80.ro W c0_ x0) (g0_ : At W p0_ c0_) (h1_ : ty155.ro W [.slice A1_ x1.length k1_] x1) {fuel : Nat} {r : Bool} (hm : m_impl_Memory_validWith fuel x0 x1 = some r) :
    Calls Try.prog 147 ⟨[.pointer (some p0_), .slice A1_ x1.length k1_]⟩ w (Ret fun v w8 => v = .bool r ∧ St w w8 []) := by
  obtain ⟨A1, k2, A4, k5, e7, h3, h6⟩ := ty80_open h0_; subst e7
  refine Calls.into Try.func147 rfl 88 rfl rfl _ rfl ?_
  unfold m_impl_Memory_validWith at hm
  have hS := St.start w
  refine WP.seq ?_
  refine WP.region ?_
  refine RW.new ttok hS rfl rfl rfl rfl (fun g10 w11 e12 hS13 => ?_)
  refine RW.run ttok 1 rfl ?_
  refine RW.nil ?_
  refine WP.seq ?_
  refine WP.seq ?_
  refine WP.cut (fun (t14 : Bool) F w9 => m_impl_Memory_validWith_j1 fuel x0 x1 t14 = some r ∧ Ext w11 w9 ∧ St w w9 [Box g10 [.pointer (some p0_)] 136] ∧ F = [(1, .slice A1_ x1.length k1_), (2, .pointer (some ⟨g10, 0, none⟩)), (35, .bool t14)]) ?_ ?_
  · skip
    rintro t14 F w17 ⟨hm, hE15, hS16, rfl⟩
    unfold m_impl_Memory_validWith_j1 at hm
    refine WP.cond t14 rfl (fun hc => ?_) (fun hc => ?_)
    · skip
      rw [if_pos hc] at hm
      refine WP.seq ?_
      refine WP.region ?_
      refine RW.run ttok 1 rfl ?_
      refine RW.nil ?_
      refine WP.ret ?_
      cases hm
      exact ⟨_, .cons (.tmp rfl) .nil, rfl, (hS16.taken 0)⟩
    · skip
      rw [if_neg (not_t hc)] at hm
      refine WP.skip ?_
      refine WP.seq ?_
      refine WP.seq ?_
      refine WP.cut (fun (t19 : Bool) F w9 => m_impl_Memory_validWith_j2 fuel x0 x1 t19 = some r ∧ St w w9 [Box g10 [.pointer (some p0_)] 136] ∧ F = [(1, .slice A1_ x1.length k1_), (2, .pointer (some ⟨g10, 0, none⟩)), (56, .bool t19)]) ?_ ?_
      · skip
        rintro t19 F w21 ⟨hm, hS20, rfl⟩
        unfold m_impl_Memory_validWith_j2 at hm
        refine WP.cond t19 rfl (fun hc => ?_) (fun hc => ?_)
        · skip
          rw [if_pos hc] at hm
          refine WP.seq ?_
          refine WP.region ?_
          refine RW.run ttok 1 rfl ?_
          refine RW.nil ?_
          refine WP.ret ?_
          cases hm
          exact ⟨_, .cons (.tmp rfl) .nil, rfl, (hS20.taken 0)⟩
        · skip
          rw [if_neg (not_t hc)] at hm
          refine WP.skip ?_
          refine WP.seq ?_
          refine WP.seq ?_
          refine WP.cut (fun (t23 : Bool) F w9 => m_impl_Memory_validWith_j3 fuel x0 t23 = some r ∧ Ext w21 w9 ∧ St w w9 [Box g10 [.pointer (some p0_)] 136] ∧ F = [(2, .pointer (some ⟨g10, 0, none⟩)), (65, .bool t23)]) ?_ ?_
          · skip
            rintro t23 F w26 ⟨hm, hE24, hS25, rfl⟩
            unfold m_impl_Memory_validWith_j3 at hm
            refine WP.cond t23 rfl (fun hc => ?_) (fun hc => ?_)
            · skip
              rw [if_pos hc] at hm
              refine WP.seq ?_
              refine WP.region ?_
              refine RW.run ttok 1 rfl ?_
              refine RW.nil ?_
              refine WP.ret ?_
              cases hm
              exact ⟨_, .cons (.tmp rfl) .nil, rfl, (hS25.taken 0)⟩
            · skip
              rw [if_neg (not_t hc)] at hm
              refine WP.skip ?_
              refine WP.seq ?_
              refine WP.seq ?_
              refine WP.region ?_
              refine RW.load1 ttok rfl rfl rfl rfl rfl ((hS25.bring 0 rfl).box) 0 rfl rfl rfl rfl ?_
              refine RW.run ttok 2 rfl ?_
              refine RW.load1 ttok rfl rfl rfl rfl rfl (At.ext (hE.trans hS25.ext) g0_) 0 rfl rfl rfl rfl ?_
              refine RW.run ttok 2 rfl ?_
              refine RW.nil ?_
              obtain ⟨o32, hl33, hm⟩ := bind_some hm
              refine WP.cut (fun (t29 : Unit) F w9 => o32 = .inl t29 ∧ St w w9 [Box g10 [.pointer (some p0_)] 136] ∧ F = []) ?_ ?_
              · skip
                rintro t29 F w31 ⟨ho35, hS34, rfl⟩
                subst ho35
                rw [aft_inl] at hm
                unfold m_impl_Memory_validWith_j4 at hm
                refine WP.seq ?_
                refine WP.region ?_
                refine RW.run ttok 1 rfl ?_
                refine RW.nil ?_
                refine WP.ret ?_
                cases hm
                exact ⟨_, .cons (.tmp rfl) .nil, rfl, (hS34.taken 0)⟩
              · skip
                refine WP.block ?_
                refine WP.weak [(2, .pointer (some ⟨g10, 0, none⟩)), (69, .slice A1 x0.Cells.length k2), (70, .int .i64 (x0.Cells.length : Int)), (71, .int .i64 0)] ⟨rfl, rfl, rfl, rfl, trivial⟩ ?_
                refine WP.iter (fun (s28 : Int) F w9 => St w w9 [Box g10 [.pointer (some p0_)] 136] ∧ F = [(2, .pointer (some ⟨g10, 0, none⟩)), (69, .slice A1 x0.Cells.length k2), (70, .int .i64 (x0.Cells.length : Int)), (71, .int .i64 s28)]) _ hl33 ⟨hS25, rfl⟩ ?_
                rintro s28 F w40 _ o38 ⟨hS39, rfl⟩ hb36 ho37
                unfold m_impl_Memory_validWith_b1 at hb36
                refine WP.seq ?_
                refine WP.region ?_
                refine RW.run ttok 1 rfl ?_
                refine RW.nil ?_
                refine WP.seq ?_
                refine WP.cond (decide (s28 < (x0.Cells.length : Int))) rfl (fun hc => ?_) (fun hc => ?_)
                · skip
                  rw [if_pos hc] at hb36
                  refine WP.skip ?_
                  refine WP.seq ?_
                  refine WP.block ?_
                  refine WP.seq ?_
                  refine WP.region ?_
                  refine RW.run ttok 1 rfl ?_
                  obtain ⟨x41, hx42, hb36⟩ := bind_some hb36
                  refine RW.idx ttok (hE.trans hS39.ext) rfl rfl rfl rfl rfl rfl (by decide) rfl rfl h3 (idx_some hx42).1 (idx_some hx42).2 rfl rfl (fun p43 es44 ha45 hr46 => ?_)
                  obtain ⟨A47, k48, A50, k51, e53, h49, h52⟩ := ty157_open hr46; subst e53
                  refine RW.loadN ttok rfl rfl rfl rfl rfl (At.ext (hE.trans hS39.ext) ha45) rfl rfl rfl ?_
                  refine RW.new ttok hS39 rfl rfl rfl rfl (fun g54 w55 e56 hS57 => ?_)
                  refine RW.run ttok 1 rfl ?_
                  have hS58 := hS57.bring 0 rfl
                  refine RW.store ttok (A := []) hS58 rfl rfl rfl rfl rfl 0 rfl rfl rfl rfl rfl (fun w59 hS60 => ?_)
                  refine RW.nil ?_
                  refine WP.seq ?_
                  refine WP.region ?_
                  refine RW.loadN ttok rfl rfl rfl rfl rfl ((hS60.bring 0 rfl).box) rfl rfl rfl ?_
                  obtain ⟨r61, hx62, hb36⟩ := bind_some hb36
                  refine RW.call rfl rfl rfl enters96 (impl_Cell_isVariable_ok (hE.trans hS60.ext) (ty157_shut x41 h49 h52) hx62) (fun v63 w65 hR66 => ?_)
                  obtain ⟨rfl, hR67⟩ := hR66
                  have hS68 := hS60.join hR67
                  refine RW.nil ?_
                  refine WP.cut (fun (t69 : Unit) F w9 => m_impl_Memory_validWith_j5 fuel s28 t69 = some o38 ∧ St w w9 [Box g54 [.int .i64 x41.Kind, .int .i64 x41.Level, .int .i64 x41.Value, .slice A47 x41.Data.length k48, .slice A50 x41.Words.length k51] 157, Box g10 [.pointer (some p0_)] 136] ∧ F = [(2, .pointer (some ⟨g10, 0, none⟩)), (69, .slice A1 x0.Cells.length k2), (70, .int .i64 (x0.Cells.length : Int)), (71, .int .i64 s28)]) ?_ ?_
                  · skip
                    rintro t69 F w71 ⟨hb36, hS70, rfl⟩
                    unfold m_impl_Memory_validWith_j5 at hb36
                    refine WP.region ?_
                    refine RW.run ttok 2 rfl ?_
                    refine RW.nil ?_
                    cases hb36
                    exact ⟨_, [(2, .pointer (some ⟨g10, 0, none⟩)), (69, .slice A1 x0.Cells.length k2), (70, .int .i64 (x0.Cells.length : Int)), (71, .int .i64 (w64 (s28 + 1)))], ⟨rfl, rfl, rfl, rfl, trivial⟩, rfl, ((hS70.bring 1 rfl).taken 1), rfl⟩
                  · skip
                    refine WP.cond r61 rfl (fun hc => ?_) (fun hc => ?_)
                    · skip
                      rw [if_pos hc] at hb36
                      refine WP.seq ?_
                      refine WP.region ?_
                      refine RW.load1 ttok rfl rfl rfl rfl rfl ((hS68.bring 1 rfl).box) 0 rfl rfl rfl rfl ?_
                      refine RW.run ttok 1 rfl ?_
                      refine RW.quiet rfl (Quiet.build ttok rfl rfl rfl rfl rfl) rfl rfl ?_
                      obtain ⟨r73, hx74, hb36⟩ := bind_some hb36
                      refine RW.call rfl rfl rfl enters94 (impl_Memory_resolve_ok (hE.trans hS68.ext) h0_ g0_ (ty77_shut (⟨2, s28⟩ : D.Word)) hx74) (fun v75 w76 hR77 => ?_)
                      obtain ⟨rfl, hR78⟩ := hR77
                      have hS79 := hS68.join hR78
                      refine RW.run ttok 3 rfl ?_
                      refine RW.new ttok hS79 rfl rfl rfl rfl (fun g80 w81 e82 hS83 => ?_)
                      have hS84 := hS83.bring 0 rfl
                      refine RW.store ttok (A := []) hS84 rfl rfl rfl rfl rfl 0 rfl rfl rfl rfl rfl (fun w85 hS86 => ?_)
                      refine RW.run ttok 1 rfl ?_
                      refine RW.nil ?_
                      refine WP.seq ?_
                      refine WP.region ?_
                      refine RW.run ttok 2 rfl ?_
                      refine RW.nil ?_
                      refine WP.cond (!r73.2) rfl (fun hc => ?_) (fun hc => ?_)
                      · skip
                        rw [if_pos hc] at hb36
                        refine WP.seq ?_
                        refine WP.region ?_
                        refine RW.run ttok 1 rfl ?_
                        refine RW.nil ?_
                        refine WP.ret ?_
                        cases hb36
                        cases ho37
                        have hm : some _ = some _ := hm
                        cases hm
                        exact ⟨_, .cons (.tmp rfl) .nil, rfl, (hS86.taken 0)⟩
                      · skip
                        rw [if_neg (not_t hc)] at hb36
                        refine WP.skip ?_
                        exact ⟨(), [(2, .pointer (some ⟨g10, 0, none⟩)), (69, .slice A1 x0.Cells.length k2), (70, .int .i64 (x0.Cells.length : Int)), (71, .int .i64 s28)], ⟨rfl, rfl, rfl, rfl, trivial⟩, hb36, (hS86.bring 0 rfl).drop, rfl⟩
                    · skip
                      rw [if_neg (not_t hc)] at hb36
                      refine WP.skip ?_
                      exact ⟨(), [(2, .pointer (some ⟨g10, 0, none⟩)), (69, .slice A1 x0.Cells.length k2), (70, .int .i64 (x0.Cells.length : Int)), (71, .int .i64 s28)], ⟨rfl, rfl, rfl, rfl, trivial⟩, hb36, hS68, rfl⟩
                · skip
                  rw [if_neg (not_t hc)] at hb36
                  refine WP.exit ?_
                  cases hb36
                  exact ⟨_, [], trivial, ho37, hS39, rfl⟩
          · skip
            refine WP.region ?_
            refine RW.load1 ttok rfl rfl rfl rfl rfl ((hS20.bring 0 rfl).box) 0 rfl rfl rfl rfl ?_
            refine RW.run ttok 1 rfl ?_
            obtain ⟨r87, hx88, hm⟩ := bind_some hm
            refine RW.call rfl rfl rfl enters225 (impl_Memory_occurrencesOk_ok (hE.trans hS20.ext) h0_ g0_ h1_ hx88) (fun v89 w90 hR91 => ?_)
            obtain ⟨rfl, hR92⟩ := hR91
            have hS93 := hS20.join hR92
            refine RW.run ttok 2 rfl ?_
            by_cases hg94 : (!r87) = true
            · skip
              rw [if_pos hg94] at hm
              refine RW.know 61 rfl (congrArg Value.bool hg94) ?_
              refine RW.run ttok 4 rfl ?_
              refine RW.nil ?_
              exact ⟨true, [(2, .pointer (some ⟨g10, 0, none⟩)), (65, .bool true)], ⟨rfl, rfl, trivial⟩, hm, hR92.ext, hS93, rfl⟩
            · skip
              rw [if_neg hg94] at hm
              refine RW.know 61 rfl (congrArg Value.bool (Bool.eq_false_iff.2 hg94)) ?_
              refine RW.load1 ttok rfl rfl rfl rfl rfl ((hS93.bring 0 rfl).box) 0 rfl rfl rfl rfl ?_
              obtain ⟨r95, hx96, hm⟩ := bind_some hm
              refine RW.call rfl rfl rfl enters226 (impl_Memory_freeOk_ok (hE.trans hS93.ext) h0_ g0_ hx96) (fun v97 w98 hR99 => ?_)
              obtain ⟨rfl, hR100⟩ := hR99
              have hS101 := hS93.join hR100
              refine RW.run ttok 2 rfl ?_
              refine RW.nil ?_
              exact ⟨!r95, [(2, .pointer (some ⟨g10, 0, none⟩)), (65, .bool (!r95))], ⟨rfl, rfl, trivial⟩, hm, (hR92.ext.trans hR100.ext), hS101, rfl⟩
      · skip
        refine WP.region ?_
        refine RW.load1 ttok rfl rfl rfl rfl rfl ((hS16.bring 0 rfl).box) 0 rfl rfl rfl rfl ?_
        refine RW.run ttok 2 rfl ?_
        refine RW.load1 ttok rfl rfl rfl rfl rfl (At.ext (hE.trans hS16.ext) g0_) 0 rfl rfl rfl rfl ?_
        obtain ⟨r102, hx103, hm⟩ := bind_some hm
        refine RW.call rfl rfl rfl enters215 (slices_ContainsFunc_impl_Cell_impl_Cell_ok (hE.trans hS16.ext) h3 ⟨enters216, fun e9 => (fun a0_0 hx9 => impl_Memory_validWith_c1_ok (Ext.refl _) a0_0 hx9)⟩ hx103) (fun v104 w105 hR106 => ?_)
        obtain ⟨rfl, hR107⟩ := hR106
        have hS108 := hS16.join hR107
        refine RW.run ttok 1 rfl ?_
        by_cases hg109 : r102 = true
        · skip
          rw [if_pos hg109] at hm
          refine RW.know 41 rfl (congrArg Value.bool hg109) ?_
          refine RW.run ttok 15 rfl ?_
          refine RW.nil ?_
          exact ⟨true, [(1, .slice A1_ x1.length k1_), (2, .pointer (some ⟨g10, 0, none⟩)), (56, .bool true)], ⟨rfl, rfl, rfl, trivial⟩, hm, hS108, rfl⟩
        · skip
          rw [if_neg hg109] at hm
          refine RW.know 41 rfl (congrArg Value.bool (Bool.eq_false_iff.2 hg109)) ?_
          refine RW.load1 ttok rfl rfl rfl rfl rfl ((hS108.bring 0 rfl).box) 0 rfl rfl rfl rfl ?_
          obtain ⟨r110, hx111, hm⟩ := bind_some hm
          refine RW.call rfl rfl rfl enters219 (impl_Memory_words_ok (hE.trans hS108.ext) h0_ g0_ hx111) (fun v112 w113 hR114 => ?_)
          obtain ⟨A115, k116, rfl, hR117⟩ := hR114
          have hS118 := hS108.join hR117
          refine RW.run ttok 1 rfl ?_
          have hS119 := hS118.bring 0 rfl
          by_cases hk120 : decide ((r110.length : Int) + (x1.length : Int) ≤ 4294967296) = true
          case neg => rw [if_neg hk120] at hm; cases hm
          rw [if_pos hk120] at hm
          refine RW.appendRo ttok (Flat.map (Flat.pair Flat.int (Flat.pair Flat.int Flat.unit))) hS119 rfl rfl rfl rfl rfl rfl (by decide) rfl rfl (ty155.ext (hE.trans hS119.ext) h1_) (of_decide_eq_true hk120) (by decide) rfl rfl (fun A121 k122 w123 hS124 => ?_)
          refine RW.run ttok 1 rfl ?_
          obtain ⟨r125, hx126, hm⟩ := bind_some hm
          refine RW.call rfl rfl rfl enters218 (slices_ContainsFunc_impl_Word_impl_Word_ok (Ext.refl _) ((hS124.bring 0 rfl).own) ⟨enters220, fun e9 => (fun a0_0 hx9 => impl_Memory_validWith_c2_ok (Ext.refl _) a0_0 (At.ext e9 ((hS124.bring 1 rfl).box)) (ty80.ext e9 (ty80.ext (hE.trans hS124.ext) h0_)) (At.ext e9 (At.ext (hE.trans hS124.ext) g0_)) hx9)⟩ hx126) (fun v127 w128 hR129 => ?_)
          obtain ⟨rfl, hR130⟩ := hR129
          have hS131 := hS124.join hR130
          refine RW.run ttok 2 rfl ?_
          by_cases hg132 : r125 = true
          · skip
            rw [if_pos hg132] at hm
            refine RW.know 49 rfl (congrArg Value.bool hg132) ?_
            refine RW.run ttok 7 rfl ?_
            refine RW.nil ?_
            exact ⟨true, [(1, .slice A1_ x1.length k1_), (2, .pointer (some ⟨g10, 0, none⟩)), (56, .bool true)], ⟨rfl, rfl, rfl, trivial⟩, hm, ((hS131.bring 1 rfl).taken 1), rfl⟩
          · skip
            rw [if_neg hg132] at hm
            refine RW.know 49 rfl (congrArg Value.bool (Bool.eq_false_iff.2 hg132)) ?_
            refine RW.load1 ttok rfl rfl rfl rfl rfl ((hS131.bring 1 rfl).box) 0 rfl rfl rfl rfl ?_
            refine RW.run ttok 2 rfl ?_
            refine RW.load1 ttok rfl rfl rfl rfl rfl (At.ext (hE.trans hS131.ext) g0_) 4 rfl rfl rfl rfl ?_
            refine RW.run ttok 1 rfl ?_
            obtain ⟨r133, hx134, hm⟩ := bind_some hm
            refine RW.call rfl rfl rfl enters222 (slices_ContainsFunc_impl_Pair_impl_Pair_ok (Ext.refl _) (ty78.ext (hE.trans hS131.ext) h6) ⟨enters223, fun e9 => (fun a0_0 hx9 => impl_Memory_validWith_c3_ok (Ext.refl _) a0_0 (At.ext e9 ((hS131.bring 1 rfl).box)) (ty80.ext e9 (ty80.ext (hE.trans hS131.ext) h0_)) (At.ext e9 (At.ext (hE.trans hS131.ext) g0_)) hx9)⟩ hx134) (fun v135 w136 hR137 => ?_)
            obtain ⟨rfl, hR138⟩ := hR137
            have hS139 := hS131.join hR138
            refine RW.run ttok 1 rfl ?_
            refine RW.nil ?_
            exact ⟨r133, [(1, .slice A1_ x1.length k1_), (2, .pointer (some ⟨g10, 0, none⟩)), (56, .bool r133)], ⟨rfl, rfl, rfl, trivial⟩, hm, ((hS139.bring 1 rfl).taken 1), rfl⟩
  · skip
    refine WP.drawnM 0 mixed 27 (by kernel_rfl) (by kernel_rfl) [([], 134217727), ([0], 134217726), ([1], 134217725), ([2], 134217723), ([3], 134217719), ([4], 134217711), ([5], 134217695), ([6], 134217663), ([7, 6], 134217535), ([8, 6], 134217407), ([9, 6], 134217151), ([10, 6], 134216639), ([11, 6], 134215615), ([6, 12], 134213567), ([13, 6], 134209535), ([14], 134201343), ([15, 14], 134168575), ([16, 14], 134135807), ([17, 14], 134070271), ([18, 14], 133939199), ([14], 134201343), ([20, 14], 133152767), ([21, 14], 132104191), ([22, 14], 130007039), ([23, 14], 125812735), ([19, 24, 14], 116899839), ([14, 25], 100646911)] (by kernel_rfl) hS13.ext (fun hsk140 => ?_)
    have hS141 := hS13.step (Ext.draw _)
    refine DM.load1 ttok hsk140 0 1 (by kernel_rfl) (by kernel_rfl) (by kernel_rfl) (by kernel_rfl) rfl (by kernel_rfl) rfl rfl rfl rfl rfl ((hS13.bring 0 rfl).box) 0 rfl rfl rfl rfl ?_
    refine DM.run (fuel := 24) ttok hsk140 [1, 2] 7 (by kernel_rfl) (by kernel_rfl) rfl ?_
    refine DM.load1 ttok hsk140 3 15 (by kernel_rfl) (by kernel_rfl) (by kernel_rfl) (by kernel_rfl) rfl (by kernel_rfl) rfl rfl rfl rfl rfl (At.ext (hE.trans hS13.ext) g0_) 0 rfl rfl rfl rfl ?_
    refine DM.run (fuel := 20) ttok hsk140 [4, 5, 6] 127 (by kernel_rfl) (by kernel_rfl) rfl ?_
    refine DM.weak [(1, .slice A1_ x1.length k1_), (2, .pointer (some ⟨g10, 0, none⟩)), (15, .bool (decide ((x0.Cells.length : Int) < 1)))] ⟨rfl, rfl, rfl, trivial⟩ ?_
    by_cases hg142 : (decide ((x0.Cells.length : Int) < 1)) = true
    · skip
      rw [if_pos hg142] at hm
      refine DM.know 15 rfl (congrArg Value.bool hg142) ?_
      refine DM.run (fuel := 0) ttok hsk140 [7, 8, 9, 10, 11, 12, 13, 14, 15, 16, 17, 18, 19, 20, 21, 22, 23, 24, 25, 26] 134217727 (by kernel_rfl) (by kernel_rfl) rfl ?_
      refine DM.weak [(1, .slice A1_ x1.length k1_), (2, .pointer (some ⟨g10, 0, none⟩)), (35, .bool true)] ⟨rfl, rfl, rfl, trivial⟩ ?_
      refine DM.done hsk140 (by kernel_rfl) ?_
      exact ⟨true, [(1, .slice A1_ x1.length k1_), (2, .pointer (some ⟨g10, 0, none⟩)), (35, .bool true)], ⟨rfl, rfl, rfl, trivial⟩, hm, (Ext.draw _), hS141, rfl⟩
    · skip
      rw [if_neg hg142] at hm
      refine DM.know 15 rfl (congrArg Value.bool (Bool.eq_false_iff.2 hg142)) ?_
      refine DM.load1 ttok hsk140 7 255 (by kernel_rfl) (by kernel_rfl) (by kernel_rfl) (by kernel_rfl) rfl (by kernel_rfl) rfl rfl rfl rfl rfl ((hS13.bring 0 rfl).box) 0 rfl rfl rfl rfl ?_
      refine DM.run (fuel := 17) ttok hsk140 [8, 9] 1023 (by kernel_rfl) (by kernel_rfl) rfl ?_
      refine DM.load1 ttok hsk140 10 2047 (by kernel_rfl) (by kernel_rfl) (by kernel_rfl) (by kernel_rfl) rfl (by kernel_rfl) rfl rfl rfl rfl rfl (At.ext (hE.trans hS13.ext) g0_) 0 rfl rfl rfl rfl ?_
      refine DM.run (fuel := 12) ttok hsk140 [11, 12, 13, 14] 32767 (by kernel_rfl) (by kernel_rfl) rfl ?_
      refine DM.weak [(1, .slice A1_ x1.length k1_), (2, .pointer (some ⟨g10, 0, none⟩)), (23, .bool (decide ((x0.Cells.length : Int) > 1500)))] ⟨rfl, rfl, rfl, trivial⟩ ?_
      by_cases hg143 : (decide ((x0.Cells.length : Int) > 1500)) = true
      · skip
        rw [if_pos hg143] at hm
        refine DM.know 23 rfl (congrArg Value.bool hg143) ?_
        refine DM.run (fuel := 0) ttok hsk140 [15, 16, 17, 18, 19, 20, 21, 22, 23, 24, 25, 26] 134217727 (by kernel_rfl) (by kernel_rfl) rfl ?_
        refine DM.weak [(1, .slice A1_ x1.length k1_), (2, .pointer (some ⟨g10, 0, none⟩)), (35, .bool true)] ⟨rfl, rfl, rfl, trivial⟩ ?_
        refine DM.done hsk140 (by kernel_rfl) ?_
        exact ⟨true, [(1, .slice A1_ x1.length k1_), (2, .pointer (some ⟨g10, 0, none⟩)), (35, .bool true)], ⟨rfl, rfl, rfl, trivial⟩, hm, (Ext.draw _), hS141, rfl⟩
      · skip
        rw [if_neg hg143] at hm
        refine DM.know 23 rfl (congrArg Value.bool (Bool.eq_false_iff.2 hg143)) ?_
        refine DM.load1 ttok hsk140 15 65535 (by kernel_rfl) (by kernel_rfl) (by kernel_rfl) (by kernel_rfl) rfl (by kernel_rfl) rfl rfl rfl rfl rfl ((hS13.bring 0 rfl).box) 0 rfl rfl rfl rfl ?_
        refine DM.run (fuel := 9) ttok hsk140 [16, 17] 262143 (by kernel_rfl) (by kernel_rfl) rfl ?_
        refine DM.load1 ttok hsk140 18 524287 (by kernel_rfl) (by kernel_rfl) (by kernel_rfl) (by kernel_rfl) rfl (by kernel_rfl) rfl rfl rfl rfl rfl (At.ext (hE.trans hS13.ext) g0_) 4 rfl rfl rfl rfl ?_
        refine DM.run (fuel := 7) ttok hsk140 [19] 1048575 (by kernel_rfl) (by kernel_rfl) rfl ?_
        refine DM.load1 ttok hsk140 20 2097151 (by kernel_rfl) (by kernel_rfl) (by kernel_rfl) (by kernel_rfl) rfl (by kernel_rfl) rfl rfl rfl rfl rfl ((hS13.bring 0 rfl).box) 0 rfl rfl rfl rfl ?_
        refine DM.run (fuel := 4) ttok hsk140 [21, 22] 8388607 (by kernel_rfl) (by kernel_rfl) rfl ?_
        refine DM.weak [(1, .slice A1_ x1.length k1_), (2, .pointer (some ⟨g10, 0, none⟩)), (23, .bool false), (28, .int .i64 (x0.Redexes.length : Int)), (31, .pointer (some p0_))] ⟨rfl, rfl, rfl, rfl, rfl, trivial⟩ ?_
        refine DM.load1 ttok hsk140 23 16777215 (by kernel_rfl) (by kernel_rfl) (by kernel_rfl) (by kernel_rfl) rfl (by kernel_rfl) rfl rfl rfl rfl rfl (At.ext (hE.trans hS13.ext) g0_) 0 rfl rfl rfl rfl ?_
        refine DM.run (fuel := 0) ttok hsk140 [24, 25, 26] 134217727 (by kernel_rfl) (by kernel_rfl) rfl ?_
        refine DM.weak [(1, .slice A1_ x1.length k1_), (2, .pointer (some ⟨g10, 0, none⟩)), (35, .bool (decide ((x0.Redexes.length : Int) > (x0.Cells.length : Int))))] ⟨rfl, rfl, rfl, trivial⟩ ?_
        refine DM.done hsk140 (by kernel_rfl) ?_
        exact ⟨decide ((x0.Redexes.length : Int) > (x0.Cells.length : Int)), [(1, .slice A1_ x1.length k1_), (2, .pointer (some ⟨g10, 0, none⟩)), (35, .bool (decide ((x0.Redexes.length : Int) > (x0.Cells.length : Int))))], ⟨rfl, rfl, rfl, trivial⟩, hm, (Ext.draw _), hS141, rfl⟩

theorem enters85 : Enters Try.prog 85 := ⟨_, _, Try.func85, rfl, by kernel_rfl⟩
def m_impl_ValidMemory (fuel : Nat) (x0 : D.Memory) : Option (Bool) := ((m_impl_Memory_validWith fuel x0 ([] : (List D.Word))).bind fun r14 => some r14)

set_option maxRecDepth 100000 in
theorem impl_ValidMemory_ok {W w : World} (hE : Ext W w) {c0_ : List Value} {x0 : D.Memory} (h0_ : ty80.ro W c0_ x0) {fuel : Nat} {r : Bool} (hm : m_impl_ValidMemory fuel x0 = some r) :
    Calls Try.prog 85 ⟨[.agg ⟨c0_⟩]⟩ w (Ret fun v w8 => v = .bool r ∧ St w w8 []) := by
  obtain ⟨A1, k2, A4, k5, e7, h3, h6⟩ := ty80_open h0_; subst e7
  refine Calls.into Try.func85 rfl 4 rfl rfl _ rfl ?_
  unfold m_impl_ValidMemory at hm
  have hS := St.start w
  refine WP.seq ?_
  refine WP.region ?_
  refine RW.new ttok hS rfl rfl rfl rfl (fun g10 w11 e12 hS13 => ?_)
  refine RW.run ttok 1 rfl ?_
  refine RW.nil ?_
  refine WP.seq ?_
  refine WP.region ?_
  obtain ⟨r14, hx15, hm⟩ := bind_some hm
  refine RW.call rfl rfl rfl enters147 (impl_Memory_validWith_ok (Ext.refl _) (ty80.ext (hE.trans hS13.ext) h0_) ((hS13.bring 0 rfl).box) (show ty155.ro _ [.slice none ([] : (List D.Word)).length 0] [] from slNil ty77 77 _) hx15) (fun v16 w17 hR18 => ?_)
  obtain ⟨rfl, hR19⟩ := hR18
  have hS20 := hS13.join hR19
  refine RW.run ttok 1 rfl ?_
  refine RW.nil ?_
  refine WP.ret ?_
  cases hm
  exact ⟨_, .cons (.tmp rfl) .nil, rfl, (hS20.taken 0)⟩

end Go.E
